/-
  The contract of profile.Hot; the walk of HotMost: it returns true.
-/
import Derived.Test.YtnbopmlemddakaaDoorCt
import Derived.Test.YtnbopmlemddakaaDoorCtQ
namespace Go.Proofs.YtnbopmlemddakaaDoor
open Go.RowKit Tier
set_option maxRecDepth 100000 in
set_option maxHeartbeats 8000000 in
theorem hot_k {p : List Fnc} (hc : checkP p = 0) (a0 a1 fuel : Int) (ans : List Int) (YA : Option Addr) (ycap : Nat) (A : Option Addr) (cap : Nat) (w : World) (ht : Tab w) (hP : ProgAt w (.slice A p.length cap) p) {ib : Nat} {V : Value} {fu : Int}
    (hib : w.heap[ib]? = some (.cells #[.int .i64 a0, .int .i64 a1, V, .int .i64 fu] 46 (0, 0))) (hy : IntsAt w YA ans) :
    Calls Tryd.prog 38 #[.agg #[.slice A p.length cap], .slice (some ⟨ib, 0, none⟩) (inArgs p a0 a1).length 2, .slice YA (ans.take 10).length ycap, .int .i64 (pickedI fuel 300)] w fun e w' => (∃ (b : Nat) (m : Int), e = .returned (.tuple #[.int .i64 (b : Int), .int .i64 m, .int .i64 0]) ∧ HotInv (cntK p (inSt p a0 a1 ans fuel) 10001) p.length b m) ∧ Below w.heap.size w w' := by
  have hp := right_of hc
  have hl1 := hp.ok.l1
  have hl4 := hp.ok.l2
  have pq := picked_in fuel 300 (by omega)
  have hi0 := inSt_inv hp a0 a1 ans fuel
  have HCN := Lib.hid (fun k => cnt_inv hp hi0 rfl _ rfl rfl k)
  have hf0 : (inSt p a0 a1 ans fuel).fuel = pickedI fuel 300 := rfl
  rw [hf0] at HCN
  have HFU := Lib.hid (fun k => (hi0.walk hp k).fuel0)
  have HFN := Lib.hid (fun (F : Fnc) (h : F ∈ p) => hp.ok.fn F h)
  have HCT := Lib.hid (fun (W : World) (hb : Below w.heap.size w W) => counts_k hc a0 a1 fuel ans YA ycap A cap W (ht.keeps hb) (hP.keeps hb) ((hb.block _ (block_lt hib)).trans hib) (hy.keeps hb))
  obtain ⟨m, hm⟩ : ∃ m, (inArgs p a0 a1).length = m := ⟨_, rfl⟩
  obtain ⟨ka, hk⟩ : ∃ k, (ans.take 10).length = k := ⟨_, rfl⟩
  obtain ⟨q, hq⟩ : ∃ q, pickedI fuel 300 = q := ⟨_, rfl⟩
  obtain ⟨s0, hs0⟩ : ∃ s0, inSt p a0 a1 ans fuel = s0 := ⟨_, rfl⟩
  rw [hs0] at HCN HCT HFU ⊢
  obtain ⟨c1, hc1⟩ : ∃ c, cntK p s0 10001 = c := ⟨_, rfl⟩
  rw [hc1]
  rw [hq] at HCN HCT pq ⊢
  rw [hm, hk] at HCT ⊢
  clear hp ht hP hib hy hm hk hq hs0 hi0 hf0
  go_enter Tryd.func38, Tryd.ntmps38
  go_wp2_with fail
  refine (HCT.out _ ((Below.refl _ w).alloc (Nat.le_refl _) _)).mono ?_
  rintro e w4 ⟨⟨og, bs, kk, rfl, hkk, hks, hout⟩, hb4⟩
  have hcn := HCN.out kk
  have hfu := HFU.out kk
  obtain ⟨d, hd⟩ := Nat.exists_eq_add_of_le hkk
  have hce := cnt_end hks d
  rw [← hd] at hce
  obtain ⟨cs, hcs⟩ : ∃ cs, cntK p s0 kk = cs := ⟨_, rfl⟩
  rw [hcs] at hout hcn
  have hcc : cs = c1 := (hce.trans hcs).symm.trans hc1
  subst hcc
  have HCI := Lib.hid hcn
  have HO4 := Lib.hid hout
  have HB4 := Lib.hid (((Below.refl _ w).alloc (Nat.le_refl _) _).trans (hb4.mono (by simp)) : Below w.heap.size w w4)
  have HCL := Lib.hid hcn.len
  obtain ⟨fk, hfk⟩ : ∃ f, (walkSt p kk s0).fuel = f := ⟨_, rfl⟩
  have HSM := Lib.hid (hcn.sum)
  rw [hfk] at HSM hfu
  have HPS := Lib.hid (fun (y : Int) (hy : y ∈ cs.map List.sum) => (by obtain ⟨c', hc', rfl⟩ := List.mem_map.1 hy; exact sum_pos (hcn.pos c' hc') : 0 ≤ y))
  have HPC := Lib.hid hcn.pos
  have hqf : 0 ≤ q - fk := by rw [← HSM.out]; exact sum_pos HPS.out
  clear hcn hout hb4 hkk hks hcs hce hd hc1 HCT HCN HFU hfk
  go_wp2_with fail
  go_loopw [13, 14, 33] (fun vb vm v wr => ∃ (i b : Nat) (mst : Int), i ≤ p.length ∧ v = .int .i64 (i : Int) ∧ vb = .int .i64 (b : Int) ∧ vm = .int .i64 mst ∧ HotInv cs i b mst ∧ Below w4.heap.size w4 wr) (fun _ _ v _ => p.length - (intOf v).toNat)
  case atStart => exact ⟨0, 0, -1, by omega, rfl, rfl, rfl, .inl ⟨rfl, rfl, rfl⟩, Below.refl _ _⟩
  case round =>
    obtain ⟨i, b, mst, hi, rfl, rfl, rfl, hinv, hbr⟩ := hrel
    have HINV := Lib.hid hinv
    have HBR := Lib.hid hbr
    have HOr := Lib.hid (HO4.out.keeps hbr)
    clear hinv
    by_cases hin : i = p.length
    · subst hin
      clear hbr
      go_wp2_with fail
      refine bodyPost_ret (v := .tuple #[.int .i64 (b : Int), .int .i64 mst, .int .i64 0]) (by simp [results, Tryd.results38, go_sem]) rfl ⟨⟨b, mst, rfl, HINV.out⟩, HB4.out.trans (HBR.out.mono HB4.out.size)⟩
    · have hi1 : i < p.length := by omega
      have hi2 : (i : Int) < p.length := by omega
      have hi3 : (0 : Int) ≤ i := by omega
      have hiw : IntKind.i64.wrap ((i : Int) + 1) = i + 1 := by rw [IntKind.wrap_i64]; omega
      obtain ⟨c, hc⟩ : ∃ c, cs[i]? = some c := ⟨cs[i]'(by rw [HCL.out]; exact hi1), List.getElem?_eq_getElem _⟩
      have hcD : cs.getD i [] = c := by rw [List.getD_eq_getElem?_getD, hc]; rfl
      have HPOS := Lib.hid (fun x hx => HPC.out c (List.mem_of_getElem? hc) x hx)
      have hcs := mem_le_sum HPS.out c.sum (List.mem_map.2 ⟨c, List.mem_of_getElem? hc, rfl⟩)
      have hsm : (cs.map List.sum).sum = q - fk := HSM.out
      rw [hsm] at hcs
      have hc0 := sum_pos HPOS.out
      obtain ⟨bb, hbb, e1, zg, zb, hib⟩ := HOr.out.of hc
      have HIC := Lib.hid hib
      obtain ⟨M, hM⟩ : ∃ M, c.length = M := ⟨_, rfl⟩
      have HML := Lib.hid hM
      have HM6 : Hid (M ≤ 40) := Lib.hid (by rw [← hM, HCI.out.lens i p[i] c (List.getElem?_eq_getElem hi1) hc]; exact (HFN.out p[i] (List.getElem_mem hi1)).c2)
      rw [hM] at e1
      have hml : True := trivial
      have HGC := Lib.hid hcD
      clear hc hbb hib hbr hin hM hsm hml hcD
      go_wp2_with fail
      obtain ⟨wo, hwo⟩ : ∃ wo : World, wo = wr := ⟨_, rfl⟩
      subst hwo
      go_loopw [17, 40] (fun vs v wr => ∃ k : Nat, k ≤ M ∧ v = .int .i64 (k : Int) ∧ vs = .int .i64 (c.take k).sum ∧ Below wo.heap.size wo wr) (fun _ v _ => M - (intOf v).toNat)
      case atStart => exact ⟨0, by omega, rfl, rfl, Below.refl _ _⟩
      case round =>
        obtain ⟨k, hk, rfl, rfl, hbi⟩ := hrel
        have HBI := Lib.hid hbi
        have zi := hbi.size
        by_cases hkM : k = M
        · have hfin : (c.take k).sum = c.sum := by rw [hkM, List.take_of_length_le (by rw [HML.out]; omega)]
          rw [hfin]
          obtain ⟨cm, hcm⟩ : ∃ x, c.sum = x := ⟨_, rfl⟩
          rw [hcm] at hcs hc0 ⊢
          have HFIN := Lib.hid (HBR.out.trans (HBI.out.mono HBR.out.size))
          have HCM : Hid (cs.getD i [] = c ∧ c.sum = cm) := Lib.hid ⟨HGC.out, hcm⟩
          subst hkM
          clear hbi hfin hcm
          by_cases hgt : mst < cm
          · have hgb : decide (mst < cm) = true := by simpa using hgt
            have HN := Lib.hid (HINV.out.more (by rw [HCM.out.1, HCM.out.2]; exact hgt))
            rw [HCM.out.1, HCM.out.2] at HN
            clear hgt
            go_wp2_with fail
            go_roundw
            case rel => exact ⟨i + 1, i, cm, by omega, by go_num, rfl, rfl, HN.out, HFIN.out⟩
            case measure => simp [intOf]; omega
          · have hgb : decide (mst < cm) = false := by simpa using hgt
            have HN := Lib.hid (HINV.out.less (by rw [HCM.out.1, HCM.out.2]; exact hgt) (by rw [HCM.out.1, HCM.out.2]; exact hc0))
            clear hgt
            go_wp2_with fail
            go_roundw
            case rel => exact ⟨i + 1, b, mst, by omega, by go_num, rfl, rfl, HN.out, HFIN.out⟩
            case measure => simp [intOf]; omega
        · have hk1 : (k : Int) < M := by omega
          have hk2 : (0 : Int) ≤ k := by omega
          obtain ⟨x, hx⟩ : ∃ x, c[k]? = some x := ⟨c[k]'(by rw [HML.out]; omega), List.getElem?_eq_getElem _⟩
          have hx0 := HPOS.out x (List.mem_of_getElem? hx)
          have hts := take_sum hx
          have htl := take_sum_le HPOS.out k
          have htl1 := take_sum_le HPOS.out (k + 1)
          have cx := (hbi.cell (p := ⟨bb, k, none⟩) zb).trans (HIC.out.cell hx)
          have zbi : bb < wr.heap.size := by omega
          have hM63 : (M : Int) ≤ 1000000 := by have := HM6.out; omega
          have hkw : IntKind.i64.wrap ((k : Int) + 1) = k + 1 := by rw [IntKind.wrap_i64]; omega
          obtain ⟨ts, hts'⟩ : ∃ t, (c.take k).sum = t := ⟨_, rfl⟩
          rw [hts'] at hts htl
          rw [hts']
          have hws : IntKind.i64.wrap (ts + x) = (c.take (k + 1)).sum := by rw [IntKind.wrap_i64]; omega
          have HWS := Lib.hid hws
          clear htl htl1 hts' hbi hx hts hkM hws
          obtain ⟨t2, ht2⟩ : ∃ t, IntKind.i64.wrap (ts + x) = t := ⟨_, rfl⟩
          have HT2 := Lib.hid (ht2.symm.trans HWS.out)
          go_wp2_with fail
          go_roundw
          case rel => exact ⟨k + 1, by omega, by go_num, by rw [← HT2.out], HBI.out⟩
          case measure => simp [intOf]; omega
set_option maxRecDepth 100000 in
set_option maxHeartbeats 8000000 in
theorem hotMost_walk (A : Option Addr) (l : List Fnc) (cap : Nat) (a0 a1 : Int) (YA : Option Addr) (ans : List Int) (ycap : Nat) (fuel : Int) (w : World) (ht : Tab w) (hraw : RawsAt w A l) (hln : (l.length : Int) ≤ 9223372036854775807) (hin : InOk w a0 a1 YA ans ycap fuel) :
    Calls Tryd.prog 17 #[.slice A l.length cap, .agg #[.int .i64 a0, .int .i64 a1, .slice YA ans.length ycap, .int .i64 fuel]] w fun e w' => e = .returned (.bool true) ∧ Below w.heap.size w w' := by
  have HT := Lib.hid ht
  have HR := Lib.hid hraw
  have HIN := Lib.hid hin
  have hright := mkP_right l
  clear ht hraw hin
  go_enter Tryd.func17, Tryd.ntmps17
  go_wp2_with fail
  obtain ⟨wi, hwi⟩ : ∃ wi, w.alloc (.cells #[.int .i64 a0, .int .i64 a1, .slice YA ans.length ycap, .int .i64 fuel] 46) = wi := ⟨_, rfl⟩
  have HBI : Hid (Below w.heap.size w wi) := Lib.hid (hwi ▸ (Below.refl _ w).alloc (Nat.le_refl _) _)
  have HIB : Hid (wi.heap[w.heap.size]? = some (.cells #[.int .i64 a0, .int .i64 a1, .slice YA ans.length ycap, .int .i64 fuel] 46 (0, 0))) := Lib.hid (hwi ▸ heap_alloc_new w _)
  rw [hwi]
  refine (program_any A cap l _ (HT.out.keeps HBI.out) hln (HR.out.keeps HBI.out)).mono ?_
  rintro e w1 ⟨⟨A1, cap1, vs, rfl, hpv⟩, hb1⟩
  have HP := Lib.hid hpv.at
  have HBW := Lib.hid (HBI.out.trans (hb1.mono HBI.out.size))
  have HT1 := Lib.hid (HT.out.keeps HBW.out)
  have hib := (hb1.block _ (block_lt HIB.out)).trans HIB.out
  have HIB1 := Lib.hid hib
  have i0 := (cell_block hib 0).trans rfl
  have i1 := (cell_block hib 1).trans rfl
  have i2 := (cell_block hib 2).trans rfl
  have i3 := (cell_block hib 3).trans rfl
  have zi := block_lt hib
  clear hpv hb1 hwi HBI HIB hib vs
  generalize mkP l = p at *
  have hp := right_of hright
  have HG := Lib.hid (hright)
  have HRP := Lib.hid hp
  have HBG := Lib.hid (fun (W : World) (hb : Below w1.heap.size w1 W) => kbegin_any hright a0 a1 fuel ans YA ycap A1 cap1 W (HT1.out.keeps hb) (HP.out.keeps hb) ((HIN.out.row.keeps HBW.out).keeps hb) HIN.out.len HIN.out.cap HIN.out.fuel)
  have hi0 := inSt_inv hp a0 a1 ans fuel
  obtain ⟨g0, hg0, hgz, hc00⟩ := params_cell hp HP.out a0 a1
  subst hg0
  have HKF := Lib.hid (fun (W : World) => picked_any fuel 300 W HIN.out.fuel (by omega) (by omega))
  have HRN := Lib.hid (fun (W : World) (hb : Below w1.heap.size w1 W) => srun_k hright a0 a1 fuel ans YA ycap (some ⟨g0, 0, none⟩) cap1 W (HT1.out.keeps hb) (HP.out.keeps hb) ((hb.block _ (block_lt HIB1.out)).trans HIB1.out) ((HIN.out.row.keeps HBW.out).keeps hb))
  have HCT := Lib.hid (fun (W : World) (hb : Below w1.heap.size w1 W) => counts_k hright a0 a1 fuel ans YA ycap (some ⟨g0, 0, none⟩) cap1 W (HT1.out.keeps hb) (HP.out.keeps hb) ((hb.block _ (block_lt HIB1.out)).trans HIB1.out) ((HIN.out.row.keeps HBW.out).keeps hb))
  have HHT := Lib.hid (fun (W : World) (hb : Below w1.heap.size w1 W) => hot_k hright a0 a1 fuel ans YA ycap (some ⟨g0, 0, none⟩) cap1 W (HT1.out.keeps hb) (HP.out.keeps hb) ((hb.block _ (block_lt HIB1.out)).trans HIB1.out) ((HIN.out.row.keeps HBW.out).keeps hb))
  have hl1 := hp.ok.l1
  have hl4 := hp.ok.l2
  have hm2 : (inArgs p a0 a1).length ≤ 2 := by unfold inArgs; simp; omega
  have hka := List.length_take (i := 10) (l := ans)
  have hcy := HIN.out.cap
  have hly := HIN.out.len
  have pq := picked_in fuel 300 (by omega)
  obtain ⟨m, hm⟩ : ∃ m, (inArgs p a0 a1).length = m := ⟨_, rfl⟩
  obtain ⟨ka, hk⟩ : ∃ k, (ans.take 10).length = k := ⟨_, rfl⟩
  obtain ⟨q, hq⟩ : ∃ q, pickedI fuel 300 = q := ⟨_, rfl⟩
  obtain ⟨s0, hs0⟩ : ∃ s0, inSt p a0 a1 ans fuel = s0 := ⟨_, rfl⟩
  have hf0 : s0.fuel = q := by rw [← hs0, ← hq]; rfl
  have hcn := fun k => cnt_inv hp hi0 rfl _ rfl rfl k
  rw [hs0] at hcn
  rw [hf0] at hcn
  rw [hm] at hc00 HRN HCT HHT hm2
  rw [hk] at HRN HCT HHT hka
  rw [hq] at HRN HCT HHT HKF pq
  rw [hs0] at HRN HCT HHT hi0
  have hN0 : 0 < p.length := by omega
  have hm3 : (m : Int) ≤ 2 := by omega
  have hm0 : (0 : Int) ≤ m := by omega
  have hkm : min (ans.length : Int) 10 = ka := by omega
  have hk0 : (0 : Int) ≤ ka := by omega
  have hk3 : (ka : Int) ≤ ycap := by omega
  obtain ⟨s1, hs1⟩ : ∃ s1, walkSt p 10001 s0 = s1 := ⟨_, rfl⟩
  have HI0 := Lib.hid hi0
  have HIR : Hid (StInv p s1) := Lib.hid (hs1 ▸ hi0.walk hp 10001)
  have HE := Lib.hid (fun (k : Nat) (hk : k ≤ 10001) (h : (walkSt p k s0).status ≠ 0) => (walk_end_eq hk h).symm.trans hs1)
  have HCN := Lib.hid hcn
  have HST1 : Hid (s1.status ≠ 0) := Lib.hid (hs1 ▸ walk_ends hp 10001 hi0 (by omega))
  have HFN : Hid (∀ (i : Nat) (F : Fnc), p[i]? = some F → FnOk F p.length) := Lib.hid (fun i F h => hp.ok.fn F (List.mem_of_getElem? h))
  rw [hs1] at HRN
  clear hs1 hs0 hi0 hp hf0 hm hk hq hl1 hka hcy hly hcn HBG
  clear hright
  have hz := zero_st
  go_wp2_with fail
  refine (HKF.out _).mono ?_
  rintro e w' ⟨rfl, rfl⟩
  go_wp2_with fail
  have hb2 := (Below.refl w1.heap.size w1).alloc (Nat.le_refl _) (.cells #[(.slice (some ⟨g0, 0, none⟩) p.length cap1)] 25)
  have hx2 : Sx w1 w1.heap.size (.slice (some ⟨g0, 0, none⟩) p.length cap1) (w1.alloc (.cells #[(.slice (some ⟨g0, 0, none⟩) p.length cap1)] 25)) [] := Sx.mk hb2 (heap_alloc_new w1 _) (fun x hx => by simp at hx)
  have HX2 := Lib.hid hx2
  clear hb2 hx2
  refine (HCT.out _ HX2.out.below).mono ?_
  rintro e w4 ⟨⟨og, bs, kk, rfl, hkk, hks, hout⟩, hb4⟩
  have hcn := HCN.out kk
  rw [HE.out kk hkk hks] at hcn
  obtain ⟨dd, hdd⟩ := Nat.exists_eq_add_of_le hkk
  have hce := cnt_end hks dd
  rw [← hdd] at hce
  obtain ⟨cs, hcs⟩ : ∃ cs, cntK p s0 kk = cs := ⟨_, rfl⟩
  rw [hce, hcs] at HHT
  rw [hcs] at hout hcn
  have HCI := Lib.hid hcn
  have HO4 := Lib.hid hout
  have HX4 := Lib.hid (HX2.out.keeps hb4)
  have pc4 := HX4.out.pcell
  have zp := block_lt HX4.out.pblk
  have HCL := Lib.hid hcn.len
  clear hdd hce hcn hout hb4 hkk hks hcs HX2 HCT HCN HE i0 i1 i2 i3 zi hc00
  go_wp2_with fail
  refine (HHT.out _ HX4.out.below).mono ?_
  rintro e w5 ⟨⟨bst, mst, rfl, hinv⟩, hb5⟩
  have HX5 := Lib.hid (HX4.out.keeps hb5)
  have HO5 := Lib.hid (HO4.out.keeps hb5)
  have pc5 := HX5.out.pcell
  have zp5 := block_lt HX5.out.pblk
  have hinv2 : bst < p.length ∧ (cs.getD bst []).sum = mst ∧ ∀ j, j < p.length → (cs.getD j []).sum ≤ mst ∧ (j < bst → (cs.getD j []).sum < mst) := by
    rcases hinv with ⟨h, -, -⟩ | h
    · omega
    · exact h
  have HINV := Lib.hid hinv2
  have hbst := hinv2.1
  have hb1 : (bst : Int) < p.length := by omega
  have hb0 : (0 : Int) ≤ bst := by omega
  have hbn : decide ((bst : Int) < 0) = false := by simp
  have hbm : decide (p.length ≤ bst) = false := by simp; omega
  have hbm2 : (p.length ≤ bst) = False := by simp; omega
  have hfu0 := HIR.out.fuel0
  have HSM := Lib.hid HCI.out.sum
  have HPS := Lib.hid (fun (y : Int) (hy : y ∈ cs.map List.sum) => (by obtain ⟨c', hc', rfl⟩ := List.mem_map.1 hy; exact sum_pos (HCI.out.pos c' hc') : 0 ≤ y))
  obtain ⟨fk, hfk⟩ : ∃ f, s1.fuel = f := ⟨_, rfl⟩
  rw [hfk] at HSM hfu0
  have hqf : 0 ≤ q - fk := by rw [← HSM.out]; exact sum_pos HPS.out
  clear pc4 zp hb5 hinv hinv2 hfk HRN
  go_wp2_with fail
  clear hbn hbm hbm2 hb0 hb1 pc5 zp5
  go_loopw [14] (fun v wr => ∃ i : Nat, i ≤ p.length ∧ v = .int .i64 (i : Int) ∧ Below w5.heap.size w5 wr) (fun v _ => p.length - (intOf v).toNat)
  case atStart => exact ⟨0, by omega, rfl, Below.refl _ _⟩
  case round =>
    obtain ⟨i, hi, rfl, hbr⟩ := hrel
    have HBR := Lib.hid hbr
    have HOr := Lib.hid (HO5.out.keeps hbr)
    by_cases hin : i = p.length
    · subst hin
      clear hbr
      go_wp2_with fail
      go_ret
      exact ⟨rfl, HBW.out.trans ((HX5.out.keeps HBR.out).below.mono HBW.out.size)⟩
    · have hi1 : i < p.length := by omega
      have hi2 : (i : Int) < p.length := by omega
      have hi3 : (0 : Int) ≤ i := by omega
      have hiw : IntKind.i64.wrap ((i : Int) + 1) = i + 1 := by rw [IntKind.wrap_i64]; omega
      obtain ⟨c, hc⟩ : ∃ c, cs[i]? = some c := ⟨cs[i]'(by rw [HCL.out]; exact hi1), List.getElem?_eq_getElem _⟩
      have hcD : cs.getD i [] = c := by rw [List.getD_eq_getElem?_getD, hc]; rfl
      have HPOS := Lib.hid (fun x hx => HCI.out.pos c (List.mem_of_getElem? hc) x hx)
      have hcs := mem_le_sum HPS.out c.sum (List.mem_map.2 ⟨c, List.mem_of_getElem? hc, rfl⟩)
      have hsm : (cs.map List.sum).sum = q - fk := HSM.out
      rw [hsm] at hcs
      have hc0 := sum_pos HPOS.out
      have hv1 := (HINV.out.2.2 i hi1)
      have hv2 := HINV.out.2.1
      rw [hcD] at hv1
      have hv3 : i = bst → c.sum = mst := fun h => by rw [← h, hcD] at hv2; exact hv2
      obtain ⟨bb, hbb, e1, zg, zb, hib⟩ := HOr.out.of hc
      have HIC := Lib.hid hib
      obtain ⟨M, hM⟩ : ∃ M, c.length = M := ⟨_, rfl⟩
      have HML := Lib.hid hM
      have HM6 : Hid (M ≤ 40) := Lib.hid (by rw [← hM, HCI.out.lens i p[i] c (List.getElem?_eq_getElem hi1) hc]; exact (HFN.out i p[i] (List.getElem?_eq_getElem hi1)).c2)
      rw [hM] at e1
      have HVV := Lib.hid (And.intro hv1 hv3)
      clear hc hbb hib hbr hin hM hsm hcD hv1 hv2 hv3
      go_wp2_with fail
      obtain ⟨wo, hwo⟩ : ∃ wo : World, wo = wr := ⟨_, rfl⟩
      subst hwo
      go_loopw [15, 16] (fun vs v wr => ∃ k : Nat, k ≤ M ∧ v = .int .i64 (k : Int) ∧ vs = .int .i64 (c.take k).sum ∧ Below wo.heap.size wo wr) (fun _ v _ => M - (intOf v).toNat)
      case atStart => exact ⟨0, by omega, rfl, rfl, Below.refl _ _⟩
      case round =>
        obtain ⟨k, hk, rfl, rfl, hbi⟩ := hrel
        have HBI := Lib.hid hbi
        have zi := hbi.size
        have e1' := (hbi.cell (p := ⟨og, i, none⟩) zg).trans e1
        have zgi : og < wr.heap.size := by omega
        by_cases hkM : k = M
        · have hfin : (c.take k).sum = c.sum := by rw [hkM, List.take_of_length_le (by rw [HML.out]; omega)]
          rw [hfin]
          obtain ⟨⟨v1, v2⟩, v3⟩ := HVV.out
          obtain ⟨cm, hcm⟩ : ∃ x, c.sum = x := ⟨_, rfl⟩
          rw [hcm] at hcs hc0 v1 v2 v3 ⊢
          have HFIN := Lib.hid (HBR.out.trans (HBI.out.mono HBR.out.size))
          have g1 : decide (mst < cm) = false := by simp; omega
          subst hkM
          clear hbi hfin hcm
          by_cases hib : i < bst
          · have g3 : (cm == mst) = false := by have := v2 hib; simp; omega
            have g4 : (i == bst) = false := by simp; omega
            have g5 : ((i : Int) == bst) = false := by simp; omega
            have g6 : (i = bst) = False := by simp; omega
            clear v1 v2 v3
            go_wp2_with fail
            go_roundw
            case rel => exact ⟨i + 1, by omega, by go_num, HFIN.out⟩
            case measure => simp [intOf]; omega
          · by_cases hie : i = bst
            · have g5 : (cm != mst) = false := by simp [v3 hie]
              have g4 : ((i : Int) == bst) = true := by simp; omega
              have g6 : (i == bst) = true := by simp; omega
              have g7 : (i = bst) = True := by simp; omega
              clear v1 v2 v3 hie
              go_wp2_with fail
              go_roundw
              case rel => exact ⟨i + 1, by omega, by go_num, HFIN.out⟩
              case measure => simp [intOf]; omega
            · have g4 : (i == bst) = false := by simp; omega
              have g5 : ((i : Int) == bst) = false := by simp; omega
              clear v1 v2 v3
              go_wp2_with fail
              go_roundw
              case rel => exact ⟨i + 1, by omega, by go_num, HFIN.out⟩
              case measure => simp [intOf]; omega
        · have hk1 : (k : Int) < M := by omega
          have hk2 : (0 : Int) ≤ k := by omega
          obtain ⟨x, hx⟩ : ∃ x, c[k]? = some x := ⟨c[k]'(by rw [HML.out]; omega), List.getElem?_eq_getElem _⟩
          have hx0 := HPOS.out x (List.mem_of_getElem? hx)
          have hts := take_sum hx
          have htl := take_sum_le HPOS.out k
          have htl1 := take_sum_le HPOS.out (k + 1)
          have cx := (hbi.cell (p := ⟨bb, k, none⟩) zb).trans (HIC.out.cell hx)
          have zbi : bb < wr.heap.size := by omega
          have hM63 := HM6.out
          have hkw : IntKind.i64.wrap ((k : Int) + 1) = k + 1 := by rw [IntKind.wrap_i64]; omega
          obtain ⟨ts, hts'⟩ : ∃ t, (c.take k).sum = t := ⟨_, rfl⟩
          rw [hts'] at hts htl
          rw [hts']
          have hws : IntKind.i64.wrap (ts + x) = (c.take (k + 1)).sum := by rw [IntKind.wrap_i64]; omega
          have HWS := Lib.hid hws
          clear htl htl1 hts' hbi hx hts hkM hws
          obtain ⟨t2, ht2⟩ : ∃ t, IntKind.i64.wrap (ts + x) = t := ⟨_, rfl⟩
          have HT2 := Lib.hid (ht2.symm.trans HWS.out)
          go_wp2_with fail
          go_roundw
          case rel => exact ⟨k + 1, by omega, by go_num, by rw [← HT2.out], HBI.out⟩
          case measure => simp [intOf]; omega
end Go.Proofs.YtnbopmlemddakaaDoor
