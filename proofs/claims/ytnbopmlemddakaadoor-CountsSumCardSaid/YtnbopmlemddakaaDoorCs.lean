/-
  The walk of CountsSum: it returns true.
-/
import Derived.Test.YtnbopmlemddakaaDoorCt
import Derived.Test.YtnbopmlemddakaaDoorPs
namespace Go.Proofs.YtnbopmlemddakaaDoor
open Go.RowKit Tier
set_option maxRecDepth 100000 in
set_option maxHeartbeats 8000000 in
theorem countsSum_walk (A : Option Addr) (l : List Fnc) (cap : Nat) (a0 a1 : Int) (YA : Option Addr) (ans : List Int) (ycap : Nat) (fuel : Int) (w : World) (ht : Tab w) (hraw : RawsAt w A l) (hln : (l.length : Int) ≤ 9223372036854775807) (hin : InOk w a0 a1 YA ans ycap fuel) :
    Calls Tryd.prog 18 #[.slice A l.length cap, .agg #[.int .i64 a0, .int .i64 a1, .slice YA ans.length ycap, .int .i64 fuel]] w fun e w' => e = .returned (.bool true) ∧ Below w.heap.size w w' := by
  have HT := Lib.hid ht
  have HR := Lib.hid hraw
  have HIN := Lib.hid hin
  have hright := mkP_right l
  clear ht hraw hin
  go_enter Tryd.func18, Tryd.ntmps18
  go_wp2_with fail
  obtain ⟨wi, hwi⟩ : ∃ wi, w.alloc (.cells #[.int .i64 a0, .int .i64 a1, .slice YA ans.length ycap, .int .i64 fuel] 46) = wi := ⟨_, rfl⟩
  have HBI : Hid (Below w.heap.size w wi) := Lib.hid (hwi ▸ (Below.refl _ w).alloc (Nat.le_refl _) _)
  have HIB : Hid (wi.heap[w.heap.size]? = some (.cells #[.int .i64 a0, .int .i64 a1, .slice YA ans.length ycap, .int .i64 fuel] 46 (0, 0))) := Lib.hid (hwi ▸ heap_alloc_new w _)
  rw [hwi]
  refine (program_any A cap l _ (HT.out.keeps HBI.out) hln (HR.out.keeps HBI.out)).mono ?_
  rintro e w1 ⟨⟨A1, cap1, vs, rfl, hpv⟩, hb1⟩
  have HP := Lib.hid hpv.at
  have HBW := Lib.hid (HBI.out.trans (hb1.mono HBI.out.size))
  have HT1 := Lib.hid (HT.out.keeps HBW.out)
  have hib := (hb1.block _ (block_lt HIB.out)).trans HIB.out
  have HIB1 := Lib.hid hib
  have i0 := (cell_block hib 0).trans rfl
  have i1 := (cell_block hib 1).trans rfl
  have i2 := (cell_block hib 2).trans rfl
  have i3 := (cell_block hib 3).trans rfl
  have zi := block_lt hib
  clear hpv hb1 hwi HBI HIB hib vs
  generalize mkP l = p at *
  have hp := right_of hright
  have HG := Lib.hid (hright)
  have HRP := Lib.hid hp
  have HBG := Lib.hid (fun (W : World) (hb : Below w1.heap.size w1 W) => kbegin_any hright a0 a1 fuel ans YA ycap A1 cap1 W (HT1.out.keeps hb) (HP.out.keeps hb) ((HIN.out.row.keeps HBW.out).keeps hb) HIN.out.len HIN.out.cap HIN.out.fuel)
  have hi0 := inSt_inv hp a0 a1 ans fuel
  obtain ⟨g0, hg0, hgz, hc00⟩ := params_cell hp HP.out a0 a1
  subst hg0
  have HKF := Lib.hid (fun (W : World) => picked_any fuel 300 W HIN.out.fuel (by omega) (by omega))
  have HRN := Lib.hid (fun (W : World) (hb : Below w1.heap.size w1 W) => srun_k hright a0 a1 fuel ans YA ycap (some ⟨g0, 0, none⟩) cap1 W (HT1.out.keeps hb) (HP.out.keeps hb) ((hb.block _ (block_lt HIB1.out)).trans HIB1.out) ((HIN.out.row.keeps HBW.out).keeps hb))
  have HCT := Lib.hid (fun (W : World) (hb : Below w1.heap.size w1 W) => counts_k hright a0 a1 fuel ans YA ycap (some ⟨g0, 0, none⟩) cap1 W (HT1.out.keeps hb) (HP.out.keeps hb) ((hb.block _ (block_lt HIB1.out)).trans HIB1.out) ((HIN.out.row.keeps HBW.out).keeps hb))
  have HSU := Lib.hid (fun (i : Nat) (F : Fnc) (hF : p[i]? = some F) (W : World) (hb : Below w1.heap.size w1 W) => psure_any p (some ⟨g0, 0, none⟩) cap1 i F W (HT1.out.keeps hb) (HP.out.keeps hb) (progE_of HG.out) hF)
  have HSL : Hid (∀ (i : Nat) (F : Fnc), p[i]? = some F → (sureF F).length = F.code.length + 1) := Lib.hid (fun i F h => sureF_length (hp.ok.fn F (List.mem_of_getElem? h)).cok (hp.ok.fn F (List.mem_of_getElem? h)).p2)
  have hl1 := hp.ok.l1
  have hl4 := hp.ok.l2
  have hm2 : (inArgs p a0 a1).length ≤ 2 := by unfold inArgs; simp; omega
  have hka := List.length_take (i := 10) (l := ans)
  have hcy := HIN.out.cap
  have hly := HIN.out.len
  have pq := picked_in fuel 300 (by omega)
  obtain ⟨m, hm⟩ : ∃ m, (inArgs p a0 a1).length = m := ⟨_, rfl⟩
  obtain ⟨ka, hk⟩ : ∃ k, (ans.take 10).length = k := ⟨_, rfl⟩
  obtain ⟨q, hq⟩ : ∃ q, pickedI fuel 300 = q := ⟨_, rfl⟩
  obtain ⟨s0, hs0⟩ : ∃ s0, inSt p a0 a1 ans fuel = s0 := ⟨_, rfl⟩
  have hf0 : s0.fuel = q := by rw [← hs0, ← hq]; rfl
  have hcn := fun k => cnt_inv hp hi0 rfl _ rfl rfl k
  rw [hs0] at hcn
  rw [hf0] at hcn
  rw [hm] at hc00 HRN HCT hm2
  rw [hk] at HRN HCT hka
  rw [hq] at HRN HCT HKF pq
  rw [hs0] at HRN HCT hi0
  have hN0 : 0 < p.length := by omega
  have hm3 : (m : Int) ≤ 2 := by omega
  have hm0 : (0 : Int) ≤ m := by omega
  have hkm : min (ans.length : Int) 10 = ka := by omega
  have hk0 : (0 : Int) ≤ ka := by omega
  have hk3 : (ka : Int) ≤ ycap := by omega
  obtain ⟨s1, hs1⟩ : ∃ s1, walkSt p 10001 s0 = s1 := ⟨_, rfl⟩
  have HI0 := Lib.hid hi0
  have HIR : Hid (StInv p s1) := Lib.hid (hs1 ▸ hi0.walk hp 10001)
  have HE := Lib.hid (fun (k : Nat) (hk : k ≤ 10001) (h : (walkSt p k s0).status ≠ 0) => (walk_end_eq hk h).symm.trans hs1)
  have HCN := Lib.hid hcn
  have HST1 : Hid (s1.status ≠ 0) := Lib.hid (hs1 ▸ walk_ends hp 10001 hi0 (by omega))
  have HFN : Hid (∀ (i : Nat) (F : Fnc), p[i]? = some F → FnOk F p.length) := Lib.hid (fun i F h => hp.ok.fn F (List.mem_of_getElem? h))
  rw [hs1] at HRN
  clear hs1 hs0 hi0 hp hf0 hm hk hq hl1 hka hcy hly hcn HBG
  clear hright
  have hz := zero_st
  go_wp2_with fail
  refine (HKF.out _).mono ?_
  rintro e w' ⟨rfl, rfl⟩
  go_wp2_with fail
  have hb2 := (Below.refl w1.heap.size w1).alloc (Nat.le_refl _) (.cells #[(.slice (some ⟨g0, 0, none⟩) p.length cap1)] 25)
  have hx2 : Sx w1 w1.heap.size (.slice (some ⟨g0, 0, none⟩) p.length cap1) (w1.alloc (.cells #[(.slice (some ⟨g0, 0, none⟩) p.length cap1)] 25)) [] := Sx.mk hb2 (heap_alloc_new w1 _) (fun x hx => by simp at hx)
  have HX2 := Lib.hid hx2
  clear hb2 hx2
  refine (HCT.out _ HX2.out.below).mono ?_
  rintro e w4 ⟨⟨og, bs, kk, rfl, hkk, hks, hout⟩, hb4⟩
  have hcn := HCN.out kk
  rw [HE.out kk hkk hks] at hcn
  obtain ⟨cs, hcs⟩ : ∃ cs, cntK p s0 kk = cs := ⟨_, rfl⟩
  rw [hcs] at hout hcn
  have HCI := Lib.hid hcn
  have HO4 := Lib.hid hout
  have HX4 := Lib.hid (HX2.out.keeps hb4)
  have pc4 := HX4.out.pcell
  have zp := block_lt HX4.out.pblk
  have HCL := Lib.hid hcn.len
  clear hcn hout hb4 hkk hks hcs HX2 HCT HCN HE i0 i1 i2 i3 zi hc00
  go_wp2_with fail
  refine (HRN.out _ HX4.out.below).mono ?_
  rintro e w5 ⟨⟨CR, rfl, hCR⟩, hb5⟩
  have HX5 := Lib.hid (HX4.out.keeps hb5)
  have HCR := Lib.hid (hCR.base HX4.out.below.size)
  have HJR := Lib.hid (info_st (HCR.out.len HIR.out.mem))
  have HO5 := Lib.hid (HO4.out.keeps hb5)
  have pc5 := HX5.out.pcell
  clear hCR hb5 pc4 zp
  obtain ⟨FA, fa, EA, ea, AA, aa, hA⟩ := HCR.out.cin HIR.out.mem (fun f hf => (HIR.out.fr f hf).regs)
  have c19 := Lib.hid hA.c19
  clear hA
  have HFU := Lib.hid HIR.out.fuel0
  go_wp2_with (refine wpList_store_mid (by rfl) 50 _ _ (by rfl) w5.heap.size 0 CR.toArray (by rfl) (by rfl) (there_new w5 zeroV _ (by simp [HCR.out.len HIR.out.mem, zeroV_length])) (by simpa using HJR.out) HCR.out.one ?_; obtain ⟨w6, hw6⟩ : ∃ w6, (w5.alloc (.cells zeroV.toArray 50)).setCells w5.heap.size 0 CR.toArray.toList = w6 := ⟨_, rfl⟩; rw [hw6]; have HX6 : Hid (Sx w1 w1.heap.size (.slice (some ⟨g0, 0, none⟩) p.length cap1) w6 [(w5.heap.size, CR, s1)]) := Lib.hid (hw6 ▸ HX5.out.add HCR.out HIR.out.mem); have pc6 := HX6.out.pcell; have HBN : Hid (Below w5.heap.size w5 w6) := Lib.hid (hw6 ▸ below_setCells (Nat.le_refl _) _ _ _ ((Below.refl _ _).alloc (Nat.le_refl _) _)); clear hw6; have zp := block_lt HX6.out.pblk)
  have HO6 := Lib.hid (HO5.out.keeps HBN.out)
  have z6 := HX6.out.lt (.head _)
  obtain ⟨fu, hfu⟩ : ∃ x, s1.fuel = x := ⟨_, rfl⟩
  have HSUM := Lib.hid HCI.out.sum
  rw [hfu] at c19 HSUM HFU
  have d19 := (HX6.out.cell (.head _) 19).trans c19.out
  have D19 := Lib.hid d19
  have hfu0 := HFU.out
  have hqf : 0 ≤ q - fu := by rw [← HSUM.out]; exact sum_pos (fun y hy => by obtain ⟨c', hc', rfl⟩ := List.mem_map.1 hy; exact sum_pos (HCI.out.pos c' hc'))
  clear d19 pc6 pc5 hfu
  go_loopw [13, 14] (fun vs v wr => ∃ i : Nat, i ≤ p.length ∧ v = .int .i64 (i : Int) ∧ vs = .int .i64 (sumC (cs.take i)) ∧ Below w6.heap.size w6 wr) (fun _ v _ => p.length - (intOf v).toNat)
  case atStart => exact ⟨0, by omega, rfl, rfl, Below.refl _ _⟩
  case round =>
    obtain ⟨i, hi, rfl, rfl, hbr⟩ := hrel
    have HBR := Lib.hid hbr
    have HXr := Lib.hid (HX6.out.keeps hbr)
    have pcr := HXr.out.pcell
    have zpr := block_lt HXr.out.pblk
    have zr := HXr.out.lt (.head _)
    have HOr := Lib.hid (HO6.out.keeps hbr)
    by_cases hin : i = p.length
    · have e19 := (hbr.cell (p := ⟨w5.heap.size, 19, none⟩) z6).trans D19.out
      have hsum : sumC (cs.take i) = q - fu := by rw [hin, List.take_of_length_le (by rw [HCL.out]; omega)]; exact HSUM.out
      rw [hsum]
      have hwq : IntKind.i64.wrap (q - fu) = q - fu := by rw [IntKind.wrap_i64]; omega
      subst hin
      clear hsum hbr
      go_wp2_with fail
      go_ret
      exact ⟨rfl, HBW.out.trans (HXr.out.below.mono HBW.out.size)⟩
    · have hi1 : i < p.length := by omega
      have hi2 : (i : Int) < p.length := by omega
      have hi3 : (0 : Int) ≤ i := by omega
      have hiw : IntKind.i64.wrap ((i : Int) + 1) = i + 1 := by rw [IntKind.wrap_i64]; omega
      obtain ⟨F, hF⟩ : ∃ F, p[i]? = some F := ⟨p[i], List.getElem?_eq_getElem hi1⟩
      obtain ⟨c, hc⟩ : ∃ c, cs[i]? = some c := ⟨cs[i]'(by rw [HCL.out]; exact hi1), List.getElem?_eq_getElem _⟩
      have hcl := HCI.out.lens i F c hF hc
      have HFi := Lib.hid hF
      have HCi := Lib.hid hc
      have HSU1 := Lib.hid (HSU.out i F hF)
      have hM40 := (HFN.out i F hF).c2
      have HSLi := Lib.hid (HSL.out i F hF)
      have hst := sumC_take hc
      have HPOS := Lib.hid (fun x hx => HCI.out.pos c (List.mem_of_getElem? hc) x hx)
      have hbnd0 := take_sum_le (l := cs.map List.sum) (fun y hy => by obtain ⟨c', hc', rfl⟩ := List.mem_map.1 hy; exact sum_pos (HCI.out.pos c' hc')) i
      have hbnd1 := take_sum_le (l := cs.map List.sum) (fun y hy => by obtain ⟨c', hc', rfl⟩ := List.mem_map.1 hy; exact sum_pos (HCI.out.pos c' hc')) (i + 1)
      have hsm := HSUM.out
      have hb0 : 0 ≤ sumC (cs.take i) ∧ sumC (cs.take (i + 1)) ≤ q - fu := by
        rw [← hsm]; unfold sumC; rw [List.map_take, List.map_take]; exact ⟨hbnd0.1, hbnd1.2⟩
      have HST := Lib.hid hst
      obtain ⟨sm, hsmm⟩ : ∃ x, sumC (cs.take i) = x := ⟨_, rfl⟩
      rw [hst, hsmm] at hb0
      rw [hsmm] at HST
      rw [hsmm]
      obtain ⟨M, hM⟩ : ∃ M, F.code.length = M := ⟨_, rfl⟩
      rw [hM] at HSU1 hM40 HSLi hcl
      have hkey : ∀ (k : Nat) (x : Int), (sureF F)[k]? = some none → c[k]? = some x → x = 0 := fun k x h1 h2 => HCI.out.sure i F c k x hF hc h1 h2
      have HKEY := Lib.hid hkey
      have HCLi := Lib.hid hcl
      obtain ⟨SF, hSF⟩ : ∃ x, sureF F = x := ⟨_, rfl⟩
      rw [hSF] at HSU1 HKEY HSLi
      clear hF hc hkey hbnd0 hbnd1 hsm hsmm hst hM hSF hbr hin
      go_wp2_with fail
      refine (HSU1.out _ HXr.out.below).mono ?_
      rintro e w7 ⟨⟨sb, rfl, hsb, hIB⟩, hb7⟩
      have HX7 := Lib.hid (HXr.out.keeps hb7)
      have HO7 := Lib.hid (HOr.out.keeps hb7)
      have HB7 := Lib.hid (HBR.out.trans (hb7.mono HBR.out.size))
      have HIB := Lib.hid hIB
      obtain ⟨b, hbb, e1, zg, zb, hib⟩ := HO7.out.of HCi.out
      have HIC := Lib.hid hib
      have HGC := Lib.hid (fun (W : World) (hb : Below w7.heap.size w7 W) => (hb.cell (p := ⟨og, i, none⟩) zg).trans e1)
      rw [hcl] at e1
      have zs := hIB.lt
      clear hb7 hIB hib hsb hbb
      go_wp2_with fail
      obtain ⟨wo, hwo⟩ : ∃ wo : World, wo = wr := ⟨_, rfl⟩
      subst hwo
      go_loopw [13, 17] (fun vs v wi => ∃ k : Nat, k ≤ M ∧ v = .int .i64 (k : Int) ∧ vs = .int .i64 (sm + (c.take k).sum) ∧ Below w7.heap.size w7 wi) (fun _ v _ => M - (intOf v).toNat)
      case atStart => exact ⟨0, by omega, rfl, by simp, Below.refl _ _⟩
      case round =>
        obtain ⟨k, hk, rfl, rfl, hbi⟩ := hrel
        have HBI := Lib.hid hbi
        have zi := hbi.size
        by_cases hkM : k = M
        · have hfin : sm + (c.take k).sum = sumC (cs.take (i + 1)) := by rw [hkM, List.take_of_length_le (by rw [HCLi.out]; omega)]; exact HST.out.symm
          rw [hfin]
          subst hkM
          have HFIN := Lib.hid (HB7.out.trans (HBI.out.mono HB7.out.size))
          clear hbi hfin
          go_wp2_with fail
          go_roundw
          case rel => exact ⟨i + 1, by omega, by go_num, rfl, HFIN.out⟩
          case measure => simp [intOf]; omega
        · have hk1 : (k : Int) < M := by omega
          have hk2 : (0 : Int) ≤ k := by omega
          have hkw : IntKind.i64.wrap ((k : Int) + 1) = k + 1 := by rw [IntKind.wrap_i64]; omega
          obtain ⟨x, hx⟩ : ∃ x, c[k]? = some x := ⟨c[k]'(by rw [HCLi.out]; omega), List.getElem?_eq_getElem _⟩
          obtain ⟨o, ho⟩ : ∃ o, SF[k]? = some o := ⟨SF[k]'(by rw [HSLi.out]; omega), List.getElem?_eq_getElem _⟩
          have HXX := Lib.hid hx
          have hx0 := HPOS.out x (List.mem_of_getElem? hx)
          have hts := take_sum hx
          have htl := take_sum_le HPOS.out k
          have htl1 := take_sum_le HPOS.out (k + 1)
          have co := (hbi.cell (p := ⟨sb, k, none⟩) zs).trans (HIB.out.cell (outL_get ho))
          have cx := (hbi.cell (p := ⟨b, k, none⟩) zb).trans (HIC.out.cell hx)
          have cg := HGC.out wr hbi
          rw [HCLi.out] at cg
          have zgi : og < wr.heap.size := by omega
          have zbi : b < wr.heap.size := by omega
          have zsi : sb < wr.heap.size := by omega
          obtain ⟨ts, hts'⟩ : ∃ t, (c.take k).sum = t := ⟨_, rfl⟩
          rw [hts'] at hts htl
          rw [hts']
          have hws : IntKind.i64.wrap (sm + ts + x) = sm + (c.take (k + 1)).sum := by rw [IntKind.wrap_i64]; omega
          have HWS := Lib.hid hws
          have hxn : decide (x < 0) = false := by simp; omega
          have HK2 := Lib.hid (HKEY.out k x)
          clear htl htl1 hts' hbi hx hts hkM hws
          obtain ⟨t2, ht2⟩ : ∃ t, IntKind.i64.wrap (sm + ts + x) = t := ⟨_, rfl⟩
          have HT2 := Lib.hid (ht2.symm.trans HWS.out)
          cases o with
          | none =>
            have hx00 := HK2.out ho HXX.out
            have hxz : (x != 0) = false := by rw [hx00]; rfl
            clear hx00
            simp only [oI] at co
            go_wp2_with fail
            go_roundw
            case rel => exact ⟨k + 1, by omega, by go_num, by rw [← HT2.out], HBI.out⟩
            case measure => simp [intOf]; omega
          | some mm =>
            simp only [oI] at co
            have hmm : decide ((mm : Int) < 0) = false := by simp
            go_wp2_with fail
            go_roundw
            case rel => exact ⟨k + 1, by omega, by go_num, by rw [← HT2.out], HBI.out⟩
            case measure => simp [intOf]; omega
end Go.Proofs.YtnbopmlemddakaaDoor
