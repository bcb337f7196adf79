/-
  The walk of RunWays: it returns true.
-/
import Derived.Test.YtefbdecejoeamaaDoorOpI
import Derived.Test.YtefbdecejoeamaaDoorRyP
import Derived.Test.YtefbdecejoeamaaDoorBk
namespace Go.Proofs.YtefbdecejoeamaaDoor
open Go.RowKit Tier
theorem blkok_at {F : Fnc} {bs : List BR} (h : BlkOk F bs) {q : Nat} {r : BR} (hq : bs[q]? = some r) : r.fr = (hdA F q : Int) ∧ r.to = (toF F (hdA F q) : Int) := ⟨(h.at_ q r hq).1, (h.at_ q r hq).2.1⟩
theorem cell_other {w : World} {g sb i j : Nat} {v u : Value} {n : Nat} (h : w.cell? ⟨g, i, none⟩ = some v) (hne : g ≠ sb) : ((w.drewN n).setCell ⟨sb, j, none⟩ u).cell? ⟨g, i, none⟩ = some v := by
  have e : ((w.drewN n).setCell ⟨sb, j, none⟩ u).heap[g]? = w.heap[g]? := Below.heap_setCell _ _ _ _ hne
  have h2 := h
  simp only [World.cell?, e] at h2 ⊢
  exact h2
set_option maxRecDepth 100000 in
set_option maxHeartbeats 8000000 in
theorem runWays_walk (A : Option Addr) (l : List Fnc) (cap : Nat) (a0 a1 : Int) (YA : Option Addr) (ans : List Int) (ycap : Nat) (fuel : Int) (w : World) (ht : Tab w) (hraw : RawsAt w A l) (hln : (l.length : Int) ≤ 9223372036854775807) (hin : InOk w a0 a1 YA ans ycap fuel) :
    Calls Tryd.prog 18 #[.slice A l.length cap, .agg #[.int .i64 a0, .int .i64 a1, .slice YA ans.length ycap, .int .i64 fuel]] w fun e w' => e = .returned (.bool true) ∧ Below w.heap.size w w' := by
  have HT := Lib.hid ht
  have HR := Lib.hid hraw
  have HIN := Lib.hid hin
  have hright := mkP_right l
  clear ht hraw hin
  go_enter Tryd.func18, Tryd.ntmps18
  go_wp2_with fail
  obtain ⟨wi, hwi⟩ : ∃ wi, w.alloc (.cells #[.int .i64 a0, .int .i64 a1, .slice YA ans.length ycap, .int .i64 fuel] 42) = wi := ⟨_, rfl⟩
  have HBI : Hid (Below w.heap.size w wi) := Lib.hid (hwi ▸ (Below.refl _ w).alloc (Nat.le_refl _) _)
  have HIB : Hid (wi.heap[w.heap.size]? = some (.cells #[.int .i64 a0, .int .i64 a1, .slice YA ans.length ycap, .int .i64 fuel] 42 (0, 0))) := Lib.hid (hwi ▸ heap_alloc_new w _)
  rw [hwi]
  refine (program_any A cap l _ (HT.out.keeps HBI.out) hln (HR.out.keeps HBI.out)).mono ?_
  rintro e w1 ⟨⟨A1, cap1, vs, rfl, hpv⟩, hb1⟩
  have HP := Lib.hid hpv.at
  have HBW := Lib.hid (HBI.out.trans (hb1.mono HBI.out.size))
  have HT1 := Lib.hid (HT.out.keeps HBW.out)
  have hib := (hb1.block _ (block_lt HIB.out)).trans HIB.out
  have i0 := (cell_block hib 0).trans rfl
  have i1 := (cell_block hib 1).trans rfl
  have i2 := (cell_block hib 2).trans rfl
  have i3 := (cell_block hib 3).trans rfl
  have zi := block_lt hib
  clear hpv hb1 hwi HBI HIB hib vs
  generalize mkP l = p at *
  have hp := right_of hright
  have HG := Lib.hid (hright)
  have HRP := Lib.hid hp
  have HBG := Lib.hid (fun (W : World) (hb : Below w1.heap.size w1 W) => kbegin_any hright a0 a1 fuel ans YA ycap A1 cap1 W (HT1.out.keeps hb) (HP.out.keeps hb) ((HIN.out.row.keeps HBW.out).keeps hb) HIN.out.len HIN.out.cap HIN.out.fuel)
  have hi0 := inSt_inv hp a0 a1 ans fuel
  obtain ⟨s0, hs0⟩ : ∃ s0, inSt p a0 a1 ans fuel = s0 := ⟨_, rfl⟩
  have hfr0 : s0.status = 0 ∧ ∃ f, s0.frames = [f] ∧ f.fn = 0 ∧ f.pc = 0 := by rw [← hs0]; exact ⟨rfl, _, rfl, rfl, rfl⟩
  rw [hs0] at HBG hi0
  have HI0 := Lib.hid hi0
  have HFR0 := Lib.hid hfr0
  obtain ⟨F, hF⟩ : ∃ F, p[0]? = some F := ⟨_, List.getElem?_eq_getElem (by have := hp.ok.l1; omega)⟩
  have HF := Lib.hid hF
  have HFM := Lib.hid (List.mem_of_getElem? hF)
  have HNX := Lib.hid (fun (C : List Value) (s : St) (hi : StInv p s) (W : World) (hb : Below w1.heap.size w1 W) (hC : CellsSt C W w1.heap.size s) => snext_c hright (HT1.out.keeps hb) (HP.out.keeps hb) hi hC)
  have HBK := Lib.hid (fun (W : World) (hb : Below w1.heap.size w1 W) => blocks_any p A1 cap1 0 F W (HT1.out.keeps hb) (HP.out.keeps hb) hright hF)
  have HAV := Lib.hid (fun (W : World) (hb : Below w1.heap.size w1 W) => above_any p A1 cap1 0 F W (HT1.out.keeps hb) (HP.out.keeps hb) hright hF)
  rw [show ((0 : Nat) : Int) = 0 from rfl] at HBK HAV
  obtain ⟨H, hH⟩ : ∃ H, (hdL F).length = H := ⟨_, rfl⟩
  have HH := Lib.hid hH
  have hHM : H ≤ 40 := by have h0 := (hp.ok.fn F HFM.out).c2; have h1 := hdTo_len F F.code.length; have h2 : hdTo F F.code.length = hdL F := rfl; rw [h2, hH] at h1; omega
  have hH1 : 0 < H := by have := (List.getElem?_eq_some_iff.1 (zero_head hp HFM.out)).1; omega
  have hHz : ((H : Int) == 0) = false := beq_eq_false_iff_ne.2 (by omega)
  have hH0 : (0 : Int) < H := by omega
  have hmk := make_bols H hHM
  clear hs0 hi0 hp hfr0 hF hH
  clear hright
  go_wp2_with fail
  refine (HBG.out _ ((Below.refl _ w1).alloc (Nat.le_refl _) _)).mono ?_
  rintro e w2 ⟨⟨C0, rfl, hC0⟩, hb2⟩
  have HX2 : Hid (Sx w1 w1.heap.size (.slice A1 p.length cap1) w2 []) := Lib.hid ((Sx.mk ((Below.refl _ w1).alloc (Nat.le_refl _) _) (heap_alloc_new w1 _) (fun x hx => by simp at hx)).keeps hb2)
  have HC0 := Lib.hid (hC0.base (by simp : w1.heap.size ≤ _))
  have HJ0 := Lib.hid (info_st (HC0.out.len HI0.out.mem))
  have hz := zero_st
  clear hC0 hb2 HBG i0 i1 i2 i3 zi
  go_wp2_with (first | (refine wpList_store_mid (by rfl) 46 _ _ (by rfl) w2.heap.size 0 C0.toArray (by rfl) (by rfl) (there_new w2 zeroV _ (by simp [HC0.out.len HI0.out.mem, zeroV_length])) (by simpa using HJ0.out) HC0.out.one ?_; obtain ⟨w3, hw3⟩ : ∃ w3, (w2.alloc (.cells zeroV.toArray 46)).setCells w2.heap.size 0 C0.toArray.toList = w3 := ⟨_, rfl⟩; rw [hw3]; have HX3 : Hid (Sx w1 w1.heap.size (.slice A1 p.length cap1) w3 [(w2.heap.size, C0, s0)]) := Lib.hid (hw3 ▸ HX2.out.add HC0.out HI0.out.mem); have pc3 := HX3.out.pcell; clear hw3) | (go_at_call 39; go_must (refine (HBK.out _ HX3.out.below).mono ?_; rintro e w4 ⟨⟨gb, Bb, bs, rfl, hgb, hBB, hOB⟩, hb4⟩; rw [HH.out]; have HX4 := Lib.hid (HX3.out.keeps hb4); have HBB4 := Lib.hid hBB; have HOB := Lib.hid hOB; have HGB3 := Lib.hid hgb; have pc4 := HX4.out.pcell; clear hgb hBB hOB hb4 pc3)) | (go_at_call 41; go_must (refine (HAV.out _ HX4.out.below).mono ?_; rintro e w5 ⟨⟨ab, rfl, hab, hIL⟩, hb5⟩; rw [HH.out]; have HX5 := Lib.hid (HX4.out.keeps hb5); have HBB := Lib.hid (HBB4.out.keeps hb5); have HIL := Lib.hid hIL; have HAB := Lib.hid (show w4.heap.size ≤ ab from hab); have ca5 := hIL.cell (show (abvL F)[0]? = some (-1) from abvL_get (by rw [HH.out]; exact hH1)); have za5 := hIL.lt; clear hab hIL hb5 pc4)))
  obtain ⟨b0, hb0⟩ : ∃ b, w2.heap.size = b := ⟨_, rfl⟩
  have HBZ0 := Lib.hid (show w1.heap.size ≤ b0 by rw [← hb0]; exact HX2.out.below.size)
  have HLT := Lib.hid (show w2.heap.size < w3.heap.size from HX3.out.lt (.head _))
  have HX4' := Lib.hid (HX4.out.lt (.head _))
  rw [hb0] at HX5 HLT HX4' ⊢
  have HGN := Lib.hid (show gb ≠ b0 ∧ ab ≠ b0 ∧ b0 < Bb ∧ b0 < w5.heap.size from ⟨by have := HLT.out; have := HGB3.out; omega, by have := HX4'.out; have := HAB.out; omega, by have := HLT.out; have := HGB3.out; have := HBB.out.lt; omega, HX5.out.lt (.head _)⟩)
  have HW15 := Lib.hid HX5.out.below.size
  have HBZ := Lib.hid (show w1.heap.size ≤ b0 from HBZ0.out)
  have HGBL := Lib.hid (block_lt HBB.out.blk)
  have HABL := Lib.hid HIL.out.lt
  obtain ⟨sb, hsb⟩ : ∃ b, w5.heap.size = b := ⟨_, rfl⟩
  have HSB := Lib.hid hsb
  have HM0 := Lib.hid (RwM.start (H := H) HX5.out)
  rw [hsb] at HM0 ⊢
  clear hb0 hsb ca5 za5 hmk HX3 HX4
  have HI00 := Lib.hid (show RwI F s0 (-1) (List.replicate H false) from ⟨by simp [HH.out], by obtain ⟨-, f, h1, h2, h3⟩ := HFR0.out; exact ⟨f, [], h1, h2, .inl ⟨rfl, rfl, h3⟩⟩⟩)
  go_loopw [13, 14] (fun va vi wr => ∃ (i : Nat) (C : List Value) (s : St) (at_ : Int) (seen : List Bool), i ≤ 300 ∧ vi = .int .i64 (i : Int) ∧ va = .int .i64 at_ ∧ StInv p s ∧ (s.status = 0 → RwI F s at_ seen) ∧ seen.length = H ∧ RwM w1 w5 wr (.slice A1 p.length cap1) b0 sb C s seen) (fun _ vi _ => 300 - (intOf vi).toNat)
  case atStart => exact ⟨0, C0, s0, -1, _, by omega, rfl, rfl, HI0.out, fun _ => HI00.out, by simp, HM0.out⟩
  case round =>
    obtain ⟨i, C, s, at_, seen, hi, rfl, rfl, his, hrw, hsl, hm⟩ := hrel
    clear HM0 HI00
    have HM := Lib.hid hm
    have HIS := Lib.hid his
    have HRW := Lib.hid hrw
    have HSL := Lib.hid hsl
    obtain ⟨wo, hwo⟩ : ∃ wo : World, wo = wr := ⟨_, rfl⟩
    subst hwo
    have zb0 := hm.sx.lt (.head _)
    obtain ⟨FA, fcap, EA, ea, AA, aa, hci⟩ := hm.sx.cin (.head _) his
    have cb0 := (hm.sx.cell (.head _) 0).trans hci.c0
    have cb2 := (hm.sx.cell (.head _) 2).trans hci.c2
    have HCF := Lib.hid hci.c2
    have HFRM := Lib.hid hci.fr
    have HCL := Lib.hid hci.len
    clear hm hrw hsl hci
    by_cases hi300 : i = 300
    · subst hi300
      clear cb0 cb2 his zb0
      go_wp2_with fail
      go_ret
      exact ⟨rfl, HBW.out.trans (HM.out.sx.below.mono HBW.out.size)⟩
    · have i1 : (i : Int) < 300 := by omega
      have i2 : (0 : Int) ≤ i := by omega
      by_cases hst : s.status = 0
      · rw [hst] at cb0
        have HST := Lib.hid hst
        have hri := HRW.out hst
        obtain ⟨nf, hnf⟩ : ∃ n, s.frames.length = n := ⟨_, rfl⟩
        have hdp := his.deep
        rw [hnf] at cb2 hdp
        by_cases hn1 : nf = 1
        · subst hn1
          obtain ⟨f, nb, hf1, hfn, hpr⟩ := hri.proc HRP.out HFM.out hnf
          obtain ⟨gf, hgf, hgfl, hgfc⟩ := HFRM.out (by rw [hnf]; omega)
          subst hgf
          have hfo := his.fr f (by rw [hf1]; simp)
          obtain ⟨q, hq⟩ : ∃ q : Nat, f.pc = q := ⟨f.pc.toNat, by have := hfo.pc0; omega⟩
          have hqn : f.pc.toNat = q := by omega
          rw [hqn] at hpr
          have HPR := Lib.hid hpr
          have HDONE := Lib.hid (show RwJ F s nb (seenN F seen q nb) by have := (show Proc F at_ seen f.pc.toNat nb by rw [hqn]; exact hpr).done (by rw [HSL.out, HH.out]) hf1 hfn; rw [hqn] at this; exact this)
          have HGQ := Lib.hid (show wo.cell? ⟨gf, 1, none⟩ = some (.int .i64 (q : Int)) by rw [← hq]; exact hgfc 0 f 1 (by rw [hf1]; rfl) (by omega))
          have HGF := Lib.hid hgfl
          have HCF1 := Lib.hid (show C[2]? = some (.slice (some ⟨gf, 0, none⟩) 1 fcap) by have h := HCF.out; rw [hnf] at h; exact h)
          have hnbH : nb < H := by have := hpr.lt; rw [HH.out] at this; exact this
          clear hri hnf hf1 hfn hpr hgfl hgfc hfo hq hqn his hst hdp hi300
          have HSB1 := Lib.hid (fun j (h : hdA F nb = q ∧ nb < j) => (if_pos h : (if hdA F nb = q ∧ nb < j then seen.set nb true else seen) = _))
          go_wp2_with fail
          clear cb0 cb2 zb0
          go_loopw [15] (fun v wr => ∃ j : Nat, j ≤ H ∧ v = .int .i64 (j : Int) ∧ RwM w1 w5 wr (.slice A1 p.length cap1) b0 sb C s (if hdA F nb = q ∧ nb < j then seen.set nb true else seen) ∧ wr.cell? ⟨gf, 1, none⟩ = some (.int .i64 (q : Int)) ∧ gf < wr.heap.size) (fun v _ => H - (intOf v).toNat)
          case atStart => exact ⟨0, by omega, rfl, by rw [if_neg (by omega)]; exact HM.out, HGQ.out, HGF.out⟩
          case round =>
            obtain ⟨j, hj, rfl, hm, hgq, hgfl⟩ := hrel
            have HM1 := Lib.hid hm
            by_cases hjH : j = H
            · obtain rfl : H = j := hjH.symm
              have HM2 := Lib.hid (show RwM w1 w5 wr (.slice A1 p.length cap1) b0 sb C s (seenN F seen q nb) by
                unfold seenN
                by_cases e : hdA F nb = q
                · rw [if_pos e]; rw [if_pos ⟨e, hnbH⟩] at hm; exact hm
                · rw [if_neg e]; rw [if_neg (fun h => e h.1)] at hm; exact hm)
              have HGQ2 := Lib.hid hgq
              have HGF2 := Lib.hid hgfl
              clear hm hgq hgfl
              obtain ⟨H0, hH0'⟩ : ∃ n, n = H := ⟨_, rfl⟩
              subst hH0'
              go_wp2_with fail
              go_loopw [13, 16] (fun va v wr => ∃ j : Nat, j ≤ H0 ∧ v = .int .i64 (j : Int) ∧ (va = .int .i64 (if nb < j then (nb : Int) else at_)) ∧ RwM w1 w5 wr (.slice A1 p.length cap1) b0 sb C s (seenN F seen q nb) ∧ wr.cell? ⟨gf, 1, none⟩ = some (.int .i64 (q : Int)) ∧ gf < wr.heap.size) (fun _ v _ => H0 - (intOf v).toNat)
              case atStart => exact ⟨0, by omega, rfl, by rw [if_neg (by omega)], HM2.out, HGQ2.out, HGF2.out⟩
              case round =>
                obtain ⟨j, hj, rfl, rfl, hm, hgq, hgfl⟩ := hrel
                have HM3 := Lib.hid hm
                by_cases hjH : j = H0
                · obtain rfl : H0 = j := hjH.symm
                  rw [if_pos hnbH]
                  have HJ := HDONE
                  have HMX := HM3
                  obtain ⟨a, ha⟩ : ∃ a, a = nb := ⟨_, rfl⟩
                  obtain ⟨seenX, hsx⟩ : ∃ x, x = seenN F seen q nb := ⟨_, rfl⟩
                  rw [← hsx, ← ha] at HJ
                  rw [← hsx] at HMX
                  rw [← ha] at hnbH ⊢
                  obtain ⟨wx, hwx⟩ : ∃ W : World, W = wr := ⟨_, rfl⟩
                  subst hwx
                  have zs := hm.seen.lt
                  have cs := HMX.out.seen.cell (i := a) (by rw [HJ.out.len, HH.out]; exact hnbH)
                  rw [HJ.out.sn] at cs
                  have a1 : (a : Int) < H0 := by omega
                  have a2 : (0 : Int) ≤ a := by omega
                  clear hm hgq hgfl ha hsx
                  have pcx := HMX.out.sx.pcell
                  obtain ⟨s2, hs2⟩ : ∃ s2, nextSt p s = s2 := ⟨_, rfl⟩
                  have HNS := Lib.hid (HNX.out C s HIS.out)
                  rw [hs2] at HNS
                  have HI2 : Hid (StInv p s2) := Lib.hid (hs2 ▸ HIS.out.next HRP.out)
                  have HRI2 := Lib.hid (show s2.status = 0 → RwI F s2 (a : Int) seenX from fun h => by rw [← hs2, nxt_run HST.out] at h ⊢; exact HJ.out.step HRP.out HF.out HIS.out HST.out h)
                  have HJC := Lib.hid (info_st HCL.out)
                  clear hs2
                  go_wp2_with (first | (refine wpList_load_mid (by rfl) 46 _ (by rfl) b0 0 (by rfl) C _ (HMX.out.sx.range (.head _)) Tryd.underlying46 (by rfl) HJC.out ?_) | (go_at_call 48; go_must (refine (HNS.out _ HMX.out.sx.below (HMX.out.sx.sts _ (.head _)).2).mono ?_; rintro e w8 ⟨⟨C2, rfl, hC2⟩, hb8⟩; have HX8 := Lib.hid (HMX.out.sx.keeps hb8); have HC2 := Lib.hid (hC2.base HMX.out.sx.below.size); have HL2 := Lib.hid (HC2.out.len HI2.out.mem); have HJ2 := Lib.hid (info_st HL2.out); have HB8 := Lib.hid hb8; clear hC2 hb8 pcx)) | (refine wpList_store_mid (by rfl) 46 _ _ (by rfl) w8.heap.size 0 C2.toArray (by rfl) (by rfl) (there_new w8 zeroV _ (by simp [HL2.out, zeroV_length])) (by simpa using HJ2.out) HC2.out.one ?_; obtain ⟨w9, hw9⟩ : ∃ w9, (w8.alloc (.cells zeroV.toArray 46)).setCells w8.heap.size 0 C2.toArray.toList = w9 := ⟨_, rfl⟩; rw [hw9]; have HX9 : Hid (Sx w1 w1.heap.size (.slice A1 p.length cap1) w9 [(w8.heap.size, C2, s2), (b0, C, s)]) := Lib.hid (hw9 ▸ HX8.out.add HC2.out HI2.out.mem); have HB9 : Hid (Below w8.heap.size w8 w9) := Lib.hid (hw9 ▸ below_setCells (Nat.le_refl _) _ _ _ ((Below.refl _ _).alloc (Nat.le_refl _) _)); clear hw9) | (refine wpList_load_mid (by rfl) 46 _ (by rfl) w8.heap.size 0 (by rfl) C2 _ (HX9.out.range (.head _)) Tryd.underlying46 (by rfl) HJ2.out ?_) | (refine wpList_store_mid (by rfl) 46 _ _ (by rfl) b0 0 C2.toArray (by rfl) (by rfl) (HX9.out.there (.tail _ (.head _)) (by simp [HL2.out, HCL.out])) (by simpa using HJ2.out) HC2.out.one ?_; have HMY := Lib.hid (HMX.out.next (HB8.out.trans (HB9.out.mono HB8.out.size)) (C2 := C2) (s2 := s2) (HX9.out.put (HX9.out.sts _ (.tail _ (.head _))).1 HCL.out HBZ.out (HX9.out.sts _ (.head _)).2 HL2.out (fun x hx => by simp at hx)) (by have := HGN.out.2.2.2; have := HSB.out; omega)); obtain ⟨wy, hwy⟩ : ∃ wy, w9.setCells b0 0 C2.toArray.toList = wy := ⟨_, rfl⟩; rw [hwy]; have HMZ : Hid (RwM w1 w5 wy (.slice A1 p.length cap1) b0 sb C2 s2 seenX) := Lib.hid (hwy ▸ HMY.out); clear hwy))
                  go_roundw
                  case rel => exact ⟨i + 1, C2, s2, a, seenX, by omega, by go_num, rfl, HI2.out, HRI2.out, by rw [HJ.out.len, HH.out], HMZ.out⟩
                  case measure => simp [intOf]; omega
                · have j1 : (j : Int) < H0 := by omega
                  have j2 : (0 : Int) ≤ j := by omega
                  have jH : j < H0 := by omega
                  obtain ⟨r, hr⟩ : ∃ r, bs[j]? = some r := ⟨_, List.getElem?_eq_getElem (by rw [HOB.out.len, HH.out]; exact jH)⟩
                  obtain ⟨hfr, hto⟩ := blkok_at HOB.out hr
                  have zb0 := hm.sx.lt (.head _)
                  have cb2 := (hm.sx.cell (.head _) 2).trans HCF1.out
                  have zgb : gb < wr.heap.size := Nat.lt_of_lt_of_le HGBL.out hm.agr.size
                  have y0 : wr.cell? ⟨gb, j * 4, none⟩ = some (.int .i64 (hdA F j : Int)) := (hm.agr.cell HGBL.out HGN.out.1 _).trans ((HBB.out.cell hr (j := 0) (by omega)).trans (show some (Value.int .i64 r.fr) = _ by rw [hfr]))
                  have y1 : wr.cell? ⟨gb, j * 4 + 1, none⟩ = some (.int .i64 (toF F (hdA F j) : Int)) := (hm.agr.cell HGBL.out HGN.out.1 _).trans ((HBB.out.cell hr (j := 1) (by omega)).trans (show some (Value.int .i64 r.to) = _ by rw [hto]))
                  have HGQ3 := Lib.hid hgq
                  have HGF3 := Lib.hid hgfl
                  by_cases hjn : j = nb
                  · subst hjn
                    have d1 : decide ((hdA F j : Int) ≤ q) = true := by rw [decide_eq_true_eq]; have := HPR.out.lo; omega
                    have d2 : decide ((q : Int) < (toF F (hdA F j) : Int)) = true := by rw [decide_eq_true_eq]; have := HPR.out.hi; omega
                    have d3 : decide (hdA F j ≤ q) = true := by rw [decide_eq_true_eq]; exact HPR.out.lo
                    have d4 : decide (q < toF F (hdA F j)) = true := by rw [decide_eq_true_eq]; exact HPR.out.hi
                    have hat : at_ = (j : Int) ∨ (((j : Int) != at_) = true ∧ hdA F j = q) := by
                      by_cases e : hdA F j = q
                      · by_cases e2 : at_ = (j : Int)
                        · exact .inl e2
                        · exact .inr ⟨bne_iff_ne.2 (fun h => e2 h.symm), e⟩
                      · exact .inl (HPR.out.stay e).1
                    rw [if_neg (by omega)]
                    obtain ⟨T, hT⟩ : ∃ z, toF F (hdA F j) = z := ⟨_, rfl⟩
                    obtain ⟨hj', hje⟩ : ∃ z, hdA F j = z := ⟨_, rfl⟩
                    rw [hT] at y1 d2 d4
                    rw [hje] at y0 d1 d3 hat
                    have HRL := Lib.hid (show (if j < j + 1 then (j : Int) else at_) = j from if_pos (by omega))
                    clear hm hr hfr hto hT hje hjH
                    rcases hat with hat | ⟨hat, hat2⟩
                    · have hne : ((j : Int) != at_) = false := by rw [hat]; simp
                      clear hat
                      go_wp2_with fail
                      go_quiet (fail)
                      go_wp2_with fail
                      go_quiet (fail)
                      go_wp2_with fail
                      go_roundw
                      case rel => exact ⟨j + 1, by omega, by go_num, by rw [HRL.out], HM3.out.keeps (below_drewN (Below.refl _ _) _), HGQ3.out, HGF3.out⟩
                      case measure => simp [intOf]; omega
                    · subst hat2
                      have hqq : ((hj' : Int) != (hj' : Int)) = false := by simp
                      go_wp2_with fail
                      go_quiet (fail)
                      go_wp2_with fail
                      go_quiet (fail)
                      go_wp2_with fail
                      go_roundw
                      case rel => exact ⟨j + 1, by omega, by go_num, by rw [HRL.out], HM3.out.keeps (below_drewN (Below.refl _ _) _), HGQ3.out, HGF3.out⟩
                      case measure => simp [intOf]; omega
                  · have hout : decide ((hdA F j : Int) ≤ q) = false ∨ (decide ((hdA F j : Int) ≤ q) = true ∧ decide ((q : Int) < (toF F (hdA F j) : Int)) = false) := by
                      by_cases e : hdA F j ≤ q
                      · by_cases e2 : q < toF F (hdA F j)
                        · exact absurd (HPR.out.uniq j (by rw [HH.out]; exact jH) e e2) hjn
                        · exact .inr ⟨by rw [decide_eq_true_eq]; omega, by rw [decide_eq_false_iff_not]; omega⟩
                      · exact .inl (by rw [decide_eq_false_iff_not]; omega)
                    have HRL := Lib.hid (show (if nb < j + 1 then (nb : Int) else at_) = (if nb < j then (nb : Int) else at_) by
                      by_cases e : nb < j
                      · rw [if_pos e, if_pos (by omega)]
                      · rw [if_neg e, if_neg (by omega)])
                    obtain ⟨z, hz'⟩ : ∃ z, (if nb < j then (nb : Int) else at_) = z := ⟨_, rfl⟩
                    rw [hz'] at HRL ⊢
                    obtain ⟨T, hT⟩ : ∃ z, toF F (hdA F j) = z := ⟨_, rfl⟩
                    obtain ⟨hj', hje⟩ : ∃ z, hdA F j = z := ⟨_, rfl⟩
                    rw [hT, hje] at hout
                    rw [hT] at y1
                    rw [hje] at y0
                    clear hm hr hfr hto hT hje hjH hjn hz'
                    rcases hout with d1 | ⟨d1, d2⟩
                    · have d3 : decide (hj' ≤ q) = false := by rw [decide_eq_false_iff_not] at d1 ⊢; omega
                      go_wp2_with fail
                      go_quiet (fail)
                      go_wp2_with fail
                      go_roundw
                      case rel => exact ⟨j + 1, by omega, by go_num, by rw [HRL.out], HM3.out.keeps (below_drewN (Below.refl _ _) _), HGQ3.out, HGF3.out⟩
                      case measure => simp [intOf]; omega
                    · have d3 : decide (hj' ≤ q) = true := by rw [decide_eq_true_eq] at d1 ⊢; omega
                      have d4 : decide (q < T) = false := by rw [decide_eq_false_iff_not] at d2 ⊢; omega
                      go_wp2_with fail
                      go_quiet (fail)
                      go_wp2_with fail
                      go_roundw
                      case rel => exact ⟨j + 1, by omega, by go_num, by rw [HRL.out], HM3.out.keeps (below_drewN (Below.refl _ _) _), HGQ3.out, HGF3.out⟩
                      case measure => simp [intOf]; omega
            · have j1 : (j : Int) < H := by omega
              have j2 : (0 : Int) ≤ j := by omega
              have jH : j < H := by omega
              obtain ⟨r, hr⟩ : ∃ r, bs[j]? = some r := ⟨_, List.getElem?_eq_getElem (by rw [HOB.out.len, HH.out]; exact jH)⟩
              have hgt : (hdL F)[j]? = some (hdA F j) := (hdA_mem (by rw [HH.out]; exact jH)).2
              have hfr := (blkok_at HOB.out hr).1
              have zb0 := hm.sx.lt (.head _)
              have cb2 := (hm.sx.cell (.head _) 2).trans HCF1.out
              have zgb : gb < wr.heap.size := Nat.lt_of_lt_of_le HGBL.out hm.agr.size
              have y0 : wr.cell? ⟨gb, j * 4, none⟩ = some (.int .i64 (hdA F j : Int)) := (hm.agr.cell HGBL.out HGN.out.1 _).trans ((HBB.out.cell hr (j := 0) (by omega)).trans (show some (Value.int .i64 r.fr) = _ by rw [hfr]))
              by_cases hjq : hdA F j = q
              · have hjn : j = nb := HPR.out.uniq j (by rw [HH.out]; exact jH) (by omega) (by rw [← hjq]; exact (toF_spec HRP.out HFM.out (List.mem_of_getElem? hgt)).1)
                subst hjn
                obtain ⟨hen, hid⟩ := HPR.out.enter hjq
                rw [hjq] at y0
                rw [if_neg (by omega)] at hm
                have HM1' := Lib.hid hm
                obtain ⟨Ap, pp, hvp, hRp⟩ := rowI_own (HBB.out.rows.own j r true hr)
                have hown := HBB.out.rows.own j r true hr
                have hpl := (HOB.out.at_ j r hr).2.2.2
                have HPLE := Lib.hid (show (prevF F j).length ≤ 3 + 2 * H by have h1 := prevTo_len F (hdL F).length 0 j; rw [prevTo_zero, HH.out] at h1; have e : prevF F j = (if j = 0 then [-1] else []) ++ ((List.range (hdL F).length).flatMap fun q => pickP F (nxI F (hdA F q)) q j) := rfl; rw [HH.out] at e; rw [e]; exact h1)
                have hll : (r.lst true).length = (prevF F j).length := by show r.pl.length = _; rw [hpl]
                rw [hll] at hvp
                have hRp' : RowI w5 Ap (prevF F j) := by rw [← hpl]; exact hRp
                have hne : ∀ g, Ap = some ⟨g, 0, none⟩ → g ≠ b0 := fun g hg => by
                  have := (World.ownsRow.lt hown g (by rw [hvp, hg]; rfl)).1
                  have := HGN.out.2.2.1
                  omega
                have cp : wr.cell? ⟨gb, j * 4 + 3, none⟩ = some (.slice Ap (prevF F j).length pp) := (hm.agr.cell HGBL.out HGN.out.1 _).trans ((HBB.out.cell hr (j := 3) (by omega)).trans (show some (r.val true) = _ by rw [hvp]))
                have HHA := Lib.hid (fun (n : Nat) => has_any (prevF F j) Ap pp at_ (wr.drewN n) (((HM1'.out.keeps (below_drewN (Below.refl _ _) n)).agr).row hRp' hne) (by have := HPLE.out; omega))
                have hdd : decide (at_ ∈ prevF F j) = true := by rw [decide_eq_true_eq]; exact hen
                rw [hdd] at HHA
                obtain ⟨lp, hlp⟩ : ∃ n, (prevF F j).length = n := ⟨_, rfl⟩
                rw [hlp] at cp HHA
                have hqq : ((q : Int) != (q : Int)) = false := by simp
                have HGQ2 := Lib.hid hgq
                have HGF2 := Lib.hid hgfl
                have HSET := Lib.hid (fun (n : Nat) => ((HM1'.out.keeps (below_drewN (Below.refl _ _) n)).mark HW15.out (by rw [HSB.out]; exact Nat.le_refl _) j))
                have HSN := Lib.hid (show (if hdA F j = q ∧ j < j + 1 then seen.set j true else seen) = seen.set j true from if_pos ⟨hjq, by omega⟩)
                have HSBG := Lib.hid (show gf ≠ sb from fun e => by
                  have h1 := HM1'.out.seen
                  obtain ⟨FS, ES, AS, hC, hrr⟩ := (HM1'.out.sx.sts _ (.head _)).2
                  have hFS : FS = .slice (some ⟨gf, 0, none⟩) 1 fcap := by have h := HCF1.out; simp only at hC; rw [hC] at h; simpa [stCells] using h
                  rcases hrr.fr.2 with ⟨h8, -⟩ | ⟨g9, cap9, cur9, hv9, hg9, hh9, -⟩
                  · rw [hFS] at h8; simp at h8
                  · rw [hFS] at hv9
                    simp only [Value.slice.injEq, Option.some.injEq, Addr.mk.injEq, and_true] at hv9
                    obtain ⟨rfl, -⟩ := hv9
                    rw [e, h1] at hh9
                    simp at hh9)
                by_cases hj0 : j = 0
                · subst hj0
                  clear hm hgt hfr hjq hen hid hvp hRp hown hpl hll hRp' hne hdd hlp hr hjH
                  go_wp2_with fail
                  go_quiet ((go_at_call 40; exact Calls.quiet_of_same ((HHA.out _).mono (fun _ _ h => ⟨h.1, h.2.symm⟩))))
                  clear cp y0 cb2 zgb zb0
                  have zs := (HM1'.out.keeps (below_drewN (Below.refl _ _) nq)).seen.lt
                  have fs := (HM1'.out.keeps (below_drewN (Below.refl _ _) nq)).seen.frozen 0
                  have cs := (HM1'.out.keeps (below_drewN (Below.refl _ _) nq)).seen.cell (i := 0) (by rw [HSL.out]; exact hH1)
                  go_wp2_with fail
                  go_roundw
                  case rel => exact ⟨1, by omega, by go_num, by rw [HSN.out]; exact HSET.out nq, cell_other HGQ2.out HSBG.out, by simpa [World.setCell] using HGF2.out⟩
                  case measure => simp [intOf]; omega
                · have hid0 := hid hj0
                  have hdi := (idomN_spec HRP.out HFM.out (by rw [HH.out]; exact jH) hj0).1
                  rw [HH.out] at hdi
                  have ca : wr.cell? ⟨ab, j, none⟩ = some (.int .i64 (idomN F j : Int)) := (hm.agr.cell HABL.out HGN.out.2.1 _).trans (HIL.out.cell (show (abvL F)[j]? = some (idomN F j : Int) from by rw [abvL_get (by rw [HH.out]; exact jH)]; unfold abvI; rw [if_neg hj0]))
                  have za : ab < wr.heap.size := Nat.lt_of_lt_of_le HABL.out hm.agr.size
                  obtain ⟨d, hd⟩ : ∃ d, idomN F j = d := ⟨_, rfl⟩
                  rw [hd] at hid0 hdi ca
                  have d1 : (d : Int) < H := by omega
                  have d2 : (0 : Int) ≤ d := by omega
                  have d3 : decide ((d : Int) < 0) = false := by rw [decide_eq_false_iff_not]; omega
                  have d4 : decide ((0 : Int) < j) = true := by rw [decide_eq_true_eq]; omega
                  have d5 : decide (0 < j) = true := by rw [decide_eq_true_eq]; omega
                  clear hm hgt hfr hjq hen hid hvp hRp hown hpl hll hRp' hne hdd hlp hr hjH hd hj0
                  go_wp2_with fail
                  go_quiet ((go_at_call 40; exact Calls.quiet_of_same ((HHA.out _).mono (fun _ _ h => ⟨h.1, h.2.symm⟩))))
                  clear cp y0 cb2 zgb zb0
                  have zs := (HM1'.out.keeps (below_drewN (Below.refl _ _) nq)).seen.lt
                  have fs := (HM1'.out.keeps (below_drewN (Below.refl _ _) nq)).seen.frozen j
                  have cs := (HM1'.out.keeps (below_drewN (Below.refl _ _) nq)).seen.cell (i := j) (by rw [HSL.out]; exact jH)
                  have cd := (HM1'.out.keeps (below_drewN (Below.refl _ _) nq)).seen.cell (i := d) (by rw [HSL.out]; exact hdi)
                  rw [hid0] at cd
                  go_wp2_with fail
                  go_roundw
                  case rel => exact ⟨j + 1, by omega, by go_num, by rw [HSN.out]; exact HSET.out nq, cell_other HGQ2.out HSBG.out, by simpa [World.setCell] using HGF2.out⟩
                  case measure => simp [intOf]; omega
              · have hne : ((hdA F j : Int) != (q : Int)) = true := bne_iff_ne.2 (by omega)
                have HSN := Lib.hid (show (if hdA F nb = q ∧ nb < j + 1 then seen.set nb true else seen) = (if hdA F nb = q ∧ nb < j then seen.set nb true else seen) by
                  by_cases e : hdA F nb = q
                  · have : nb ≠ j := fun e2 => hjq (e2 ▸ e)
                    by_cases e3 : nb < j
                    · rw [if_pos ⟨e, by omega⟩, if_pos ⟨e, e3⟩]
                    · rw [if_neg (by omega), if_neg (by omega)]
                  · rw [if_neg (fun h => e h.1), if_neg (fun h => e h.1)])
                have HGQ2 := Lib.hid hgq
                have HGF2 := Lib.hid hgfl
                obtain ⟨hj', hje⟩ : ∃ z, hdA F j = z := ⟨_, rfl⟩
                rw [hje] at y0 hne
                clear hm hgt hfr hjq hr hjH hje
                go_wp2_with fail
                go_quiet (fail)
                go_wp2_with fail
                go_roundw
                case rel => exact ⟨j + 1, by omega, by go_num, by rw [HSN.out]; exact HM1.out.keeps (below_drewN (Below.refl _ _) _), HGQ2.out, HGF2.out⟩
                case measure => simp [intOf]; omega
        · obtain ⟨a, ha, hJ⟩ := hri.deep (by rw [hnf]; exact hn1)
          subst ha
          have hq1 : decide ((nf : Int) = 1) = false := by rw [decide_eq_false_iff_not]; omega
          have hq2 : decide (nf = 1) = false := by rw [decide_eq_false_iff_not]; omega
          have hq3 : ((nf : Int) == 1) = false := beq_eq_false_iff_ne.2 (by omega)
          have HJ := Lib.hid hJ
          have HMX := HM
          obtain ⟨seenX, hsx⟩ : ∃ x, x = seen := ⟨_, rfl⟩
          subst hsx
          obtain ⟨wx, hwx⟩ : ∃ W : World, W = wo := ⟨_, rfl⟩
          subst hwx
          clear hri hnf hn1 hJ his hst hi300
          have pcx := HMX.out.sx.pcell
          obtain ⟨s2, hs2⟩ : ∃ s2, nextSt p s = s2 := ⟨_, rfl⟩
          have HNS := Lib.hid (HNX.out C s HIS.out)
          rw [hs2] at HNS
          have HI2 : Hid (StInv p s2) := Lib.hid (hs2 ▸ HIS.out.next HRP.out)
          have HRI2 := Lib.hid (show s2.status = 0 → RwI F s2 (a : Int) seenX from fun h => by rw [← hs2, nxt_run HST.out] at h ⊢; exact HJ.out.step HRP.out HF.out HIS.out HST.out h)
          have HJC := Lib.hid (info_st HCL.out)
          clear hs2
          go_wp2_with (first | (refine wpList_load_mid (by rfl) 46 _ (by rfl) b0 0 (by rfl) C _ (HMX.out.sx.range (.head _)) Tryd.underlying46 (by rfl) HJC.out ?_) | (go_at_call 48; go_must (refine (HNS.out _ HMX.out.sx.below (HMX.out.sx.sts _ (.head _)).2).mono ?_; rintro e w8 ⟨⟨C2, rfl, hC2⟩, hb8⟩; have HX8 := Lib.hid (HMX.out.sx.keeps hb8); have HC2 := Lib.hid (hC2.base HMX.out.sx.below.size); have HL2 := Lib.hid (HC2.out.len HI2.out.mem); have HJ2 := Lib.hid (info_st HL2.out); have HB8 := Lib.hid hb8; clear hC2 hb8 pcx)) | (refine wpList_store_mid (by rfl) 46 _ _ (by rfl) w8.heap.size 0 C2.toArray (by rfl) (by rfl) (there_new w8 zeroV _ (by simp [HL2.out, zeroV_length])) (by simpa using HJ2.out) HC2.out.one ?_; obtain ⟨w9, hw9⟩ : ∃ w9, (w8.alloc (.cells zeroV.toArray 46)).setCells w8.heap.size 0 C2.toArray.toList = w9 := ⟨_, rfl⟩; rw [hw9]; have HX9 : Hid (Sx w1 w1.heap.size (.slice A1 p.length cap1) w9 [(w8.heap.size, C2, s2), (b0, C, s)]) := Lib.hid (hw9 ▸ HX8.out.add HC2.out HI2.out.mem); have HB9 : Hid (Below w8.heap.size w8 w9) := Lib.hid (hw9 ▸ below_setCells (Nat.le_refl _) _ _ _ ((Below.refl _ _).alloc (Nat.le_refl _) _)); clear hw9) | (refine wpList_load_mid (by rfl) 46 _ (by rfl) w8.heap.size 0 (by rfl) C2 _ (HX9.out.range (.head _)) Tryd.underlying46 (by rfl) HJ2.out ?_) | (refine wpList_store_mid (by rfl) 46 _ _ (by rfl) b0 0 C2.toArray (by rfl) (by rfl) (HX9.out.there (.tail _ (.head _)) (by simp [HL2.out, HCL.out])) (by simpa using HJ2.out) HC2.out.one ?_; have HMY := Lib.hid (HMX.out.next (HB8.out.trans (HB9.out.mono HB8.out.size)) (C2 := C2) (s2 := s2) (HX9.out.put (HX9.out.sts _ (.tail _ (.head _))).1 HCL.out HBZ.out (HX9.out.sts _ (.head _)).2 HL2.out (fun x hx => by simp at hx)) (by have := HGN.out.2.2.2; have := HSB.out; omega)); obtain ⟨wy, hwy⟩ : ∃ wy, w9.setCells b0 0 C2.toArray.toList = wy := ⟨_, rfl⟩; rw [hwy]; have HMZ : Hid (RwM w1 w5 wy (.slice A1 p.length cap1) b0 sb C2 s2 seenX) := Lib.hid (hwy ▸ HMY.out); clear hwy))
          go_roundw
          case rel => exact ⟨i + 1, C2, s2, a, seenX, by omega, by go_num, rfl, HI2.out, HRI2.out, by rw [HJ.out.len, HH.out], HMZ.out⟩
          case measure => simp [intOf]; omega
      · obtain ⟨st, hst'⟩ : ∃ x, s.status = x := ⟨_, rfl⟩
        rw [hst'] at hst cb0
        have hq : decide (st = 0) = false := by simpa using hst
        have hq2 : (st == 0) = false := by simpa using hst
        clear hst' hst his hi300
        go_wp2_with fail
        go_ret
        exact ⟨rfl, HBW.out.trans (HM.out.sx.below.mono HBW.out.size)⟩
end Go.Proofs.YtefbdecejoeamaaDoor
