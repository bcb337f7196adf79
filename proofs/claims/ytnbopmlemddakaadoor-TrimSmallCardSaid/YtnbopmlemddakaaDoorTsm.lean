/-
  The walk of TrimSmall: it returns true.
-/
import Derived.Test.YtnbopmlemddakaaDoorTr4
import Derived.Test.YtnbopmlemddakaaDoorOpn
namespace Go.Proofs.YtnbopmlemddakaaDoor
open Go.RowKit Tier
set_option maxRecDepth 100000 in
set_option maxHeartbeats 8000000 in
theorem trimSmall_walk (A : Option Addr) (l : List Fnc) (cap : Nat) (fn : Int) (w : World) (ht : Tab w) (hraw : RawsAt w A l) (hln : (l.length : Int) ≤ 9223372036854775807) (hfn : In fn) :
    Calls Tryd.prog 3 #[.slice A l.length cap, .int .i64 fn] w fun e w' => e = .returned (.bool true) ∧ Below w.heap.size w w' := by
  have HT := Lib.hid ht
  have HR := Lib.hid hraw
  have HCK := Lib.hid (mkP_right l)
  clear ht hraw
  go_enter Tryd.func3, Tryd.ntmps3
  go_wp2_with fail
  refine (program_any A cap l _ HT.out hln HR.out).mono ?_
  rintro e w1 ⟨⟨A1, cap1, vs, rfl, hpv⟩, hb1⟩
  have HPV := Lib.hid hpv
  have HB1 := Lib.hid hb1
  clear hpv hb1
  generalize mkP l = p at *
  have hRT := right_of HCK.out
  have hl1 := hRT.ok.l1
  have hl2 := hRT.ok.l2
  have hpk := picked_in fn p.length (by omega)
  obtain ⟨k, hk⟩ : ∃ k : Nat, pickedI fn p.length = k := ⟨(pickedI fn p.length).toNat, by omega⟩
  rw [hk] at hpk
  have HPK := Lib.hid (fun (W : World) => picked_any fn p.length W hfn (by omega) (by omega))
  rw [hk] at HPK
  clear hk
  obtain ⟨A0, cap0, hA0, hA⟩ := HPV.out.at.slice
  simp only [Value.slice.injEq, true_and] at hA0
  obtain ⟨g, hAg, hg, hfn'⟩ := hA (by omega)
  obtain ⟨rfl, rfl⟩ := hA0
  have hkl : k < p.length := by omega
  obtain ⟨F, hF⟩ : ∃ f, p[k]? = some f := ⟨p[k], List.getElem?_eq_getElem hkl⟩
  have hfo := hRT.ok.fn F (List.mem_of_getElem? hF)
  obtain ⟨u, hu, c0, c1, c2⟩ := hfn' k F hF
  obtain ⟨FA, fcap, rfl, -⟩ := hu.slice
  have HSU := Lib.hid (fun (W : World) (h1 : Tab W) (h2 : ProgAt W (.slice A1 p.length cap1) p) => psure_any p A1 cap1 k F W h1 h2 (progE_of_check HCK.out) hF)
  have HWH := Lib.hid (fun (W : World) (h1 : Tab W) (h2 : ProgAt W (.slice A1 p.length cap1) p) => tWhere_any p A1 cap1 k F W h1 h2 HCK.out hF)
  have HTP := Lib.hid (fun (W : World) (h1 : Tab W) (h2 : ProgAt W (.slice A1 p.length cap1) p) => tprog_any p A1 cap1 W h1 h2 HCK.out)
  have HSL := Lib.hid (sureF_length hfo.cok hfo.p2)
  have HF := Lib.hid hF
  have n2 := hfo.c2
  obtain ⟨M, hM⟩ : ∃ M, F.code.length = M := ⟨_, rfl⟩
  have HM := Lib.hid hM
  rw [hM] at HSU HWH HSL n2 c2
  have hk0 : (0 : Int) ≤ k := by omega
  have hk1 : (k : Int) < p.length := by omega
  subst hAg
  have HWL := Lib.hid (whF_length F)
  clear hA hfn' hF hu hfo hM hRT c0 c1
  obtain ⟨N, hN⟩ : ∃ N, p.length = N := ⟨_, rfl⟩
  have HN := Lib.hid hN
  rw [hN] at HPK HSU HWH HTP hl1 hl2 hkl hk1 hpk ⊢
  have HPA := Lib.hid (show ProgAt w1 (.slice (some ⟨g, 0, none⟩) N cap1) p from by have := HPV.out.at; rw [hN] at this; exact this)
  clear hN
  have HXA := Lib.hid ((Below.refl w1.heap.size w1).alloc (Nat.le_refl _) (.cells #[.slice (some ⟨g, 0, none⟩) N cap1] 25))
  go_wp2_with (first | (go_at_call 21; go_must (refine (HPK.out _).mono ?_; rintro e w' ⟨rfl, rfl⟩)) | (go_at_call 22; go_must (refine (HWH.out _ (HT.out.keeps (HB1.out.alloc HB1.out.size _)) (HPA.out.keeps HXA.out)).mono ?_; rintro e w2 ⟨⟨ab, rfl, hab, hIA⟩, hb⟩; have HB12 := Lib.hid (HXA.out.trans (hb.mono HXA.out.size)); have HIA := Lib.hid hIA; have HX2 := Lib.hid ((hb.block w1.heap.size (by simp)).trans (heap_alloc_new w1 _)); have q2 := cell_block HX2.out; have z2 := block_lt HX2.out; clear hab hIA hb)) | (go_at_call 23; go_must (refine (HSU.out _ (HT.out.keeps (HB1.out.trans (HB12.out.mono HB1.out.size))) (HPA.out.keeps HB12.out)).mono ?_; rintro e w3 ⟨⟨sb, rfl, hsb, hIS⟩, hb⟩; have HB13 := Lib.hid (HB12.out.trans (hb.mono HB12.out.size)); have HIA3 := Lib.hid (HIA.out.keeps hb); have HIS := Lib.hid hIS; have HX3 := Lib.hid ((hb.block _ (block_lt HX2.out)).trans HX2.out); have q3 := cell_block HX3.out; have z3 := block_lt HX3.out; clear hsb hIS hb q2 z2)) | (go_at_call 24; go_must (refine (HTP.out _ (HT.out.keeps (HB1.out.trans (HB13.out.mono HB1.out.size))) (HPA.out.keeps HB13.out)).mono ?_; rintro e w4 ⟨⟨c, A4, cap4, us, rfl, hC, hPV4⟩, hb⟩; have HB14 := Lib.hid (HB13.out.trans (hb.mono HB13.out.size)); have HIA4 := Lib.hid (HIA3.out.keeps hb); have HIS4 := Lib.hid (HIS.out.keeps hb); have HX4 := Lib.hid ((hb.block _ (block_lt HX3.out)).trans HX3.out); have q4 := cell_block HX4.out; have z4 := block_lt HX4.out; have HC := Lib.hid hC; have HPV4 := Lib.hid hPV4; have hql := trimP_length (p := p) (c := c); rw [HN.out] at hql; have g4 : g < w4.heap.size := Nat.lt_of_lt_of_le hg HB14.out.size; have d2 := (HB14.out.cell (p := ⟨g, _, none⟩) hg).trans c2; clear hC hPV4 hb q3 z3)))
  obtain ⟨w5, hw5⟩ : ∃ W, w4.alloc (.cells #[.slice A4 (trimP p c).length cap4] 25) = W := ⟨_, rfl⟩
  have HB45 : Hid (Below w4.heap.size w4 w5) := Lib.hid (hw5 ▸ (Below.refl _ _).alloc (Nat.le_refl _) _)
  have HQB : Hid (w5.heap[w4.heap.size]? = some (.cells #[.slice A4 (trimP p c).length cap4] 25 (0, 0))) := Lib.hid (hw5 ▸ heap_alloc_new w4 _)
  rw [hw5]
  have HIA5 := Lib.hid (HIA4.out.keeps HB45.out)
  have HIS5 := Lib.hid (HIS4.out.keeps HB45.out)
  clear hw5 q4 z4 g4 d2 hql
  go_loopw [13, 14] (fun vn vi wr => ∃ i : Nat, i ≤ M ∧ vi = .int .i64 (i : Int) ∧ vn = .int .i64 (posF F i : Int) ∧ Below w5.heap.size w5 wr) (fun _ vi _ => M - (intOf vi).toNat)
  case atStart => exact ⟨0, by omega, rfl, rfl, Below.refl _ _⟩
  case round =>
    obtain ⟨i, hi, rfl, rfl, hbr⟩ := hrel
    have HBR := Lib.hid hbr
    have HFIN := Lib.hid (HB1.out.trans ((HB14.out.trans ((HB45.out.trans (hbr.mono HB45.out.size)).mono HB14.out.size)).mono HB1.out.size))
    by_cases hiM : i = M
    · obtain rfl : M = i := hiM.symm
      by_cases hk00 : k = 0
      · subst hk00
        have hfirst := trim_first HC.out (by rw [HN.out]; omega) HF.out
        obtain ⟨A0, cap0, hA0, hA⟩ := HPV4.out.at.slice
        simp only [Value.slice.injEq, true_and] at hA0
        obtain ⟨gq, hAq, hgq, hfnq⟩ := hA (by have := (List.getElem?_eq_some_iff.1 hfirst).1; omega)
        obtain ⟨rfl, rfl⟩ := hA0
        obtain ⟨uq, huq, -, -, d2⟩ := hfnq 0 _ hfirst
        obtain ⟨QA, qcap, rfl, -⟩ := huq.slice
        have hle : (trimF F c).code.length = posF F M := by have h := trimTo_length F c F.code.length; rw [HM.out] at h; rw [← h, ← HM.out]; rfl
        rw [hle] at d2
        have hBq := HB45.out.trans (hbr.mono HB45.out.size)
        have d2' := (hBq.cell (p := ⟨gq, _, none⟩) hgq).trans d2
        have zq : gq < wr.heap.size := Nat.lt_of_lt_of_le hgq hBq.size
        have qb := cell_block ((hbr.block _ (block_lt HQB.out)).trans HQB.out)
        have zqb := Nat.lt_of_lt_of_le (block_lt HQB.out) hbr.size
        have hq0 : 0 < (trimP p c).length := (List.getElem?_eq_some_iff.1 hfirst).1
        subst hAq
        clear hfirst hA hfnq huq d2 hle hBq hbr hk0 hk1 hkl hpk
        go_wp2_with fail
        go_ret
        exact ⟨rfl, HFIN.out⟩
      · have hk01 : (0 : Int) < k := by omega
        clear hbr
        go_wp2_with fail
        go_ret
        exact ⟨rfl, HFIN.out⟩
    · have hi1 : (i : Int) < M := by omega
      have hi2 : (0 : Int) ≤ i := by omega
      have ca := (HIA5.out.keeps hbr).cell (outL_get (whF_get F (pc := i) (by rw [HM.out]; omega)))
      obtain ⟨o, ho⟩ : ∃ o, (sureF F)[i]? = some o := ⟨_, List.getElem?_eq_getElem (by rw [HSL.out]; omega)⟩
      have cs := (HIS5.out.keeps hbr).cell (outL_get ho)
      have za := (HIA5.out.keeps hbr).lt
      have zs := (HIS5.out.keeps hbr).lt
      have hps := posF_succ F i
      have hpl := posF_le F i
      clear hbr
      cases ho2 : o with
      | none =>
        have hr : rchB F i = false := by unfold rchB; rw [ho, ho2]; rfl
        rw [hr] at ca hps
        rw [ho2] at cs
        have hoi : oI none = -1 := rfl
        have hoj : oI (if false = true then some (posF F i) else none) = -1 := rfl
        rw [hoi] at cs
        rw [hoj] at ca
        simp only [Bool.false_eq_true, if_false, Nat.add_zero] at hps
        have HPS := Lib.hid hps
        clear hps hr ho ho2 hoi hoj
        go_wp2_with fail
        go_quiet (fail)
        go_wp2_with fail
        go_roundw
        case rel => exact ⟨i + 1, by omega, by go_num, by rw [HPS.out], by have hb := HBR.out; repeat (first | exact hb | exact Below.refl _ _ | apply Below.drew | apply below_drewN | refine Below.alloc ?_ (by first | omega | (simp; done) | (simp; omega)) _ | refine Below.setCell ?_ (by first | omega | (simp; done) | (simp; omega)) _)⟩
        case measure => simp [intOf]; omega
      | some m =>
        have hr : rchB F i = true := by unfold rchB; rw [ho, ho2]; rfl
        rw [hr] at ca hps
        rw [ho2] at cs
        have hoi : oI (some m) = (m : Int) := rfl
        have hoj : oI (if true = true then some (posF F i) else none) = (posF F i : Int) := rfl
        rw [hoi] at cs
        rw [hoj] at ca
        simp only [if_true] at hps
        have HPS := Lib.hid hps
        have hm0 : decide ((m : Int) < 0) = false := by simp
        have hm1 : decide ((posF F i : Int) < 0) = false := by simp
        clear hps hr ho ho2 hoi hoj
        go_wp2_with fail
        go_quiet (fail)
        go_wp2_with fail
        go_roundw
        case rel => exact ⟨i + 1, by omega, by go_num, by rw [HPS.out]; go_num, by have hb := HBR.out; repeat (first | exact hb | exact Below.refl _ _ | apply Below.drew | apply below_drewN | refine Below.alloc ?_ (by first | omega | (simp; done) | (simp; omega)) _ | refine Below.setCell ?_ (by first | omega | (simp; done) | (simp; omega)) _)⟩
        case measure => simp [intOf]; omega
end Go.Proofs.YtnbopmlemddakaaDoor
