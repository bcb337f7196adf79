/-
  The walk of TrimAgain: it returns true.
-/
import Derived.Test.YtnbopmlemddakaaDoorTr4
import Derived.Test.YtnbopmlemddakaaDoorSpg
import Derived.Test.YtnbopmlemddakaaDoorOpn
namespace Go.Proofs.YtnbopmlemddakaaDoor
open Go.RowKit Tier
set_option maxRecDepth 100000 in
set_option maxHeartbeats 8000000 in
theorem trimAgain_walk (A : Option Addr) (l : List Fnc) (cap : Nat) (w : World) (ht : Tab w) (hraw : RawsAt w A l) (hln : (l.length : Int) ≤ 9223372036854775807) :
    Calls Tryd.prog 4 #[.slice A l.length cap] w fun e w' => e = .returned (.bool true) ∧ Below w.heap.size w w' := by
  have HT := Lib.hid ht
  have HR := Lib.hid hraw
  have HCK := Lib.hid (mkP_right l)
  clear ht hraw
  go_enter Tryd.func4, Tryd.ntmps4
  go_wp2_with fail
  refine (program_any A cap l _ HT.out hln HR.out).mono ?_
  rintro e w1 ⟨⟨A1, cap1, vs, rfl, hpv⟩, hb1⟩
  have HPV := Lib.hid hpv
  have HB1 := Lib.hid hb1
  clear hpv hb1
  generalize mkP l = p at *
  have HXA := Lib.hid ((Below.refl w1.heap.size w1).alloc (Nat.le_refl _) (.cells #[.slice A1 p.length cap1] 25))
  have HTP := Lib.hid (fun (W : World) (h1 : Tab W) (h2 : ProgAt W (.slice A1 p.length cap1) p) => tprog_any p A1 cap1 W h1 h2 HCK.out)
  go_wp2_with fail
  refine (HTP.out _ (HT.out.keeps (HB1.out.alloc HB1.out.size _)) (HPV.out.at.keeps HXA.out)).mono ?_
  rintro e w2 ⟨⟨c, A2, cap2, us, rfl, hC, hPV2⟩, hb⟩
  have HB2 := Lib.hid (HB1.out.trans ((HXA.out.trans (hb.mono HXA.out.size)).mono HB1.out.size))
  have HAL := Lib.hid (fun G (hG : G ∈ trimP p c) => trim_where HCK.out hC hG)
  have hQ := trim_right HCK.out hC
  have HAG := Lib.hid (trim_again HCK.out hC)
  have HUN := Lib.hid (trim_called hC (right_of HCK.out))
  have HQV := Lib.hid hPV2
  clear hC hPV2 hb HTP HXA HPV
  generalize trimP p c = q at *
  have hQR := right_of hQ
  have l1 := hQR.ok.l1
  have l2 := hQR.ok.l2
  have HQ := Lib.hid hQ
  have HQR := Lib.hid hQR
  clear hQ hQR
  obtain ⟨A0, cap0, hA0, hA⟩ := HQV.out.at.slice
  simp only [Value.slice.injEq, true_and] at hA0
  obtain ⟨g, hAg, hg, hfn⟩ := hA (by omega)
  obtain ⟨rfl, rfl⟩ := hA0
  subst hAg
  have HFN := Lib.hid hfn
  have HPA := Lib.hid HQV.out.at
  clear hA hfn
  obtain ⟨N, hN⟩ : ∃ N, q.length = N := ⟨_, rfl⟩
  have HN := Lib.hid hN
  have HTQ := Lib.hid (fun (W : World) (h1 : Tab W) (h2 : ProgAt W (.slice (some ⟨g, 0, none⟩) q.length cap2) q) => tprog_any q (some ⟨g, 0, none⟩) cap2 W h1 h2 HQ.out)
  have HTC := Lib.hid (fun (W : World) (h1 : Tab W) (h2 : ProgAt W (.slice (some ⟨g, 0, none⟩) q.length cap2) q) => tCalled_any q (some ⟨g, 0, none⟩) cap2 W h1 h2 HQ.out)
  have HTW := Lib.hid (fun (W : World) (h1 : Tab W) (h2 : ProgAt W (.slice (some ⟨g, 0, none⟩) q.length cap2) q) (k : Nat) (f : Fnc) (hf : q[k]? = some f) => tWhere_any q (some ⟨g, 0, none⟩) cap2 k f W h1 h2 HQ.out hf)
  have HPC := Lib.hid (fun (W : World) (h1 : Tab W) (h2 : ProgAt W (.slice (some ⟨g, 0, none⟩) q.length cap2) q) => pcheck_any q (some ⟨g, 0, none⟩) cap2 W h1 h2 (by omega) (fun f hf => by have := (HQR.out.ok.fn f hf).c2; omega))
  have HSP := Lib.hid (fun (W : World) (A4 : Option Addr) (cap4 : Nat) (h2 : ProgAt W (.slice (some ⟨g, 0, none⟩) q.length cap2) q) (h4 : ProgAt W (.slice A4 q.length cap4) q) => sameProg_any q (some ⟨g, 0, none⟩) cap2 A4 cap4 W h2 h4 (by omega) (fun f hf => by have := (HQR.out.ok.fn f hf).c2; omega))
  rw [HQ.out] at HPC
  rw [hN] at HTQ HTC HTW HPC HSP HPA l1 l2 HUN HAG ⊢
  clear hN
  have HYA := Lib.hid ((Below.refl w2.heap.size w2).alloc (Nat.le_refl _) (.cells #[.slice (some ⟨g, 0, none⟩) N cap2] 25))
  have HYB := Lib.hid (heap_alloc_new w2 (.cells #[.slice (some ⟨g, 0, none⟩) N cap2] 25))
  go_wp2_with fail
  refine (HTQ.out _ (HT.out.keeps (HB2.out.alloc HB2.out.size _)) (HPA.out.keeps HYA.out)).mono ?_
  rintro e w3 ⟨⟨c3, A3, cap3, ts, rfl, hC3, hPV3⟩, hb⟩
  have hu := hC3.unique HUN.out
  subst hu
  rw [HAG.out, HN.out] at hPV3
  rw [HAG.out, HN.out]
  have HB23 := Lib.hid (HYA.out.trans (hb.mono HYA.out.size))
  have HB3 := Lib.hid (HB2.out.trans (HB23.out.mono HB2.out.size))
  have HX3 := Lib.hid ((hb.block _ (block_lt HYB.out)).trans HYB.out)
  have HPA3 := Lib.hid (HPA.out.keeps HB23.out)
  have HRV3 := Lib.hid hPV3.at
  have q3 := cell_block HX3.out
  have z3 := block_lt HX3.out
  clear hC3 hPV3 hb HYB HYA HTQ
  have HZA := Lib.hid ((Below.refl w3.heap.size w3).alloc (Nat.le_refl _) (.cells #[.slice A3 N cap3] 25))
  have HZB := Lib.hid (heap_alloc_new w3 (.cells #[.slice A3 N cap3] 25))
  go_wp2_with (first | (go_at_call 25; go_must (refine (HTC.out _ (HT.out.keeps (HB3.out.alloc HB3.out.size _)) (HPA3.out.keeps HZA.out)).mono ?_; rintro e w4 ⟨⟨cb, cc, rfl, hcb, hBB, hCC⟩, hb⟩; have hu := hCC.unique HUN.out; subst hu; rw [HN.out]; have HB34 := Lib.hid (HZA.out.trans (hb.mono HZA.out.size)); have HX4 := Lib.hid ((HB34.out.block _ (block_lt HX3.out)).trans HX3.out); have HR4 := Lib.hid ((hb.block _ (block_lt HZB.out)).trans HZB.out); have HPA4 := Lib.hid (HPA3.out.keeps HB34.out); have HRV4 := Lib.hid (HRV3.out.keeps HB34.out); have HBB := Lib.hid hBB; have HB4 := Lib.hid (HB3.out.trans (HB34.out.mono HB3.out.size)); have q4 := cell_block HX4.out; have z4 := block_lt HX4.out; have r4 := cell_block HR4.out; have y4 := block_lt HR4.out; clear hcb hBB hCC hb q3 z3)) | (go_at_call 26; go_must (refine (HSP.out _ A3 cap3 HPA4.out HRV4.out).mono ?_; rintro e w5 ⟨rfl, hb⟩; have HB45 := Lib.hid hb; have HX5 := Lib.hid ((hb.block _ (block_lt HX4.out)).trans HX4.out); have q5 := cell_block HX5.out; have z5 := block_lt HX5.out; clear hb q4 z4 r4 y4)))
  have HB5 := Lib.hid (HB4.out.trans (HB45.out.mono HB4.out.size))
  have HB25 := Lib.hid (HB23.out.trans ((HB34.out.trans (HB45.out.mono HB34.out.size)).mono HB23.out.size))
  have HPA5 := Lib.hid (HPA4.out.keeps HB45.out)
  have HBB5 := Lib.hid (HBB.out.keeps HB45.out)
  clear q5 z5
  go_loopw [10] (fun vi wr => ∃ i : Nat, i ≤ N ∧ vi = .int .i64 (i : Int) ∧ Below w5.heap.size w5 wr) (fun vi _ => N - (intOf vi).toNat)
  case atStart => exact ⟨0, by omega, rfl, Below.refl _ _⟩
  case round =>
    obtain ⟨i, hi, rfl, hbr⟩ := hrel
    obtain ⟨wo, hwo⟩ : ∃ wo : World, wo = wr := ⟨_, rfl⟩
    subst hwo
    have HBR := Lib.hid hbr
    have HBO := Lib.hid (HB5.out.trans (hbr.mono HB5.out.size))
    have q6 := cell_block ((hbr.block _ (block_lt HX5.out)).trans HX5.out)
    have z6 := Nat.lt_of_lt_of_le (block_lt HX5.out) hbr.size
    have HPO := Lib.hid (HPA5.out.keeps hbr)
    clear hbr
    by_cases hiN : i = N
    · obtain rfl : N = i := hiN.symm
      go_wp2_with (go_at_call 27; go_must (refine (HPC.out _ (HT.out.keeps HBO.out) HPO.out).mono ?_; rintro e w9 ⟨rfl, hb⟩; have HB9 := Lib.hid (HBO.out.trans (hb.mono HBO.out.size)); clear hb))
      go_ret
      exact ⟨rfl, HB9.out⟩
    · have hi1 : (i : Int) < N := by omega
      have hi2 : (0 : Int) ≤ i := by omega
      obtain ⟨F, hF⟩ : ∃ F, q[i]? = some F := ⟨_, List.getElem?_eq_getElem (by rw [HN.out]; omega)⟩
      obtain ⟨u1, hu1, -, -, d2⟩ := HFN.out i F hF
      obtain ⟨FA, fcap, rfl, -⟩ := hu1.slice
      have hfo := HQR.out.ok.fn F (List.mem_of_getElem? hF)
      have hM4 := hfo.c2
      have HWF := Lib.hid (HAL.out F (List.mem_of_getElem? hF))
      have HTF := Lib.hid (fun W h1 h2 => HTW.out W h1 h2 i F hF)
      obtain ⟨M, hM⟩ : ∃ M, F.code.length = M := ⟨_, rfl⟩
      have HM := Lib.hid hM
      rw [hM] at d2 hM4 HWF HTF
      clear hM hF hu1 hfo hiN
      go_wp2_with (go_at_call 22; go_must (refine (HTF.out _ (HT.out.keeps HBO.out) HPO.out).mono ?_; rintro e w7 ⟨⟨ab, rfl, hab, hIA⟩, hb⟩; have HB7 := Lib.hid (HBR.out.trans (hb.mono HBR.out.size)); have HIA := Lib.hid hIA; have q7 := cell_block ((HB7.out.block _ (block_lt HX5.out)).trans HX5.out); have z7 := Nat.lt_of_lt_of_le (block_lt HX5.out) HB7.out.size; have hBg := HB25.out.trans (HB7.out.mono HB25.out.size); have d7 := (hBg.cell (p := ⟨g, _, none⟩) hg).trans d2; have zg := Nat.lt_of_lt_of_le hg hBg.size; have cc := (HBB5.out.keeps HB7.out).cell (i := i) (by simp; omega); have zc := (HBB5.out.keeps HB7.out).lt; have hcc : cB (List.replicate N true) i = true := (by unfold cB; rw [List.getD_eq_getElem?_getD, List.getElem?_replicate, if_pos (by omega)]; rfl); rw [hcc] at cc; clear hab hIA hb hBg hcc q6 z6))
      clear q7 z7 d7 zg cc zc
      go_loopw [13] (fun vj wr => ∃ j : Nat, j ≤ M ∧ vj = .int .i64 (j : Int) ∧ Below w7.heap.size w7 wr) (fun vj _ => M - (intOf vj).toNat)
      case atStart => exact ⟨0, by omega, rfl, Below.refl _ _⟩
      case round =>
        obtain ⟨j, hj, rfl, hbj⟩ := hrel
        have HBJ := Lib.hid hbj
        by_cases hjM : j = M
        · obtain rfl : M = j := hjM.symm
          clear hbj
          go_wp2_with fail
          go_roundw
          case rel => exact ⟨i + 1, by omega, by go_num, HB7.out.trans (HBJ.out.mono HB7.out.size)⟩
          case measure => simp [intOf]; omega
        · have hj1 : (j : Int) < M := by omega
          have hj2 : (0 : Int) ≤ j := by omega
          have cj := (HIA.out.keeps hbj).cell (i := j) (x := (j : Int)) (by rw [HWF.out]; unfold outL; rw [List.getElem?_map, List.getElem?_map, List.getElem?_range (by omega)]; rfl)
          have zj := (HIA.out.keeps hbj).lt
          clear hbj hjM
          go_wp2_with fail
          go_roundw
          case rel => exact ⟨j + 1, by omega, by go_num, HBJ.out⟩
          case measure => simp [intOf]; omega
end Go.Proofs.YtnbopmlemddakaaDoor
