/-
  The walk of ProofUnset: it returns true.
-/
import Derived.Test.YtabeodibaogcbaaDoorPg
import Derived.Test.YtabeodibaogcbaaDoorMd
import Derived.Test.YtabeodibaogcbaaDoorUn
import Derived.Test.YtabeodibaogcbaaDoorOpn
namespace Go.Proofs.YtabeodibaogcbaaDoor
open Go.RowKit Tier
set_option maxRecDepth 100000 in
set_option maxHeartbeats 8000000 in
theorem proofUnset_walk (A : Option Addr) (l : List Fnc) (cap : Nat) (r : Int) (w : World) (ht : Tab w) (hraw : RawsAt w A l) (hln : (l.length : Int) ≤ 9223372036854775807) (hr : In r) :
    Calls Tryd.prog 9 #[.slice A l.length cap, .int .i64 r] w fun e w' => e = .returned (.bool true) ∧ Below w.heap.size w w' := by
  have HT := Lib.hid ht
  have HR := Lib.hid hraw
  have HRI := Lib.hid (mkP_right l)
  have HPA := Lib.hid (fun (W : World) (h1 : Tab W) (h2 : RawsAt W A l) => program_any A cap l W h1 hln h2)
  clear ht hraw
  go_enter Tryd.func9, Tryd.ntmps9
  go_wp2_with fail
  refine (HPA.out _ HT.out HR.out).mono ?_
  rintro e w1 ⟨⟨A1, cap1, vs, rfl, hpv⟩, hb1⟩
  have HB1 := Lib.hid hb1
  generalize mkP l = p at *
  have hPE := checkP_zero HRI.out
  have hok := prog_ok hPE
  have hl1 := hok.l1
  have hl2 := hok.l2
  have hcl : ∀ f ∈ p, f.code.length ≤ 40 := fun f hf => (hok.fn f hf).c2
  obtain ⟨f, p', rfl⟩ : ∃ f p', p = f :: p' := by
    cases p with
    | nil => simp at hl1
    | cons f p' => exact ⟨f, p', rfl⟩
  have hfo := hok.fn f (by simp)
  obtain ⟨u, vs', rfl⟩ : ∃ u vs', vs = u :: vs' := by
    have := hpv.len
    cases vs with
    | nil => simp at this
    | cons u vs' => exact ⟨u, vs', rfl⟩
  have p1 := hfo.p1
  have p2 := hfo.p2
  have hpk := picked_in r (12 - f.params) (by omega)
  have HPK := Lib.hid (fun (W : World) => picked_any r (12 - f.params) W hr (by omega) (by omega))
  obtain ⟨n, hn⟩ : ∃ n, pickedI r (12 - f.params) = n := ⟨_, rfl⟩
  rw [hn] at hpk HPK
  have HX1 := Lib.hid (unset_at (f' := ⟨f.params, 12, [⟨19, 0, f.params + n, 0, 0⟩]⟩) HRI.out (f.params + n) (by omega) (by omega) rfl rfl rfl)
  have HX2 := Lib.hid (end_at (f' := ⟨f.params, f.regs, [⟨1, 0, 0, 0, 1⟩]⟩) HRI.out rfl rfl rfl)
  obtain ⟨A0, cap0, hA0, hA⟩ := hpv.at.slice
  simp only [Value.slice.injEq, true_and] at hA0
  obtain ⟨g, hAg, hg, -⟩ := hA (by omega)
  obtain ⟨rfl, rfl⟩ := hA0
  subst hAg
  obtain ⟨FA, fcap, rfl, -⟩ := CodeAt.slice ⟨_, hpv.code 0 u f rfl rfl⟩
  have HPV := Lib.hid hpv
  obtain ⟨c0, c1, c2, -, -, -⟩ := hpv.first
  have HCL := Lib.hid hcl
  clear hn hA hpv hb1 hok hPE hfo hcl
  obtain ⟨fp, fr, fc⟩ := f
  dsimp only at *
  simp only [List.length_cons] at *
  generalize hM : p'.length = M at *
  have h12 : IntKind.i64.wrap (12 - fp) = 12 - fp := by rw [IntKind.wrap_i64]; omega
  have h12' : wrap64 (12 - fp) = 12 - fp := by unfold wrap64; omega
  have hfn : wrap64 (fp + n) = fp + n := by unfold wrap64; omega
  go_wp2_with fail
  go_region_held3 (fun w' => w'.cell? ⟨w1.heap.size + 1, 0, none⟩ = some (.int .i64 fp)) (exact cell_block (heap_alloc_new2 w1 _ _) _) (first | (go_at_call 14; go_must ((first | rw [h12] | skip); refine (HPK.out _).mono ?_; rintro e w' ⟨rfl, rfl⟩)))
  rename_i hHeld
  clear hHeld
  go_wp2_with fail
  have hfn2 : IntKind.i64.wrap (fp + n) = fp + n := by rw [IntKind.wrap_i64]; omega
  rw [hfn2]
  obtain ⟨m, hm⟩ : ∃ m, fp + n = m := ⟨_, rfl⟩
  rw [hm] at HX1 hfn
  rw [hm]
  have hm0 : 0 ≤ m := by omega
  have hm1 : m < 12 := by omega
  clear hfn2 hfn hm h12 h12' hpk HPK
  refine (HPA.out _ (HT.out.keeps (by have hb := HB1.out; exact ((hb.alloc hb.size _).alloc (by simp; have := hb.size; omega) _).drew)) (HR.out.keeps (by have hb := HB1.out; exact ((hb.alloc hb.size _).alloc (by simp; have := hb.size; omega) _).drew))).mono ?_
  rintro e w2 ⟨⟨A2, cap2, vs2, rfl, hpv2⟩, hb2⟩
  obtain ⟨u2, vs2', rfl⟩ : ∃ u vs', vs2 = u :: vs' := by
    have := hpv2.len
    cases vs2 with
    | nil => simp at this
    | cons u vs' => exact ⟨u, vs', rfl⟩
  have hbp := hb2.block w1.heap.size (by simp; omega)
  have HBP := Lib.hid (hbp.trans (show _ = some (Obj.cells #[.slice (some ⟨g, 0, none⟩) (M + 1) cap1] 25 (0, 0)) from (Below.heap_alloc _ _ _ (by simp)).trans (heap_alloc_new w1 _)))
  have HB2 := Lib.hid (show Below w1.heap.size w1 w2 from (((Below.refl _ _).alloc (Nat.le_refl _) _).alloc (by simp) _).drew.trans (hb2.mono (by simp; omega)))
  obtain ⟨B2, cap2', hA2, hA⟩ := hpv2.at.slice
  simp only [Value.slice.injEq] at hA2
  obtain ⟨g2, hAg2, hg2, -⟩ := hA (by simp)
  obtain ⟨rfl, -, rfl⟩ := hA2
  subst hAg2
  obtain ⟨FA2, fcap2, rfl, -⟩ := CodeAt.slice ⟨_, hpv2.code 0 u2 _ rfl rfl⟩
  dsimp only at hpv2
  have HPV2 := Lib.hid hpv2
  rw [← hM] at hpv2
  obtain ⟨a0, a1, a2, a3, -, a5⟩ := hpv2.first
  dsimp only at a0 a1 a2
  clear hpv2 hb2 hA hbp
  have hz2 : w1.heap.size < w2.heap.size := (Array.getElem?_eq_some_iff.1 HBP.out).1
  have ha3 : w1.heap.size + 3 ≤ g2 := by have := a3; simp at this; omega
  clear a3
  go_wp2_with fail
  have HBQ := Lib.hid (show Below w1.heap.size w1 ((((w2.setCell ⟨g2, 1, none⟩ (.int .i64 12)).setCell ⟨g2, 2, none⟩ (.slice (some ⟨w2.heap.size + 1, 0, none⟩) 1 1)).alloc (.cells #[.slice (some ⟨g2, 0, none⟩) (M + 1) cap2] 25)).alloc (.cells #[.int .i64 19, .int .i64 0, .int .i64 m, .int .i64 0, .int .i64 0] 32)) by
    have hb := HB2.out
    exact (((hb.setCell (by simp; omega) _).setCell (by simp; omega) _).alloc (by simp; omega) _).alloc (by simp; omega) _)
  have HPQ := Lib.hid (show ProgV ((((w2.setCell ⟨g2, 1, none⟩ (.int .i64 12)).setCell ⟨g2, 2, none⟩ (.slice (some ⟨w2.heap.size + 1, 0, none⟩) 1 1)).alloc (.cells #[.slice (some ⟨g2, 0, none⟩) (M + 1) cap2] 25)).alloc (.cells #[.int .i64 19, .int .i64 0, .int .i64 m, .int .i64 0, .int .i64 0] 32)) (w1.heap.size + 2 + 3) (.slice (some ⟨g2, 0, none⟩) (p'.length + 1) cap2) (⟨fp, 12, [⟨19, 0, m, 0, 0⟩]⟩ :: p') (.slice (some ⟨w2.heap.size + 1, 0, none⟩) 1 1 :: vs2') by
    have h := HPV2.out
    rw [← hM] at h
    refine ProgV.remake (by simpa using h) 12 [⟨19, 0, m, 0, 0⟩] _ ?_ ?_
    · exact ((Below.refl _ _).alloc (by simp) _).alloc (by simp) _
    · refine one_code ?_ (by omega)
      have := heap_alloc_new2 ((w2.setCell ⟨g2, 1, none⟩ (.int .i64 12)).setCell ⟨g2, 2, none⟩ (.slice (some ⟨w2.heap.size + 1, 0, none⟩) 1 1)) (.cells #[.slice (some ⟨g2, 0, none⟩) (M + 1) cap2] 25) (.cells #[.int .i64 19, .int .i64 0, .int .i64 m, .int .i64 0, .int .i64 0] 32)
      simpa [Ins.cells] using this)
  have HQB := Lib.hid (show ((((w2.setCell ⟨g2, 1, none⟩ (.int .i64 12)).setCell ⟨g2, 2, none⟩ (.slice (some ⟨w2.heap.size + 1, 0, none⟩) 1 1)).alloc (.cells #[.slice (some ⟨g2, 0, none⟩) (M + 1) cap2] 25)).alloc (.cells #[.int .i64 19, .int .i64 0, .int .i64 m, .int .i64 0, .int .i64 0] 32)).heap[w2.heap.size]? = some (Obj.cells #[.slice (some ⟨g2, 0, none⟩) (M + 1) cap2] 25 (0, 0)) by
    rw [Below.heap_alloc _ _ _ (by simp)]
    have := heap_alloc_new ((w2.setCell ⟨g2, 1, none⟩ (.int .i64 12)).setCell ⟨g2, 2, none⟩ (.slice (some ⟨w2.heap.size + 1, 0, none⟩) 1 1)) (.cells #[.slice (some ⟨g2, 0, none⟩) (M + 1) cap2] 25)
    simpa using this)
  have HPB := Lib.hid (show ((((w2.setCell ⟨g2, 1, none⟩ (.int .i64 12)).setCell ⟨g2, 2, none⟩ (.slice (some ⟨w2.heap.size + 1, 0, none⟩) 1 1)).alloc (.cells #[.slice (some ⟨g2, 0, none⟩) (M + 1) cap2] 25)).alloc (.cells #[.int .i64 19, .int .i64 0, .int .i64 m, .int .i64 0, .int .i64 0] 32)).heap[w1.heap.size]? = some (Obj.cells #[.slice (some ⟨g, 0, none⟩) (M + 1) cap1] 25 (0, 0)) by
    rw [Below.heap_alloc _ _ _ (by simp; omega), Below.heap_alloc _ _ _ (by simp; omega), Below.heap_setCell _ _ _ _ (by simp; omega), Below.heap_setCell _ _ _ _ (by simp; omega)]
    exact HBP.out)
  have hz3 : w2.heap.size + 1 < ((((w2.setCell ⟨g2, 1, none⟩ (.int .i64 12)).setCell ⟨g2, 2, none⟩ (.slice (some ⟨w2.heap.size + 1, 0, none⟩) 1 1)).alloc (.cells #[.slice (some ⟨g2, 0, none⟩) (M + 1) cap2] 25)).alloc (.cells #[.int .i64 19, .int .i64 0, .int .i64 m, .int .i64 0, .int .i64 0] 32)).heap.size := by simp
  obtain ⟨wq, hwq⟩ : ∃ wq, ((((w2.setCell ⟨g2, 1, none⟩ (.int .i64 12)).setCell ⟨g2, 2, none⟩ (.slice (some ⟨w2.heap.size + 1, 0, none⟩) 1 1)).alloc (.cells #[.slice (some ⟨g2, 0, none⟩) (M + 1) cap2] 25)).alloc (.cells #[.int .i64 19, .int .i64 0, .int .i64 m, .int .i64 0, .int .i64 0] 32)) = wq := ⟨_, rfl⟩
  rw [hwq] at HBQ HPQ HQB HPB hz3
  rw [hwq]
  clear hwq a0 a1 a2 a5 HPV2 HBP
  refine (HPA.out _ (HT.out.keeps (HB1.out.trans (HBQ.out.mono HB1.out.size))) (HR.out.keeps (HB1.out.trans (HBQ.out.mono HB1.out.size)))).mono ?_
  rintro e w3 ⟨⟨A3, cap3, vs3, rfl, hpv3⟩, hb3⟩
  obtain ⟨u3, vs3', rfl⟩ : ∃ u vs', vs3 = u :: vs' := by
    have := hpv3.len
    cases vs3 with
    | nil => simp at this
    | cons u vs' => exact ⟨u, vs', rfl⟩
  have HB3 := Lib.hid hb3
  have HPB3 := Lib.hid ((hb3.block w1.heap.size (by omega)).trans HPB.out)
  have HQB3 := Lib.hid ((hb3.block w2.heap.size (by omega)).trans HQB.out)
  obtain ⟨B3, cap3', hA3, hA⟩ := hpv3.at.slice
  simp only [Value.slice.injEq] at hA3
  obtain ⟨g3, hAg3, hg3, -⟩ := hA (by simp)
  obtain ⟨rfl, -, rfl⟩ := hA3
  subst hAg3
  obtain ⟨FA3, fcap3, rfl, -⟩ := CodeAt.slice ⟨_, hpv3.code 0 u3 _ rfl rfl⟩
  dsimp only at hpv3
  have HPV3 := Lib.hid hpv3
  rw [← hM] at hpv3
  obtain ⟨a0, a1, a2, a3, -, a5⟩ := hpv3.first
  dsimp only at a0 a1 a2
  have hz4 := hb3.size
  clear hpv3 hb3 hA
  have hz5 : w1.heap.size < w3.heap.size := by omega
  have hz6 : w2.heap.size < w3.heap.size := by omega
  have hn1 : w1.heap.size ≠ g3 := by omega
  have hn2 : w2.heap.size ≠ g3 := by omega
  have hn3 : g3 ≠ w1.heap.size := by omega
  have hn4 : g3 ≠ w2.heap.size := by omega
  have x1 := cell_block HPB3.out
  have x2 := cell_block HQB3.out
  have HBWQ := Lib.hid (HB1.out.trans (HBQ.out.mono HB1.out.size))
  have HB4 := Lib.hid (show Below wq.heap.size wq (((w3.setCell ⟨g3, 2, none⟩ (.slice (some ⟨w3.heap.size + 1, 0, none⟩) 1 1)).alloc (.cells #[.slice (some ⟨g3, 0, none⟩) (M + 1) cap3] 25)).alloc (.cells #[.int .i64 1, .int .i64 0, .int .i64 0, .int .i64 0, .int .i64 1] 32)) from ((HB3.out.setCell (by simp; omega) _).alloc (by simp; omega) _).alloc (by simp; omega) _)
  have HBW4 := Lib.hid (HBWQ.out.trans (HB4.out.mono HBWQ.out.size))
  have HB14 := Lib.hid (HBQ.out.trans (HB4.out.mono HBQ.out.size))
  have HPO4 := Lib.hid (show ProgV (((w3.setCell ⟨g3, 2, none⟩ (.slice (some ⟨w3.heap.size + 1, 0, none⟩) 1 1)).alloc (.cells #[.slice (some ⟨g3, 0, none⟩) (M + 1) cap3] 25)).alloc (.cells #[.int .i64 1, .int .i64 0, .int .i64 0, .int .i64 0, .int .i64 1] 32)) (wq.heap.size + 3) (.slice (some ⟨g3, 0, none⟩) (p'.length + 1) cap3) (⟨fp, fr, [⟨1, 0, 0, 0, 1⟩]⟩ :: p') (.slice (some ⟨w3.heap.size + 1, 0, none⟩) 1 1 :: vs3') by
    have h := HPV3.out
    rw [← hM] at h
    refine ProgV.recode h [⟨1, 0, 0, 0, 1⟩] _ ?_ ?_
    · exact ((Below.refl _ _).alloc (by simp) _).alloc (by simp) _
    · refine one_code ?_ (by omega)
      have := heap_alloc_new2 (w3.setCell ⟨g3, 2, none⟩ (.slice (some ⟨w3.heap.size + 1, 0, none⟩) 1 1)) (.cells #[.slice (some ⟨g3, 0, none⟩) (M + 1) cap3] 25) (.cells #[.int .i64 1, .int .i64 0, .int .i64 0, .int .i64 0, .int .i64 1] 32)
      simpa [Ins.cells] using this)
  have HOB4 := Lib.hid (show (((w3.setCell ⟨g3, 2, none⟩ (.slice (some ⟨w3.heap.size + 1, 0, none⟩) 1 1)).alloc (.cells #[.slice (some ⟨g3, 0, none⟩) (M + 1) cap3] 25)).alloc (.cells #[.int .i64 1, .int .i64 0, .int .i64 0, .int .i64 0, .int .i64 1] 32)).heap[w3.heap.size]? = some (Obj.cells #[.slice (some ⟨g3, 0, none⟩) (M + 1) cap3] 25 (0, 0)) by
    rw [Below.heap_alloc _ _ _ (by simp)]
    have := heap_alloc_new (w3.setCell ⟨g3, 2, none⟩ (.slice (some ⟨w3.heap.size + 1, 0, none⟩) 1 1)) (.cells #[.slice (some ⟨g3, 0, none⟩) (M + 1) cap3] 25)
    simpa using this)
  have HQB4 := Lib.hid (show (((w3.setCell ⟨g3, 2, none⟩ (.slice (some ⟨w3.heap.size + 1, 0, none⟩) 1 1)).alloc (.cells #[.slice (some ⟨g3, 0, none⟩) (M + 1) cap3] 25)).alloc (.cells #[.int .i64 1, .int .i64 0, .int .i64 0, .int .i64 0, .int .i64 1] 32)).heap[w2.heap.size]? = some (Obj.cells #[.slice (some ⟨g2, 0, none⟩) (M + 1) cap2] 25 (0, 0)) by
    rw [Below.heap_alloc _ _ _ (by simp; omega), Below.heap_alloc _ _ _ (by simp; omega), Below.heap_setCell _ _ _ _ (by simp; omega)]
    exact HQB3.out)
  have HC1 := Lib.hid (show ∀ W, Tab W → ProgAt W (.slice (some ⟨g, 0, none⟩) (M + 1) cap1) (⟨fp, fr, fc⟩ :: p') → Calls Tryd.prog 22 #[.agg #[.slice (some ⟨g, 0, none⟩) (M + 1) cap1]] W (fun e w' => e = .returned (.int .i64 0) ∧ Below W.heap.size W w') from fun W h1 h2 => by
    have := pcheck_any (⟨fp, fr, fc⟩ :: p') (some ⟨g, 0, none⟩) cap1 W h1 (by simpa [hM] using h2) (by simp; omega) (fun f hf => by have := HCL.out f hf; omega)
    rw [HRI.out] at this
    simpa [hM] using this)
  have HC2 := Lib.hid (show ∀ W, Tab W → ProgAt W (.slice (some ⟨g2, 0, none⟩) (p'.length + 1) cap2) (⟨fp, 12, [⟨19, 0, m, 0, 0⟩]⟩ :: p') → Calls Tryd.prog 22 #[.agg #[.slice (some ⟨g2, 0, none⟩) (M + 1) cap2]] W (fun e w' => e = .returned (.int .i64 6) ∧ Below W.heap.size W w') from fun W h1 h2 => by
    have := pcheck_any (⟨fp, 12, [⟨19, 0, m, 0, 0⟩]⟩ :: p') (some ⟨g2, 0, none⟩) cap2 W h1 (by simpa using h2) (by simp; omega) (fun f hf => by
      rcases List.mem_cons.1 hf with rfl | hf
      · simp
      · have := HCL.out f (by simp [hf]); omega)
    rw [HX1.out] at this
    simpa [hM] using this)
  have HC3 := Lib.hid (show ∀ W, Tab W → ProgAt W (.slice (some ⟨g3, 0, none⟩) (p'.length + 1) cap3) (⟨fp, fr, [⟨1, 0, 0, 0, 1⟩]⟩ :: p') → Calls Tryd.prog 22 #[.agg #[.slice (some ⟨g3, 0, none⟩) (M + 1) cap3]] W (fun e w' => e = .returned (.int .i64 7) ∧ Below W.heap.size W w') from fun W h1 h2 => by
    have := pcheck_any (⟨fp, fr, [⟨1, 0, 0, 0, 1⟩]⟩ :: p') (some ⟨g3, 0, none⟩) cap3 W h1 (by simpa using h2) (by simp; omega) (fun f hf => by
      rcases List.mem_cons.1 hf with rfl | hf
      · simp
      · have := HCL.out f (by simp [hf]); omega)
    rw [HX2.out] at this
    simpa [hM] using this)
  go_wp2_with (first | (go_at_call 22; (refine (HC1.out _ (HT.out.keeps HBW4.out) (HPV.out.at.keeps HB14.out)).mono ?_; rintro e w5 ⟨rfl, hb5⟩; clear HC1; have hq5 := (hb5.block w2.heap.size (by simp; omega)).trans HQB4.out; have y5 := cell_block hq5; have z5 : w2.heap.size < w5.heap.size := (Array.getElem?_eq_some_iff.1 hq5).1; have ho5 := (hb5.block w3.heap.size (by simp; omega)).trans HOB4.out; have HO5 := Lib.hid ho5; have HB5 := Lib.hid (HB4.out.trans (hb5.mono HB4.out.size)); have HB5' := Lib.hid hb5; clear hb5 hq5 ho5)) | (go_at_call 22; (refine (HC2.out _ (HT.out.keeps (HBWQ.out.trans (HB5.out.mono HBWQ.out.size))) (HPQ.out.at.keeps HB5.out)).mono ?_; rintro e w6 ⟨rfl, hb6⟩; clear HC2; have hlt : w3.heap.size < w5.heap.size := (Array.getElem?_eq_some_iff.1 HO5.out).1; have ho6 := (hb6.block w3.heap.size hlt).trans HO5.out; have y6 := cell_block ho6; have z6 : w3.heap.size < w6.heap.size := (Array.getElem?_eq_some_iff.1 ho6).1; have HB6 := Lib.hid (HB5.out.trans (hb6.mono HB5.out.size)); have HB6' := Lib.hid (HB5'.out.trans (hb6.mono HB5'.out.size)); clear hb6 ho6)) | (go_at_call 22; (refine (HC3.out _ (HT.out.keeps (HBWQ.out.trans (HB6.out.mono HBWQ.out.size))) (HPO4.out.at.keeps HB6'.out)).mono ?_; rintro e w7 ⟨rfl, hb7⟩; clear HC3; have HB7 := Lib.hid (HB6.out.trans (hb7.mono HB6.out.size)); clear hb7)))
  go_ret
  exact ⟨rfl, HBWQ.out.trans (HB7.out.mono HBWQ.out.size)⟩
end Go.Proofs.YtabeodibaogcbaaDoor
