/-
  The contract of shaped, which makes a program out of raw numbers.
-/
import Derived.Test.YtfngkpbbimibaaaDoorShS
namespace Go.Proofs.YtfngkpbbimibaaaDoor
open Go.RowKit Tier
set_option maxRecDepth 100000 in
set_option maxHeartbeats 8000000 in
theorem shaped_any (A : Option Addr) (cap : Nat) (l : List Fnc) (w : World) (hln : (l.length : Int) ≤ 9223372036854775807) (hraw : RawsAt w A l) :
    Calls Tryd.prog 8 #[.slice A l.length cap] w fun e w' =>
      (∃ A' cap' vs, e = .returned (.agg #[.slice A' (mkProg l false).length cap']) ∧ ProgV w' (w.heap.size + 2) (.slice A' (mkProg l false).length cap') (mkProg l false) vs) ∧ Below w.heap.size w w' := by
  obtain ⟨i0, hi, hz0, hz1, hz2⟩ := info_parts infoFn
  have HMP := Lib.hid (mkProg_length l false)
  obtain ⟨mm, m1, m2, m3, m4⟩ : ∃ mm : Nat, (if (l.length : Int) < 1 then 1 else (l.length : Int)) = mm ∧ (if 1 < (l.length : Int) then (l.length : Int) else 1) = mm ∧ 1 ≤ mm ∧ mm = max l.length 1 := ⟨max l.length 1, by split <;> omega, by split <;> omega, by omega, rfl⟩
  obtain ⟨nn, n1, n2, n3, n4, n5⟩ : ∃ nn : Nat, (if (mm : Int) < 4 then (mm : Int) else 4) = nn ∧ (if (4 : Int) < mm then (4 : Int) else mm) = nn ∧ 1 ≤ nn ∧ nn ≤ 4 ∧ funcsN l = nn := ⟨min mm 4, by split <;> omega, by split <;> omega, by omega, by omega, by rw [funcsN, m4]⟩
  have n6 : l.length = 0 → nn = 1 := fun h => by rw [← n5, funcsN, h]; rfl
  have n7 : l.length ≠ 0 → nn ≤ l.length := fun h => by rw [← n5, funcsN]; omega
  have HNN := Lib.hid n5
  have HN6 := Lib.hid n6
  have HN7 := Lib.hid n7
  clear n5 n6 n7 m4
  generalize hLN : l.length = ln at *
  have HLN := Lib.hid hLN
  have HRAW := Lib.hid hraw
  clear hLN hraw
  go_enter Tryd.func8, Tryd.ntmps8
  go_wp2_with fail
  go_loopw [5] (fun v wr => ∃ (i : Nat) (A1 : Option Addr) (cap1 : Nat) (ps : List Fnc) (vs : List Value), i ≤ nn ∧ v = .int .i64 (i : Nat) ∧ ps = (mkProg l false).take i ∧ SP w wr A1 cap1 i ps vs) (fun v _ => nn - (intOf v).toNat)
  case atStart => exact ⟨0, none, 0, [], [], by omega, rfl, rfl, SP.start w⟩
  case round =>
    obtain ⟨i, A1, cap1, ps, vs, hin, rfl, hps, hS⟩ := hrel
    have HPS := Lib.hid hps
    have HS := Lib.hid hS
    have q0 := cell_block hS.blk0
    have f0 := frozen_block hS.blk0
    have q1 := cell_block hS.blk1
    have f1 := frozen_block hS.blk1
    have z1 := hS.size
    clear hps hS
    by_cases hiN : i = nn
    · subst hiN
      have z0 : w.heap.size < wr.heap.size := by omega
      have hb := HS.out.below
      have HPF := Lib.hid (show ps = mkProg l false from HPS.out.trans (List.take_of_length_le (by rw [HMP.out, HNN.out]; exact Nat.le_refl _)))
      go_wp2_with fail
      refine bodyPost_ret (v := .agg #[.slice A1 i cap1]) (by simp [results, Tryd.results8, go_sem, q0]) rfl ⟨⟨A1, cap1, vs, ?_, ?_⟩, ?_⟩
      · rw [← HPF.out, HS.out.len]
      · rw [← HPF.out, HS.out.len]
        exact HS.out.prog.setCell (by simp) _
      · repeat (first | exact hb | exact Below.refl _ _ | apply Below.drew | apply below_drewN | refine Below.alloc ?_ (by first | omega | (simp; done) | (simp; omega)) _ | refine Below.setCell ?_ (by first | omega | (simp; done) | (simp; omega)) _)
    · have hiN' : (i : Int) < nn := by omega
      have q1z : wr.cell? ⟨w.heap.size + 1, 0, none⟩ = some (.slice A1 i cap1) := by rw [q1]; rfl
      clear hiN q0 f0
      by_cases hil : i < ln
      · obtain ⟨⟨fp, fr, fc⟩, hx⟩ : ∃ x, l[i]? = some x := ⟨l[i]'(by rw [HLN.out]; exact hil), List.getElem?_eq_getElem _⟩
        obtain ⟨rb, ro, hRA, hrb, hcell⟩ := HRAW.out (by rw [HLN.out]; omega)
        obtain ⟨g0, g1, g2, CA, ccap, g3, d0, d1, d2⟩ := hcell i _ hx
        have HRO := Lib.hid (show rawOf l i = ⟨fp, fr, fc⟩ by rw [rawOf, hx]; rfl)
        dsimp only at *
        have HFP := Lib.hid (And.intro g0 (And.intro g1 g2))
        have HRW := Lib.hid g3
        rw [← HS.out.below.cell (p := ⟨rb, _, none⟩) hrb] at d0 d1 d2
        have hrbw : rb < wr.heap.size := Nat.lt_of_lt_of_le hrb HS.out.below.size
        have hi0 : (0 : Int) ≤ (i : Int) := by omega
        have hi1 : (i : Int) < (ln : Int) := by omega
        obtain ⟨F, hF⟩ : ∃ F, mkFn fp fr fc (nn : Int) false = F := ⟨_, rfl⟩
        have HF := Lib.hid hF
        clear hcell hx g0 g1 g2 g3 hF
        subst hRA
        go_wp2_with (first | (go_at_call 24; go_must (refine (fn_false fp fr CA fc ccap (nn : Int) _ HFP.out.1 HFP.out.2.1 (by omega) (by omega) HFP.out.2.2 (by exact HRW.out.keeps (HS.out.below.alloc HS.out.below.size _))).mono ?_; rintro e wx ⟨⟨A2, cap2, he, hox⟩, hbx⟩; rw [HF.out] at he hox; subst he; have hbx' : Below wr.heap.size wr wx := ((Below.refl _ _).alloc (Nat.le_refl _) _).trans (hbx.mono (by simp)); have HSx := Lib.hid (HS.out.keeps hbx'); have HOX := Lib.hid (own_base (B' := w.heap.size + 2) hox (by have := z1; simp; omega)); have zx : w.heap.size + 1 < wx.heap.size := HSx.out.size; have x1 := cell_block HSx.out.blk1; have g1 := frozen_block HSx.out.blk1; clear hox hbx hbx')) | (at_builtin; go_must (refine wpList_append_own _ rfl _ _ 23 rfl (w.heap.size + 2) 45 i0 _ 3 40 Tryd.underlying23 hi hz0 hz1 hz2 rfl (by decide) (.slice A1 i cap1) i (fnCells ps vs) rfl (own_below HSx.out.own' (((Below.refl _ _).alloc (Nat.le_refl _) _).alloc (by simp) _)) ⟨wx.heap.size + 1, 0, none⟩ 1 1 [.int .i64 F.params, .int .i64 F.regs, .slice A2 F.code.length cap2] rfl rfl (World.news_of_block (cs := #[.int .i64 F.params, .int .i64 F.regs, .slice A2 F.code.length cap2]) (t := 45) (fr := (0, 0)) (heap_alloc_new2 _ _ _)) (by simp [Value.oneCell']) (by unfold maxLen; omega) (by omega) (by simp; omega) ?_); intro v3 w3 hown3 hg3 _; obtain ⟨A3, cap3, hv3, -⟩ := own_slice hown3; rw [hv3] at hown3; rw [hv3]; have HSy := Lib.hid (HSx.out.keeps ((Below.refl _ _).alloc (Nat.le_refl _) (.cells #[.int .i64 F.params, .int .i64 F.regs, .slice A2 F.code.length cap2] 45))); have mid := HSy.out.mid _ hg3; have HS1 := Lib.hid (HSy.out.app F (.slice A2 F.code.length cap2) _ (own_below HOX.out ((Below.refl _ _).alloc (Nat.le_refl _) _)) hg3 hown3); have u2 := cell_block (mid.2.trans HSy.out.blk1); have g2 := frozen_block (mid.2.trans HSy.out.blk1); have y2 : w.heap.size + 1 < w3.heap.size := (by have := HS1.out.size; simpa [World.setCell] using this); clear mid hown3 hg3))
        go_roundw
        case rel => exact ⟨i + 1, A3, cap3, ps ++ [F], vs ++ [.slice A2 F.code.length cap2], by omega, by go_num, by rw [HPS.out, mkProg_take l false i (by rw [HNN.out]; omega), HRO.out, HNN.out, ← HF.out], HS1.out⟩
        case measure => simp [intOf]; omega

      · obtain ⟨F, hF⟩ : ∃ F, mkFn 0 0 [] (nn : Int) false = F := ⟨_, rfl⟩
        have HF := Lib.hid hF
        have HRO := Lib.hid (show rawOf l i = ⟨0, 0, []⟩ by rw [rawOf, List.getElem?_eq_none (by rw [HLN.out]; omega)]; rfl)
        have hl0 : ¬ (i : Int) < (ln : Int) := by omega
        obtain ⟨fp, hfp⟩ : ∃ fp : Int, fp = 0 := ⟨_, rfl⟩
        clear hF
        go_wp2_with (first | (go_at_call 24; go_must (refine (fn_false 0 0 none [] 0 (nn : Int) _ (by unfold In; omega) (by unfold In; omega) (by omega) (by omega) (by simp) (fun h => by simp at h)).mono ?_; rintro e wx ⟨⟨A2, cap2, he, hox⟩, hbx⟩; rw [HF.out] at he hox; subst he; have hbx' : Below wr.heap.size wr wx := ((Below.refl _ _).alloc (Nat.le_refl _) _).trans (hbx.mono (by simp)); have HSx := Lib.hid (HS.out.keeps hbx'); have HOX := Lib.hid (own_base (B' := w.heap.size + 2) hox (by have := z1; simp; omega)); have zx : w.heap.size + 1 < wx.heap.size := HSx.out.size; have x1 := cell_block HSx.out.blk1; have g1 := frozen_block HSx.out.blk1; clear hox hbx hbx')) | (at_builtin; go_must (refine wpList_append_own _ rfl _ _ 23 rfl (w.heap.size + 2) 45 i0 _ 3 40 Tryd.underlying23 hi hz0 hz1 hz2 rfl (by decide) (.slice A1 i cap1) i (fnCells ps vs) rfl (own_below HSx.out.own' (((Below.refl _ _).alloc (Nat.le_refl _) _).alloc (by simp) _)) ⟨wx.heap.size + 1, 0, none⟩ 1 1 [.int .i64 F.params, .int .i64 F.regs, .slice A2 F.code.length cap2] rfl rfl (World.news_of_block (cs := #[.int .i64 F.params, .int .i64 F.regs, .slice A2 F.code.length cap2]) (t := 45) (fr := (0, 0)) (heap_alloc_new2 _ _ _)) (by simp [Value.oneCell']) (by unfold maxLen; omega) (by omega) (by simp; omega) ?_); intro v3 w3 hown3 hg3 _; obtain ⟨A3, cap3, hv3, -⟩ := own_slice hown3; rw [hv3] at hown3; rw [hv3]; have HSy := Lib.hid (HSx.out.keeps ((Below.refl _ _).alloc (Nat.le_refl _) (.cells #[.int .i64 F.params, .int .i64 F.regs, .slice A2 F.code.length cap2] 45))); have mid := HSy.out.mid _ hg3; have HS1 := Lib.hid (HSy.out.app F (.slice A2 F.code.length cap2) _ (own_below HOX.out ((Below.refl _ _).alloc (Nat.le_refl _) _)) hg3 hown3); have u2 := cell_block (mid.2.trans HSy.out.blk1); have g2 := frozen_block (mid.2.trans HSy.out.blk1); have y2 : w.heap.size + 1 < w3.heap.size := (by have := HS1.out.size; simpa [World.setCell] using this); clear mid hown3 hg3))
        go_roundw
        case rel => exact ⟨i + 1, A3, cap3, ps ++ [F], vs ++ [.slice A2 F.code.length cap2], by omega, by go_num, by rw [HPS.out, mkProg_take l false i (by rw [HNN.out]; omega), HRO.out, HNN.out, ← HF.out], HS1.out⟩
        case measure => simp [intOf]; omega

end Go.Proofs.YtfngkpbbimibaaaDoor
