/-
  The contract of slices.Sort at two numbers, and of flow.next.
-/
import Derived.Test.YtfdppmjoinodgaaDoorSu3
import Derived.Test.YtfdppmjoinodgaaDoorStB
import Derived.Deep.QuietTactic
import Derived.BigQuiet
namespace Tier
open Go Go.RowKit
/-- Where an instruction leads, rising, each place once. -/
def nextS (x : Ins) (pc : Nat) : List Nat :=
  if x.op = 19 then [] else if x.op = 15 then [x.imm.toNat] else if x.op = 16 then (if x.imm.toNat = pc + 1 then [pc + 1] else if pc + 1 < x.imm.toNat then [pc + 1, x.imm.toNat] else [x.imm.toNat, pc + 1]) else [pc + 1]
theorem nextS_mem (x : Ins) (pc n : Nat) : n ∈ nextS x pc ↔ n ∈ nextL x pc := by
  unfold nextS nextL
  by_cases h1 : x.op = 19
  · rw [if_pos h1, if_pos h1]
  rw [if_neg h1, if_neg h1]
  by_cases h2 : x.op = 15
  · rw [if_pos h2, if_pos h2]
  rw [if_neg h2, if_neg h2]
  by_cases h3 : x.op = 16
  · rw [if_pos h3, if_pos h3]
    split
    · next h => simp [h]
    · split
      · rfl
      · simp [or_comm]
  · rw [if_neg h3, if_neg h3]
theorem nextS_length (x : Ins) (pc : Nat) : (nextS x pc).length ≤ 2 := by
  unfold nextS
  repeat' split
  all_goals simp
end Tier
namespace Go.Proofs.YtfdppmjoinodgaaDoor
open Go.RowKit Tier
theorem less_any (a b : Int) (w : World) : Calls Tryd.prog 79 #[.int .i64 a, .int .i64 b] w fun e w' => e = .returned (.bool (decide (a < b))) ∧ w' = w := by
  go_enter Tryd.func79, Tryd.ntmps79
  go_wp2
  all_goals (go_ret; refine ⟨?_, rfl⟩; simp)
def Srt (b : Nat) (lo hi : Int) (w : World) (e : Ending) (w' : World) : Prop := e = .returned (.tuple #[]) ∧ w'.heap[b]? = some (.cells #[.int .i64 lo, .int .i64 hi] 3 (0, 0)) ∧ Below b w w'
set_option maxRecDepth 100000 in
set_option maxHeartbeats 4000000 in
/-- Two numbers, sorted; the second is below the first. -/
theorem insort_swap (b : Nat) (x y : Int) (w : World) (hw : w.heap[b]? = some (.cells #[.int .i64 x, .int .i64 y] 3 (0, 0))) (h : y < x) :
    Calls Tryd.prog 103 #[.slice (some ⟨b, 0, none⟩) 2 2, .int .i64 0, .int .i64 2] w (Srt b y x w) := by
  have HW := Lib.hid hw
  have hl : decide (y < x) = true := by simpa using h
  clear hw h
  go_enter Tryd.func103, Tryd.ntmps103
  go_wp2_with fail
  go_loopw [6] (fun v wr => (v = .int .i64 1 ∧ wr = w) ∨ (v = .int .i64 2 ∧ Srt b y x w (.returned (.tuple #[])) wr)) (fun v _ => 2 - (intOf v).toNat)
  case atStart => exact .inl ⟨rfl, rfl⟩
  case round =>
    rcases hrel with ⟨rfl, rfl⟩ | ⟨rfl, hS⟩
    · go_wp2_with fail
      go_loopw [7] (fun v wr' => (v = .int .i64 1 ∧ wr' = wr) ∨ (v = .int .i64 0 ∧ Srt b y x wr (.returned (.tuple #[])) wr')) (fun v _ => (intOf v).toNat)
      case atStart => exact .inl ⟨rfl, rfl⟩
      case round =>
        rcases hrel with ⟨rfl, rfl⟩ | ⟨rfl, hS⟩
        · have c0 := (cell_block HW.out 0).trans rfl
          have c1 := (cell_block HW.out 1).trans rfl
          have f0 := frozen_block HW.out 0
          have f1 := frozen_block HW.out 1
          have hz := block_lt HW.out
          go_wp2_with fail
          go_quiet ((go_at_call 79; exact Calls.quiet_of_same (less_any _ _ _)))
          clear c0 c1 f0 f1 hz
          have HD := Lib.hid (below_drewN (Below.refl b wr) nq)
          have HWN : Hid ((wr.drewN nq).heap[b]? = some (.cells #[.int .i64 x, .int .i64 y] 3 (0, 0))) := Lib.hid HW.out
          obtain ⟨wd, hwd⟩ : ∃ W, wr.drewN nq = W := ⟨_, rfl⟩
          rw [hwd] at HD HWN
          rw [hwd]
          clear hwd
          have c0 := (cell_block HWN.out 0).trans rfl
          have c1 := (cell_block HWN.out 1).trans rfl
          have f0 := frozen_block HWN.out 0
          have f1 := frozen_block HWN.out 1
          have hz := block_lt HWN.out
          go_wp2_with fail
          refine wp_region_held_drew (S := fun w' => True) (by kernel_rfl) trivial (fun hHeld => ?_)
          refine wpAnyH_take (i := 0) (v := .slice (some ⟨b, 0, none⟩) 2 2) rfl (by kernel_rfl) (by kernel_rfl) (by kernel_rfl) (fun _ _ _ h => h) (Or.inl ⟨by rfl, ?_⟩) hHeld ?_
          · intro w hSw
            simp only [List.getElem_toArray, List.getElem_cons_zero]
            go_simp
          simp only [Act.put, List.getElem_toArray, List.getElem_cons_zero, List.setIfInBounds_toArray, List.set_cons_zero, List.set_cons_succ]
          refine wpAnyH_take (i := 1) (v := .int .i64 1) rfl (by kernel_rfl) (by kernel_rfl) (by kernel_rfl) (fun _ _ _ h => h) (Or.inl ⟨by rfl, ?_⟩) hHeld ?_
          · intro w hSw
            simp only [List.getElem_toArray, List.getElem_cons_zero, List.getElem_cons_succ]
            go_simp
          simp only [Act.put, List.getElem_toArray, List.getElem_cons_zero, List.getElem_cons_succ, List.setIfInBounds_toArray, List.set_cons_zero, List.set_cons_succ]
          refine wpAnyH_take (i := 2) (v := .slice (some ⟨b, 0, none⟩) 2 2) rfl (by kernel_rfl) (by kernel_rfl) (by kernel_rfl) (fun _ _ _ h => h) (Or.inl ⟨by rfl, ?_⟩) hHeld ?_
          · intro w hSw
            simp only [List.getElem_toArray, List.getElem_cons_zero, List.getElem_cons_succ]
            go_simp
          simp only [Act.put, List.getElem_toArray, List.getElem_cons_zero, List.getElem_cons_succ, List.setIfInBounds_toArray, List.set_cons_zero, List.set_cons_succ]
          refine wpAnyH_take (i := 3) (v := .int .i64 1) rfl (by kernel_rfl) (by kernel_rfl) (by kernel_rfl) (fun _ _ _ h => h) (Or.inl ⟨by rfl, ?_⟩) hHeld ?_
          · intro w hSw
            simp only [List.getElem_toArray, List.getElem_cons_zero, List.getElem_cons_succ]
            go_simp
          simp only [Act.put, List.getElem_toArray, List.getElem_cons_zero, List.getElem_cons_succ, List.setIfInBounds_toArray, List.set_cons_zero, List.set_cons_succ]
          refine wpAnyH_take (i := 4) (v := .int .i64 0) rfl (by kernel_rfl) (by kernel_rfl) (by kernel_rfl) (fun _ _ _ h => h) (Or.inl ⟨by rfl, ?_⟩) hHeld ?_
          · intro w hSw
            simp only [List.getElem_toArray, List.getElem_cons_zero, List.getElem_cons_succ]
            (go_simp; decide)
          simp only [Act.put, List.getElem_toArray, List.getElem_cons_zero, List.getElem_cons_succ, List.setIfInBounds_toArray, List.set_cons_zero, List.set_cons_succ]
          refine wpAnyH_take (i := 5) (v := .slice (some ⟨b, 0, none⟩) 2 2) rfl (by kernel_rfl) (by kernel_rfl) (by kernel_rfl) (fun _ _ _ h => h) (Or.inl ⟨by rfl, ?_⟩) hHeld ?_
          · intro w hSw
            simp only [List.getElem_toArray, List.getElem_cons_zero, List.getElem_cons_succ]
            go_simp
          simp only [Act.put, List.getElem_toArray, List.getElem_cons_zero, List.getElem_cons_succ, List.setIfInBounds_toArray, List.set_cons_zero, List.set_cons_succ]
          refine wpAnyH_take (i := 6) (v := .int .i64 1) rfl (by kernel_rfl) (by kernel_rfl) (by kernel_rfl) (fun _ _ _ h => h) (Or.inl ⟨by rfl, ?_⟩) hHeld ?_
          · intro w hSw
            simp only [List.getElem_toArray, List.getElem_cons_zero, List.getElem_cons_succ]
            go_simp
          simp only [Act.put, List.getElem_toArray, List.getElem_cons_zero, List.getElem_cons_succ, List.setIfInBounds_toArray, List.set_cons_zero, List.set_cons_succ]
          refine wpAnyH_take (i := 7) (v := .int .i64 0) rfl (by kernel_rfl) (by kernel_rfl) (by kernel_rfl) (fun _ _ _ h => h) (Or.inl ⟨by rfl, ?_⟩) hHeld ?_
          · intro w hSw
            simp only [List.getElem_toArray, List.getElem_cons_zero, List.getElem_cons_succ]
            (go_simp; decide)
          simp only [Act.put, List.getElem_toArray, List.getElem_cons_zero, List.getElem_cons_succ, List.setIfInBounds_toArray, List.set_cons_zero, List.set_cons_succ]
          refine wpAnyH_take (i := 8) (v := .pointer (some ⟨b, 0, none⟩)) rfl (by kernel_rfl) (by kernel_rfl) (by kernel_rfl) (fun _ _ _ h => h) (Or.inl ⟨by rfl, ?_⟩) hHeld ?_
          · intro w hSw
            simp only [List.getElem_toArray, List.getElem_cons_zero, List.getElem_cons_succ]
            go_simp
          simp only [Act.put, List.getElem_toArray, List.getElem_cons_zero, List.getElem_cons_succ, List.setIfInBounds_toArray, List.set_cons_zero, List.set_cons_succ]
          refine wpAnyH_take (i := 10) (v := .slice (some ⟨b, 0, none⟩) 2 2) rfl (by kernel_rfl) (by kernel_rfl) (by kernel_rfl) (fun _ _ _ h => h) (Or.inl ⟨by rfl, ?_⟩) hHeld ?_
          · intro w hSw
            simp only [List.getElem_toArray, List.getElem_cons_zero, List.getElem_cons_succ]
            go_simp
          simp only [Act.put, List.getElem_toArray, List.getElem_cons_zero, List.getElem_cons_succ, List.setIfInBounds_toArray, List.set_cons_zero, List.set_cons_succ]
          refine wpAnyH_take (i := 11) (v := .int .i64 1) rfl (by kernel_rfl) (by kernel_rfl) (by kernel_rfl) (fun _ _ _ h => h) (Or.inl ⟨by rfl, ?_⟩) hHeld ?_
          · intro w hSw
            simp only [List.getElem_toArray, List.getElem_cons_zero, List.getElem_cons_succ]
            go_simp
          simp only [Act.put, List.getElem_toArray, List.getElem_cons_zero, List.getElem_cons_succ, List.setIfInBounds_toArray, List.set_cons_zero, List.set_cons_succ]
          refine wpAnyH_take (i := 12) (v := .pointer (some ⟨b, 1, none⟩)) rfl (by kernel_rfl) (by kernel_rfl) (by kernel_rfl) (fun _ _ _ h => h) (Or.inl ⟨by rfl, ?_⟩) hHeld ?_
          · intro w hSw
            simp only [List.getElem_toArray, List.getElem_cons_zero, List.getElem_cons_succ]
            go_simp
          simp only [Act.put, List.getElem_toArray, List.getElem_cons_zero, List.getElem_cons_succ, List.setIfInBounds_toArray, List.set_cons_zero, List.set_cons_succ]
          refine wpAnyH_ready (rs := [9, 13]) (by kernel_rfl) (by simp) ?_
          refine AllReadyH.cons rfl (fun K hK => ?_) (AllReadyH.cons rfl (fun K hK => ?_) (AllReadyH.nil))
          · simp only [List.getElem_toArray, List.getElem_cons_zero, List.getElem_cons_succ]
            go_simp
            refine hK.out _ _ hHeld (fun hHeld => ?_)
            clear hK K
            refine wpAnyH_ready (rs := [13]) (by kernel_rfl) (by simp) ?_
            refine AllReadyH.cons rfl (fun K hK => ?_) AllReadyH.nil
            simp only [List.getElem_toArray, List.getElem_cons_zero, List.getElem_cons_succ]
            go_simp
            refine hK.out _ _ hHeld (fun hHeld => ?_)
            clear hK K
            refine wpAnyH_take (i := 14) (v := .pointer (some ⟨b, 1, none⟩)) rfl (by kernel_rfl) (by kernel_rfl) (by kernel_rfl) (fun _ _ _ h => h) (Or.inl ⟨by rfl, ?_⟩) hHeld ?_
            · intro w hSw
              simp only [List.getElem_toArray, List.getElem_cons_zero, List.getElem_cons_succ]
              go_simp
            simp only [Act.put, List.getElem_toArray, List.getElem_cons_zero, List.getElem_cons_succ, List.setIfInBounds_toArray, List.set_cons_zero, List.set_cons_succ]
            refine wpAnyH_ready (rs := [15]) (by kernel_rfl) (by simp) ?_
            refine AllReadyH.cons rfl (fun K hK => ?_) AllReadyH.nil
            simp only [List.getElem_toArray, List.getElem_cons_zero, List.getElem_cons_succ]
            go_simp
            refine hK.out _ _ trivial (fun hHeld => ?_)
            clear hK K
            refine wpAnyH_take (i := 16) (v := .pointer (some ⟨b, 0, none⟩)) rfl (by kernel_rfl) (by kernel_rfl) (by kernel_rfl) (fun _ _ _ h => h) (Or.inl ⟨by rfl, ?_⟩) hHeld ?_
            · intro w hSw
              simp only [List.getElem_toArray, List.getElem_cons_zero, List.getElem_cons_succ]
              go_simp
            simp only [Act.put, List.getElem_toArray, List.getElem_cons_zero, List.getElem_cons_succ, List.setIfInBounds_toArray, List.set_cons_zero, List.set_cons_succ]
            refine wpAnyH_ready (rs := [17]) (by kernel_rfl) (by simp) ?_
            refine AllReadyH.cons rfl (fun K hK => ?_) AllReadyH.nil
            simp only [List.getElem_toArray, List.getElem_cons_zero, List.getElem_cons_succ]
            go_simp
            refine hK.out _ _ trivial (fun hHeld => ?_)
            clear hK K
            clear hHeld
            refine wpAnyH_done (by kernel_rfl) ?_ _
            go_wp2_with fail
            go_roundw
            case rel =>
              refine .inr ⟨rfl, rfl, ?_, ?_⟩
              · simp [World.setCell, Array.getElem?_modify, HWN.out, World.drew]
              · have hb := HD.out
                repeat (first | exact hb | exact Below.refl _ _ | apply Below.drew | apply below_drewN | refine Below.alloc ?_ (by first | omega | (simp; done) | (simp; omega)) _ | refine Below.setCell ?_ (by first | omega | (simp; done) | (simp; omega)) _)
            case measure => simp [intOf]
          · simp only [List.getElem_toArray, List.getElem_cons_zero, List.getElem_cons_succ]
            go_simp
            refine hK.out _ _ hHeld (fun hHeld => ?_)
            clear hK K
            refine wpAnyH_ready (rs := [9]) (by kernel_rfl) (by simp) ?_
            refine AllReadyH.cons rfl (fun K hK => ?_) AllReadyH.nil
            simp only [List.getElem_toArray, List.getElem_cons_zero, List.getElem_cons_succ]
            go_simp
            refine hK.out _ _ hHeld (fun hHeld => ?_)
            clear hK K
            refine wpAnyH_take (i := 14) (v := .pointer (some ⟨b, 1, none⟩)) rfl (by kernel_rfl) (by kernel_rfl) (by kernel_rfl) (fun _ _ _ h => h) (Or.inl ⟨by rfl, ?_⟩) hHeld ?_
            · intro w hSw
              simp only [List.getElem_toArray, List.getElem_cons_zero, List.getElem_cons_succ]
              go_simp
            simp only [Act.put, List.getElem_toArray, List.getElem_cons_zero, List.getElem_cons_succ, List.setIfInBounds_toArray, List.set_cons_zero, List.set_cons_succ]
            refine wpAnyH_ready (rs := [15]) (by kernel_rfl) (by simp) ?_
            refine AllReadyH.cons rfl (fun K hK => ?_) AllReadyH.nil
            simp only [List.getElem_toArray, List.getElem_cons_zero, List.getElem_cons_succ]
            go_simp
            refine hK.out _ _ trivial (fun hHeld => ?_)
            clear hK K
            refine wpAnyH_take (i := 16) (v := .pointer (some ⟨b, 0, none⟩)) rfl (by kernel_rfl) (by kernel_rfl) (by kernel_rfl) (fun _ _ _ h => h) (Or.inl ⟨by rfl, ?_⟩) hHeld ?_
            · intro w hSw
              simp only [List.getElem_toArray, List.getElem_cons_zero, List.getElem_cons_succ]
              go_simp
            simp only [Act.put, List.getElem_toArray, List.getElem_cons_zero, List.getElem_cons_succ, List.setIfInBounds_toArray, List.set_cons_zero, List.set_cons_succ]
            refine wpAnyH_ready (rs := [17]) (by kernel_rfl) (by simp) ?_
            refine AllReadyH.cons rfl (fun K hK => ?_) AllReadyH.nil
            simp only [List.getElem_toArray, List.getElem_cons_zero, List.getElem_cons_succ]
            go_simp
            refine hK.out _ _ trivial (fun hHeld => ?_)
            clear hK K
            clear hHeld
            refine wpAnyH_done (by kernel_rfl) ?_ _
            go_wp2_with fail
            go_roundw
            case rel =>
              refine .inr ⟨rfl, rfl, ?_, ?_⟩
              · simp [World.setCell, Array.getElem?_modify, HWN.out, World.drew]
              · have hb := HD.out
                repeat (first | exact hb | exact Below.refl _ _ | apply Below.drew | apply below_drewN | refine Below.alloc ?_ (by first | omega | (simp; done) | (simp; omega)) _ | refine Below.setCell ?_ (by first | omega | (simp; done) | (simp; omega)) _)
            case measure => simp [intOf]
        · have HS := Lib.hid hS
          clear hS
          go_wp2_with fail
          go_quiet (fail)
          go_wp2_with fail
          go_roundw
          case rel => exact .inr ⟨rfl, rfl, HS.out.2.1, by have hb := HS.out.2.2; repeat (first | exact hb | exact Below.refl _ _ | apply Below.drew | apply below_drewN | refine Below.alloc ?_ (by first | omega | (simp; done) | (simp; omega)) _ | refine Below.setCell ?_ (by first | omega | (simp; done) | (simp; omega)) _)⟩
          case measure => simp [intOf]
    · have HS := Lib.hid hS
      clear hS
      go_wp2_with fail
      exact bodyPost_end (v := .tuple #[]) (by simp [results, Tryd.results103, go_sem]) rfl ⟨rfl, HS.out.2⟩
set_option maxRecDepth 100000 in
set_option maxHeartbeats 4000000 in
/-- Two numbers that are sorted. -/
theorem insort_keep (b : Nat) (x y : Int) (w : World) (hw : w.heap[b]? = some (.cells #[.int .i64 x, .int .i64 y] 3 (0, 0))) (h : x ≤ y) :
    Calls Tryd.prog 103 #[.slice (some ⟨b, 0, none⟩) 2 2, .int .i64 0, .int .i64 2] w (Srt b x y w) := by
  have HW := Lib.hid hw
  have hl : decide (y < x) = false := by simpa using h
  clear hw h
  go_enter Tryd.func103, Tryd.ntmps103
  go_wp2_with fail
  go_loopw [6] (fun v wr => (v = .int .i64 1 ∧ wr = w) ∨ (v = .int .i64 2 ∧ Srt b x y w (.returned (.tuple #[])) wr)) (fun v _ => 2 - (intOf v).toNat)
  case atStart => exact .inl ⟨rfl, rfl⟩
  case round =>
    rcases hrel with ⟨rfl, rfl⟩ | ⟨rfl, hS⟩
    · go_wp2_with fail
      go_loopw [7] (fun v wr' => v = .int .i64 1 ∧ wr' = wr) (fun v _ => (intOf v).toNat)
      case atStart => exact ⟨rfl, rfl⟩
      case round =>
        obtain ⟨rfl, rfl⟩ := hrel
        have c0 := (cell_block HW.out 0).trans rfl
        have c1 := (cell_block HW.out 1).trans rfl
        have hz := block_lt HW.out
        go_wp2_with fail
        go_quiet ((go_at_call 79; exact Calls.quiet_of_same (less_any _ _ _)))
        go_wp2_with fail
        go_roundw
        case rel => exact .inr ⟨rfl, rfl, HW.out, below_drewN (Below.refl _ _) _⟩
        case measure => simp [intOf]
    · have HS := Lib.hid hS
      clear hS
      go_wp2_with fail
      exact bodyPost_end (v := .tuple #[]) (by simp [results, Tryd.results103, go_sem]) rfl ⟨rfl, HS.out.2⟩
set_option maxRecDepth 100000 in
set_option maxHeartbeats 4000000 in
theorem pdq2_any (b : Nat) (lim : Value) (w : World) (Q : Ending → World → Prop) (h : Calls Tryd.prog 103 #[.slice (some ⟨b, 0, none⟩) 2 2, .int .i64 0, .int .i64 2] w fun e w' => e = .returned (.tuple #[]) ∧ Q e w') :
    Calls Tryd.prog 97 #[.slice (some ⟨b, 0, none⟩) 2 2, .int .i64 0, .int .i64 2, lim] w fun e w' => e = .returned (.tuple #[]) ∧ Q e w' := by
  have HI := Lib.hid h
  clear h
  go_enter Tryd.func97, Tryd.ntmps97
  go_wp2_with fail
  go_loopw [1, 2] (fun va vb wr => va = .int .i64 0 ∧ vb = .int .i64 2 ∧ wr = w) (fun _ _ _ => 0)
  case atStart => exact ⟨rfl, rfl, rfl⟩
  case round =>
    obtain ⟨rfl, rfl, rfl⟩ := hrel
    go_wp2_with (go_at_call 103; go_must (refine HI.out.mono ?_; rintro e w' ⟨rfl, hq⟩; have HQ := Lib.hid hq; clear hq))
    exact bodyPost_ret (v := .tuple #[]) (by simp [results, Tryd.results97, go_sem]) rfl ⟨rfl, HQ.out⟩
set_option maxRecDepth 100000 in
set_option maxHeartbeats 4000000 in
theorem sort2_any (b : Nat) (w : World) (Q : Ending → World → Prop) (h : Calls Tryd.prog 103 #[.slice (some ⟨b, 0, none⟩) 2 2, .int .i64 0, .int .i64 2] w fun e w' => e = .returned (.tuple #[]) ∧ Q e w') :
    Calls Tryd.prog 78 #[.slice (some ⟨b, 0, none⟩) 2 2] w fun e w' => e = .returned (.tuple #[]) ∧ Q e w' := by
  have HI := Lib.hid h
  clear h
  go_enter Tryd.func78, Tryd.ntmps78
  go_wp2_with (first | (go_at_call 97; go_must (refine (pdq2_any b _ _ Q HI.out).mono ?_; rintro e w' ⟨rfl, hq⟩; have HQ := Lib.hid hq; clear hq)) | go_in)
  exact bodyPost_end (v := .tuple #[]) (by simp [results, Tryd.results78, go_sem]) rfl ⟨rfl, HQ.out⟩
/-- Two numbers in a block of their own, sorted. -/
theorem sort_two (b : Nat) (x y : Int) (w : World) (hw : w.heap[b]? = some (.cells #[.int .i64 x, .int .i64 y] 3 (0, 0))) :
    Calls Tryd.prog 78 #[.slice (some ⟨b, 0, none⟩) 2 2] w (Srt b (if x ≤ y then x else y) (if x ≤ y then y else x) w) := by
  by_cases h : x ≤ y
  · rw [if_pos h, if_pos h]
    exact sort2_any b w (fun _ w' => w'.heap[b]? = some (.cells #[.int .i64 x, .int .i64 y] 3 (0, 0)) ∧ Below b w w') (insort_keep b x y w hw h)
  · rw [if_neg h, if_neg h]
    exact sort2_any b w (fun _ w' => w'.heap[b]? = some (.cells #[.int .i64 y, .int .i64 x] 3 (0, 0)) ∧ Below b w w') (insort_swap b x y w hw (by omega))
end Go.Proofs.YtfdppmjoinodgaaDoor
