/-
  A row of numbers that is made, and filled one by one.
-/
import Derived.Test.YtfdppmjoinodgaaDoorSu3
namespace Go.Proofs.YtfdppmjoinodgaaDoor
open Go.RowKit Tier
theorem make_intsN (N : Nat) (hN : N ≤ 40) (w : World) : (Instr.makeSlice 37 (.int .i64 (N : Int)) (.int .i64 (N : Int))).run Tryd.prog w = .ok (.slice (some ⟨w.heap.size, 0, none⟩) N N) (w.alloc (.cells (madeCells #[.int .i64 0] N) 3)) := by
  have := run_make_row' (P := Tryd.prog) 37 3 (.int .i64 0) 8 Tryd.underlying37 infoInt rfl .i64 .i64 N (by omega) (by omega) w
  exact this
theorem fill_set (l : List Int) (k n : Nat) (x : Int) (hl : l.length = k) (hk : k < n) : (l ++ List.replicate (n - k) 0).set k x = (l ++ [x]) ++ List.replicate (n - (k + 1)) 0 := by
  rw [List.set_append_right _ _ (by omega), hl, Nat.sub_self, show n - k = (n - (k + 1)) + 1 by omega, List.replicate_succ]
  simp
theorem fill_at (l : List Int) (k n : Nat) (hl : l.length = k) (hk : k < n) : (l ++ List.replicate (n - k) 0)[k]? = some 0 := by
  rw [List.getElem?_append_right (by omega), hl, Nat.sub_self, List.getElem?_replicate, if_pos (by omega)]
end Go.Proofs.YtfdppmjoinodgaaDoor
