/-
  Rows of functions: small facts, before programs are made.
-/
import Derived.Test.YtnbopmlemddakaaDoorShS
namespace Go.Proofs.YtnbopmlemddakaaDoor
open Go.RowKit Tier
theorem infoFn : (Tryd.prog.info? 36).map (fun i => (i.zero, i.size, i.bytes)) = some (some (.agg #[.int .i64 0, .int .i64 0, .slice none 0 0]), 3, 40) := by kernel_rfl
theorem heap_alloc_new2 (w : World) (o1 o2 : Obj) : ((w.alloc o1).alloc o2).heap[w.heap.size + 1]? = some o2 := by
  have := heap_alloc_new (w.alloc o1) o2
  simpa using this
theorem SP.own' {w wr : World} {A : Option Addr} {cap i : Nat} {ps : List Fnc} {vs : List Value} (h : SP w wr A cap i ps vs) : wr.ownsRow (w.heap.size + 2) 36 3 (.slice A i cap) i (fnCells ps vs) := by
  have := h.prog.own
  rwa [h.len] at this
end Go.Proofs.YtnbopmlemddakaaDoor
