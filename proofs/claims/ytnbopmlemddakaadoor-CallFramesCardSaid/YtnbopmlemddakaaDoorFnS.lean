/-
  What function's own memory is between two appends; an append hands it on.
-/
import Derived.Test.YtnbopmlemddakaaDoorRw
import Derived.Test.YtnbopmlemddakaaDoorPgW
namespace Go.Proofs.YtnbopmlemddakaaDoor
open Go.RowKit Tier
/-- The body's box, the result, the function that grows; the instructions are the call's own. -/
structure FS (w wr : World) (bp br : Int) (rv : Value) (params regs : Int) (A : Option Addr) (cap n : Nat) (l : List Ins) : Prop where
  len : l.length = n
  blk0 : wr.heap[w.heap.size]? = some (.cells #[.int .i64 bp, .int .i64 br, rv] 80 (0, 0))
  blk1 : wr.heap[w.heap.size + 1]? = some (.cells #[.int .i64 0, .int .i64 0, .slice none 0 0] 36 (0, 0))
  blk2 : wr.heap[w.heap.size + 1 + 1]? = some (.cells #[.int .i64 params, .int .i64 regs, .slice A n cap] 36 (0, 0))
  own : wr.ownsRow (w.heap.size + 3) 62 5 (.slice A n cap) n (codeCells l)
  below : Below w.heap.size w wr
  size : w.heap.size + 1 + 1 < wr.heap.size
section
variable {w wr : World} {bp br : Int} {rv : Value} {params regs : Int} {A : Option Addr} {cap n : Nat} {l : List Ins}
theorem FS.keeps {w' : World} (h : FS w wr bp br rv params regs A cap n l) (hb : Below wr.heap.size wr w') : FS w w' bp br rv params regs A cap n l :=
  ⟨h.len, (hb.block _ (by have := h.size; omega)).trans h.blk0, (hb.block _ (by have := h.size; omega)).trans h.blk1, (hb.block _ h.size).trans h.blk2, own_below h.own hb, h.below.trans (hb.mono h.below.size), Nat.lt_of_lt_of_le h.size hb.size⟩
theorem cell_block {w : World} {b : Nat} {c : Array Value} {t : TypeId} {f : Nat × Nat} (h : w.heap[b]? = some (.cells c t f)) (i : Nat) : w.cell? ⟨b, i, none⟩ = c[i]? := by
  simp [World.cell?, h]
theorem frozen_block {w : World} {b : Nat} {c : Array Value} {t : TypeId} (h : w.heap[b]? = some (.cells c t (0, 0))) (i : Nat) : w.frozen? ⟨b, i, none⟩ = false := by
  simp [World.frozen?, h]
/-- Behind an append (the new instruction boxed, the row grown, the slice stored). -/
theorem FS.app (h : FS w wr bp br rv params regs A cap n l) (x : Ins) {w1 : World} {A' : Option Addr} {cap' : Nat}
    (hg : (wr.alloc (.cells x.cells.toArray 62)).grownBy w1 (Value.slice A n cap).ownBlock)
    (ho : w1.ownsRow (w.heap.size + 3) 62 5 (.slice A' (n + 1) cap') (n + 1) (codeCells l ++ x.cells)) :
    FS w (w1.setCell ⟨w.heap.size + 1 + 1, 2, none⟩ (.slice A' (n + 1) cap')) bp br rv params regs A' cap' (n + 1) (l ++ [x]) := by
  have hs := h.size
  have hrow : ∀ k, (Value.slice A n cap).ownBlock = some k → w.heap.size + 3 ≤ k := fun k hk => (World.ownsRow.lt h.own k hk).1
  have hblk : ∀ k, k ≤ w.heap.size + 1 + 1 → w1.heap[k]? = wr.heap[k]? := fun k hk => by
    rw [hg.block k (by simp; omega) (fun e => by have := hrow k e.symm; omega)]
    exact Below.heap_alloc _ _ _ (by omega)
  have hset : ∀ k, k ≠ w.heap.size + 1 + 1 → (w1.setCell ⟨w.heap.size + 1 + 1, 2, none⟩ (.slice A' (n + 1) cap')).heap[k]? = w1.heap[k]? := fun k hk => Below.heap_setCell _ _ _ _ hk
  have hb1 : Below wr.heap.size wr (wr.alloc (.cells x.cells.toArray 62)) := (Below.refl _ _).alloc (Nat.le_refl _) _
  refine ⟨by rw [List.length_append, h.len]; rfl, ?_, ?_, ?_, ?_, ?_, ?_⟩
  · rw [hset _ (by omega), hblk _ (by omega)]; exact h.blk0
  · rw [hset _ (by omega), hblk _ (by omega)]; exact h.blk1
  · have h2 : w1.heap[w.heap.size + 1 + 1]? = _ := (hblk _ (by omega)).trans h.blk2
    simp only [World.setCell, Array.getElem?_modify, if_true, h2, Option.map_some]
    simp
  · rw [codeCells_snoc]
    exact ownsRow_setCell_below ho (by simp) _
  · refine Below.setCell ?_ (by simp; omega) _
    refine (h.below.trans (hb1.mono h.below.size)).grown hg (by simp; omega) (fun k hk => by have := hrow k hk; omega)
  · show _ < (w1.heap.modify _ _).size
    rw [Array.size_modify]
    have := hg.size
    simp at this
    omega
end
end Go.Proofs.YtnbopmlemddakaaDoor
