/-
  What Program's own memory is between two rounds: two programs that grow beside each other.
-/
import Derived.Test.YtnbopmlemddakaaDoorSh0
import Derived.Test.YtnbopmlemddakaaDoorFt
import Derived.Maps.AppendAt
namespace Go.Proofs.YtnbopmlemddakaaDoor
open Go.RowKit Tier
theorem apart_of {v1 v2 : Value} (h : ∀ k, v1.ownBlock = some k → v2.ownBlock ≠ some k) : v2.ownBlock = none ∨ v2.ownBlock ≠ v1.ownBlock := by
  cases h1 : v1.ownBlock with
  | none =>
    cases h2 : v2.ownBlock with
    | none => exact .inl rfl
    | some k => exact .inr (by simp)
  | some k => exact .inr (h k h1)
theorem ProgV.other {wy w1 : World} {B B2 : Nat} {v v2 : Value} {p : List Fnc} {vs : List Value} {n2 : Nat} {x2 : List Value} (h : ProgV wy B v p vs) (o : Obj) (h2 : wy.ownsRow B2 36 3 v2 n2 x2)
    (hap : v.ownBlock = none ∨ v.ownBlock ≠ v2.ownBlock) (hg : (wy.alloc o).grownBy w1 v2.ownBlock) : ProgV w1 B v p vs :=
  ⟨h.len, (h.own.alloc o).kept hg hap, fun i u f hu hf => ((h.code i u f hu hf).alloc o).kept hg (rows_apart (h.code i u f hu hf) h2 (by decide))⟩
structure SQ (w wr : World) (A1 : Option Addr) (cap1 i1 : Nat) (ps : List Fnc) (vs : List Value) (A2 : Option Addr) (cap2 i2 : Nat) (qs : List Fnc) (us : List Value) : Prop where
  len1 : ps.length = i1
  len2 : qs.length = i2
  blk0 : wr.heap[w.heap.size]? = some (.cells #[.slice none 0 0] 25 (0, 0))
  blk1 : wr.heap[w.heap.size + 1]? = some (.cells #[.slice A1 i1 cap1] 25 (0, 0))
  blk2 : wr.heap[w.heap.size + 1 + 1]? = some (.cells #[.slice A2 i2 cap2] 25 (0, 0))
  prog1 : ProgV wr (w.heap.size + 3) (.slice A1 i1 cap1) ps vs
  prog2 : ProgV wr (w.heap.size + 3) (.slice A2 i2 cap2) qs us
  ne : ∀ k, (Value.slice A1 i1 cap1).ownBlock = some k → (Value.slice A2 i2 cap2).ownBlock ≠ some k
  below : Below w.heap.size w wr
section
variable {w wr : World} {A1 A2 : Option Addr} {cap1 i1 cap2 i2 : Nat} {ps qs : List Fnc} {vs us : List Value}
theorem SQ.size (h : SQ w wr A1 cap1 i1 ps vs A2 cap2 i2 qs us) : w.heap.size + 1 + 1 < wr.heap.size := (Array.getElem?_eq_some_iff.1 h.blk2).1
theorem SQ.keeps {w' : World} (h : SQ w wr A1 cap1 i1 ps vs A2 cap2 i2 qs us) (hb : Below wr.heap.size wr w') : SQ w w' A1 cap1 i1 ps vs A2 cap2 i2 qs us :=
  ⟨h.len1, h.len2, (hb.block _ (by have := h.size; omega)).trans h.blk0, (hb.block _ (by have := h.size; omega)).trans h.blk1, (hb.block _ h.size).trans h.blk2, h.prog1.keeps hb, h.prog2.keeps hb, h.ne, h.below.trans (hb.mono h.below.size)⟩
theorem SQ.own1 (h : SQ w wr A1 cap1 i1 ps vs A2 cap2 i2 qs us) : wr.ownsRow (w.heap.size + 3) 36 3 (.slice A1 i1 cap1) i1 (fnCells ps vs) := by
  have := h.prog1.own
  rwa [h.len1] at this
theorem SQ.own2 (h : SQ w wr A1 cap1 i1 ps vs A2 cap2 i2 qs us) : wr.ownsRow (w.heap.size + 3) 36 3 (.slice A2 i2 cap2) i2 (fnCells qs us) := by
  have := h.prog2.own
  rwa [h.len2] at this
theorem SQ.start (w : World) : SQ w (((w.alloc (.cells #[.slice none 0 0] 25)).alloc (.cells #[.slice none 0 0] 25)).alloc (.cells #[.slice none 0 0] 25)) none 0 0 [] [] none 0 0 [] [] := by
  have hp : ∀ W : World, ProgV W (w.heap.size + 3) (.slice none 0 0) [] [] := fun W => ⟨rfl, World.ownsRow_nil _ _ _ _, fun i u f h => by simp at h⟩
  refine ⟨rfl, rfl, ?_, ?_, ?_, hp _, hp _, fun k h => by simp [Value.ownBlock] at h, ?_⟩
  · rw [Below.heap_alloc _ _ _ (by simp; omega), Below.heap_alloc _ _ _ (by simp)]; exact heap_alloc_new _ _
  · rw [Below.heap_alloc _ _ _ (by simp)]; exact heap_alloc_new2 _ _ _
  · have := heap_alloc_new2 (w.alloc (.cells #[.slice none 0 0] 25)) (.cells #[.slice none 0 0] 25) (.cells #[.slice none 0 0] 25)
    simpa using this
  · repeat (first | exact hb | exact Below.refl _ _ | apply Below.drew | apply below_drewN | refine Below.alloc ?_ (by first | omega | (simp; done) | (simp; omega)) _ | refine Below.setCell ?_ (by first | omega | (simp; done) | (simp; omega)) _)
theorem SQ.mid1 (h : SQ w wr A1 cap1 i1 ps vs A2 cap2 i2 qs us) (o : Obj) {w1 : World} (hg : (wr.alloc o).grownBy w1 (Value.slice A1 i1 cap1).ownBlock) :
    ∀ k, k ≤ w.heap.size + 1 + 1 → w1.heap[k]? = wr.heap[k]? := fun k hk => by
  have hs := h.size
  have hrow : ∀ k, (Value.slice A1 i1 cap1).ownBlock = some k → w.heap.size + 3 ≤ k := fun k hk => (World.ownsRow.lt h.prog1.own k hk).1
  rw [hg.block k (by simp; omega) (fun e => by have := hrow k e.symm; omega)]
  exact Below.heap_alloc _ _ _ (by omega)
theorem SQ.mid2 (h : SQ w wr A1 cap1 i1 ps vs A2 cap2 i2 qs us) (o : Obj) {w1 : World} (hg : (wr.alloc o).grownBy w1 (Value.slice A2 i2 cap2).ownBlock) :
    ∀ k, k ≤ w.heap.size + 1 + 1 → w1.heap[k]? = wr.heap[k]? := fun k hk => by
  have hs := h.size
  have hrow : ∀ k, (Value.slice A2 i2 cap2).ownBlock = some k → w.heap.size + 3 ≤ k := fun k hk => (World.ownsRow.lt h.prog2.own k hk).1
  rw [hg.block k (by simp; omega) (fun e => by have := hrow k e.symm; omega)]
  exact Below.heap_alloc _ _ _ (by omega)
theorem SQ.app1 (h : SQ w wr A1 cap1 i1 ps vs A2 cap2 i2 qs us) (f : Fnc) (u : Value) (o : Obj) {w1 : World} {A' : Option Addr} {cap' : Nat} (hu : wr.ownsRow (w.heap.size + 3) 62 5 u f.code.length (codeCells f.code))
    (hg : (wr.alloc o).grownBy w1 (Value.slice A1 i1 cap1).ownBlock)
    (ho : w1.ownsRow (w.heap.size + 3) 36 3 (.slice A' (i1 + 1) cap') (i1 + 1) (fnCells ps vs ++ [.int .i64 f.params, .int .i64 f.regs, u]))
    (hat : (Value.slice A' (i1 + 1) cap').ownBlock = (Value.slice A1 i1 cap1).ownBlock ∨ (Value.slice A' (i1 + 1) cap').ownBlock = some (wr.alloc o).heap.size) :
    SQ w (w1.setCell ⟨w.heap.size + 1, 0, none⟩ (.slice A' (i1 + 1) cap')) A' cap' (i1 + 1) (ps ++ [f]) (vs ++ [u]) A2 cap2 i2 qs us := by
  have hs := h.size
  have hm := h.mid1 o hg
  have hrow : ∀ k, (Value.slice A1 i1 cap1).ownBlock = some k → w.heap.size + 3 ≤ k := fun k hk => (World.ownsRow.lt h.prog1.own k hk).1
  have hset : ∀ k, k ≠ w.heap.size + 1 → (w1.setCell ⟨w.heap.size + 1, 0, none⟩ (.slice A' (i1 + 1) cap')).heap[k]? = w1.heap[k]? := fun k hk => Below.heap_setCell _ _ _ _ hk
  have hb1 : Below wr.heap.size wr (wr.alloc o) := (Below.refl _ _).alloc (Nat.le_refl _) _
  refine ⟨by rw [List.length_append, h.len1]; rfl, h.len2, ?_, ?_, ?_, ?_, ?_, ?_, ?_⟩
  · rw [hset _ (by omega), hm _ (by omega)]; exact h.blk0
  · have h2 := (hm (w.heap.size + 1) (by omega)).trans h.blk1
    simp only [World.setCell, Array.getElem?_modify, if_true, h2, Option.map_some]
    simp
  · rw [hset _ (by omega), hm _ (by omega)]; exact h.blk2
  · exact (h.prog1.app f u o hu hg (by rw [h.len1]; exact ho)).setCell (by simp) _
  · exact (h.prog2.other o h.own1 (apart_of h.ne) hg).setCell (by simp) _
  · intro k hk
    rcases hat with hat | hat
    · rw [hat] at hk; exact h.ne k hk
    · rw [hat] at hk
      intro e
      have := (World.ownsRow.lt h.prog2.own k e).2
      simp at hk; omega
  · refine Below.setCell ?_ (by simp) _
    refine (h.below.trans (hb1.mono h.below.size)).grown hg (by simp; omega) (fun k hk => by have := hrow k hk; omega)
theorem SQ.app2 (h : SQ w wr A1 cap1 i1 ps vs A2 cap2 i2 qs us) (f : Fnc) (u : Value) (o : Obj) {w1 : World} {A' : Option Addr} {cap' : Nat} (hu : wr.ownsRow (w.heap.size + 3) 62 5 u f.code.length (codeCells f.code))
    (hg : (wr.alloc o).grownBy w1 (Value.slice A2 i2 cap2).ownBlock)
    (ho : w1.ownsRow (w.heap.size + 3) 36 3 (.slice A' (i2 + 1) cap') (i2 + 1) (fnCells qs us ++ [.int .i64 f.params, .int .i64 f.regs, u]))
    (hat : (Value.slice A' (i2 + 1) cap').ownBlock = (Value.slice A2 i2 cap2).ownBlock ∨ (Value.slice A' (i2 + 1) cap').ownBlock = some (wr.alloc o).heap.size) :
    SQ w (w1.setCell ⟨w.heap.size + 1 + 1, 0, none⟩ (.slice A' (i2 + 1) cap')) A1 cap1 i1 ps vs A' cap' (i2 + 1) (qs ++ [f]) (us ++ [u]) := by
  have hs := h.size
  have hm := h.mid2 o hg
  have hrow : ∀ k, (Value.slice A2 i2 cap2).ownBlock = some k → w.heap.size + 3 ≤ k := fun k hk => (World.ownsRow.lt h.prog2.own k hk).1
  have hset : ∀ k, k ≠ w.heap.size + 1 + 1 → (w1.setCell ⟨w.heap.size + 1 + 1, 0, none⟩ (.slice A' (i2 + 1) cap')).heap[k]? = w1.heap[k]? := fun k hk => Below.heap_setCell _ _ _ _ hk
  have hb1 : Below wr.heap.size wr (wr.alloc o) := (Below.refl _ _).alloc (Nat.le_refl _) _
  have hne2 : ∀ k, (Value.slice A2 i2 cap2).ownBlock = some k → (Value.slice A1 i1 cap1).ownBlock ≠ some k := fun k hk e => h.ne k e hk
  refine ⟨h.len1, by rw [List.length_append, h.len2]; rfl, ?_, ?_, ?_, ?_, ?_, ?_, ?_⟩
  · rw [hset _ (by omega), hm _ (by omega)]; exact h.blk0
  · rw [hset _ (by omega), hm _ (by omega)]; exact h.blk1
  · have h2 := (hm (w.heap.size + 1 + 1) (by omega)).trans h.blk2
    simp only [World.setCell, Array.getElem?_modify, if_true, h2, Option.map_some]
    simp
  · exact (h.prog1.other o h.own2 (apart_of hne2) hg).setCell (by simp) _
  · exact (h.prog2.app f u o hu hg (by rw [h.len2]; exact ho)).setCell (by simp) _
  · intro k hk
    rcases hat with hat | hat
    · rw [hat]; exact h.ne k hk
    · rw [hat]
      intro e
      have := (World.ownsRow.lt h.prog1.own k hk).2
      simp at e; omega
  · refine Below.setCell ?_ (by simp; omega) _
    refine (h.below.trans (hb1.mono h.below.size)).grown hg (by simp; omega) (fun k hk => by have := hrow k hk; omega)
end
end Go.Proofs.YtnbopmlemddakaaDoor
