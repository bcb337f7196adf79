/-
  Whole blocks of memory: what they hold once cells were stored into them, or into others; loads and stores of rows of cells.
-/
import Derived.Test.YtfdppmjoinodgaaDoorCl
import Derived.Test.YtfdppmjoinodgaaDoorFnS
import Derived.Test.YtfdppmjoinodgaaDoorShS
import Derived.Deep.MidRow
namespace Go.Proofs.YtfdppmjoinodgaaDoor
open Go.RowKit Tier
theorem range_block {W : World} {b : Nat} {cs : List Value} {t : TypeId} {fr : Nat × Nat} (h : W.heap[b]? = some (.cells cs.toArray t fr)) : W.rangeAt b 0 cs := fun j v hv => by
  rw [Nat.zero_add, cell_block h]; simpa using hv
theorem there_block {W : World} {b n : Nat} {cs : Array Value} {t : TypeId} (h : W.heap[b]? = some (.cells cs t (0, 0))) (hn : n ≤ cs.size) : W.there b 0 n := fun j hj => by
  rw [Nat.zero_add, cell_block h, frozen_block h, Array.getElem?_eq_getElem (by omega)]
  exact ⟨rfl, rfl⟩
theorem heap_alloc_new1 (w : World) (o1 o2 : Obj) : ((w.alloc o1).alloc o2).heap[w.heap.size + 1]? = some o2 := by
  have := heap_alloc_new (w.alloc o1) o2
  simpa using this
theorem fold_from : ∀ (l : List Value) (k : Nat) (z : Array Value), k + l.length = z.size → ∀ j, ((l.zipIdx k).foldl (fun cs x => cs.setIfInBounds x.snd x.fst) z)[j]? = if k ≤ j ∧ j < k + l.length then l[j - k]? else z[j]?
  | [], k, z, _, j => by rw [if_neg (by simp)]; rfl
  | v :: l, k, z, h, j => by
    rw [List.zipIdx_cons, List.foldl_cons, fold_from l (k + 1) _ (by simp at h ⊢; omega) j]
    simp only [List.length_cons] at h ⊢
    by_cases h1 : k + 1 ≤ j ∧ j < k + 1 + l.length
    · rw [if_pos h1, if_pos (by omega), show j - k = (j - (k + 1)) + 1 by omega]; simp
    · rw [if_neg h1]
      by_cases h2 : j = k
      · subst h2
        rw [if_pos (by omega), Nat.sub_self, List.getElem?_cons_zero, Array.getElem?_setIfInBounds, if_pos rfl, if_pos (by omega)]
      · rw [if_neg (by omega), Array.getElem?_setIfInBounds, if_neg (fun e => h2 e.symm)]
theorem fold_set (l : List Value) (z : Array Value) (h : l.length = z.size) : l.zipIdx.foldl (fun cs x => cs.setIfInBounds x.snd x.fst) z = l.toArray := by
  apply Array.ext_getElem?
  intro j
  rw [fold_from l 0 z (by omega) j]
  by_cases hj : j < l.length
  · rw [if_pos (by omega)]; simp
  · have hz : z.size ≤ j := by omega
    have hj' : l.length ≤ j := by omega
    rw [if_neg (by omega), Array.getElem?_eq_none hz, List.getElem?_toArray, List.getElem?_eq_none hj']
theorem results_cell2 {fn : Func} {a t2 : Tmp} {ty : TypeId} (h : fn.results = #[.cell a ty, .tmp t2]) (tmps : Array Value) (P : Program) (w : World) (ad : Addr) (v : Value) (ha : tmps[a]?.getD undef = .pointer (some ad))
    (hl : (loadVar ty ad).run P w = .ok v w) : (results fn tmps).run P w = .ok (.tuple #[v, tmps[t2]?.getD undef]) w := by
  simp [results, h, ha, hl, asAddr]
theorem below_setCells {B : Nat} {W0 : World} {b : Nat} (hb : B ≤ b) : ∀ (vs : List Value) (o : Nat) (W : World), Below B W0 W → Below B W0 (W.setCells b o vs)
  | [], _, _, h => h
  | v :: vs, o, _W, h => below_setCells hb vs (o + 1) _ (h.setCell hb v)
theorem block_set {W : World} {b : Nat} {cs : Array Value} {t : TypeId} (h : W.heap[b]? = some (.cells cs t (0, 0))) (i : Nat) (v : Value) : (W.setCell ⟨b, i, none⟩ v).heap[b]? = some (.cells (cs.setIfInBounds i v) t (0, 0)) := by
  simp only [World.setCell, Array.getElem?_modify, if_true, h, Option.map_some]
  rfl
theorem block_set_ne {W : World} {b b' : Nat} {o : Obj} (h : W.heap[b]? = some o) (hn : b' ≠ b) (i : Nat) (v : Value) : (W.setCell ⟨b', i, none⟩ v).heap[b]? = some o := by
  simp only [World.setCell, Array.getElem?_modify, if_neg hn, h]
theorem block_alloc {W : World} {b : Nat} {o : Obj} (h : W.heap[b]? = some o) (o' : Obj) : (W.alloc o').heap[b]? = some o :=
  (Below.heap_alloc _ _ _ (Array.getElem?_eq_some_iff.1 h).1).trans h
theorem block_setCells : ∀ (vs : List Value) (W : World) (b o : Nat) (cs : Array Value) (t : TypeId), W.heap[b]? = some (.cells cs t (0, 0)) → (W.setCells b o vs).heap[b]? = some (.cells ((vs.zipIdx o).foldl (fun cs x => cs.setIfInBounds x.snd x.fst) cs) t (0, 0))
  | [], _, _, _, _, _, h => h
  | v :: vs, W, b, o, cs, t, h => by
    have := block_setCells vs (W.setCell ⟨b, o, none⟩ v) b (o + 1) (cs.setIfInBounds o v) t (block_set h o v)
    rw [List.zipIdx_cons, List.foldl_cons]
    exact this
theorem block_full {W : World} {b : Nat} {cs : Array Value} {t : TypeId} (h : W.heap[b]? = some (.cells cs t (0, 0))) (vs : List Value) (hl : vs.length = cs.size) : (W.setCells b 0 vs).heap[b]? = some (.cells vs.toArray t (0, 0)) := by
  rw [block_setCells vs W b 0 cs t h]
  rw [show (vs.zipIdx 0).foldl (fun cs x => cs.setIfInBounds x.snd x.fst) cs = vs.toArray from fold_set vs cs hl]
theorem block_setCells_ne : ∀ (vs : List Value) {W : World} {b b' : Nat} {o : Obj}, W.heap[b]? = some o → b' ≠ b → ∀ (i : Nat), (W.setCells b' i vs).heap[b]? = some o
  | [], _, _, _, _, h, _, _ => h
  | v :: vs, _, _, _, _, h, hn, i => block_setCells_ne vs (block_set_ne h hn i v) hn (i + 1)
theorem size_setCells (b : Nat) : ∀ (vs : List Value) (W : World) (i : Nat), (W.setCells b i vs).heap.size = W.heap.size
  | [], _, _ => rfl
  | v :: vs, W, i => by
    have := size_setCells b vs (W.setCell ⟨b, i, none⟩ v) (i + 1)
    simpa [World.setCells] using this
theorem block_lt {W : World} {b : Nat} {o : Obj} (h : W.heap[b]? = some o) : b < W.heap.size := (Array.getElem?_eq_some_iff.1 h).1
theorem below_cell {B : Nat} {W0 W : World} {b i : Nat} {v : Value} (h : Below B W0 W) (hb : B ≤ b) : Below B W0 (W.setCell ⟨b, i, none⟩ v) := h.setCell hb v
theorem block_put {W : World} {b i : Nat} {cs ds : List Value} {t : TypeId} {v : Value} (h : W.heap[b]? = some (.cells cs.toArray t (0, 0))) (he : cs.set i v = ds) : (W.setCell ⟨b, i, none⟩ v).heap[b]? = some (.cells ds.toArray t (0, 0)) := by
  rw [block_set h i v, ← he]; simp
theorem results_cell1 {fn : Func} {a : Tmp} {ty : TypeId} (h : fn.results = #[.cell a ty]) (tmps : Array Value) (P : Program) (w : World) (ad : Addr) (v : Value) (ha : tmps[a]?.getD undef = .pointer (some ad))
    (hl : (loadVar ty ad).run P w = .ok v w) : (results fn tmps).run P w = .ok v w := by
  simp [results, h, ha, hl, asAddr]
theorem ownsRow_setCells_below {base : Nat} {e : TypeId} {size : Nat} {v : Value} {n : Nat} {xs : List Value} {b : Nat} : ∀ {w : World}, w.ownsRow base e size v n xs → b < base → ∀ (vs : List Value) (o : Nat), (w.setCells b o vs).ownsRow base e size v n xs
  | _, h, _, [], _ => h
  | _, h, hb, u :: vs, o => ownsRow_setCells_below (ownsRow_setCell_below h (a := ⟨b, o, none⟩) hb u) hb vs (o + 1)
end Go.Proofs.YtfdppmjoinodgaaDoor
