/-
  Whole blocks of memory: what they hold once cells were stored into them, or into others.
-/
import Derived.Test.YtjjpgkjjiooieaaDoorLui
namespace Go.Proofs.YtjjpgkjjiooieaaDoor
open Go.RowKit Tier
theorem block_set {W : World} {b : Nat} {cs : Array Value} {t : TypeId} (h : W.heap[b]? = some (.cells cs t (0, 0))) (i : Nat) (v : Value) : (W.setCell ⟨b, i, none⟩ v).heap[b]? = some (.cells (cs.setIfInBounds i v) t (0, 0)) := by
  simp only [World.setCell, Array.getElem?_modify, if_true, h, Option.map_some]
  rfl
theorem block_set_ne {W : World} {b b' : Nat} {o : Obj} (h : W.heap[b]? = some o) (hn : b' ≠ b) (i : Nat) (v : Value) : (W.setCell ⟨b', i, none⟩ v).heap[b]? = some o := by
  simp only [World.setCell, Array.getElem?_modify, if_neg hn, h]
theorem block_alloc {W : World} {b : Nat} {o : Obj} (h : W.heap[b]? = some o) (o' : Obj) : (W.alloc o').heap[b]? = some o :=
  (Below.heap_alloc _ _ _ (Array.getElem?_eq_some_iff.1 h).1).trans h
theorem block_setCells : ∀ (vs : List Value) (W : World) (b o : Nat) (cs : Array Value) (t : TypeId), W.heap[b]? = some (.cells cs t (0, 0)) → (W.setCells b o vs).heap[b]? = some (.cells ((vs.zipIdx o).foldl (fun cs x => cs.setIfInBounds x.snd x.fst) cs) t (0, 0))
  | [], _, _, _, _, _, h => h
  | v :: vs, W, b, o, cs, t, h => by
    have := block_setCells vs (W.setCell ⟨b, o, none⟩ v) b (o + 1) (cs.setIfInBounds o v) t (block_set h o v)
    rw [List.zipIdx_cons, List.foldl_cons]
    exact this
theorem block_full {W : World} {b : Nat} {cs : Array Value} {t : TypeId} (h : W.heap[b]? = some (.cells cs t (0, 0))) (vs : List Value) (hl : vs.length = cs.size) : (W.setCells b 0 vs).heap[b]? = some (.cells vs.toArray t (0, 0)) := by
  rw [block_setCells vs W b 0 cs t h]
  rw [show (vs.zipIdx 0).foldl (fun cs x => cs.setIfInBounds x.snd x.fst) cs = vs.toArray from fold_set vs cs hl]
theorem block_setCells_ne : ∀ (vs : List Value) {W : World} {b b' : Nat} {o : Obj}, W.heap[b]? = some o → b' ≠ b → ∀ (i : Nat), (W.setCells b' i vs).heap[b]? = some o
  | [], _, _, _, _, h, _, _ => h
  | v :: vs, _, _, _, _, h, hn, i => block_setCells_ne vs (block_set_ne h hn i v) hn (i + 1)
theorem size_setCells (b : Nat) : ∀ (vs : List Value) (W : World) (i : Nat), (W.setCells b i vs).heap.size = W.heap.size
  | [], _, _ => rfl
  | v :: vs, W, i => by
    have := size_setCells b vs (W.setCell ⟨b, i, none⟩ v) (i + 1)
    simpa [World.setCells] using this
theorem block_lt {W : World} {b : Nat} {o : Obj} (h : W.heap[b]? = some o) : b < W.heap.size := (Array.getElem?_eq_some_iff.1 h).1
theorem below_cell {B : Nat} {W0 W : World} {b i : Nat} {v : Value} (h : Below B W0 W) (hb : B ≤ b) : Below B W0 (W.setCell ⟨b, i, none⟩ v) := h.setCell hb v
/-- A load in the middle of a row, guarded by what holds. -/
theorem wpList_load_midg {P : Program} {ops : Array Oper} {rest : List Oper} {op : Oper} {a : Act} {w : World} {Q : Exit → Act → World → Prop} (hgd : Region.wanted op (yielded ops a.tmps) = true) (ty : TypeId) (x : Operand) (ho : op.op = .load ty x)
    (b o : Nat) (hx : a.eval x = .pointer (some ⟨b, o, none⟩)) (cs : List Value) (d : TypeDesc) (hc : w.rangeAt b o cs)
    (hu : P.underlying ty = some d) (hd : d.isRow = true) (hi : (P.info? ty).map (·.size) = some cs.length)
    (h : wpList P ops Q rest (a.put op.dst (.agg cs.toArray)) w) : wpList P ops Q (op :: rest) a w :=
  wpList_step fun K hK => by rw [if_pos hgd]; exact wp_load_mid ty x ho b o hx cs d hc hu hd hi (hK _ _ h)
end Go.Proofs.YtjjpgkjjiooieaaDoor
