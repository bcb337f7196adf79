/-
  Programs out of raw numbers: what shaped's own memory is between two appends; an append hands it on.
-/
import Derived.Test.YtfdppmjoinodgaaDoorFt
namespace Go.Proofs.YtfdppmjoinodgaaDoor
open Go.RowKit Tier
theorem RawAt.keeps {w w' : World} {A : Option Addr} {l : List Ins} (h : RawAt w A l) (hb : Below w.heap.size w w') : RawAt w' A l := fun hl => by
  obtain ⟨rb, ro, h1, h2, h3⟩ := h hl
  refine ⟨rb, ro, h1, Nat.lt_of_lt_of_le h2 hb.size, fun i x hx => ?_⟩
  obtain ⟨g, c0, c1, c2, c3, c4⟩ := h3 i x hx
  exact ⟨g, (hb.cell (p := ⟨rb, _, none⟩) h2).trans c0, (hb.cell (p := ⟨rb, _, none⟩) h2).trans c1, (hb.cell (p := ⟨rb, _, none⟩) h2).trans c2, (hb.cell (p := ⟨rb, _, none⟩) h2).trans c3, (hb.cell (p := ⟨rb, _, none⟩) h2).trans c4⟩
/-- Raw functions lie in memory from A on. -/
def RawsAt (w : World) (A : Option Addr) (l : List Fnc) : Prop :=
  0 < l.length → ∃ b o, A = some ⟨b, o, none⟩ ∧ b < w.heap.size ∧ ∀ (i : Nat) (f : Fnc), l[i]? = some f → In f.params ∧ In f.regs ∧ (f.code.length : Int) ≤ 9223372036854775807 ∧
    ∃ CA cap, RawAt w CA f.code ∧ w.cell? ⟨b, o + i * 3, none⟩ = some (.int .i64 f.params) ∧ w.cell? ⟨b, o + i * 3 + 1, none⟩ = some (.int .i64 f.regs) ∧ w.cell? ⟨b, o + i * 3 + 2, none⟩ = some (.slice CA f.code.length cap)
theorem RawsAt.keeps {w w' : World} {A : Option Addr} {l : List Fnc} (h : RawsAt w A l) (hb : Below w.heap.size w w') : RawsAt w' A l := fun hl => by
  obtain ⟨rb, ro, h1, h2, h3⟩ := h hl
  refine ⟨rb, ro, h1, Nat.lt_of_lt_of_le h2 hb.size, fun i x hx => ?_⟩
  obtain ⟨g0, g1, g2, CA, cap, g3, c0, c1, c2⟩ := h3 i x hx
  exact ⟨g0, g1, g2, CA, cap, g3.keeps hb, (hb.cell (p := ⟨rb, _, none⟩) h2).trans c0, (hb.cell (p := ⟨rb, _, none⟩) h2).trans c1, (hb.cell (p := ⟨rb, _, none⟩) h2).trans c2⟩
def rawOf (l : List Fnc) (i : Nat) : Fnc := (l[i]?).getD ⟨0, 0, []⟩
def funcsN (l : List Fnc) : Nat := min (max l.length 1) 4
/-- A program out of raw numbers. -/
def mkProg (l : List Fnc) (all : Bool) : List Fnc := (List.range (funcsN l)).map fun i => mkFn (rawOf l i).params (rawOf l i).regs (rawOf l i).code (funcsN l : Nat) all
theorem mkProg_length (l : List Fnc) (all : Bool) : (mkProg l all).length = funcsN l := by simp [mkProg]
theorem mkProg_get (l : List Fnc) (all : Bool) (i : Nat) (h : i < funcsN l) : (mkProg l all)[i]? = some (mkFn (rawOf l i).params (rawOf l i).regs (rawOf l i).code (funcsN l : Nat) all) := by
  simp [mkProg, h]
theorem mkProg_take (l : List Fnc) (all : Bool) (i : Nat) (h : i < funcsN l) : (mkProg l all).take (i + 1) = (mkProg l all).take i ++ [mkFn (rawOf l i).params (rawOf l i).regs (rawOf l i).code (funcsN l : Nat) all] := by
  rw [List.take_add_one, mkProg_get l all i h]; rfl
/-- This program lies in memory as the slice v, all of it from block B on; vs: the slices of its code. -/
structure ProgV (w : World) (B : Nat) (v : Value) (p : List Fnc) (vs : List Value) : Prop where
  len : vs.length = p.length
  own : w.ownsRow B 57 3 v p.length (fnCells p vs)
  code : ∀ (i : Nat) (u : Value) (f : Fnc), vs[i]? = some u → p[i]? = some f → w.ownsRow B 54 5 u f.code.length (codeCells f.code)
theorem ProgV.at {w : World} {B : Nat} {v : Value} {p : List Fnc} {vs : List Value} (h : ProgV w B v p vs) : ProgAt w v p := ⟨B, vs, h.len, h.own, fun i u f hu hf => ⟨B, h.code i u f hu hf⟩⟩
theorem own_base {w : World} {B B' : Nat} {e : TypeId} {size : Nat} {v : Value} {n : Nat} {xs : List Value} (h : w.ownsRow B e size v n xs) (hB : B' ≤ B) : w.ownsRow B' e size v n xs := by
  obtain ⟨h1, h2⟩ := h
  refine ⟨h1, ?_⟩
  rcases h2 with h2 | ⟨g, cap, cur, hv, hg, r⟩
  · exact .inl h2
  · exact .inr ⟨g, cap, cur, hv, Nat.le_trans hB hg, r⟩
theorem ProgV.base {w : World} {B B' : Nat} {v : Value} {p : List Fnc} {vs : List Value} (h : ProgV w B v p vs) (hB : B' ≤ B) : ProgV w B' v p vs :=
  ⟨h.len, own_base h.own hB, fun i u f hu hf => own_base (h.code i u f hu hf) hB⟩
theorem ProgV.keeps {w w' : World} {B : Nat} {v : Value} {p : List Fnc} {vs : List Value} (h : ProgV w B v p vs) (hb : Below w.heap.size w w') : ProgV w' B v p vs :=
  ⟨h.len, own_below h.own hb, fun i u f hu hf => own_below (h.code i u f hu hf) hb⟩
/-- Rows of two types lie in two blocks. -/
theorem rows_apart {w : World} {B1 B2 : Nat} {e1 e2 : TypeId} {s1 s2 : Nat} {v1 v2 : Value} {n1 n2 : Nat} {x1 x2 : List Value} (h1 : w.ownsRow B1 e1 s1 v1 n1 x1) (h2 : w.ownsRow B2 e2 s2 v2 n2 x2) (he : e1 ≠ e2) :
    v1.ownBlock = none ∨ v1.ownBlock ≠ v2.ownBlock := by
  rcases h1.2 with ⟨rfl, -⟩ | ⟨g, cap, cur, rfl, -, hg, -⟩
  · exact .inl rfl
  · right
    rcases h2.2 with ⟨rfl, -⟩ | ⟨g', cap', cur', rfl, -, hg', -⟩
    · simp [Value.ownBlock]
    · intro h
      simp [Value.ownBlock] at h
      subst h
      rw [hg] at hg'
      simp at hg'
      exact he hg'.2
theorem fnCells_snoc (p : List Fnc) (vs : List Value) (h : vs.length = p.length) (f : Fnc) (u : Value) : fnCells (p ++ [f]) (vs ++ [u]) = fnCells p vs ++ [.int .i64 f.params, .int .i64 f.regs, u] := by
  simp [fnCells, List.zip_append h.symm]
/-- One function more, behind an append (the function boxed, the row grown). -/
theorem ProgV.app {wy w1 : World} {B : Nat} {v v' : Value} {p : List Fnc} {vs : List Value} (h : ProgV wy B v p vs) (f : Fnc) (u : Value) (o : Obj) (hu : wy.ownsRow B 54 5 u f.code.length (codeCells f.code))
    (hg : (wy.alloc o).grownBy w1 v.ownBlock) (ho : w1.ownsRow B 57 3 v' (p.length + 1) (fnCells p vs ++ [.int .i64 f.params, .int .i64 f.regs, u])) :
    ProgV w1 B v' (p ++ [f]) (vs ++ [u]) := by
  have hk : ∀ (u' : Value) (f' : Fnc), wy.ownsRow B 54 5 u' f'.code.length (codeCells f'.code) → w1.ownsRow B 54 5 u' f'.code.length (codeCells f'.code) := fun u' f' h' =>
    (h'.alloc o).kept hg (rows_apart h' h.own (by decide))
  refine ⟨by simp [h.len], ?_, fun i u' f' h1 h2 => ?_⟩
  · rw [fnCells_snoc _ _ h.len, List.length_append]; exact ho
  · rcases Nat.lt_or_ge i p.length with hi | hi
    · rw [List.getElem?_append_left (by rw [h.len]; exact hi)] at h1
      rw [List.getElem?_append_left hi] at h2
      exact hk u' f' (h.code i u' f' h1 h2)
    · rw [List.getElem?_append_right (by rw [h.len]; exact hi)] at h1
      rw [List.getElem?_append_right hi] at h2
      have hi0 : i = p.length := by
        have := (List.getElem?_eq_some_iff.1 h2).1
        simp at this; omega
      subst hi0
      simp [h.len] at h1 h2
      subst h1 h2
      exact hk u f hu
theorem own_setCell {w : World} {base : Nat} {e : TypeId} {size : Nat} {v : Value} {n : Nat} {xs : List Value} (h : w.ownsRow base e size v n xs) {a : Addr} (ha : a.block < base) (u : Value) : (w.setCell a u).ownsRow base e size v n xs := ownsRow_setCell_below h ha u
theorem ProgV.setCell {w : World} {B : Nat} {v : Value} {p : List Fnc} {vs : List Value} (h : ProgV w B v p vs) {a : Addr} (ha : a.block < B) (u : Value) : ProgV (w.setCell a u) B v p vs :=
  ⟨h.len, own_setCell h.own ha u, fun i u' f hu hf => own_setCell (h.code i u' f hu hf) ha u⟩
/-- The result, the program that grows. -/
structure SP (w wr : World) (A : Option Addr) (cap i : Nat) (ps : List Fnc) (vs : List Value) : Prop where
  len : ps.length = i
  blk0 : wr.heap[w.heap.size]? = some (.cells #[.slice none 0 0] 25 (0, 0))
  blk1 : wr.heap[w.heap.size + 1]? = some (.cells #[.slice A i cap] 25 (0, 0))
  prog : ProgV wr (w.heap.size + 2) (.slice A i cap) ps vs
  below : Below w.heap.size w wr
  size : w.heap.size + 1 < wr.heap.size
section
variable {w wr : World} {A : Option Addr} {cap i : Nat} {ps : List Fnc} {vs : List Value}
theorem SP.keeps {w' : World} (h : SP w wr A cap i ps vs) (hb : Below wr.heap.size wr w') : SP w w' A cap i ps vs :=
  ⟨h.len, (hb.block _ (by have := h.size; omega)).trans h.blk0, (hb.block _ h.size).trans h.blk1, h.prog.keeps hb, h.below.trans (hb.mono h.below.size), Nat.lt_of_lt_of_le h.size hb.size⟩
theorem SP.start (w : World) : SP w ((w.alloc (.cells #[.slice none 0 0] 25)).alloc (.cells #[.slice none 0 0] 25)) none 0 0 [] [] := by
  refine ⟨rfl, ?_, ?_, ⟨rfl, World.ownsRow_nil _ _ _ _, fun i u f h => by simp at h⟩, ?_, ?_⟩
  · show ((w.heap.push _).push _)[w.heap.size]? = _
    rw [Array.getElem?_push, if_neg (by simp only [Array.size_push]; omega), Array.getElem?_push, if_pos rfl]
  · show ((w.heap.push _).push _)[w.heap.size + 1]? = _
    rw [Array.getElem?_push, if_pos (by simp only [Array.size_push])]
  · repeat (first | exact hb | exact Below.refl _ _ | apply Below.drew | apply below_drewN | refine Below.alloc ?_ (by first | omega | (simp; done) | (simp; omega)) _ | refine Below.setCell ?_ (by first | omega | (simp; done) | (simp; omega)) _)
  · show w.heap.size + 1 < ((w.heap.push _).push _).size
    simp
theorem SP.mid (h : SP w wr A cap i ps vs) (o : Obj) {w1 : World} (hg : (wr.alloc o).grownBy w1 (Value.slice A i cap).ownBlock) :
    w1.heap[w.heap.size]? = wr.heap[w.heap.size]? ∧ w1.heap[w.heap.size + 1]? = wr.heap[w.heap.size + 1]? := by
  have hs := h.size
  have hrow : ∀ k, (Value.slice A i cap).ownBlock = some k → w.heap.size + 2 ≤ k := fun k hk => (World.ownsRow.lt h.prog.own k hk).1
  have hblk : ∀ k, k ≤ w.heap.size + 1 → w1.heap[k]? = wr.heap[k]? := fun k hk => by
    rw [hg.block k (by simp; omega) (fun e => by have := hrow k e.symm; omega)]
    exact Below.heap_alloc _ _ _ (by omega)
  exact ⟨hblk _ (by omega), hblk _ (by omega)⟩
theorem SP.app (h : SP w wr A cap i ps vs) (f : Fnc) (u : Value) (o : Obj) {w1 : World} {A' : Option Addr} {cap' : Nat} (hu : wr.ownsRow (w.heap.size + 2) 54 5 u f.code.length (codeCells f.code))
    (hg : (wr.alloc o).grownBy w1 (Value.slice A i cap).ownBlock)
    (ho : w1.ownsRow (w.heap.size + 2) 57 3 (.slice A' (i + 1) cap') (i + 1) (fnCells ps vs ++ [.int .i64 f.params, .int .i64 f.regs, u])) :
    SP w (w1.setCell ⟨w.heap.size + 1, 0, none⟩ (.slice A' (i + 1) cap')) A' cap' (i + 1) (ps ++ [f]) (vs ++ [u]) := by
  have hs := h.size
  have hm := h.mid o hg
  have hrow : ∀ k, (Value.slice A i cap).ownBlock = some k → w.heap.size + 2 ≤ k := fun k hk => (World.ownsRow.lt h.prog.own k hk).1
  have hset : ∀ k, k ≠ w.heap.size + 1 → (w1.setCell ⟨w.heap.size + 1, 0, none⟩ (.slice A' (i + 1) cap')).heap[k]? = w1.heap[k]? := fun k hk => Below.heap_setCell _ _ _ _ hk
  have hb1 : Below wr.heap.size wr (wr.alloc o) := (Below.refl _ _).alloc (Nat.le_refl _) _
  refine ⟨by rw [List.length_append, h.len]; rfl, ?_, ?_, ?_, ?_, ?_⟩
  · rw [hset _ (by omega), hm.1]; exact h.blk0
  · have h2 : w1.heap[w.heap.size + 1]? = _ := hm.2.trans h.blk1
    simp only [World.setCell, Array.getElem?_modify, if_true, h2, Option.map_some]
    simp
  · exact (h.prog.app f u o hu hg (by rw [h.len]; exact ho)).setCell (by simp) _
  · refine Below.setCell ?_ (by simp) _
    refine (h.below.trans (hb1.mono h.below.size)).grown hg (by simp; omega) (fun k hk => by have := hrow k hk; omega)
  · show _ < (w1.heap.modify _ _).size
    rw [Array.size_modify]
    have := hg.size
    simp at this
    omega
end
end Go.Proofs.YtfdppmjoinodgaaDoor
/-
  Rows of functions: small facts, before programs are made.
-/
namespace Go.Proofs.YtfdppmjoinodgaaDoor
open Go.RowKit Tier
theorem infoFn : (Tryd.prog.info? 57).map (fun i => (i.zero, i.size, i.bytes)) = some (some (.agg #[.int .i64 0, .int .i64 0, .slice none 0 0]), 3, 40) := by kernel_rfl
theorem heap_alloc_new2 (w : World) (o1 o2 : Obj) : ((w.alloc o1).alloc o2).heap[w.heap.size + 1]? = some o2 := by
  have := heap_alloc_new (w.alloc o1) o2
  simpa using this
theorem SP.own' {w wr : World} {A : Option Addr} {cap i : Nat} {ps : List Fnc} {vs : List Value} (h : SP w wr A cap i ps vs) : wr.ownsRow (w.heap.size + 2) 57 3 (.slice A i cap) i (fnCells ps vs) := by
  have := h.prog.own
  rwa [h.len] at this
end Go.Proofs.YtfdppmjoinodgaaDoor
