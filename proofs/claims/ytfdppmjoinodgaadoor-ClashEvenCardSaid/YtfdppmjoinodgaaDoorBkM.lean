/-
  Blocks in memory: a row of blocks, each with two rows of numbers of its own; one of them grows.
-/
import Derived.Test.YtfdppmjoinodgaaDoorFl1
import Derived.Test.YtfdppmjoinodgaaDoorPgS
namespace Go.Proofs.YtfdppmjoinodgaaDoor
open Go.RowKit Tier
structure BR where
  fr : Int
  to : Int
  nv : Value
  nl : List Int
  pv : Value
  pl : List Int
def BR.cells (r : BR) : List Value := [.int .i64 r.fr, .int .i64 r.to, r.nv, r.pv]
def brCells (l : List BR) : List Value := l.flatMap BR.cells
def BR.val (r : BR) (c : Bool) : Value := if c = true then r.pv else r.nv
def BR.lst (r : BR) (c : Bool) : List Int := if c = true then r.pl else r.nl
def BR.upd (r : BR) (c : Bool) (v : Value) (l : List Int) : BR := if c = true then { r with pv := v, pl := l } else { r with nv := v, nl := l }
theorem BR.upd_val (r : BR) (c : Bool) (v : Value) (l : List Int) : (r.upd c v l).val c = v := by cases c <;> rfl
theorem BR.upd_lst (r : BR) (c : Bool) (v : Value) (l : List Int) : (r.upd c v l).lst c = l := by cases c <;> rfl
theorem BR.upd_val' (r : BR) {c d : Bool} (h : d ≠ c) (v : Value) (l : List Int) : (r.upd c v l).val d = r.val d := by cases c <;> cases d <;> first | rfl | exact absurd rfl h
theorem BR.upd_lst' (r : BR) {c d : Bool} (h : d ≠ c) (v : Value) (l : List Int) : (r.upd c v l).lst d = r.lst d := by cases c <;> cases d <;> first | rfl | exact absurd rfl h
theorem brCells_length (l : List BR) : (brCells l).length = l.length * 4 := by
  induction l with
  | nil => rfl
  | cons x l ih => simp only [brCells, List.flatMap_cons, List.length_append, List.length_cons] at *; rw [ih]; simp [BR.cells]; omega
theorem brCells_get {l : List BR} {q : Nat} {r : BR} (h : l[q]? = some r) {j : Nat} (hj : j < 4) : (brCells l)[q * 4 + j]? = r.cells[j]? := by
  rw [brCells, flat_get BR.cells 4 l (fun _ _ => rfl) q j hj, h]; rfl
theorem brCells_set : ∀ (l : List BR) (q : Nat) (r r' : BR) (j : Nat) (v : Value), l[q]? = some r → j < 4 → r'.cells = r.cells.set j v → (brCells l).set (q * 4 + j) v = brCells (l.set q r')
  | [], q, r, r', j, v, h, _, _ => by simp at h
  | x :: l, 0, r, r', j, v, h, hj, he => by
    simp at h; subst h
    show (x.cells ++ brCells l).set (0 * 4 + j) v = r'.cells ++ brCells l
    rw [List.set_append_left _ _ (by simp [BR.cells]; omega), he]; simp
  | x :: l, q + 1, r, r', j, v, h, hj, he => by
    have ih := brCells_set l q r r' j v (by simpa using h) hj he
    show (x.cells ++ brCells l).set ((q + 1) * 4 + j) v = x.cells ++ brCells (l.set q r')
    rw [List.set_append_right _ _ (by simp [BR.cells]; omega), ← ih]
    congr 2
    simp [BR.cells]; omega
/-- The rows of the blocks: each its own, all of them apart. -/
structure RowsF (w : World) (B : Nat) (bs : List BR) : Prop where
  own : ∀ (q : Nat) (r : BR) (c : Bool), bs[q]? = some r → w.ownsRow B 3 1 (r.val c) (r.lst c).length ((r.lst c).map (Value.int .i64))
  ap : ∀ (q q' : Nat) (r r' : BR) (c c' : Bool) (b : Nat), bs[q]? = some r → bs[q']? = some r' → (q ≠ q' ∨ c ≠ c') → (r.val c).ownBlock = some b → (r'.val c').ownBlock ≠ some b
theorem RowsF.keeps {w w' : World} {B : Nat} {bs : List BR} (h : RowsF w B bs) (hb : Below w.heap.size w w') : RowsF w' B bs := ⟨fun q r c hq => own_below (h.own q r c hq) hb, h.ap⟩
theorem RowsF.lt {w : World} {B : Nat} {bs : List BR} (h : RowsF w B bs) {q : Nat} {r : BR} (hq : bs[q]? = some r) (c : Bool) (b : Nat) (hb : (r.val c).ownBlock = some b) : B ≤ b ∧ b < w.heap.size := World.ownsRow.lt (h.own q r c hq) b hb
/-- Another row grew: this one stays. -/
theorem own_grown {w w' : World} {B : Nat} {v : Value} {l : List Int} {row : Option Nat} (h : w.ownsRow B 3 1 v l.length (l.map (Value.int .i64))) (hg : w.grownBy w' row) (hne : ∀ b, v.ownBlock = some b → row ≠ some b) : w'.ownsRow B 3 1 v l.length (l.map (Value.int .i64)) := by
  obtain ⟨h1, h2⟩ := h
  refine ⟨h1, ?_⟩
  rcases h2 with h2 | ⟨g, cap, cur, rfl, hg1, hh, r⟩
  · exact .inl h2
  · exact .inr ⟨g, cap, cur, rfl, hg1, (hg.block g (block_lt hh) (fun e => hne g rfl e.symm)).trans hh, r⟩
theorem RowsF.app {w w' : World} {B : Nat} {bs : List BR} (h : RowsF w B bs) {q : Nat} {r : BR} (hq : bs[q]? = some r) (c : Bool) {v : Value} {x : Int} (hg : w.grownBy w' (r.val c).ownBlock)
    (ho : w'.ownsRow B 3 1 v ((r.lst c).length + 1) ((r.lst c).map (Value.int .i64) ++ [.int .i64 x])) (hat : v.ownBlock = (r.val c).ownBlock ∨ ∃ H, w.heap.size ≤ H ∧ v.ownBlock = some H) : RowsF w' B (bs.set q (r.upd c v (r.lst c ++ [x]))) := by
  have hql := (List.getElem?_eq_some_iff.1 hq).1
  have hset : ∀ i, (bs.set q (r.upd c v (r.lst c ++ [x])))[i]? = if i = q then some (r.upd c v (r.lst c ++ [x])) else bs[i]? := fun i => by
    rw [List.getElem?_set]
    by_cases e : q = i
    · subst e; simp [hql]
    · rw [if_neg e, if_neg (fun e' => e e'.symm)]
  -- a row that did not grow
  have key : ∀ (i : Nat) (s : BR) (d : Bool), (bs.set q (r.upd c v (r.lst c ++ [x])))[i]? = some s → (i ≠ q ∨ d ≠ c) → ∃ s0, bs[i]? = some s0 ∧ s.val d = s0.val d ∧ s.lst d = s0.lst d := fun i s d hs hne => by
    rw [hset] at hs
    by_cases e : i = q
    · subst e
      rw [if_pos rfl] at hs
      obtain rfl := Option.some.inj hs
      have hd : d ≠ c := by rcases hne with h | h; exact absurd rfl h; exact h
      exact ⟨r, hq, BR.upd_val' r hd _ _, BR.upd_lst' r hd _ _⟩
    · rw [if_neg e] at hs; exact ⟨s, hs, rfl, rfl⟩
  have self : ∀ (s : BR), (bs.set q (r.upd c v (r.lst c ++ [x])))[q]? = some s → s.val c = v ∧ s.lst c = r.lst c ++ [x] := fun s hs => by
    rw [hset, if_pos rfl] at hs
    obtain rfl := Option.some.inj hs
    exact ⟨BR.upd_val _ _ _ _, BR.upd_lst _ _ _ _⟩
  have old : ∀ (i : Nat) (s0 : BR) (d : Bool) (b : Nat), bs[i]? = some s0 → (i ≠ q ∨ d ≠ c) → (s0.val d).ownBlock = some b → v.ownBlock ≠ some b := fun i s0 d b hs hne hb e => by
    rcases hat with h1 | ⟨H, h1, h2⟩
    · rw [h1] at e
      exact h.ap q i r s0 c d b hq hs (by rcases hne with h | h; exact .inl (Ne.symm h); exact .inr (Ne.symm h)) e hb
    · have h3 := (h.lt hs d b hb).2
      rw [h2] at e
      have := Option.some.inj e; omega
  refine ⟨fun i s d hs => ?_, fun i i' s s' d d' b hs hs' hne hb => ?_⟩
  · by_cases hid : i = q ∧ d = c
    · obtain ⟨rfl, rfl⟩ := hid
      obtain ⟨h1, h2⟩ := self s hs
      rw [h1, h2]
      simpa using ho
    · have hne : i ≠ q ∨ d ≠ c := by
        by_cases h : i = q
        · exact .inr fun h2 => hid ⟨h, h2⟩
        · exact .inl h
      obtain ⟨s0, h1, h2, h3⟩ := key i s d hs hne
      rw [h2, h3]
      exact own_grown (h.own i s0 d h1) hg fun b hb => h.ap i q s0 r d c b h1 hq hne hb
  · by_cases hid : i = q ∧ d = c
    · obtain ⟨rfl, rfl⟩ := hid
      obtain ⟨h1, -⟩ := self s hs
      have hne' : i' ≠ i ∨ d' ≠ d := by rcases hne with h | h; exact .inl (Ne.symm h); exact .inr (Ne.symm h)
      obtain ⟨s0, h2, h3, -⟩ := key i' s' d' hs' hne'
      rw [h1] at hb
      rw [h3]
      intro e
      exact old i' s0 d' b h2 hne' e hb
    · have hne1 : i ≠ q ∨ d ≠ c := by
        by_cases h : i = q
        · exact .inr fun h2 => hid ⟨h, h2⟩
        · exact .inl h
      obtain ⟨s0, h1, h2, -⟩ := key i s d hs hne1
      rw [h2] at hb
      by_cases hid' : i' = q ∧ d' = c
      · obtain ⟨rfl, rfl⟩ := hid'
        obtain ⟨h3, -⟩ := self s' hs'
        rw [h3]
        exact old i s0 d b h1 hne1 hb
      · have hne2 : i' ≠ q ∨ d' ≠ c := by
          by_cases h : i' = q
          · exact .inr fun h2 => hid' ⟨h, h2⟩
          · exact .inl h
        obtain ⟨s1, h3, h4, -⟩ := key i' s' d' hs' hne2
        rw [h4]
        exact h.ap i i' s0 s1 d d' b h1 h3 hne hb
theorem RowsF.setCell {w : World} {B : Nat} {bs : List BR} (h : RowsF w B bs) {a : Addr} (ha : a.block < B) (u : Value) : RowsF (w.setCell a u) B bs := ⟨fun q r c hq => own_setCell (h.own q r c hq) ha u, h.ap⟩
/-- The block of blocks, and their rows. -/
structure BlkB (w : World) (g B : Nat) (bs : List BR) : Prop where
  blk : w.heap[g]? = some (.cells (brCells bs).toArray 84 (0, 0))
  rows : RowsF w B bs
  lt : g < B
section
variable {w w' : World} {g B : Nat} {bs : List BR}
theorem BlkB.keeps (h : BlkB w g B bs) (hb : Below w.heap.size w w') : BlkB w' g B bs := ⟨(hb.block _ (block_lt h.blk)).trans h.blk, h.rows.keeps hb, h.lt⟩
theorem BlkB.cell (h : BlkB w g B bs) {q : Nat} {r : BR} (hq : bs[q]? = some r) {j : Nat} (hj : j < 4) : w.cell? ⟨g, q * 4 + j, none⟩ = r.cells[j]? := by
  rw [cell_block h.blk, List.getElem?_toArray, brCells_get hq hj]
theorem BlkB.frozen (h : BlkB w g B bs) (i : Nat) : w.frozen? ⟨g, i, none⟩ = false := frozen_block h.blk i
theorem set_same {bs : List BR} {q : Nat} {r r' : BR} (hq : bs[q]? = some r) (hv : ∀ c, r'.val c = r.val c) (hl : ∀ c, r'.lst c = r.lst c) (i : Nat) (s : BR) (hs : (bs.set q r')[i]? = some s) : ∃ s0, bs[i]? = some s0 ∧ (∀ c, s.val c = s0.val c) ∧ (∀ c, s.lst c = s0.lst c) := by
  rw [List.getElem?_set] at hs
  by_cases e : q = i
  · subst e
    rw [if_pos rfl, if_pos (List.getElem?_eq_some_iff.1 hq).1] at hs
    obtain rfl := Option.some.inj hs
    exact ⟨r, hq, hv, hl⟩
  · rw [if_neg e] at hs; exact ⟨s, hs, fun _ => rfl, fun _ => rfl⟩
/-- From, To of a block. -/
theorem BlkB.set0 (h : BlkB w g B bs) {q : Nat} {r : BR} (hq : bs[q]? = some r) (x : Int) : BlkB (w.setCell ⟨g, q * 4, none⟩ (.int .i64 x)) g B (bs.set q { r with fr := x }) := by
  have hql := (List.getElem?_eq_some_iff.1 hq).1
  have hs := brCells_set bs q r { r with fr := x } 0 (.int .i64 x) hq (by omega) rfl
  refine ⟨?_, ⟨fun i s c hi => ?_, fun i i' s s' c c' b hi hi' => ?_⟩, h.lt⟩
  · simp only [World.setCell, Array.getElem?_modify, if_true, h.blk, Option.map_some]
    rw [← hs]; simp
  · obtain ⟨s0, h0, h1, h2⟩ := set_same hq (r' := { r with fr := x }) (fun c => rfl) (fun c => rfl) i s hi
    rw [h1 c, h2 c]; exact own_setCell (h.rows.own i s0 c h0) h.lt _
  · obtain ⟨s0, h0, h1, -⟩ := set_same hq (r' := { r with fr := x }) (fun c => rfl) (fun c => rfl) i s hi
    obtain ⟨s1, h3, h4, -⟩ := set_same hq (r' := { r with fr := x }) (fun c => rfl) (fun c => rfl) i' s' hi'
    rw [h1 c, h4 c']; exact h.rows.ap i i' s0 s1 c c' b h0 h3
theorem BlkB.set1 (h : BlkB w g B bs) {q : Nat} {r : BR} (hq : bs[q]? = some r) (x : Int) : BlkB (w.setCell ⟨g, q * 4 + 1, none⟩ (.int .i64 x)) g B (bs.set q { r with to := x }) := by
  have hs := brCells_set bs q r { r with to := x } 1 (.int .i64 x) hq (by omega) rfl
  refine ⟨?_, ⟨fun i s c hi => ?_, fun i i' s s' c c' b hi hi' => ?_⟩, h.lt⟩
  · simp only [World.setCell, Array.getElem?_modify, if_true, h.blk, Option.map_some]
    rw [← hs]; simp
  · obtain ⟨s0, h0, h1, h2⟩ := set_same hq (r' := { r with to := x }) (fun c => rfl) (fun c => rfl) i s hi
    rw [h1 c, h2 c]; exact own_setCell (h.rows.own i s0 c h0) h.lt _
  · obtain ⟨s0, h0, h1, -⟩ := set_same hq (r' := { r with to := x }) (fun c => rfl) (fun c => rfl) i s hi
    obtain ⟨s1, h3, h4, -⟩ := set_same hq (r' := { r with to := x }) (fun c => rfl) (fun c => rfl) i' s' hi'
    rw [h1 c, h4 c']; exact h.rows.ap i i' s0 s1 c c' b h0 h3
/-- A number goes behind one of a block's rows, and the row into its cell. -/
theorem BlkB.app (h : BlkB w g B bs) {q : Nat} {r : BR} (hq : bs[q]? = some r) (c : Bool) {v : Value} {x : Int} (o : Obj) (hg : (w.alloc o).grownBy w' (r.val c).ownBlock)
    (ho : w'.ownsRow B 3 1 v ((r.lst c).length + 1) ((r.lst c).map (Value.int .i64) ++ [.int .i64 x])) (hat : v.ownBlock = (r.val c).ownBlock ∨ v.ownBlock = some (w.alloc o).heap.size) :
    BlkB (w'.setCell ⟨g, q * 4 + (if c = true then 3 else 2), none⟩ v) g B (bs.set q (r.upd c v (r.lst c ++ [x]))) ∧ w'.heap[g]? = w.heap[g]? := by
  have hA : Below w.heap.size w (w.alloc o) := (Below.refl _ _).alloc (Nat.le_refl _) _
  have hk := h.keeps hA
  have hr := hk.rows.app hq c hg ho (by rcases hat with h1 | h1; exact .inl h1; exact .inr ⟨_, Nat.le_refl _, h1⟩)
  have hgb : w'.heap[g]? = (w.alloc o).heap[g]? := hg.block g (block_lt hk.blk) (fun e => by have := (hk.rows.lt hq c g e.symm).1; have := h.lt; omega)
  have hs := brCells_set bs q r (r.upd c v (r.lst c ++ [x])) (if c = true then 3 else 2) v hq (by split <;> omega) (by cases c <;> rfl)
  refine ⟨⟨?_, hr.setCell h.lt _, h.lt⟩, hgb.trans (hA.block _ (block_lt h.blk))⟩
  have h2 := hgb.trans hk.blk
  simp only [World.setCell, Array.getElem?_modify, if_true, h2, Option.map_some]
  rw [← hs]; simp
end
end Go.Proofs.YtfdppmjoinodgaaDoor
