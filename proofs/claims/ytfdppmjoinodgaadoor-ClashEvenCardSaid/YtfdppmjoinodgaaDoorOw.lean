/-
  Rows of cells of the call's own, under keys: each row whole, no two in one block. What appends, stores and new blocks do to them.
-/
import Derived.Test.YtfdppmjoinodgaaDoorStB
import Derived.Test.YtfdppmjoinodgaaDoorPgW
import Derived.Deep.AppendLies
namespace Go.Proofs.YtfdppmjoinodgaaDoor
open Go.RowKit Tier
/-- A row of cells. -/
structure RowC where
  e : TypeId
  size : Nat
  v : Value
  n : Nat
  xs : List Value
def nilRow (e : TypeId) (size : Nat) : RowC := ⟨e, size, .slice none 0 0, 0, []⟩
def putK {κ : Type} [DecidableEq κ] (ρ : κ → RowC) (k : κ) (r : RowC) : κ → RowC := fun j => if j = k then r else ρ j
theorem putK_self {κ : Type} [DecidableEq κ] (ρ : κ → RowC) (k : κ) (r : RowC) : putK ρ k r k = r := if_pos rfl
theorem putK_ne {κ : Type} [DecidableEq κ] (ρ : κ → RowC) {j k : κ} (h : j ≠ k) (r : RowC) : putK ρ k r j = ρ j := if_neg h
structure OwnK {κ : Type} (w : World) (B : Nat) (ρ : κ → RowC) : Prop where
  own : ∀ k, w.ownsRow B (ρ k).e (ρ k).size (ρ k).v (ρ k).n (ρ k).xs
  ap : ∀ j k, j ≠ k → ∀ b, (ρ j).v.ownBlock = some b → (ρ k).v.ownBlock ≠ some b
theorem own_of {w w' : World} {B : Nat} {e : TypeId} {size : Nat} {v : Value} {n : Nat} {xs : List Value} (h : w.ownsRow B e size v n xs) (hk : ∀ b, v.ownBlock = some b → w'.heap[b]? = w.heap[b]?) : w'.ownsRow B e size v n xs := by
  obtain ⟨h1, h2⟩ := h
  refine ⟨h1, ?_⟩
  rcases h2 with h2 | ⟨g, cap, cur, rfl, hg, hh, r⟩
  · exact .inl h2
  · exact .inr ⟨g, cap, cur, rfl, hg, (hk g rfl).trans hh, r⟩
section
variable {κ : Type} {w w' : World} {B : Nat} {ρ : κ → RowC}
theorem OwnK.lt (h : OwnK w B ρ) {k : κ} {b : Nat} (hb : (ρ k).v.ownBlock = some b) : B ≤ b ∧ b < w.heap.size := World.ownsRow.lt (h.own k) b hb
theorem OwnK.same (h : OwnK w B ρ) (hk : ∀ b, B ≤ b → b < w.heap.size → (∃ k, (ρ k).v.ownBlock = some b) → w'.heap[b]? = w.heap[b]?) : OwnK w' B ρ :=
  ⟨fun k => own_of (h.own k) fun b hb => hk b (h.lt hb).1 (h.lt hb).2 ⟨k, hb⟩, h.ap⟩
theorem OwnK.keeps (h : OwnK w B ρ) (hb : Below w.heap.size w w') : OwnK w' B ρ := h.same fun b _ h2 _ => hb.block b h2
theorem OwnK.drew (h : OwnK w B ρ) : OwnK w.drew B ρ := h.keeps (Below.refl _ _).drew
theorem OwnK.alloc (h : OwnK w B ρ) (o : Obj) : OwnK (w.alloc o) B ρ := h.keeps ((Below.refl _ _).alloc (Nat.le_refl _) _)
/-- A block of another type is no row. -/
theorem OwnK.box (h : OwnK w B ρ) {b : Nat} {c : Array Value} {t : TypeId} {fr : Nat × Nat} (hb : w.heap[b]? = some (.cells c t fr)) (ht : ∀ k, (ρ k).e ≠ t) (k : κ) : (ρ k).v.ownBlock ≠ some b := fun e => by
  rcases (h.own k).2 with ⟨h1, -⟩ | ⟨g, cap, cur, hv, hg, hh, -⟩
  · rw [h1] at e; simp [Value.ownBlock] at e
  · rw [hv] at e
    have e' : g = b := by simpa [Value.ownBlock] using e
    subst e'
    rw [hb] at hh
    simp only [Option.some.injEq, Obj.cells.injEq] at hh
    exact ht k hh.2.1.symm
theorem OwnK.setOut (h : OwnK w B ρ) {b : Nat} (hne : ∀ k, (ρ k).v.ownBlock ≠ some b) (i : Nat) (u : Value) : OwnK (w.setCell ⟨b, i, none⟩ u) B ρ :=
  h.same fun b' _ _ ⟨k, hk⟩ => Below.heap_setCell _ _ _ _ (fun e => hne k (by rw [hk]; exact congrArg some e))
theorem OwnK.setsOut (h : OwnK w B ρ) {b : Nat} (hne : ∀ k, (ρ k).v.ownBlock ≠ some b) : ∀ (vs : List Value) (o : Nat), OwnK (w.setCells b o vs) B ρ := fun vs => by
  induction vs generalizing w with
  | nil => intro o; exact h
  | cons v vs ih => intro o; exact ih (h.setOut hne o v) (o + 1)
variable [DecidableEq κ]
/-- A row's cell is written. -/
theorem OwnK.set (h : OwnK w B ρ) (k : κ) {g n cap : Nat} (hv : (ρ k).v = .slice (some ⟨g, 0, none⟩) n cap) (i : Nat) (u : Value) (hi : i < (ρ k).xs.length) :
    OwnK (w.setCell ⟨g, i, none⟩ u) B (putK ρ k { ρ k with xs := (ρ k).xs.set i u }) := by
  have hb : (ρ k).v.ownBlock = some g := by rw [hv]; rfl
  refine ⟨fun j => ?_, fun j j' hj b h1 h2 => ?_⟩
  · by_cases e : j = k
    · subst e
      rw [putK_self]
      obtain ⟨h1, h2⟩ := h.own j
      refine ⟨by simpa using h1, .inr ?_⟩
      rcases h2 with ⟨h3, -⟩ | ⟨g', cap', cur, hv', hg, hh, hn, hc, hs, ht⟩
      · rw [hv] at h3; simp at h3
      · rw [hv] at hv'
        simp only [Value.slice.injEq, Option.some.injEq, Addr.mk.injEq, and_true] at hv'
        obtain ⟨rfl, hn', rfl⟩ := hv'
        refine ⟨g, cap, (cur.toList.set i u).toArray, by rw [← hn']; exact hv, hg, block_put (by simpa using hh) rfl, hn, hc, by simpa using hs, ?_⟩
        rw [show (cur.toList.set i u).toArray.toList = cur.toList.set i u from rfl, List.take_set, ht]
    · rw [putK_ne _ e]
      exact own_of (h.own j) fun b hb' => Below.heap_setCell _ _ _ _ (fun e2 => h.ap j k e b hb' (by rw [hb]; exact congrArg some e2.symm))
  · have hs : ∀ j, (putK ρ k { ρ k with xs := (ρ k).xs.set i u } j).v = (ρ j).v := fun j => by
      by_cases e : j = k
      · subst e; rw [putK_self]
      · rw [putK_ne _ e]
    rw [hs] at h1 h2
    exact h.ap j j' hj b h1 h2
/-- A row is another one now, in a block of its own or in a new one; no other block that lay there has changed. -/
theorem OwnK.put (h : OwnK w B ρ) (k : κ) (r : RowC) (hr : w'.ownsRow B r.e r.size r.v r.n r.xs) (hat : ∀ b, r.v.ownBlock = some b → (ρ k).v.ownBlock = some b ∨ w.heap.size ≤ b)
    (hb : ∀ b, b < w.heap.size → (ρ k).v.ownBlock ≠ some b → w'.heap[b]? = w.heap[b]?) : OwnK w' B (putK ρ k r) := by
  have hx : ∀ j, j ≠ k → ∀ b, (ρ j).v.ownBlock = some b → r.v.ownBlock ≠ some b := fun j hj b h1 h2 => by
    rcases hat b h2 with h3 | h3
    · exact h.ap j k hj b h1 h3
    · have := (h.lt h1).2; omega
  refine ⟨fun j => ?_, fun j j' hj b h1 h2 => ?_⟩
  · by_cases e : j = k
    · subst e; rw [putK_self]; exact hr
    · rw [putK_ne _ e]
      exact own_of (h.own j) fun b hb' => hb b (h.lt hb').2 (fun e2 => h.ap j k e b hb' e2)
  · by_cases e : j = k
    · subst e
      rw [putK_self] at h1
      rw [putK_ne _ (Ne.symm hj)] at h2
      exact hx j' (Ne.symm hj) b h2 h1
    · rw [putK_ne _ e] at h1
      by_cases e' : j' = k
      · subst e'
        rw [putK_self] at h2
        exact hx j e b h1 h2
      · rw [putK_ne _ e'] at h2
        exact h.ap j j' hj b h1 h2
/-- Behind an append (what is appended was boxed first). -/
theorem OwnK.app (h : OwnK w B ρ) (k : κ) (o : Obj) {g m cap H : Nat} {xs : List Value} (hg : (w.alloc o).grownBy w' (ρ k).v.ownBlock) (ho : w'.ownsRow B (ρ k).e (ρ k).size (.slice (some ⟨g, 0, none⟩) m cap) m xs)
    (hat : (ρ k).v.ownBlock = some g ∨ g = H) (hH : w.heap.size ≤ H) : OwnK w' B (putK ρ k ⟨(ρ k).e, (ρ k).size, .slice (some ⟨g, 0, none⟩) m cap, m, xs⟩) :=
  h.put k _ ho (fun b hb => by
    have e : g = b := by simpa [Value.ownBlock] using hb
    subst e
    rcases hat with h1 | h1
    · exact .inl h1
    · exact .inr (by omega)) fun b hb hne => (hg.block b (by simp; omega) (fun e => hne e.symm)).trans (Below.heap_alloc _ _ _ hb)
/-- Behind a make: a row in a new block. -/
theorem OwnK.made (h : OwnK w B ρ) (hB : B ≤ w.heap.size) (k : κ) (e : TypeId) (size n : Nat) (xs : List Value) (hx : xs.length = n * size) (hn : n ≤ maxLen) : OwnK (w.alloc (.cells xs.toArray e)) B (putK ρ k ⟨e, size, .slice (some ⟨w.heap.size, 0, none⟩) n n, n, xs⟩) :=
  h.put k _ ⟨hx, .inr ⟨w.heap.size, n, xs.toArray, rfl, hB, heap_alloc_new w _, Nat.le_refl _, hn, by simpa using hx, by rw [← hx]; simp⟩⟩ (fun b hb => .inr (by simp [Value.ownBlock] at hb; omega)) fun b hb _ => Below.heap_alloc _ _ _ hb
omit [DecidableEq κ] in
/-- A row's cells. -/
theorem OwnK.cell (h : OwnK w B ρ) (k : κ) {g n cap : Nat} (hv : (ρ k).v = .slice (some ⟨g, 0, none⟩) n cap) {i : Nat} {u : Value} (hu : (ρ k).xs[i]? = some u) : w.cell? ⟨g, i, none⟩ = some u := by
  rcases (h.own k).2 with ⟨h3, -⟩ | ⟨g', cap', cur, hv', hg, hh, hn, hc, hs, ht⟩
  · rw [hv] at h3; simp at h3
  · rw [hv] at hv'
    simp only [Value.slice.injEq, Option.some.injEq, Addr.mk.injEq, and_true] at hv'
    obtain ⟨rfl, -, -⟩ := hv'
    rw [cell_block hh]
    rw [← ht] at hu
    have hi := (List.getElem?_eq_some_iff.1 hu).1
    rw [List.getElem?_take, if_pos (by simp at hi; omega)] at hu
    simpa using hu
omit [DecidableEq κ] in
theorem OwnK.free (h : OwnK w B ρ) (k : κ) {g n cap : Nat} (hv : (ρ k).v = .slice (some ⟨g, 0, none⟩) n cap) (i : Nat) : w.frozen? ⟨g, i, none⟩ = false ∧ g < w.heap.size := by
  rcases (h.own k).2 with ⟨h3, -⟩ | ⟨g', cap', cur, hv', hg, hh, hn, hc, hs, ht⟩
  · rw [hv] at h3; simp at h3
  · rw [hv] at hv'
    simp only [Value.slice.injEq, Option.some.injEq, Addr.mk.injEq, and_true] at hv'
    obtain ⟨rfl, -, -⟩ := hv'
    exact ⟨frozen_block hh _, block_lt hh⟩
omit [DecidableEq κ] in
/-- How a row's slice reads. -/
theorem OwnK.slice (h : OwnK w B ρ) (k : κ) : ∃ A cap, (ρ k).v = .slice A (ρ k).n cap ∧ (ρ k).n ≤ cap ∧ (0 < (ρ k).n → ∃ g, A = some ⟨g, 0, none⟩) := by
  rcases (h.own k).2 with ⟨h3, h4⟩ | ⟨g', cap', cur, hv', hg, hh, hn, hc, hs, ht⟩
  · exact ⟨none, 0, by rw [h3, h4], by omega, fun h => by omega⟩
  · exact ⟨_, cap', hv', hn, fun _ => ⟨g', rfl⟩⟩
end
end Go.Proofs.YtfdppmjoinodgaaDoor
