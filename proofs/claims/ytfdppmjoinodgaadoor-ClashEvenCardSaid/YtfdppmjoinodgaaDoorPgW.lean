/-
  How a program lies in memory: its functions in a row of the call's own, each with a row of instructions. Facts on cells; what keeps it.
-/
import Derived.Test.YtfdppmjoinodgaaDoorRows
import Derived.WalkKit
import Derived.Deep.Light
import Derived.Lib.Hide
import Derived.Test.YtfdppmjoinodgaaDoorPgP
namespace Tier
open Go Go.RowKit
theorem flat_get {α : Type} (f : α → List Value) (k : Nat) : ∀ (l : List α), (∀ x ∈ l, (f x).length = k) → ∀ i j, j < k → (l.flatMap f)[i * k + j]? = (l[i]?).bind fun x => (f x)[j]?
  | [], _, i, j, _ => by simp
  | x :: l, h, 0, j, hj => by
    have := h x (by simp)
    simp only [List.flatMap_cons, Nat.zero_mul, Nat.zero_add, List.getElem?_cons_zero, Option.bind_some]
    rw [List.getElem?_append_left (by omega)]
  | x :: l, h, i + 1, j, hj => by
    have := h x (by simp)
    rw [List.flatMap_cons, List.getElem?_append_right (by rw [Nat.add_mul]; omega), this, show (i + 1) * k + j - k = i * k + j by rw [Nat.add_mul]; omega]
    rw [flat_get f k l (fun y hy => h y (by simp [hy])) i j hj]
    simp
theorem own_below {w w' : World} {base : Nat} {e : TypeId} {size : Nat} {v : Value} {n : Nat} {xs : List Value} (h : w.ownsRow base e size v n xs) (hb : Below w.heap.size w w') : w'.ownsRow base e size v n xs := by
  obtain ⟨h1, h2⟩ := h
  refine ⟨h1, ?_⟩
  rcases h2 with h2 | ⟨g, cap, cur, hv, hg, hh, r⟩
  · exact .inl h2
  · refine .inr ⟨g, cap, cur, hv, hg, ?_, r⟩
    rw [hb.block g (by
      rcases Nat.lt_or_ge g w.heap.size with h | h
      · exact h
      · rw [Array.getElem?_eq_none h] at hh; cases hh)]
    exact hh
/-- A row of the call's own as a slice: its head, its cells. -/
theorem own_slice {w : World} {base : Nat} {e : TypeId} {size : Nat} {v : Value} {n : Nat} {xs : List Value} (h : w.ownsRow base e size v n xs) :
    ∃ A cap, v = .slice A n cap ∧ (0 < n → ∃ g, A = some ⟨g, 0, none⟩ ∧ g < w.heap.size ∧ ∀ j, j < n * size → w.cell? ⟨g, j, none⟩ = xs[j]?) := by
  rcases h.2 with ⟨rfl, rfl⟩ | ⟨g, cap, cur, rfl, hg, hh, hn, hc, hs, ht⟩
  · exact ⟨none, 0, rfl, by omega⟩
  · refine ⟨_, cap, rfl, fun _ => ⟨g, rfl, ?_, fun j hj => World.ownsRow.cellAt h j hj⟩⟩
    rcases Nat.lt_or_ge g w.heap.size with h | h
    · exact h
    · rw [Array.getElem?_eq_none h] at hh; cases hh
def fnCells (p : List Fnc) (vs : List Value) : List Value := (p.zip vs).flatMap fun x => [.int .i64 x.1.params, .int .i64 x.1.regs, x.2]
/-- What code.go says of a function, of a program. -/
def firstE (l : List Int) : Int := (l.find? (· != 0)).getD 0
def fnE (f : Fnc) (funcs : Int) : Int :=
  if wi f.regs 1 12 = false ∨ wi f.params 0 (if f.regs < 2 then f.regs else 2) = false then 2 else if f.code.length < 1 ∨ 40 < f.code.length then 1
  else firstE (f.code.map fun x => insE x f.regs f.code.length funcs)
def progE (p : List Fnc) : Int := if p.length < 1 ∨ 4 < p.length then 1 else firstE (p.map fun f => fnE f p.length)
theorem fnE_regs {f : Fnc} {n : Int} (h : wi f.regs 1 12 = false ∨ wi f.params 0 (if f.regs < 2 then f.regs else 2) = false) : fnE f n = 2 := if_pos h
theorem fnE_size {f : Fnc} {n : Int} (h : wi f.regs 1 12 = true) (h' : wi f.params 0 (if f.regs < 2 then f.regs else 2) = true) (k : f.code.length < 1 ∨ 40 < f.code.length) : fnE f n = 1 := by
  unfold fnE; rw [if_neg (by simp [h, h']), if_pos k]
theorem fnE_code {f : Fnc} {n : Int} (h : wi f.regs 1 12 = true) (h' : wi f.params 0 (if f.regs < 2 then f.regs else 2) = true) (k : ¬ f.code.length < 1) (k' : ¬ 40 < f.code.length) : fnE f n = firstE (f.code.map fun x => insE x f.regs f.code.length n) := by
  unfold fnE; rw [if_neg (by simp [h, h']), if_neg (by omega)]
theorem firstE_cons (x : Int) (l : List Int) : firstE (x :: l) = if x ≠ 0 then x else firstE l := by
  unfold firstE; rw [List.find?_cons]
  by_cases h : x = 0
  · subst h; simp
  · have h' : (x != 0) = true := by simpa using h
    rw [h', if_pos h]; rfl
theorem firstE_at {l : List Int} : ∀ {k : Nat} {x : Int}, l[k]? = some x → x ≠ 0 → (∀ j, j < k → l[j]? = some 0) → firstE l = x := by
  induction l with
  | nil => intro k x h; simp at h
  | cons y l ih =>
    intro k x h hx hj
    rw [firstE_cons]
    cases k with
    | zero => simp at h; subst h; rw [if_pos hx]
    | succ k =>
      have h0 := hj 0 (by omega)
      simp at h0; subst h0
      rw [if_neg (by simp)]
      exact ih (by simpa using h) hx fun j hjk => by simpa using hj (j + 1) (by omega)
theorem firstE_zero {l : List Int} : (∀ j, j < l.length → l[j]? = some 0) → firstE l = 0 := by
  induction l with
  | nil => intro _; rfl
  | cons y l ih =>
    intro h
    have h0 := h 0 (by simp)
    simp at h0; subst h0
    rw [firstE_cons, if_neg (by simp)]
    exact ih fun j hj => by simpa using h (j + 1) (by simpa using hj)
end Tier
namespace Go.Proofs.YtfdppmjoinodgaaDoor
open Go.RowKit Tier
/-- These instructions lie in memory as the slice v. -/
def CodeAt (w : World) (v : Value) (l : List Ins) : Prop := ∃ base, w.ownsRow base 54 5 v l.length (codeCells l)
/-- This program lies in memory as the slice v. -/
def ProgAt (w : World) (v : Value) (p : List Fnc) : Prop :=
  ∃ (base : Nat) (vs : List Value), vs.length = p.length ∧ w.ownsRow base 57 3 v p.length (fnCells p vs) ∧ ∀ (i : Nat) (u : Value) (f : Fnc), vs[i]? = some u → p[i]? = some f → CodeAt w u f.code
theorem CodeAt.keeps {w w' : World} {v : Value} {l : List Ins} (h : CodeAt w v l) (hb : Below w.heap.size w w') : CodeAt w' v l := ⟨h.choose, own_below h.choose_spec hb⟩
theorem ProgAt.keeps {w w' : World} {v : Value} {p : List Fnc} (h : ProgAt w v p) (hb : Below w.heap.size w w') : ProgAt w' v p := by
  obtain ⟨base, vs, h1, h2, h3⟩ := h
  exact ⟨base, vs, h1, own_below h2 hb, fun i u f hu hf => (h3 i u f hu hf).keeps hb⟩
theorem CodeAt.slice {w : World} {v : Value} {l : List Ins} (h : CodeAt w v l) :
    ∃ A cap, v = .slice A l.length cap ∧ (0 < l.length → ∃ g, A = some ⟨g, 0, none⟩ ∧ g < w.heap.size ∧ ∀ (i : Nat) (x : Ins), l[i]? = some x →
      w.cell? ⟨g, i * 5, none⟩ = some (.int .i64 x.op) ∧ w.cell? ⟨g, i * 5 + 1, none⟩ = some (.int .i64 x.dst) ∧ w.cell? ⟨g, i * 5 + 2, none⟩ = some (.int .i64 x.a) ∧ w.cell? ⟨g, i * 5 + 3, none⟩ = some (.int .i64 x.b) ∧ w.cell? ⟨g, i * 5 + 4, none⟩ = some (.int .i64 x.imm)) := by
  obtain ⟨base, h⟩ := h
  obtain ⟨A, cap, hv, hA⟩ := own_slice h
  refine ⟨A, cap, hv, fun hl => ?_⟩
  obtain ⟨g, h1, h2, h3⟩ := hA hl
  refine ⟨g, h1, h2, fun i x hx => ?_⟩
  have hi : i < l.length := by
    rcases Nat.lt_or_ge i l.length with h | h
    · exact h
    · rw [List.getElem?_eq_none h] at hx; cases hx
  have key : ∀ j, j < 5 → w.cell? ⟨g, i * 5 + j, none⟩ = x.cells[j]? := fun j hj => by
    rw [h3 _ (by omega), codeCells, flat_get Ins.cells 5 l (fun _ _ => rfl) i j hj, hx]; rfl
  exact ⟨key 0 (by omega), key 1 (by omega), key 2 (by omega), key 3 (by omega), key 4 (by omega)⟩
theorem ProgAt.slice {w : World} {v : Value} {p : List Fnc} (h : ProgAt w v p) :
    ∃ A cap, v = .slice A p.length cap ∧ (0 < p.length → ∃ g, A = some ⟨g, 0, none⟩ ∧ g < w.heap.size ∧ ∀ (i : Nat) (f : Fnc), p[i]? = some f →
      ∃ u, CodeAt w u f.code ∧ w.cell? ⟨g, i * 3, none⟩ = some (.int .i64 f.params) ∧ w.cell? ⟨g, i * 3 + 1, none⟩ = some (.int .i64 f.regs) ∧ w.cell? ⟨g, i * 3 + 2, none⟩ = some u) := by
  obtain ⟨base, vs, hvs, h, hc⟩ := h
  obtain ⟨A, cap, hv, hA⟩ := own_slice h
  refine ⟨A, cap, hv, fun hl => ?_⟩
  obtain ⟨g, h1, h2, h3⟩ := hA hl
  refine ⟨g, h1, h2, fun i f hf => ?_⟩
  have hi : i < p.length := by
    rcases Nat.lt_or_ge i p.length with h | h
    · exact h
    · rw [List.getElem?_eq_none h] at hf; cases hf
  have hu : vs[i]? = some (vs[i]'(by omega)) := List.getElem?_eq_getElem (by omega)
  have key : ∀ j, j < 3 → w.cell? ⟨g, i * 3 + j, none⟩ = [Value.int .i64 f.params, .int .i64 f.regs, vs[i]'(by omega)][j]? := fun j hj => by
    rw [h3 _ (by omega), fnCells, flat_get _ 3 (p.zip vs) (fun _ _ => rfl) i j hj]
    have hz : (p.zip vs)[i]? = some (f, vs[i]'(by omega)) := by rw [List.getElem?_zip_eq_some]; exact ⟨hf, hu⟩
    rw [hz]; rfl
  exact ⟨_, hc i _ f hu hf, key 0 (by omega), key 1 (by omega), key 2 (by omega)⟩
end Go.Proofs.YtfdppmjoinodgaaDoor
