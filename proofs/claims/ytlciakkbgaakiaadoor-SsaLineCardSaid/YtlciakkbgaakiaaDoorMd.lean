/-
  A program in memory whose first function gets other registers, other code.
-/
import Derived.Test.YtlciakkbgaakiaaDoorPgS
import Derived.Laws.OwnMore
namespace Go.Proofs.YtlciakkbgaakiaaDoor
open Go.RowKit Tier
theorem heap_ne {w : World} {B1 B2 : Nat} {e1 e2 : TypeId} {s1 s2 n1 n2 c1 : Nat} {g : Nat} {v2 : Value} {x1 x2 : List Value} (h1 : w.ownsRow B1 e1 s1 (.slice (some ⟨g, 0, none⟩) n1 c1) n1 x1) (h2 : w.ownsRow B2 e2 s2 v2 n2 x2) (he : e1 ≠ e2) : v2.ownBlock ≠ some g := by
  rcases rows_apart h1 h2 he with h | h
  · simp [Value.ownBlock] at h
  · intro e; rw [e] at h; simp [Value.ownBlock] at h
/-- A store into the row of functions leaves the code's rows. -/
theorem code_stored {w : World} {B : Nat} {g n cap : Nat} {x : List Value} {u : Value} {k : Nat} {y : List Value} (h : w.ownsRow B 29 3 (.slice (some ⟨g, 0, none⟩) n cap) n x) (hc : w.ownsRow B 31 5 u k y) (j : Nat) (z : Value) :
    (w.setCell ⟨g, j, none⟩ z).ownsRow B 31 5 u k y :=
  hc.kept (h.stored j z).2 (.inr (heap_ne h hc (by decide)))
theorem fnCells_set0 (f f' : Fnc) (p : List Fnc) (u u' : Value) (vs : List Value) :
    (((fnCells (f :: p) (u :: vs)).set 1 (.int .i64 f'.regs)).set 2 u') = fnCells (⟨f.params, f'.regs, f'.code⟩ :: p) (u' :: vs) := by
  simp [fnCells]
theorem fnCells_code0 (f : Fnc) (c : List Ins) (p : List Fnc) (u u' : Value) (vs : List Value) :
    ((fnCells (f :: p) (u :: vs)).set 2 u') = fnCells (⟨f.params, f.regs, c⟩ :: p) (u' :: vs) := by
  simp [fnCells]
/-- The first function's registers. -/
theorem ProgV.setRegs {w : World} {B g cap : Nat} {f : Fnc} {p : List Fnc} {u : Value} {vs : List Value} (h : ProgV w B (.slice (some ⟨g, 0, none⟩) (p.length + 1) cap) (f :: p) (u :: vs)) (r : Int) :
    ProgV (w.setCell ⟨g, 1, none⟩ (.int .i64 r)) B (.slice (some ⟨g, 0, none⟩) (p.length + 1) cap) (⟨f.params, r, f.code⟩ :: p) (u :: vs) := by
  refine ⟨h.len, ?_, fun i u' f' hu hf => ?_⟩
  · have := (World.ownsRow.stored h.own 1 (.int .i64 r)).1
    have e : (fnCells (f :: p) (u :: vs)).set 1 (.int .i64 r) = fnCells (⟨f.params, r, f.code⟩ :: p) (u :: vs) := by simp [fnCells]
    rw [e] at this; exact this
  · refine code_stored h.own ?_ 1 _
    cases i with
    | zero =>
      simp at hf; subst hf
      exact h.code 0 u' f hu rfl
    | succ i => exact h.code (i + 1) u' f' hu (by simpa using hf)
/-- The first function's code. -/
theorem ProgV.setCode {w : World} {B g cap : Nat} {f : Fnc} {p : List Fnc} {u : Value} {vs : List Value} (h : ProgV w B (.slice (some ⟨g, 0, none⟩) (p.length + 1) cap) (f :: p) (u :: vs)) (c : List Ins) (u' : Value) (hc : w.ownsRow B 31 5 u' c.length (codeCells c)) :
    ProgV (w.setCell ⟨g, 2, none⟩ u') B (.slice (some ⟨g, 0, none⟩) (p.length + 1) cap) (⟨f.params, f.regs, c⟩ :: p) (u' :: vs) := by
  refine ⟨by simpa using h.len, ?_, fun i u'' f' hu hf => ?_⟩
  · have := (World.ownsRow.stored h.own 2 u').1
    rw [fnCells_code0 f c p u u' vs] at this; exact this
  · refine code_stored h.own ?_ 2 _
    cases i with
    | zero =>
      simp at hf hu; subst hf hu
      exact hc
    | succ i => exact h.code (i + 1) u'' f' (by simpa using hu) (by simpa using hf)
/-- The first function's registers and code, whatever is laid behind. -/
theorem ProgV.remake {w w' : World} {B g cap : Nat} {f : Fnc} {p : List Fnc} {u : Value} {vs : List Value} (h : ProgV w B (.slice (some ⟨g, 0, none⟩) (p.length + 1) cap) (f :: p) (u :: vs)) (r : Int) (c : List Ins) (u' : Value)
    (hb : Below w.heap.size ((w.setCell ⟨g, 1, none⟩ (.int .i64 r)).setCell ⟨g, 2, none⟩ u') w') (hc : w'.ownsRow B 31 5 u' c.length (codeCells c)) :
    ProgV w' B (.slice (some ⟨g, 0, none⟩) (p.length + 1) cap) (⟨f.params, r, c⟩ :: p) (u' :: vs) := by
  have h1 := h.setRegs r
  have hb' : Below ((w.setCell ⟨g, 1, none⟩ (.int .i64 r)).setCell ⟨g, 2, none⟩ u').heap.size ((w.setCell ⟨g, 1, none⟩ (.int .i64 r)).setCell ⟨g, 2, none⟩ u') w' := by
    have e : ((w.setCell ⟨g, 1, none⟩ (.int .i64 r)).setCell ⟨g, 2, none⟩ u').heap.size = w.heap.size := by simp [World.setCell]
    rw [e]; exact hb
  refine ⟨by simpa using h.len, ?_, fun i u'' f' hu hf => ?_⟩
  · have := (World.ownsRow.stored h1.own 2 u').1
    rw [fnCells_code0 _ c p u u' vs] at this; exact own_below this hb'
  · cases i with
    | zero =>
      simp at hf hu; subst hf hu
      exact hc
    | succ i => exact own_below (code_stored h1.own (h1.code (i + 1) u'' f' (by simpa using hu) (by simpa using hf)) 2 _) hb'
theorem ProgV.recode {w w' : World} {B g cap : Nat} {f : Fnc} {p : List Fnc} {u : Value} {vs : List Value} (h : ProgV w B (.slice (some ⟨g, 0, none⟩) (p.length + 1) cap) (f :: p) (u :: vs)) (c : List Ins) (u' : Value)
    (hb : Below w.heap.size (w.setCell ⟨g, 2, none⟩ u') w') (hc : w'.ownsRow B 31 5 u' c.length (codeCells c)) :
    ProgV w' B (.slice (some ⟨g, 0, none⟩) (p.length + 1) cap) (⟨f.params, f.regs, c⟩ :: p) (u' :: vs) := by
  have hb' : Below (w.setCell ⟨g, 2, none⟩ u').heap.size (w.setCell ⟨g, 2, none⟩ u') w' := by
    have e : (w.setCell ⟨g, 2, none⟩ u').heap.size = w.heap.size := by simp [World.setCell]
    rw [e]; exact hb
  refine ⟨by simpa using h.len, ?_, fun i u'' f' hu hf => ?_⟩
  · have := (World.ownsRow.stored h.own 2 u').1
    rw [fnCells_code0 _ c p u u' vs] at this; exact own_below this hb'
  · cases i with
    | zero =>
      simp at hf hu; subst hf hu
      exact hc
    | succ i => exact own_below (code_stored h.own (h.code (i + 1) u'' f' (by simpa using hu) (by simpa using hf)) 2 _) hb'
/-- One instruction in a block of its own. -/
theorem one_code {w : World} {B g : Nat} {x : Ins} (h : w.heap[g]? = some (.cells x.cells.toArray 31 (0, 0))) (hB : B ≤ g) : w.ownsRow B 31 5 (.slice (some ⟨g, 0, none⟩) 1 1) 1 (codeCells [x]) :=
  ⟨by simp [codeCells, Ins.cells], .inr ⟨g, 1, _, rfl, hB, h, Nat.le_refl _, by unfold maxLen; omega, by simp [Ins.cells], by simp [codeCells, Ins.cells]⟩⟩
/-- The first function's cells. -/
theorem ProgV.first {w : World} {B g cap : Nat} {f : Fnc} {p : List Fnc} {u : Value} {vs : List Value} (h : ProgV w B (.slice (some ⟨g, 0, none⟩) (p.length + 1) cap) (f :: p) (u :: vs)) :
    w.cell? ⟨g, 0, none⟩ = some (.int .i64 f.params) ∧ w.cell? ⟨g, 1, none⟩ = some (.int .i64 f.regs) ∧ w.cell? ⟨g, 2, none⟩ = some u ∧ B ≤ g ∧ g < w.heap.size ∧ ∀ i, w.frozen? ⟨g, i, none⟩ = false := by
  have h1 := World.ownsRow.cellAt h.own
  have h2 := World.ownsRow.lt h.own g rfl
  refine ⟨?_, ?_, ?_, h2.1, h2.2, ?_⟩
  · rw [h1 0 (by first | omega | (simp only [List.length_cons]; omega))]; simp [fnCells]
  · rw [h1 1 (by first | omega | (simp only [List.length_cons]; omega))]; simp [fnCells]
  · rw [h1 2 (by first | omega | (simp only [List.length_cons]; omega))]; simp [fnCells]
  · rcases h.own.2 with ⟨h', _⟩ | ⟨g', cap', cur, h', hb, hg, hnc, hcm, hcs, htake⟩
    · simp at h'
    · simp only [Value.slice.injEq, Option.some.injEq, Addr.mk.injEq, and_true] at h'
      obtain ⟨rfl, -⟩ := h'
      exact frozen_block hg
end Go.Proofs.YtlciakkbgaakiaaDoor
