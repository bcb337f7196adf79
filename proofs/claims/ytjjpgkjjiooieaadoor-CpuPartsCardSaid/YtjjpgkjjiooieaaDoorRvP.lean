/-
  Plain facts on the machine's instructions as rv.go has them: the two tables, what rv.Check says. No program is in sight.
-/
import Derived.Test.YtjjpgkjjiooieaaDoorLib
namespace Tier
open Go Go.RowKit
def bad (n : Int) (b : Bool) : Bool := decide (n < 0) || decide (31 < n) || (n != 0 && !b)
def immLo (sh : Int) : Int := if sh = 1 then -2048 else if sh = 3 then -2048 else if sh = 2 then 0 else if sh = 4 then -4096 else if sh = 5 then -1048576 else if sh = 6 then -524288 else 0
def immHi (sh : Int) : Int := if sh = 1 then 2047 else if sh = 3 then 2047 else if sh = 2 then 63 else if sh = 4 then 4092 else if sh = 5 then 1048572 else if sh = 6 then 524287 else 0
def immSt (sh : Int) : Int := if sh = 4 then 4 else if sh = 5 then 4 else 1
theorem immSt_pos (s : Int) : 1 ≤ immSt s := by unfold immSt; split <;> (try split) <;> omega
theorem bad_cases (n : Int) (b : Bool) : n < 0 ∨ 31 < n ∨ (0 ≤ n ∧ n ≤ 31 ∧ (n != 0) = true ∧ b = false) ∨ (0 ≤ n ∧ n ≤ 31 ∧ (n != 0) = true ∧ b = true) ∨ (0 ≤ n ∧ n ≤ 31 ∧ (n != 0) = false) := by
  by_cases h : n = 0
  · subst h; simp
  · have : (n != 0) = true := by simpa using h
    by_cases h1 : n < 0
    · exact .inl h1
    · by_cases h2 : 31 < n
      · exact .inr (.inl h2)
      · cases b
        · exact .inr (.inr (.inl ⟨by omega, by omega, this, rfl⟩))
        · exact .inr (.inr (.inr (.inl ⟨by omega, by omega, this, rfl⟩)))
theorem bad_lo {n : Int} {b : Bool} (h : n < 0) : bad n b = true := by simp [bad, h]
theorem bad_hi {n : Int} {b : Bool} (h : 31 < n) : bad n b = true := by simp [bad, h]
theorem bad_is {n : Int} {b : Bool} (h : (n != 0) = true) (hb : b = false) : bad n b = true := by simp [bad, hb] at *; omega
theorem bad_no {n : Int} {b : Bool} (h0 : 0 ≤ n) (h1 : n ≤ 31) (h : b = true ∨ (n != 0) = false) : bad n b = false := by
  rcases h with h | h <;> simp [bad, h] <;> omega
/-- What rv.Check says of an instruction whose op is one, its shape s, the fields b0, b1, b2. -/
def chk (s rd rs1 rs2 imm : Int) (b0 b1 b2 : Bool) : Int :=
  if bad rd b0 = true ∨ bad rs1 b1 = true ∨ bad rs2 b2 = true ∨ imm < immLo s ∨ immHi s < imm ∨ imm.tmod (immSt s) ≠ 0 then 2 else 0
section
variable {s rd rs1 rs2 imm : Int} {b0 b1 b2 : Bool}
theorem chk_bad0 (h : bad rd b0 = true) : chk s rd rs1 rs2 imm b0 b1 b2 = 2 := if_pos (.inl h)
theorem chk_bad1 (h : bad rs1 b1 = true) : chk s rd rs1 rs2 imm b0 b1 b2 = 2 := if_pos (.inr (.inl h))
theorem chk_bad2 (h : bad rs2 b2 = true) : chk s rd rs1 rs2 imm b0 b1 b2 = 2 := if_pos (.inr (.inr (.inl h)))
theorem chk_imm (h : imm < immLo s ∨ immHi s < imm ∨ imm.tmod (immSt s) ≠ 0) : chk s rd rs1 rs2 imm b0 b1 b2 = 2 := if_pos (.inr (.inr (.inr h)))
theorem chk_ok (h0 : bad rd b0 = false) (h1 : bad rs1 b1 = false) (h2 : bad rs2 b2 = false) (h3 : ¬ imm < immLo s) (h4 : ¬ immHi s < imm) (h5 : imm.tmod (immSt s) = 0) : chk s rd rs1 rs2 imm b0 b1 b2 = 0 := by
  unfold chk; rw [if_neg]; simp [h0, h1, h2, h5]; omega
end
theorem ret_int {k : IntKind} {a b : Int} (h : a = b) : Ending.returned (.int k a) = .returned (.int k b) := by rw [h]

theorem bthen {a b c : World} (h1 : Below a.heap.size a b) (h2 : Below b.heap.size b c) : Below a.heap.size a c := h1.trans (h2.mono h1.size)
theorem balloc {a b : World} (h1 : Below a.heap.size a b) (o : Obj) : Below a.heap.size a (b.alloc o) := h1.alloc h1.size o
/-- The table 'forms', four numbers an op: shape, code, funct3, funct7. -/
def formTab : List Int := [0, 0, 0, 0, 0, 51, 0, 0, 0, 51, 0, 32, 0, 51, 0, 1, 0, 51, 4, 1, 0, 51, 7, 0, 0, 51, 6, 0, 0, 51, 4, 0, 0, 51, 1, 0, 0, 51, 5, 32, 0, 51, 2, 0, 0, 51, 3, 0, 1, 19, 0, 0, 1, 19, 7, 0, 1, 19, 6, 0, 1, 19, 4, 0, 1, 19, 2, 0, 1, 19, 3, 0, 2, 19, 1, 0, 2, 19, 5, 16, 1, 3, 3, 0, 3, 35, 3, 0, 4, 99, 0, 0, 4, 99, 1, 0, 4, 99, 4, 0, 4, 99, 5, 0, 5, 111, 0, 0, 1, 103, 0, 0, 6, 55, 0, 0, 7, 115, 0, 0]
/-- The table 'fields', three truths a shape. -/
def fieldTab : List Bool := [true, true, true, true, true, false, true, true, false, false, true, true, false, true, true, true, false, false, true, false, false, false, false, false]
def shapeOf (op : Nat) : Int := formTab.getD (op * 4) 0
def codeOf (op : Nat) : Int := formTab.getD (op * 4 + 1) 0
def f3Of (op : Nat) : Int := formTab.getD (op * 4 + 2) 0
def f7Of (op : Nat) : Int := formTab.getD (op * 4 + 3) 0
def fieldOf (s i : Nat) : Bool := fieldTab.getD (s * 3 + i) false
/-- Both tables lie where the program's start lays them. -/
structure Tab (w : World) : Prop where
  forms : ∀ i, i < 120 → w.cell? ⟨0, i, none⟩ = some (.int .i64 (formTab.getD i 0))
  fields : ∀ i, i < 24 → w.cell? ⟨1, i, none⟩ = some (.bool (fieldTab.getD i false))
  size : 1 < w.heap.size
theorem Tab.keeps {w w' : World} (h : Tab w) (hb : Below w.heap.size w w') : Tab w' :=
  ⟨fun i hi => (hb.cell (p := ⟨0, i, none⟩) (Nat.lt_trans Nat.zero_lt_one h.size)).trans (h.forms i hi), fun i hi => (hb.cell (p := ⟨1, i, none⟩) h.size).trans (h.fields i hi), Nat.lt_of_lt_of_le h.size hb.size⟩
theorem Tab.alloc {w : World} (h : Tab w) (o : Obj) : Tab (w.alloc o) := h.keeps ((Below.refl _ _).alloc (Nat.le_refl _) _)
theorem Tab.drewN {w : World} (h : Tab w) (n : Nat) : Tab (w.drewN n) := ⟨h.forms, h.fields, h.size⟩
theorem forms_ok : ∀ op : Nat, 1 ≤ op → op ≤ 29 → 0 ≤ shapeOf op ∧ shapeOf op ≤ 7 ∧ 0 ≤ codeOf op ∧ codeOf op < 128 ∧ 0 ≤ f3Of op ∧ f3Of op < 8 ∧ 0 ≤ f7Of op ∧ f7Of op < 64 := by
  intro op h1 h2
  have : ∀ k : Fin 30, 0 ≤ shapeOf k ∧ shapeOf k ≤ 7 ∧ 0 ≤ codeOf k ∧ codeOf k < 128 ∧ 0 ≤ f3Of k ∧ f3Of k < 8 ∧ 0 ≤ f7Of k ∧ f7Of k < 64 := by decide
  exact this ⟨op, by omega⟩
/-- What rv.Check says. -/
def chkI (op rd rs1 rs2 imm : Int) : Int :=
  if op < 1 then 3 else if 29 < op then 3 else chk (shapeOf op.toNat) rd rs1 rs2 imm (fieldOf (shapeOf op.toNat).toNat 0) (fieldOf (shapeOf op.toNat).toNat 1) (fieldOf (shapeOf op.toNat).toNat 2)
end Tier
