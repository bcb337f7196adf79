/-
  Plain data: instructions, functions, programs as lists of numbers; what code.go says of their shape. No program is in sight.
-/
import Derived.Test.YtfdppmjoinodgaaDoorLib
namespace Tier
open Go Go.RowKit
structure Ins where
  op : Int
  dst : Int
  a : Int
  b : Int
  imm : Int
structure Fnc where
  params : Int
  regs : Int
  code : List Ins
def Ins.cells (x : Ins) : List Value := [.int .i64 x.op, .int .i64 x.dst, .int .i64 x.a, .int .i64 x.b, .int .i64 x.imm]
def codeCells (l : List Ins) : List Value := l.flatMap Ins.cells
theorem codeCells_length (l : List Ins) : (codeCells l).length = l.length * 5 := by
  induction l with
  | nil => rfl
  | cons x l ih => simp only [codeCells, List.flatMap_cons, List.length_append, List.length_cons] at *; rw [ih]; simp [Ins.cells]; omega
def hasTab : List Int := [0, 9, 7, 7, 7, 7, 7, 7, 7, 7, 7, 7, 7, 3, 6, 16, 18, 39, 3, 2]
def hasOf (op : Nat) : Int := hasTab.getD op 0
def wi (n lo hi : Int) : Bool := decide (lo ≤ n) && decide (n ≤ hi)
def regB (n is regs : Int) : Bool := if is = 0 then n == 0 else wi n 0 (regs - 1)
/-- The table 'has' lies where the program's start lays it. -/
structure Tab (w : World) : Prop where
  has : ∀ i, i < 20 → w.cell? ⟨0, i, none⟩ = some (.int .i64 (hasTab.getD i 0))
  size : 0 < w.heap.size
theorem bthen {a b c : World} (h1 : Below a.heap.size a b) (h2 : Below b.heap.size b c) : Below a.heap.size a c := h1.trans (h2.mono h1.size)
theorem balloc {a b : World} (h1 : Below a.heap.size a b) (o : Obj) : Below a.heap.size a (b.alloc o) := h1.alloc h1.size o
theorem Tab.keeps {w w' : World} (h : Tab w) (hb : Below w.heap.size w w') : Tab w' :=
  ⟨fun i hi => (hb.cell (p := ⟨0, i, none⟩) h.size).trans (h.has i hi), Nat.lt_of_lt_of_le h.size hb.size⟩
theorem Tab.alloc {w : World} (h : Tab w) (o : Obj) : Tab (w.alloc o) := h.keeps ((Below.refl _ _).alloc (Nat.le_refl _) _)
theorem Tab.drewN {w : World} (h : Tab w) (n : Nat) : Tab (w.drewN n) := ⟨h.has, h.size⟩
/-- Behind a call: a block that lay before it reads as it did. -/
theorem aft {W W' : World} (hb : Below W.heap.size W W') {b : Nat} (h : b < W.heap.size) : (∀ o, W'.cell? ⟨b, o, none⟩ = W.cell? ⟨b, o, none⟩) ∧ b < W'.heap.size :=
  ⟨fun o => hb.cell (p := ⟨b, o, none⟩) h, Nat.lt_of_lt_of_le h hb.size⟩
theorem ret_int {k : IntKind} {a b : Int} (h : a = b) : Ending.returned (.int k a) = .returned (.int k b) := by rw [h]
/-- What code.go says of an instruction: in a function of so many registers and places, of a program of so many functions. -/
def insH (h : Int) (x : Ins) (regs n funcs : Int) : Int :=
  if regB x.dst (bits .and .i64 h 1) regs = false then 2 else if regB x.a (bits .and .i64 h 2) regs = false then 2 else if regB x.b (bits .and .i64 h 4) regs = false then 2
  else if bits .and .i64 h 8 ≠ 0 then 0
  else if bits .and .i64 h 16 ≠ 0 ∧ wi x.imm 0 (n - 1) = true then 0
  else if bits .and .i64 h 32 ≠ 0 ∧ wi x.imm 0 (funcs - 1) = true then 0
  else if bits .and .i64 h 48 = 0 ∧ x.imm = 0 then 0 else 2
def insE (x : Ins) (regs n funcs : Int) : Int := if wi x.op 1 19 = false then 3 else insH (hasOf x.op.toNat) x regs n funcs
end Tier
/-
  Plain data: what the statements make of raw numbers: instructions, functions, programs. No program is in sight.
-/
namespace Tier
open Go Go.RowKit
def pickedI (n many : Int) : Int := (if n < 0 then -(n + 1) else n) % many
theorem picked_in (n many : Int) (h : 1 ≤ many) : 0 ≤ pickedI n many ∧ pickedI n many < many := by
  unfold pickedI; exact ⟨Int.emod_nonneg _ (by omega), Int.emod_lt_of_pos _ (by omega)⟩
/-- An instruction out of raw numbers. -/
def rawIns (x : Ins) (regs places funcs : Int) : Ins :=
  if 1 + pickedI x.op 19 = 1 then ⟨1 + pickedI x.op 19, pickedI x.dst regs, 0, 0, x.imm⟩
  else if 1 + pickedI x.op 19 ≤ 12 then ⟨1 + pickedI x.op 19, pickedI x.dst regs, pickedI x.a regs, pickedI x.b regs, 0⟩
  else if 1 + pickedI x.op 19 = 13 ∨ 1 + pickedI x.op 19 = 18 then ⟨1 + pickedI x.op 19, pickedI x.dst regs, pickedI x.a regs, 0, 0⟩
  else if 1 + pickedI x.op 19 = 14 then ⟨1 + pickedI x.op 19, 0, pickedI x.a regs, pickedI x.b regs, 0⟩
  else if 1 + pickedI x.op 19 = 15 then ⟨1 + pickedI x.op 19, 0, 0, 0, pickedI x.imm places⟩
  else if 1 + pickedI x.op 19 = 16 then ⟨1 + pickedI x.op 19, 0, pickedI x.a regs, 0, pickedI x.imm places⟩
  else if 1 + pickedI x.op 19 = 17 then ⟨1 + pickedI x.op 19, pickedI x.dst regs, pickedI x.a regs, pickedI x.b regs, pickedI x.imm funcs⟩
  else ⟨1 + pickedI x.op 19, 0, pickedI x.a regs, 0, 0⟩
/-- Set each register that is no parameter. -/
def preIns (params regs : Int) : List Ins := (List.range (regs - params).toNat).map fun (i : Nat) => ⟨1, params + (i : Int), 0, 0, params + (i : Int)⟩
/-- A function out of raw numbers. -/
def mkFn (bp br : Int) (raws : List Ins) (funcs : Int) (all : Bool) : Fnc :=
  let params := pickedI bp 3
  let regs := (if params < 1 then 1 else params) + pickedI br 11
  let pre := if all then preIns params regs else []
  ⟨params, regs, pre ++ (raws.take 22).map (fun x => rawIns x regs (pre.length + (min raws.length 22 : Nat) + 2) funcs) ++ [⟨1, 0, 0, 0, 7⟩, ⟨19, 0, 0, 0, 0⟩]⟩
theorem codeCells_snoc (l : List Ins) (x : Ins) : codeCells (l ++ [x]) = codeCells l ++ x.cells := by simp [codeCells]
end Tier
