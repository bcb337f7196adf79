/-
  Plain data: what the statements make of raw numbers: instructions, functions, programs. No program is in sight.
-/
import Derived.Test.YtnbopmlemddakaaDoorPgP
namespace Tier
open Go Go.RowKit
def pickedI (n many : Int) : Int := (if n < 0 then -(n + 1) else n) % many
theorem picked_in (n many : Int) (h : 1 ≤ many) : 0 ≤ pickedI n many ∧ pickedI n many < many := by
  unfold pickedI; exact ⟨Int.emod_nonneg _ (by omega), Int.emod_lt_of_pos _ (by omega)⟩
/-- An instruction out of raw numbers. -/
def rawIns (x : Ins) (regs places funcs : Int) : Ins :=
  if 1 + pickedI x.op 19 = 1 then ⟨1 + pickedI x.op 19, pickedI x.dst regs, 0, 0, x.imm⟩
  else if 1 + pickedI x.op 19 ≤ 12 then ⟨1 + pickedI x.op 19, pickedI x.dst regs, pickedI x.a regs, pickedI x.b regs, 0⟩
  else if 1 + pickedI x.op 19 = 13 ∨ 1 + pickedI x.op 19 = 18 then ⟨1 + pickedI x.op 19, pickedI x.dst regs, pickedI x.a regs, 0, 0⟩
  else if 1 + pickedI x.op 19 = 14 then ⟨1 + pickedI x.op 19, 0, pickedI x.a regs, pickedI x.b regs, 0⟩
  else if 1 + pickedI x.op 19 = 15 then ⟨1 + pickedI x.op 19, 0, 0, 0, pickedI x.imm places⟩
  else if 1 + pickedI x.op 19 = 16 then ⟨1 + pickedI x.op 19, 0, pickedI x.a regs, 0, pickedI x.imm places⟩
  else if 1 + pickedI x.op 19 = 17 then ⟨1 + pickedI x.op 19, pickedI x.dst regs, pickedI x.a regs, pickedI x.b regs, pickedI x.imm funcs⟩
  else ⟨1 + pickedI x.op 19, 0, pickedI x.a regs, 0, 0⟩
/-- Set each register that is no parameter. -/
def preIns (params regs : Int) : List Ins := (List.range (regs - params).toNat).map fun (i : Nat) => ⟨1, params + (i : Int), 0, 0, params + (i : Int)⟩
/-- A function out of raw numbers. -/
def mkFn (bp br : Int) (raws : List Ins) (funcs : Int) (all : Bool) : Fnc :=
  let params := pickedI bp 3
  let regs := (if params < 1 then 1 else params) + pickedI br 11
  let pre := if all then preIns params regs else []
  ⟨params, regs, pre ++ (raws.take 22).map (fun x => rawIns x regs (pre.length + (min raws.length 22 : Nat) + 2) funcs) ++ [⟨1, 0, 0, 0, 7⟩, ⟨19, 0, 0, 0, 0⟩]⟩
theorem codeCells_snoc (l : List Ins) (x : Ins) : codeCells (l ++ [x]) = codeCells l ++ x.cells := by simp [codeCells]
end Tier
