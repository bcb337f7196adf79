/-
  No cell of these rows narrows 'for every input' (looked for: loops, veiled, ifaces, maps, wideKeys, modest, calm, conditions, laid).
  DERIVED. THE GIVEN ROWS OF THIS SEAT. 6 by the template 'for every input the law returns true; each argument reads behind the call as it read before'; 0 by the template 'total and deterministic' (their statements: YtoipcikgeafemaaTotals.lean).
  GIVEN WITH THE SEED: the statements are not yours to turn. If you find one false, say at which input.
  Laid BY PROGRAM, IN A SANDBOX (cutbox-rows.mjs): the forced cells as the released guide's own fill.sh prints them over the translation 0f4d5bd13d66bfe5… (all of the seat's roots in one cut). By AI agents, Wed Nov 11 2026. No macro, syntax, notation, axiom, sorry.
-/
import Derived.Test.YtoipcikgeafemaaChecked
import GoSem.Claim
import GoSem.ClaimJoined
import GoSem.ClaimMapViews
import Derived.JoinedTies
import Derived.KernelRfl
namespace Go.Proofs.Ytoipcikgeafemaa
/- THE CELL 'sum', in the pinned program and in every row, IS THE sha256 OF THE DUMP (.gsa) THAT YtoipcikgeafemaaProg.lean LOADS. Nothing in Lean hashes anything: it is a label: what it is worth is what the hold of that sum in a sandbox is worth. -/
noncomputable def Try.pinned : Pinned := { name := "ytoipcikgeafemaa", sum := "0f4d5bd13d66bfe5fce02d207e65d3347df12f68e95a2d6831d6bca278409811", checked := Try.checked }
namespace Rows
def none {H : Type} : Left H := { results := [], args := [] }

/-- 'tierlinekeep.MakeLaws': WHATEVER THE INPUT: true; the input reads as it did. -/
def makeLawsSpec : ChangeSpec := { name := "makeLaws", fn := fun _ => fun
  | [d1, d2, d3] => { results := [.lit (.bool true)], args := [d1, d2, d3] }
  | _ => none }
def makeLawsRow : OpenClaim := { program := "ytoipcikgeafemaa", sum := "0f4d5bd13d66bfe5fce02d207e65d3347df12f68e95a2d6831d6bca278409811", func := "tierline/tierlinekeep.MakeLaws", spec := "makeLaws", apart := false }
def MakeLawsSaid : Prop := makeLawsRow.holds Try.pinned (OpenSpec.ofChange makeLawsSpec)

/-- ITS FALSE NEIGHBOUR: 'it returns false'. Refute it at one input. -/
def makeLawsWrong : ChangeSpec := { name := "makeLaws", fn := fun _ => fun
  | [d1, d2, d3] => { results := [.lit (.bool false)], args := [d1, d2, d3] }
  | _ => none }
def MakeLawsWrongFalsely : Prop := makeLawsRow.holds Try.pinned (OpenSpec.ofChange makeLawsWrong)

/-- 'tierlinekeep.MakeDivides': WHATEVER THE INPUT: true; the input reads as it did. -/
def makeDividesSpec : ChangeSpec := { name := "makeDivides", fn := fun _ => fun
  | [d1, d2] => { results := [.lit (.bool true)], args := [d1, d2] }
  | _ => none }
def makeDividesRow : OpenClaim := { program := "ytoipcikgeafemaa", sum := "0f4d5bd13d66bfe5fce02d207e65d3347df12f68e95a2d6831d6bca278409811", func := "tierline/tierlinekeep.MakeDivides", spec := "makeDivides", apart := false }
def MakeDividesSaid : Prop := makeDividesRow.holds Try.pinned (OpenSpec.ofChange makeDividesSpec)

/-- ITS FALSE NEIGHBOUR: 'it returns false'. Refute it at one input. -/
def makeDividesWrong : ChangeSpec := { name := "makeDivides", fn := fun _ => fun
  | [d1, d2] => { results := [.lit (.bool false)], args := [d1, d2] }
  | _ => none }
def MakeDividesWrongFalsely : Prop := makeDividesRow.holds Try.pinned (OpenSpec.ofChange makeDividesWrong)

/-- 'tierlinekeep.MakeShifts': WHATEVER THE INPUT: true; the input reads as it did. -/
def makeShiftsSpec : ChangeSpec := { name := "makeShifts", fn := fun _ => fun
  | [d1, d2] => { results := [.lit (.bool true)], args := [d1, d2] }
  | _ => none }
def makeShiftsRow : OpenClaim := { program := "ytoipcikgeafemaa", sum := "0f4d5bd13d66bfe5fce02d207e65d3347df12f68e95a2d6831d6bca278409811", func := "tierline/tierlinekeep.MakeShifts", spec := "makeShifts", apart := false }
def MakeShiftsSaid : Prop := makeShiftsRow.holds Try.pinned (OpenSpec.ofChange makeShiftsSpec)

/-- ITS FALSE NEIGHBOUR: 'it returns false'. Refute it at one input. -/
def makeShiftsWrong : ChangeSpec := { name := "makeShifts", fn := fun _ => fun
  | [d1, d2] => { results := [.lit (.bool false)], args := [d1, d2] }
  | _ => none }
def MakeShiftsWrongFalsely : Prop := makeShiftsRow.holds Try.pinned (OpenSpec.ofChange makeShiftsWrong)

/-- 'tierlinekeep.MakeOrders': WHATEVER THE INPUT: true; the input reads as it did. -/
def makeOrdersSpec : ChangeSpec := { name := "makeOrders", fn := fun _ => fun
  | [d1, d2] => { results := [.lit (.bool true)], args := [d1, d2] }
  | _ => none }
def makeOrdersRow : OpenClaim := { program := "ytoipcikgeafemaa", sum := "0f4d5bd13d66bfe5fce02d207e65d3347df12f68e95a2d6831d6bca278409811", func := "tierline/tierlinekeep.MakeOrders", spec := "makeOrders", apart := false }
def MakeOrdersSaid : Prop := makeOrdersRow.holds Try.pinned (OpenSpec.ofChange makeOrdersSpec)

/-- ITS FALSE NEIGHBOUR: 'it returns false'. Refute it at one input. -/
def makeOrdersWrong : ChangeSpec := { name := "makeOrders", fn := fun _ => fun
  | [d1, d2] => { results := [.lit (.bool false)], args := [d1, d2] }
  | _ => none }
def MakeOrdersWrongFalsely : Prop := makeOrdersRow.holds Try.pinned (OpenSpec.ofChange makeOrdersWrong)

/-- 'tierlinekeep.MakeBits': WHATEVER THE INPUT: true; the input reads as it did. -/
def makeBitsSpec : ChangeSpec := { name := "makeBits", fn := fun _ => fun
  | [d1, d2] => { results := [.lit (.bool true)], args := [d1, d2] }
  | _ => none }
def makeBitsRow : OpenClaim := { program := "ytoipcikgeafemaa", sum := "0f4d5bd13d66bfe5fce02d207e65d3347df12f68e95a2d6831d6bca278409811", func := "tierline/tierlinekeep.MakeBits", spec := "makeBits", apart := false }
def MakeBitsSaid : Prop := makeBitsRow.holds Try.pinned (OpenSpec.ofChange makeBitsSpec)

/-- ITS FALSE NEIGHBOUR: 'it returns false'. Refute it at one input. -/
def makeBitsWrong : ChangeSpec := { name := "makeBits", fn := fun _ => fun
  | [d1, d2] => { results := [.lit (.bool false)], args := [d1, d2] }
  | _ => none }
def MakeBitsWrongFalsely : Prop := makeBitsRow.holds Try.pinned (OpenSpec.ofChange makeBitsWrong)

/-- 'tierlinekeep.MakeLess': WHATEVER THE INPUT: true; the input reads as it did. -/
def makeLessSpec : ChangeSpec := { name := "makeLess", fn := fun _ => fun
  | [d1, d2, d3] => { results := [.lit (.bool true)], args := [d1, d2, d3] }
  | _ => none }
def makeLessRow : OpenClaim := { program := "ytoipcikgeafemaa", sum := "0f4d5bd13d66bfe5fce02d207e65d3347df12f68e95a2d6831d6bca278409811", func := "tierline/tierlinekeep.MakeLess", spec := "makeLess", apart := false }
def MakeLessSaid : Prop := makeLessRow.holds Try.pinned (OpenSpec.ofChange makeLessSpec)

/-- ITS FALSE NEIGHBOUR: 'it returns false'. Refute it at one input. -/
def makeLessWrong : ChangeSpec := { name := "makeLess", fn := fun _ => fun
  | [d1, d2, d3] => { results := [.lit (.bool false)], args := [d1, d2, d3] }
  | _ => none }
def MakeLessWrongFalsely : Prop := makeLessRow.holds Try.pinned (OpenSpec.ofChange makeLessWrong)

/- THE SECOND FORM. 'bulk': how many values and letters a reading holds, each counted each time it is reached (what is shared counts as often as it is met; a slice's spare places count too). A statement '..UptoSaid' is the law's where the arguments, and the package variables that the reading takes, are together of bulk at most 1048576: NARROWER than '..Said'. Prove '..Said' where nothing that the law and all that it calls make is longer than what came in: it says more and counts as full. Else prove '..UptoSaid'. A law counts once. -/
mutual
def uptoBulk {H : Type} : DataW H → Nat
  | .lit (.string bytes) => bytes.length + 1
  | .lit _ => 1
  | .nil => 1
  | .ptr d => uptoBulk d + 1
  | .slice elems spare => uptoBulkAll elems + uptoBulkAll spare + 1
  | .agg parts => uptoBulkAll parts + 1
  | .iface _ d => uptoBulk d + 1
  | .map entries => uptoBulkEntries entries + 1
  | .held _ => 1
def uptoBulkAll {H : Type} : List (DataW H) → Nat
  | [] => 0
  | d :: r => uptoBulk d + uptoBulkAll r
def uptoBulkEntries {H : Type} : List (Lit × DataW H) → Nat
  | [] => 0
  | x :: r => uptoBulkEntry x + uptoBulkEntries r
def uptoBulkEntry {H : Type} : Lit × DataW H → Nat
  | (.string bytes, d) => bytes.length + uptoBulk d + 1
  | (_, d) => uptoBulk d + 1
 end
def uptoSmall : (H : Type) → List (DataW H) → Bool := fun _ ds => decide (uptoBulkAll ds ≤ 1048576)
def OpenSpec.upto (s : _root_.Go.ChangeSpec) : _root_.Go.OpenSpec := { _root_.Go.OpenSpec.ofChange s with cond := some uptoSmall }

/-- 'tierlinekeep.MakeLaws', WHERE WHAT IT READS IS OF BULK AT MOST 1048576: true; the input reads as it did. -/
def makeLawsUptoRow : OpenClaim := { program := "ytoipcikgeafemaa", sum := "0f4d5bd13d66bfe5fce02d207e65d3347df12f68e95a2d6831d6bca278409811", func := "tierline/tierlinekeep.MakeLaws", spec := "makeLaws", apart := false, narrowed := true }
def MakeLawsUptoSaid : Prop := makeLawsUptoRow.holds Try.pinned (OpenSpec.upto makeLawsSpec)

/-- 'tierlinekeep.MakeDivides', WHERE WHAT IT READS IS OF BULK AT MOST 1048576: true; the input reads as it did. -/
def makeDividesUptoRow : OpenClaim := { program := "ytoipcikgeafemaa", sum := "0f4d5bd13d66bfe5fce02d207e65d3347df12f68e95a2d6831d6bca278409811", func := "tierline/tierlinekeep.MakeDivides", spec := "makeDivides", apart := false, narrowed := true }
def MakeDividesUptoSaid : Prop := makeDividesUptoRow.holds Try.pinned (OpenSpec.upto makeDividesSpec)

/-- 'tierlinekeep.MakeShifts', WHERE WHAT IT READS IS OF BULK AT MOST 1048576: true; the input reads as it did. -/
def makeShiftsUptoRow : OpenClaim := { program := "ytoipcikgeafemaa", sum := "0f4d5bd13d66bfe5fce02d207e65d3347df12f68e95a2d6831d6bca278409811", func := "tierline/tierlinekeep.MakeShifts", spec := "makeShifts", apart := false, narrowed := true }
def MakeShiftsUptoSaid : Prop := makeShiftsUptoRow.holds Try.pinned (OpenSpec.upto makeShiftsSpec)

/-- 'tierlinekeep.MakeOrders', WHERE WHAT IT READS IS OF BULK AT MOST 1048576: true; the input reads as it did. -/
def makeOrdersUptoRow : OpenClaim := { program := "ytoipcikgeafemaa", sum := "0f4d5bd13d66bfe5fce02d207e65d3347df12f68e95a2d6831d6bca278409811", func := "tierline/tierlinekeep.MakeOrders", spec := "makeOrders", apart := false, narrowed := true }
def MakeOrdersUptoSaid : Prop := makeOrdersUptoRow.holds Try.pinned (OpenSpec.upto makeOrdersSpec)

/-- 'tierlinekeep.MakeBits', WHERE WHAT IT READS IS OF BULK AT MOST 1048576: true; the input reads as it did. -/
def makeBitsUptoRow : OpenClaim := { program := "ytoipcikgeafemaa", sum := "0f4d5bd13d66bfe5fce02d207e65d3347df12f68e95a2d6831d6bca278409811", func := "tierline/tierlinekeep.MakeBits", spec := "makeBits", apart := false, narrowed := true }
def MakeBitsUptoSaid : Prop := makeBitsUptoRow.holds Try.pinned (OpenSpec.upto makeBitsSpec)

/-- 'tierlinekeep.MakeLess', WHERE WHAT IT READS IS OF BULK AT MOST 1048576: true; the input reads as it did. -/
def makeLessUptoRow : OpenClaim := { program := "ytoipcikgeafemaa", sum := "0f4d5bd13d66bfe5fce02d207e65d3347df12f68e95a2d6831d6bca278409811", func := "tierline/tierlinekeep.MakeLess", spec := "makeLess", apart := false, narrowed := true }
def MakeLessUptoSaid : Prop := makeLessUptoRow.holds Try.pinned (OpenSpec.upto makeLessSpec)

end Rows
end Go.Proofs.Ytoipcikgeafemaa
