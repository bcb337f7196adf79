/-
  NARROWER THAN 'FOR EVERY INPUT', by the rows' own cells (each row's printed sentence says how): CodeBad: laid · CodeBack: laid · CodeFixed: laid · CodeTorn: laid.
  DERIVED. THE GIVEN ROWS OF THIS SEAT. 4 by the template 'for every input the law returns true; each argument reads behind the call as it read before'; 0 by the template 'total and deterministic' (their statements: YtmnlbkdkpgfomaaDoorTotals.lean).
  GIVEN WITH THE SEED: the statements are not yours to turn. If you find one false, say at which input.
  Laid BY PROGRAM, IN A SANDBOX (cutbox-rows.mjs): the forced cells as the released guide's own fill.sh prints them over the translation 69c7752ec5f8d497… (all of the seat's roots in one cut). By AI agents, Wed Nov 11 2026. No macro, syntax, notation, axiom, sorry.
-/
import Derived.Test.YtmnlbkdkpgfomaaDoorChecked
import GoSem.Claim
import GoSem.ClaimJoined
import GoSem.ClaimMapViews
import Derived.JoinedTies
import Derived.KernelRfl
namespace Go.Proofs.YtmnlbkdkpgfomaaDoor
/- THE CELL 'sum', in the pinned program and in every row, IS THE sha256 OF THE DUMP (.gsa) THAT YtmnlbkdkpgfomaaDoorProg.lean LOADS. Nothing in Lean hashes anything: it is a label: what it is worth is what the hold of that sum in a sandbox is worth. -/
noncomputable def Tryd.pinned : Pinned := { name := "ytmnlbkdkpgfomaadoor", sum := "69c7752ec5f8d497c05b2693128c15ff4c74e08830302347e6e54e2891d3d417", checked := Tryd.checked }
namespace Rows
def none {H : Type} : Left H := { results := [], args := [] }

/- WHAT THE LISTED PACKAGE-LEVEL VARIABLES READ AS WHEN THE CALL BEGINS. Each datum BY PROGRAM (the guide's laid-datum.mjs) off the statement by which the dump's own 'gosem.cut.vars' lays the variable. In a bare row this is a premise. The card (YtmnlbkdkpgfomaaDoorCards.lean) ties it to the program's text. -/
def laid_tierline_code_has {H : Type} : DataW H := .agg [.lit (.int .i64 0), .lit (.int .i64 9), .lit (.int .i64 7), .lit (.int .i64 7), .lit (.int .i64 7), .lit (.int .i64 7), .lit (.int .i64 7), .lit (.int .i64 7), .lit (.int .i64 7), .lit (.int .i64 7), .lit (.int .i64 7), .lit (.int .i64 7), .lit (.int .i64 7), .lit (.int .i64 3), .lit (.int .i64 6), .lit (.int .i64 16), .lit (.int .i64 18), .lit (.int .i64 39), .lit (.int .i64 3), .lit (.int .i64 2)]

/-- 'tierlinekeep.CodeBad': WHATEVER THE INPUT: true; the input reads as it did. -/
def codeBadSpec : ChangeSpec := { name := "codeBad", fn := fun _ => fun
  | [d1, d2] => { results := [.lit (.bool true)], args := [d1, d2] }
  | _ => none }
def codeBadRow : OpenClaim := { program := "ytmnlbkdkpgfomaadoor", sum := "69c7752ec5f8d497c05b2693128c15ff4c74e08830302347e6e54e2891d3d417", func := "tierline/tierlinekeep.CodeBad", spec := "codeBad", named := ["tierline/code.has"], apart := false, laid := [("tierline/code.has", laid_tierline_code_has)] }
def CodeBadSaid : Prop := codeBadRow.holds Tryd.pinned (OpenSpec.ofChange codeBadSpec)

/-- ITS FALSE NEIGHBOUR: 'it returns false'. Refute it at one input. -/
def codeBadWrong : ChangeSpec := { name := "codeBad", fn := fun _ => fun
  | [d1, d2] => { results := [.lit (.bool false)], args := [d1, d2] }
  | _ => none }
def CodeBadWrongFalsely : Prop := codeBadRow.holds Tryd.pinned (OpenSpec.ofChange codeBadWrong)

/-- 'tierlinekeep.CodeBack': WHATEVER THE INPUT: true; the input reads as it did. -/
def codeBackSpec : ChangeSpec := { name := "codeBack", fn := fun _ => fun
  | [d] => { results := [.lit (.bool true)], args := [d] }
  | _ => none }
def codeBackRow : OpenClaim := { program := "ytmnlbkdkpgfomaadoor", sum := "69c7752ec5f8d497c05b2693128c15ff4c74e08830302347e6e54e2891d3d417", func := "tierline/tierlinekeep.CodeBack", spec := "codeBack", unfollowed := true, recurses := true, named := ["tierline/code.has"], apart := false, laid := [("tierline/code.has", laid_tierline_code_has)] }
def CodeBackSaid : Prop := codeBackRow.holds Tryd.pinned (OpenSpec.ofChange codeBackSpec)

/-- ITS FALSE NEIGHBOUR: 'it returns false'. Refute it at one input. -/
def codeBackWrong : ChangeSpec := { name := "codeBack", fn := fun _ => fun
  | [d] => { results := [.lit (.bool false)], args := [d] }
  | _ => none }
def CodeBackWrongFalsely : Prop := codeBackRow.holds Tryd.pinned (OpenSpec.ofChange codeBackWrong)

/-- 'tierlinekeep.CodeFixed': WHATEVER THE INPUT: true; the input reads as it did. -/
def codeFixedSpec : ChangeSpec := { name := "codeFixed", fn := fun _ => fun
  | [d] => { results := [.lit (.bool true)], args := [d] }
  | _ => none }
def codeFixedRow : OpenClaim := { program := "ytmnlbkdkpgfomaadoor", sum := "69c7752ec5f8d497c05b2693128c15ff4c74e08830302347e6e54e2891d3d417", func := "tierline/tierlinekeep.CodeFixed", spec := "codeFixed", unfollowed := true, recurses := true, named := ["tierline/code.has"], apart := false, laid := [("tierline/code.has", laid_tierline_code_has)] }
def CodeFixedSaid : Prop := codeFixedRow.holds Tryd.pinned (OpenSpec.ofChange codeFixedSpec)

/-- ITS FALSE NEIGHBOUR: 'it returns false'. Refute it at one input. -/
def codeFixedWrong : ChangeSpec := { name := "codeFixed", fn := fun _ => fun
  | [d] => { results := [.lit (.bool false)], args := [d] }
  | _ => none }
def CodeFixedWrongFalsely : Prop := codeFixedRow.holds Tryd.pinned (OpenSpec.ofChange codeFixedWrong)

/-- 'tierlinekeep.CodeTorn': WHATEVER THE INPUT: true; the input reads as it did. -/
def codeTornSpec : ChangeSpec := { name := "codeTorn", fn := fun _ => fun
  | [d1, d2, d3] => { results := [.lit (.bool true)], args := [d1, d2, d3] }
  | _ => none }
def codeTornRow : OpenClaim := { program := "ytmnlbkdkpgfomaadoor", sum := "69c7752ec5f8d497c05b2693128c15ff4c74e08830302347e6e54e2891d3d417", func := "tierline/tierlinekeep.CodeTorn", spec := "codeTorn", unfollowed := true, recurses := true, named := ["tierline/code.has"], apart := false, laid := [("tierline/code.has", laid_tierline_code_has)] }
def CodeTornSaid : Prop := codeTornRow.holds Tryd.pinned (OpenSpec.ofChange codeTornSpec)

/-- ITS FALSE NEIGHBOUR: 'it returns false'. Refute it at one input. -/
def codeTornWrong : ChangeSpec := { name := "codeTorn", fn := fun _ => fun
  | [d1, d2, d3] => { results := [.lit (.bool false)], args := [d1, d2, d3] }
  | _ => none }
def CodeTornWrongFalsely : Prop := codeTornRow.holds Tryd.pinned (OpenSpec.ofChange codeTornWrong)

/- THE SECOND FORM. 'bulk': how many values and letters a reading holds, each counted each time it is reached (what is shared counts as often as it is met; a slice's spare places count too). A statement '..UptoSaid' is the law's where the arguments, and the package variables that the reading takes, are together of bulk at most 1048576: NARROWER than '..Said'. Prove '..Said' where nothing that the law and all that it calls make is longer than what came in: it says more and counts as full. Else prove '..UptoSaid'. A law counts once. -/
mutual
def uptoBulk {H : Type} : DataW H → Nat
  | .lit (.string bytes) => bytes.length + 1
  | .lit _ => 1
  | .nil => 1
  | .ptr d => uptoBulk d + 1
  | .slice elems spare => uptoBulkAll elems + uptoBulkAll spare + 1
  | .agg parts => uptoBulkAll parts + 1
  | .iface _ d => uptoBulk d + 1
  | .map entries => uptoBulkEntries entries + 1
  | .held _ => 1
def uptoBulkAll {H : Type} : List (DataW H) → Nat
  | [] => 0
  | d :: r => uptoBulk d + uptoBulkAll r
def uptoBulkEntries {H : Type} : List (Lit × DataW H) → Nat
  | [] => 0
  | x :: r => uptoBulkEntry x + uptoBulkEntries r
def uptoBulkEntry {H : Type} : Lit × DataW H → Nat
  | (.string bytes, d) => bytes.length + uptoBulk d + 1
  | (_, d) => uptoBulk d + 1
 end
def uptoSmall : (H : Type) → List (DataW H) → Bool := fun _ ds => decide (uptoBulkAll ds ≤ 1048576)
def OpenSpec.upto (s : _root_.Go.ChangeSpec) : _root_.Go.OpenSpec := { _root_.Go.OpenSpec.ofChange s with cond := some uptoSmall }

/-- 'tierlinekeep.CodeBad', WHERE WHAT IT READS IS OF BULK AT MOST 1048576: true; the input reads as it did. -/
def codeBadUptoRow : OpenClaim := { program := "ytmnlbkdkpgfomaadoor", sum := "69c7752ec5f8d497c05b2693128c15ff4c74e08830302347e6e54e2891d3d417", func := "tierline/tierlinekeep.CodeBad", spec := "codeBad", named := ["tierline/code.has"], apart := false, laid := [("tierline/code.has", laid_tierline_code_has)], narrowed := true }
def CodeBadUptoSaid : Prop := codeBadUptoRow.holds Tryd.pinned (OpenSpec.upto codeBadSpec)

/-- 'tierlinekeep.CodeBack', WHERE WHAT IT READS IS OF BULK AT MOST 1048576: true; the input reads as it did. -/
def codeBackUptoRow : OpenClaim := { program := "ytmnlbkdkpgfomaadoor", sum := "69c7752ec5f8d497c05b2693128c15ff4c74e08830302347e6e54e2891d3d417", func := "tierline/tierlinekeep.CodeBack", spec := "codeBack", unfollowed := true, recurses := true, named := ["tierline/code.has"], apart := false, laid := [("tierline/code.has", laid_tierline_code_has)], narrowed := true }
def CodeBackUptoSaid : Prop := codeBackUptoRow.holds Tryd.pinned (OpenSpec.upto codeBackSpec)

/-- 'tierlinekeep.CodeFixed', WHERE WHAT IT READS IS OF BULK AT MOST 1048576: true; the input reads as it did. -/
def codeFixedUptoRow : OpenClaim := { program := "ytmnlbkdkpgfomaadoor", sum := "69c7752ec5f8d497c05b2693128c15ff4c74e08830302347e6e54e2891d3d417", func := "tierline/tierlinekeep.CodeFixed", spec := "codeFixed", unfollowed := true, recurses := true, named := ["tierline/code.has"], apart := false, laid := [("tierline/code.has", laid_tierline_code_has)], narrowed := true }
def CodeFixedUptoSaid : Prop := codeFixedUptoRow.holds Tryd.pinned (OpenSpec.upto codeFixedSpec)

/-- 'tierlinekeep.CodeTorn', WHERE WHAT IT READS IS OF BULK AT MOST 1048576: true; the input reads as it did. -/
def codeTornUptoRow : OpenClaim := { program := "ytmnlbkdkpgfomaadoor", sum := "69c7752ec5f8d497c05b2693128c15ff4c74e08830302347e6e54e2891d3d417", func := "tierline/tierlinekeep.CodeTorn", spec := "codeTorn", unfollowed := true, recurses := true, named := ["tierline/code.has"], apart := false, laid := [("tierline/code.has", laid_tierline_code_has)], narrowed := true }
def CodeTornUptoSaid : Prop := codeTornUptoRow.holds Tryd.pinned (OpenSpec.upto codeTornSpec)

end Rows
end Go.Proofs.YtmnlbkdkpgfomaaDoor
