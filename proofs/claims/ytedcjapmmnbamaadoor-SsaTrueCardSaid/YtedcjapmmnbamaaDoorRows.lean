/-
  NARROWER THAN 'FOR EVERY INPUT', by the rows' own cells (each row's printed sentence says how): SsaTrue: laid · FactsTrue: laid · AssignLine: laid · AssignKeeps: laid.
  DERIVED. THE GIVEN ROWS OF THIS SEAT. 4 by the template 'for every input the law returns true; each argument reads behind the call as it read before'; 0 by the template 'total and deterministic' (their statements: YtedcjapmmnbamaaDoorTotals.lean).
  GIVEN WITH THE SEED: the statements are not yours to turn. If you find one false, say at which input.
  Laid BY PROGRAM, IN A SANDBOX (cutbox-rows.mjs): the forced cells as the released guide's own fill.sh prints them over the translation c3ef32b13f73df36… (all of the seat's roots in one cut). By AI agents, Wed Nov 11 2026. No macro, syntax, notation, axiom, sorry.
-/
import Derived.Test.YtedcjapmmnbamaaDoorChecked
import GoSem.Claim
import GoSem.ClaimJoined
import GoSem.ClaimMapViews
import Derived.JoinedTies
import Derived.KernelRfl
namespace Go.Proofs.YtedcjapmmnbamaaDoor
/- THE CELL 'sum', in the pinned program and in every row, IS THE sha256 OF THE DUMP (.gsa) THAT YtedcjapmmnbamaaDoorProg.lean LOADS. Nothing in Lean hashes anything: it is a label: what it is worth is what the hold of that sum in a sandbox is worth. -/
noncomputable def Tryd.pinned : Pinned := { name := "ytedcjapmmnbamaadoor", sum := "c3ef32b13f73df363355aab61c66618626b2e2e2bb4a22ebfab829c38d9aab0c", checked := Tryd.checked }
namespace Rows
def none {H : Type} : Left H := { results := [], args := [] }

/- WHAT THE LISTED PACKAGE-LEVEL VARIABLES READ AS WHEN THE CALL BEGINS. Each datum BY PROGRAM (the guide's laid-datum.mjs) off the statement by which the dump's own 'gosem.cut.vars' lays the variable. In a bare row this is a premise. The card (YtedcjapmmnbamaaDoorCards.lean) ties it to the program's text. -/
def laid_tierline_code_has {H : Type} : DataW H := .agg [.lit (.int .i64 0), .lit (.int .i64 9), .lit (.int .i64 7), .lit (.int .i64 7), .lit (.int .i64 7), .lit (.int .i64 7), .lit (.int .i64 7), .lit (.int .i64 7), .lit (.int .i64 7), .lit (.int .i64 7), .lit (.int .i64 7), .lit (.int .i64 7), .lit (.int .i64 7), .lit (.int .i64 3), .lit (.int .i64 6), .lit (.int .i64 16), .lit (.int .i64 18), .lit (.int .i64 39), .lit (.int .i64 3), .lit (.int .i64 2)]

/-- 'tierlinekeep.SsaTrue': WHATEVER THE INPUT: true; the input reads as it did. -/
def ssaTrueSpec : ChangeSpec := { name := "ssaTrue", fn := fun _ => fun
  | [d1, d2] => { results := [.lit (.bool true)], args := [d1, d2] }
  | _ => none }
def ssaTrueRow : OpenClaim := { program := "ytedcjapmmnbamaadoor", sum := "c3ef32b13f73df363355aab61c66618626b2e2e2bb4a22ebfab829c38d9aab0c", func := "tierline/tierlinekeep.SsaTrue", spec := "ssaTrue", unfollowed := true, recurses := true, named := ["tierline/code.has"], plainKeys := false, apart := false, laid := [("tierline/code.has", laid_tierline_code_has)] }
def SsaTrueSaid : Prop := ssaTrueRow.holds Tryd.pinned (OpenSpec.ofChange ssaTrueSpec)

/-- ITS FALSE NEIGHBOUR: 'it returns false'. Refute it at one input. -/
def ssaTrueWrong : ChangeSpec := { name := "ssaTrue", fn := fun _ => fun
  | [d1, d2] => { results := [.lit (.bool false)], args := [d1, d2] }
  | _ => none }
def SsaTrueWrongFalsely : Prop := ssaTrueRow.holds Tryd.pinned (OpenSpec.ofChange ssaTrueWrong)

/-- 'tierlinekeep.FactsTrue': WHATEVER THE INPUT: true; the input reads as it did. -/
def factsTrueSpec : ChangeSpec := { name := "factsTrue", fn := fun _ => fun
  | [d1, d2] => { results := [.lit (.bool true)], args := [d1, d2] }
  | _ => none }
def factsTrueRow : OpenClaim := { program := "ytedcjapmmnbamaadoor", sum := "c3ef32b13f73df363355aab61c66618626b2e2e2bb4a22ebfab829c38d9aab0c", func := "tierline/tierlinekeep.FactsTrue", spec := "factsTrue", unfollowed := true, recurses := true, named := ["tierline/code.has"], plainKeys := false, apart := false, laid := [("tierline/code.has", laid_tierline_code_has)] }
def FactsTrueSaid : Prop := factsTrueRow.holds Tryd.pinned (OpenSpec.ofChange factsTrueSpec)

/-- ITS FALSE NEIGHBOUR: 'it returns false'. Refute it at one input. -/
def factsTrueWrong : ChangeSpec := { name := "factsTrue", fn := fun _ => fun
  | [d1, d2] => { results := [.lit (.bool false)], args := [d1, d2] }
  | _ => none }
def FactsTrueWrongFalsely : Prop := factsTrueRow.holds Tryd.pinned (OpenSpec.ofChange factsTrueWrong)

/-- 'tierlinekeep.AssignLine': WHATEVER THE INPUT: true; the input reads as it did. -/
def assignLineSpec : ChangeSpec := { name := "assignLine", fn := fun _ => fun
  | [d] => { results := [.lit (.bool true)], args := [d] }
  | _ => none }
def assignLineRow : OpenClaim := { program := "ytedcjapmmnbamaadoor", sum := "c3ef32b13f73df363355aab61c66618626b2e2e2bb4a22ebfab829c38d9aab0c", func := "tierline/tierlinekeep.AssignLine", spec := "assignLine", unfollowed := true, recurses := true, named := ["tierline/code.has"], plainKeys := false, apart := false, laid := [("tierline/code.has", laid_tierline_code_has)] }
def AssignLineSaid : Prop := assignLineRow.holds Tryd.pinned (OpenSpec.ofChange assignLineSpec)

/-- ITS FALSE NEIGHBOUR: 'it returns false'. Refute it at one input. -/
def assignLineWrong : ChangeSpec := { name := "assignLine", fn := fun _ => fun
  | [d] => { results := [.lit (.bool false)], args := [d] }
  | _ => none }
def AssignLineWrongFalsely : Prop := assignLineRow.holds Tryd.pinned (OpenSpec.ofChange assignLineWrong)

/-- 'tierlinekeep.AssignKeeps': WHATEVER THE INPUT: true; the input reads as it did. -/
def assignKeepsSpec : ChangeSpec := { name := "assignKeeps", fn := fun _ => fun
  | [d1, d2] => { results := [.lit (.bool true)], args := [d1, d2] }
  | _ => none }
def assignKeepsRow : OpenClaim := { program := "ytedcjapmmnbamaadoor", sum := "c3ef32b13f73df363355aab61c66618626b2e2e2bb4a22ebfab829c38d9aab0c", func := "tierline/tierlinekeep.AssignKeeps", spec := "assignKeeps", unfollowed := true, recurses := true, named := ["tierline/code.has"], plainKeys := false, apart := false, laid := [("tierline/code.has", laid_tierline_code_has)] }
def AssignKeepsSaid : Prop := assignKeepsRow.holds Tryd.pinned (OpenSpec.ofChange assignKeepsSpec)

/-- ITS FALSE NEIGHBOUR: 'it returns false'. Refute it at one input. -/
def assignKeepsWrong : ChangeSpec := { name := "assignKeeps", fn := fun _ => fun
  | [d1, d2] => { results := [.lit (.bool false)], args := [d1, d2] }
  | _ => none }
def AssignKeepsWrongFalsely : Prop := assignKeepsRow.holds Tryd.pinned (OpenSpec.ofChange assignKeepsWrong)

/- THE SECOND FORM. 'bulk': how many values and letters a reading holds, each counted each time it is reached (what is shared counts as often as it is met; a slice's spare places count too). A statement '..UptoSaid' is the law's where the arguments, and the package variables that the reading takes, are together of bulk at most 1048576: NARROWER than '..Said'. Prove '..Said' where nothing that the law and all that it calls make is longer than what came in: it says more and counts as full. Else prove '..UptoSaid'. A law counts once. -/
mutual
def uptoBulk {H : Type} : DataW H → Nat
  | .lit (.string bytes) => bytes.length + 1
  | .lit _ => 1
  | .nil => 1
  | .ptr d => uptoBulk d + 1
  | .slice elems spare => uptoBulkAll elems + uptoBulkAll spare + 1
  | .agg parts => uptoBulkAll parts + 1
  | .iface _ d => uptoBulk d + 1
  | .map entries => uptoBulkEntries entries + 1
  | .held _ => 1
def uptoBulkAll {H : Type} : List (DataW H) → Nat
  | [] => 0
  | d :: r => uptoBulk d + uptoBulkAll r
def uptoBulkEntries {H : Type} : List (Lit × DataW H) → Nat
  | [] => 0
  | x :: r => uptoBulkEntry x + uptoBulkEntries r
def uptoBulkEntry {H : Type} : Lit × DataW H → Nat
  | (.string bytes, d) => bytes.length + uptoBulk d + 1
  | (_, d) => uptoBulk d + 1
 end
def uptoSmall : (H : Type) → List (DataW H) → Bool := fun _ ds => decide (uptoBulkAll ds ≤ 1048576)
def OpenSpec.upto (s : _root_.Go.ChangeSpec) : _root_.Go.OpenSpec := { _root_.Go.OpenSpec.ofChange s with cond := some uptoSmall }

/-- 'tierlinekeep.SsaTrue', WHERE WHAT IT READS IS OF BULK AT MOST 1048576: true; the input reads as it did. -/
def ssaTrueUptoRow : OpenClaim := { program := "ytedcjapmmnbamaadoor", sum := "c3ef32b13f73df363355aab61c66618626b2e2e2bb4a22ebfab829c38d9aab0c", func := "tierline/tierlinekeep.SsaTrue", spec := "ssaTrue", unfollowed := true, recurses := true, named := ["tierline/code.has"], plainKeys := false, apart := false, laid := [("tierline/code.has", laid_tierline_code_has)], narrowed := true }
def SsaTrueUptoSaid : Prop := ssaTrueUptoRow.holds Tryd.pinned (OpenSpec.upto ssaTrueSpec)

/-- 'tierlinekeep.FactsTrue', WHERE WHAT IT READS IS OF BULK AT MOST 1048576: true; the input reads as it did. -/
def factsTrueUptoRow : OpenClaim := { program := "ytedcjapmmnbamaadoor", sum := "c3ef32b13f73df363355aab61c66618626b2e2e2bb4a22ebfab829c38d9aab0c", func := "tierline/tierlinekeep.FactsTrue", spec := "factsTrue", unfollowed := true, recurses := true, named := ["tierline/code.has"], plainKeys := false, apart := false, laid := [("tierline/code.has", laid_tierline_code_has)], narrowed := true }
def FactsTrueUptoSaid : Prop := factsTrueUptoRow.holds Tryd.pinned (OpenSpec.upto factsTrueSpec)

/-- 'tierlinekeep.AssignLine', WHERE WHAT IT READS IS OF BULK AT MOST 1048576: true; the input reads as it did. -/
def assignLineUptoRow : OpenClaim := { program := "ytedcjapmmnbamaadoor", sum := "c3ef32b13f73df363355aab61c66618626b2e2e2bb4a22ebfab829c38d9aab0c", func := "tierline/tierlinekeep.AssignLine", spec := "assignLine", unfollowed := true, recurses := true, named := ["tierline/code.has"], plainKeys := false, apart := false, laid := [("tierline/code.has", laid_tierline_code_has)], narrowed := true }
def AssignLineUptoSaid : Prop := assignLineUptoRow.holds Tryd.pinned (OpenSpec.upto assignLineSpec)

/-- 'tierlinekeep.AssignKeeps', WHERE WHAT IT READS IS OF BULK AT MOST 1048576: true; the input reads as it did. -/
def assignKeepsUptoRow : OpenClaim := { program := "ytedcjapmmnbamaadoor", sum := "c3ef32b13f73df363355aab61c66618626b2e2e2bb4a22ebfab829c38d9aab0c", func := "tierline/tierlinekeep.AssignKeeps", spec := "assignKeeps", unfollowed := true, recurses := true, named := ["tierline/code.has"], plainKeys := false, apart := false, laid := [("tierline/code.has", laid_tierline_code_has)], narrowed := true }
def AssignKeepsUptoSaid : Prop := assignKeepsUptoRow.holds Tryd.pinned (OpenSpec.upto assignKeepsSpec)

end Rows
end Go.Proofs.YtedcjapmmnbamaaDoor
