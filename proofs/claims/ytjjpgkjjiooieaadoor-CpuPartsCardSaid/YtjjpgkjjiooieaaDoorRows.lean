/-
  NARROWER THAN 'FOR EVERY INPUT', by the rows' own cells (each row's printed sentence says how): CpuSelf: laid · CpuData: laid · CpuJumps: laid · CpuNumbers: laid · CpuLui: laid · CpuLoop: laid · CpuParts: laid · CpuHalts: laid · CpuMakes: laid.
  DERIVED. THE GIVEN ROWS OF THIS SEAT. 9 by the template 'for every input the law returns true; each argument reads behind the call as it read before'; 0 by the template 'total and deterministic' (their statements: YtjjpgkjjiooieaaDoorTotals.lean).
  GIVEN WITH THE SEED: the statements are not yours to turn. If you find one false, say at which input.
  Laid BY PROGRAM, IN A SANDBOX (cutbox-rows.mjs): the forced cells as the released guide's own fill.sh prints them over the translation 2a2314b48f11657b… (all of the seat's roots in one cut). By AI agents, Wed Nov 11 2026. No macro, syntax, notation, axiom, sorry.
-/
import Derived.Test.YtjjpgkjjiooieaaDoorChecked
import GoSem.Claim
import GoSem.ClaimJoined
import GoSem.ClaimMapViews
import Derived.JoinedTies
import Derived.KernelRfl
namespace Go.Proofs.YtjjpgkjjiooieaaDoor
/- THE CELL 'sum', in the pinned program and in every row, IS THE sha256 OF THE DUMP (.gsa) THAT YtjjpgkjjiooieaaDoorProg.lean LOADS. Nothing in Lean hashes anything: it is a label: what it is worth is what the hold of that sum in a sandbox is worth. -/
noncomputable def Tryd.pinned : Pinned := { name := "ytjjpgkjjiooieaadoor", sum := "2a2314b48f11657b7752659d6d2cb2e017a407cc8f1dcd825829c138f8a58920", checked := Tryd.checked }
namespace Rows
def none {H : Type} : Left H := { results := [], args := [] }

/- WHAT THE LISTED PACKAGE-LEVEL VARIABLES READ AS WHEN THE CALL BEGINS. Each datum BY PROGRAM (the guide's laid-datum.mjs) off the statement by which the dump's own 'gosem.cut.vars' lays the variable. In a bare row this is a premise. The card (YtjjpgkjjiooieaaDoorCards.lean) ties it to the program's text. -/
def laid_tierline_rv_forms {H : Type} : DataW H := .agg [.agg [.lit (.int .i64 0), .lit (.int .i64 0), .lit (.int .i64 0), .lit (.int .i64 0)], .agg [.lit (.int .i64 0), .lit (.int .i64 51), .lit (.int .i64 0), .lit (.int .i64 0)], .agg [.lit (.int .i64 0), .lit (.int .i64 51), .lit (.int .i64 0), .lit (.int .i64 32)], .agg [.lit (.int .i64 0), .lit (.int .i64 51), .lit (.int .i64 0), .lit (.int .i64 1)], .agg [.lit (.int .i64 0), .lit (.int .i64 51), .lit (.int .i64 4), .lit (.int .i64 1)], .agg [.lit (.int .i64 0), .lit (.int .i64 51), .lit (.int .i64 7), .lit (.int .i64 0)], .agg [.lit (.int .i64 0), .lit (.int .i64 51), .lit (.int .i64 6), .lit (.int .i64 0)], .agg [.lit (.int .i64 0), .lit (.int .i64 51), .lit (.int .i64 4), .lit (.int .i64 0)], .agg [.lit (.int .i64 0), .lit (.int .i64 51), .lit (.int .i64 1), .lit (.int .i64 0)], .agg [.lit (.int .i64 0), .lit (.int .i64 51), .lit (.int .i64 5), .lit (.int .i64 32)], .agg [.lit (.int .i64 0), .lit (.int .i64 51), .lit (.int .i64 2), .lit (.int .i64 0)], .agg [.lit (.int .i64 0), .lit (.int .i64 51), .lit (.int .i64 3), .lit (.int .i64 0)], .agg [.lit (.int .i64 1), .lit (.int .i64 19), .lit (.int .i64 0), .lit (.int .i64 0)], .agg [.lit (.int .i64 1), .lit (.int .i64 19), .lit (.int .i64 7), .lit (.int .i64 0)], .agg [.lit (.int .i64 1), .lit (.int .i64 19), .lit (.int .i64 6), .lit (.int .i64 0)], .agg [.lit (.int .i64 1), .lit (.int .i64 19), .lit (.int .i64 4), .lit (.int .i64 0)], .agg [.lit (.int .i64 1), .lit (.int .i64 19), .lit (.int .i64 2), .lit (.int .i64 0)], .agg [.lit (.int .i64 1), .lit (.int .i64 19), .lit (.int .i64 3), .lit (.int .i64 0)], .agg [.lit (.int .i64 2), .lit (.int .i64 19), .lit (.int .i64 1), .lit (.int .i64 0)], .agg [.lit (.int .i64 2), .lit (.int .i64 19), .lit (.int .i64 5), .lit (.int .i64 16)], .agg [.lit (.int .i64 1), .lit (.int .i64 3), .lit (.int .i64 3), .lit (.int .i64 0)], .agg [.lit (.int .i64 3), .lit (.int .i64 35), .lit (.int .i64 3), .lit (.int .i64 0)], .agg [.lit (.int .i64 4), .lit (.int .i64 99), .lit (.int .i64 0), .lit (.int .i64 0)], .agg [.lit (.int .i64 4), .lit (.int .i64 99), .lit (.int .i64 1), .lit (.int .i64 0)], .agg [.lit (.int .i64 4), .lit (.int .i64 99), .lit (.int .i64 4), .lit (.int .i64 0)], .agg [.lit (.int .i64 4), .lit (.int .i64 99), .lit (.int .i64 5), .lit (.int .i64 0)], .agg [.lit (.int .i64 5), .lit (.int .i64 111), .lit (.int .i64 0), .lit (.int .i64 0)], .agg [.lit (.int .i64 1), .lit (.int .i64 103), .lit (.int .i64 0), .lit (.int .i64 0)], .agg [.lit (.int .i64 6), .lit (.int .i64 55), .lit (.int .i64 0), .lit (.int .i64 0)], .agg [.lit (.int .i64 7), .lit (.int .i64 115), .lit (.int .i64 0), .lit (.int .i64 0)]]
def laid_tierline_rv_fields {H : Type} : DataW H := .agg [.agg [.lit (.bool true), .lit (.bool true), .lit (.bool true)], .agg [.lit (.bool true), .lit (.bool true), .lit (.bool false)], .agg [.lit (.bool true), .lit (.bool true), .lit (.bool false)], .agg [.lit (.bool false), .lit (.bool true), .lit (.bool true)], .agg [.lit (.bool false), .lit (.bool true), .lit (.bool true)], .agg [.lit (.bool true), .lit (.bool false), .lit (.bool false)], .agg [.lit (.bool true), .lit (.bool false), .lit (.bool false)], .agg [.lit (.bool false), .lit (.bool false), .lit (.bool false)]]

/-- 'tierlinekeep.CpuSelf': WHATEVER THE INPUT: true; the input reads as it did. -/
def cpuSelfSpec : ChangeSpec := { name := "cpuSelf", fn := fun _ => fun
  | [d1, d2, d3] => { results := [.lit (.bool true)], args := [d1, d2, d3] }
  | _ => none }
def cpuSelfRow : OpenClaim := { program := "ytjjpgkjjiooieaadoor", sum := "2a2314b48f11657b7752659d6d2cb2e017a407cc8f1dcd825829c138f8a58920", func := "tierline/tierlinekeep.CpuSelf", spec := "cpuSelf", named := ["tierline/rv.forms", "tierline/rv.fields"], apart := false, laid := [("tierline/rv.forms", laid_tierline_rv_forms), ("tierline/rv.fields", laid_tierline_rv_fields)] }
def CpuSelfSaid : Prop := cpuSelfRow.holds Tryd.pinned (OpenSpec.ofChange cpuSelfSpec)

/-- ITS FALSE NEIGHBOUR: 'it returns false'. Refute it at one input. -/
def cpuSelfWrong : ChangeSpec := { name := "cpuSelf", fn := fun _ => fun
  | [d1, d2, d3] => { results := [.lit (.bool false)], args := [d1, d2, d3] }
  | _ => none }
def CpuSelfWrongFalsely : Prop := cpuSelfRow.holds Tryd.pinned (OpenSpec.ofChange cpuSelfWrong)

/-- 'tierlinekeep.CpuData': WHATEVER THE INPUT: true; the input reads as it did. -/
def cpuDataSpec : ChangeSpec := { name := "cpuData", fn := fun _ => fun
  | [d1, d2, d3] => { results := [.lit (.bool true)], args := [d1, d2, d3] }
  | _ => none }
def cpuDataRow : OpenClaim := { program := "ytjjpgkjjiooieaadoor", sum := "2a2314b48f11657b7752659d6d2cb2e017a407cc8f1dcd825829c138f8a58920", func := "tierline/tierlinekeep.CpuData", spec := "cpuData", named := ["tierline/rv.forms", "tierline/rv.fields"], apart := false, laid := [("tierline/rv.forms", laid_tierline_rv_forms), ("tierline/rv.fields", laid_tierline_rv_fields)] }
def CpuDataSaid : Prop := cpuDataRow.holds Tryd.pinned (OpenSpec.ofChange cpuDataSpec)

/-- ITS FALSE NEIGHBOUR: 'it returns false'. Refute it at one input. -/
def cpuDataWrong : ChangeSpec := { name := "cpuData", fn := fun _ => fun
  | [d1, d2, d3] => { results := [.lit (.bool false)], args := [d1, d2, d3] }
  | _ => none }
def CpuDataWrongFalsely : Prop := cpuDataRow.holds Tryd.pinned (OpenSpec.ofChange cpuDataWrong)

/-- 'tierlinekeep.CpuJumps': WHATEVER THE INPUT: true; the input reads as it did. -/
def cpuJumpsSpec : ChangeSpec := { name := "cpuJumps", fn := fun _ => fun
  | [d1, d2, d3] => { results := [.lit (.bool true)], args := [d1, d2, d3] }
  | _ => none }
def cpuJumpsRow : OpenClaim := { program := "ytjjpgkjjiooieaadoor", sum := "2a2314b48f11657b7752659d6d2cb2e017a407cc8f1dcd825829c138f8a58920", func := "tierline/tierlinekeep.CpuJumps", spec := "cpuJumps", named := ["tierline/rv.forms", "tierline/rv.fields"], apart := false, laid := [("tierline/rv.forms", laid_tierline_rv_forms), ("tierline/rv.fields", laid_tierline_rv_fields)] }
def CpuJumpsSaid : Prop := cpuJumpsRow.holds Tryd.pinned (OpenSpec.ofChange cpuJumpsSpec)

/-- ITS FALSE NEIGHBOUR: 'it returns false'. Refute it at one input. -/
def cpuJumpsWrong : ChangeSpec := { name := "cpuJumps", fn := fun _ => fun
  | [d1, d2, d3] => { results := [.lit (.bool false)], args := [d1, d2, d3] }
  | _ => none }
def CpuJumpsWrongFalsely : Prop := cpuJumpsRow.holds Tryd.pinned (OpenSpec.ofChange cpuJumpsWrong)

/-- 'tierlinekeep.CpuNumbers': WHATEVER THE INPUT: true; the input reads as it did. -/
def cpuNumbersSpec : ChangeSpec := { name := "cpuNumbers", fn := fun _ => fun
  | [d] => { results := [.lit (.bool true)], args := [d] }
  | _ => none }
def cpuNumbersRow : OpenClaim := { program := "ytjjpgkjjiooieaadoor", sum := "2a2314b48f11657b7752659d6d2cb2e017a407cc8f1dcd825829c138f8a58920", func := "tierline/tierlinekeep.CpuNumbers", spec := "cpuNumbers", named := ["tierline/rv.forms", "tierline/rv.fields"], apart := false, laid := [("tierline/rv.forms", laid_tierline_rv_forms), ("tierline/rv.fields", laid_tierline_rv_fields)] }
def CpuNumbersSaid : Prop := cpuNumbersRow.holds Tryd.pinned (OpenSpec.ofChange cpuNumbersSpec)

/-- ITS FALSE NEIGHBOUR: 'it returns false'. Refute it at one input. -/
def cpuNumbersWrong : ChangeSpec := { name := "cpuNumbers", fn := fun _ => fun
  | [d] => { results := [.lit (.bool false)], args := [d] }
  | _ => none }
def CpuNumbersWrongFalsely : Prop := cpuNumbersRow.holds Tryd.pinned (OpenSpec.ofChange cpuNumbersWrong)

/-- 'tierlinekeep.CpuLui': WHATEVER THE INPUT: true; the input reads as it did. -/
def cpuLuiSpec : ChangeSpec := { name := "cpuLui", fn := fun _ => fun
  | [d1, d2] => { results := [.lit (.bool true)], args := [d1, d2] }
  | _ => none }
def cpuLuiRow : OpenClaim := { program := "ytjjpgkjjiooieaadoor", sum := "2a2314b48f11657b7752659d6d2cb2e017a407cc8f1dcd825829c138f8a58920", func := "tierline/tierlinekeep.CpuLui", spec := "cpuLui", named := ["tierline/rv.forms", "tierline/rv.fields"], apart := false, laid := [("tierline/rv.forms", laid_tierline_rv_forms), ("tierline/rv.fields", laid_tierline_rv_fields)] }
def CpuLuiSaid : Prop := cpuLuiRow.holds Tryd.pinned (OpenSpec.ofChange cpuLuiSpec)

/-- ITS FALSE NEIGHBOUR: 'it returns false'. Refute it at one input. -/
def cpuLuiWrong : ChangeSpec := { name := "cpuLui", fn := fun _ => fun
  | [d1, d2] => { results := [.lit (.bool false)], args := [d1, d2] }
  | _ => none }
def CpuLuiWrongFalsely : Prop := cpuLuiRow.holds Tryd.pinned (OpenSpec.ofChange cpuLuiWrong)

/-- 'tierlinekeep.CpuLoop': WHATEVER THE INPUT: true; the input reads as it did. -/
def cpuLoopSpec : ChangeSpec := { name := "cpuLoop", fn := fun _ => fun
  | [d] => { results := [.lit (.bool true)], args := [d] }
  | _ => none }
def cpuLoopRow : OpenClaim := { program := "ytjjpgkjjiooieaadoor", sum := "2a2314b48f11657b7752659d6d2cb2e017a407cc8f1dcd825829c138f8a58920", func := "tierline/tierlinekeep.CpuLoop", spec := "cpuLoop", named := ["tierline/rv.forms", "tierline/rv.fields"], apart := false, laid := [("tierline/rv.forms", laid_tierline_rv_forms), ("tierline/rv.fields", laid_tierline_rv_fields)] }
def CpuLoopSaid : Prop := cpuLoopRow.holds Tryd.pinned (OpenSpec.ofChange cpuLoopSpec)

/-- ITS FALSE NEIGHBOUR: 'it returns false'. Refute it at one input. -/
def cpuLoopWrong : ChangeSpec := { name := "cpuLoop", fn := fun _ => fun
  | [d] => { results := [.lit (.bool false)], args := [d] }
  | _ => none }
def CpuLoopWrongFalsely : Prop := cpuLoopRow.holds Tryd.pinned (OpenSpec.ofChange cpuLoopWrong)

/-- 'tierlinekeep.CpuParts': WHATEVER THE INPUT: true; the input reads as it did. -/
def cpuPartsSpec : ChangeSpec := { name := "cpuParts", fn := fun _ => fun
  | [d1, d2, d3] => { results := [.lit (.bool true)], args := [d1, d2, d3] }
  | _ => none }
def cpuPartsRow : OpenClaim := { program := "ytjjpgkjjiooieaadoor", sum := "2a2314b48f11657b7752659d6d2cb2e017a407cc8f1dcd825829c138f8a58920", func := "tierline/tierlinekeep.CpuParts", spec := "cpuParts", named := ["tierline/rv.forms", "tierline/rv.fields"], apart := false, laid := [("tierline/rv.forms", laid_tierline_rv_forms), ("tierline/rv.fields", laid_tierline_rv_fields)] }
def CpuPartsSaid : Prop := cpuPartsRow.holds Tryd.pinned (OpenSpec.ofChange cpuPartsSpec)

/-- ITS FALSE NEIGHBOUR: 'it returns false'. Refute it at one input. -/
def cpuPartsWrong : ChangeSpec := { name := "cpuParts", fn := fun _ => fun
  | [d1, d2, d3] => { results := [.lit (.bool false)], args := [d1, d2, d3] }
  | _ => none }
def CpuPartsWrongFalsely : Prop := cpuPartsRow.holds Tryd.pinned (OpenSpec.ofChange cpuPartsWrong)

/-- 'tierlinekeep.CpuHalts': WHATEVER THE INPUT: true; the input reads as it did. -/
def cpuHaltsSpec : ChangeSpec := { name := "cpuHalts", fn := fun _ => fun
  | [d1, d2] => { results := [.lit (.bool true)], args := [d1, d2] }
  | _ => none }
def cpuHaltsRow : OpenClaim := { program := "ytjjpgkjjiooieaadoor", sum := "2a2314b48f11657b7752659d6d2cb2e017a407cc8f1dcd825829c138f8a58920", func := "tierline/tierlinekeep.CpuHalts", spec := "cpuHalts", named := ["tierline/rv.forms", "tierline/rv.fields"], apart := false, laid := [("tierline/rv.forms", laid_tierline_rv_forms), ("tierline/rv.fields", laid_tierline_rv_fields)] }
def CpuHaltsSaid : Prop := cpuHaltsRow.holds Tryd.pinned (OpenSpec.ofChange cpuHaltsSpec)

/-- ITS FALSE NEIGHBOUR: 'it returns false'. Refute it at one input. -/
def cpuHaltsWrong : ChangeSpec := { name := "cpuHalts", fn := fun _ => fun
  | [d1, d2] => { results := [.lit (.bool false)], args := [d1, d2] }
  | _ => none }
def CpuHaltsWrongFalsely : Prop := cpuHaltsRow.holds Tryd.pinned (OpenSpec.ofChange cpuHaltsWrong)

/-- 'tierlinekeep.CpuMakes': WHATEVER THE INPUT: true; the input reads as it did. -/
def cpuMakesSpec : ChangeSpec := { name := "cpuMakes", fn := fun _ => fun
  | [d1, d2, d3] => { results := [.lit (.bool true)], args := [d1, d2, d3] }
  | _ => none }
def cpuMakesRow : OpenClaim := { program := "ytjjpgkjjiooieaadoor", sum := "2a2314b48f11657b7752659d6d2cb2e017a407cc8f1dcd825829c138f8a58920", func := "tierline/tierlinekeep.CpuMakes", spec := "cpuMakes", named := ["tierline/rv.forms", "tierline/rv.fields"], apart := false, laid := [("tierline/rv.forms", laid_tierline_rv_forms), ("tierline/rv.fields", laid_tierline_rv_fields)] }
def CpuMakesSaid : Prop := cpuMakesRow.holds Tryd.pinned (OpenSpec.ofChange cpuMakesSpec)

/-- ITS FALSE NEIGHBOUR: 'it returns false'. Refute it at one input. -/
def cpuMakesWrong : ChangeSpec := { name := "cpuMakes", fn := fun _ => fun
  | [d1, d2, d3] => { results := [.lit (.bool false)], args := [d1, d2, d3] }
  | _ => none }
def CpuMakesWrongFalsely : Prop := cpuMakesRow.holds Tryd.pinned (OpenSpec.ofChange cpuMakesWrong)

/- THE SECOND FORM. 'bulk': how many values and letters a reading holds, each counted each time it is reached (what is shared counts as often as it is met; a slice's spare places count too). A statement '..UptoSaid' is the law's where the arguments, and the package variables that the reading takes, are together of bulk at most 1048576: NARROWER than '..Said'. Prove '..Said' where nothing that the law and all that it calls make is longer than what came in: it says more and counts as full. Else prove '..UptoSaid'. A law counts once. -/
mutual
def uptoBulk {H : Type} : DataW H → Nat
  | .lit (.string bytes) => bytes.length + 1
  | .lit _ => 1
  | .nil => 1
  | .ptr d => uptoBulk d + 1
  | .slice elems spare => uptoBulkAll elems + uptoBulkAll spare + 1
  | .agg parts => uptoBulkAll parts + 1
  | .iface _ d => uptoBulk d + 1
  | .map entries => uptoBulkEntries entries + 1
  | .held _ => 1
def uptoBulkAll {H : Type} : List (DataW H) → Nat
  | [] => 0
  | d :: r => uptoBulk d + uptoBulkAll r
def uptoBulkEntries {H : Type} : List (Lit × DataW H) → Nat
  | [] => 0
  | x :: r => uptoBulkEntry x + uptoBulkEntries r
def uptoBulkEntry {H : Type} : Lit × DataW H → Nat
  | (.string bytes, d) => bytes.length + uptoBulk d + 1
  | (_, d) => uptoBulk d + 1
 end
def uptoSmall : (H : Type) → List (DataW H) → Bool := fun _ ds => decide (uptoBulkAll ds ≤ 1048576)
def OpenSpec.upto (s : _root_.Go.ChangeSpec) : _root_.Go.OpenSpec := { _root_.Go.OpenSpec.ofChange s with cond := some uptoSmall }

/-- 'tierlinekeep.CpuSelf', WHERE WHAT IT READS IS OF BULK AT MOST 1048576: true; the input reads as it did. -/
def cpuSelfUptoRow : OpenClaim := { program := "ytjjpgkjjiooieaadoor", sum := "2a2314b48f11657b7752659d6d2cb2e017a407cc8f1dcd825829c138f8a58920", func := "tierline/tierlinekeep.CpuSelf", spec := "cpuSelf", named := ["tierline/rv.forms", "tierline/rv.fields"], apart := false, laid := [("tierline/rv.forms", laid_tierline_rv_forms), ("tierline/rv.fields", laid_tierline_rv_fields)], narrowed := true }
def CpuSelfUptoSaid : Prop := cpuSelfUptoRow.holds Tryd.pinned (OpenSpec.upto cpuSelfSpec)

/-- 'tierlinekeep.CpuData', WHERE WHAT IT READS IS OF BULK AT MOST 1048576: true; the input reads as it did. -/
def cpuDataUptoRow : OpenClaim := { program := "ytjjpgkjjiooieaadoor", sum := "2a2314b48f11657b7752659d6d2cb2e017a407cc8f1dcd825829c138f8a58920", func := "tierline/tierlinekeep.CpuData", spec := "cpuData", named := ["tierline/rv.forms", "tierline/rv.fields"], apart := false, laid := [("tierline/rv.forms", laid_tierline_rv_forms), ("tierline/rv.fields", laid_tierline_rv_fields)], narrowed := true }
def CpuDataUptoSaid : Prop := cpuDataUptoRow.holds Tryd.pinned (OpenSpec.upto cpuDataSpec)

/-- 'tierlinekeep.CpuJumps', WHERE WHAT IT READS IS OF BULK AT MOST 1048576: true; the input reads as it did. -/
def cpuJumpsUptoRow : OpenClaim := { program := "ytjjpgkjjiooieaadoor", sum := "2a2314b48f11657b7752659d6d2cb2e017a407cc8f1dcd825829c138f8a58920", func := "tierline/tierlinekeep.CpuJumps", spec := "cpuJumps", named := ["tierline/rv.forms", "tierline/rv.fields"], apart := false, laid := [("tierline/rv.forms", laid_tierline_rv_forms), ("tierline/rv.fields", laid_tierline_rv_fields)], narrowed := true }
def CpuJumpsUptoSaid : Prop := cpuJumpsUptoRow.holds Tryd.pinned (OpenSpec.upto cpuJumpsSpec)

/-- 'tierlinekeep.CpuNumbers', WHERE WHAT IT READS IS OF BULK AT MOST 1048576: true; the input reads as it did. -/
def cpuNumbersUptoRow : OpenClaim := { program := "ytjjpgkjjiooieaadoor", sum := "2a2314b48f11657b7752659d6d2cb2e017a407cc8f1dcd825829c138f8a58920", func := "tierline/tierlinekeep.CpuNumbers", spec := "cpuNumbers", named := ["tierline/rv.forms", "tierline/rv.fields"], apart := false, laid := [("tierline/rv.forms", laid_tierline_rv_forms), ("tierline/rv.fields", laid_tierline_rv_fields)], narrowed := true }
def CpuNumbersUptoSaid : Prop := cpuNumbersUptoRow.holds Tryd.pinned (OpenSpec.upto cpuNumbersSpec)

/-- 'tierlinekeep.CpuLui', WHERE WHAT IT READS IS OF BULK AT MOST 1048576: true; the input reads as it did. -/
def cpuLuiUptoRow : OpenClaim := { program := "ytjjpgkjjiooieaadoor", sum := "2a2314b48f11657b7752659d6d2cb2e017a407cc8f1dcd825829c138f8a58920", func := "tierline/tierlinekeep.CpuLui", spec := "cpuLui", named := ["tierline/rv.forms", "tierline/rv.fields"], apart := false, laid := [("tierline/rv.forms", laid_tierline_rv_forms), ("tierline/rv.fields", laid_tierline_rv_fields)], narrowed := true }
def CpuLuiUptoSaid : Prop := cpuLuiUptoRow.holds Tryd.pinned (OpenSpec.upto cpuLuiSpec)

/-- 'tierlinekeep.CpuLoop', WHERE WHAT IT READS IS OF BULK AT MOST 1048576: true; the input reads as it did. -/
def cpuLoopUptoRow : OpenClaim := { program := "ytjjpgkjjiooieaadoor", sum := "2a2314b48f11657b7752659d6d2cb2e017a407cc8f1dcd825829c138f8a58920", func := "tierline/tierlinekeep.CpuLoop", spec := "cpuLoop", named := ["tierline/rv.forms", "tierline/rv.fields"], apart := false, laid := [("tierline/rv.forms", laid_tierline_rv_forms), ("tierline/rv.fields", laid_tierline_rv_fields)], narrowed := true }
def CpuLoopUptoSaid : Prop := cpuLoopUptoRow.holds Tryd.pinned (OpenSpec.upto cpuLoopSpec)

/-- 'tierlinekeep.CpuParts', WHERE WHAT IT READS IS OF BULK AT MOST 1048576: true; the input reads as it did. -/
def cpuPartsUptoRow : OpenClaim := { program := "ytjjpgkjjiooieaadoor", sum := "2a2314b48f11657b7752659d6d2cb2e017a407cc8f1dcd825829c138f8a58920", func := "tierline/tierlinekeep.CpuParts", spec := "cpuParts", named := ["tierline/rv.forms", "tierline/rv.fields"], apart := false, laid := [("tierline/rv.forms", laid_tierline_rv_forms), ("tierline/rv.fields", laid_tierline_rv_fields)], narrowed := true }
def CpuPartsUptoSaid : Prop := cpuPartsUptoRow.holds Tryd.pinned (OpenSpec.upto cpuPartsSpec)

/-- 'tierlinekeep.CpuHalts', WHERE WHAT IT READS IS OF BULK AT MOST 1048576: true; the input reads as it did. -/
def cpuHaltsUptoRow : OpenClaim := { program := "ytjjpgkjjiooieaadoor", sum := "2a2314b48f11657b7752659d6d2cb2e017a407cc8f1dcd825829c138f8a58920", func := "tierline/tierlinekeep.CpuHalts", spec := "cpuHalts", named := ["tierline/rv.forms", "tierline/rv.fields"], apart := false, laid := [("tierline/rv.forms", laid_tierline_rv_forms), ("tierline/rv.fields", laid_tierline_rv_fields)], narrowed := true }
def CpuHaltsUptoSaid : Prop := cpuHaltsUptoRow.holds Tryd.pinned (OpenSpec.upto cpuHaltsSpec)

/-- 'tierlinekeep.CpuMakes', WHERE WHAT IT READS IS OF BULK AT MOST 1048576: true; the input reads as it did. -/
def cpuMakesUptoRow : OpenClaim := { program := "ytjjpgkjjiooieaadoor", sum := "2a2314b48f11657b7752659d6d2cb2e017a407cc8f1dcd825829c138f8a58920", func := "tierline/tierlinekeep.CpuMakes", spec := "cpuMakes", named := ["tierline/rv.forms", "tierline/rv.fields"], apart := false, laid := [("tierline/rv.forms", laid_tierline_rv_forms), ("tierline/rv.fields", laid_tierline_rv_fields)], narrowed := true }
def CpuMakesUptoSaid : Prop := cpuMakesUptoRow.holds Tryd.pinned (OpenSpec.upto cpuMakesSpec)

end Rows
end Go.Proofs.YtjjpgkjjiooieaaDoor
