/-
  NARROWER THAN 'FOR EVERY INPUT', by the rows' own cells (each row's printed sentence says how): TrimSmall: laid · TrimAgain: laid · RunMore: laid · WalkParts: laid · EventsGrow: laid · ProofSafe: laid · AnswersMore: laid · FuelFalls: laid · MemoryStays: laid · StateStays: laid · CallFrames: laid · CountsFlow: laid · RunEnds: laid · StepPure: laid · HotMost: laid · CountsSum: laid · TrimRuns: laid.
  DERIVED. THE GIVEN ROWS OF THIS SEAT. 17 by the template 'for every input the law returns true; each argument reads behind the call as it read before'; 0 by the template 'total and deterministic' (their statements: YtnbopmlemddakaaDoorTotals.lean).
  GIVEN WITH THE SEED: the statements are not yours to turn. If you find one false, say at which input.
  Laid BY PROGRAM, IN A SANDBOX (cutbox-rows.mjs): the forced cells as the released guide's own fill.sh prints them over the translation 453155fdf2269afc… (all of the seat's roots in one cut). By AI agents, Wed Nov 11 2026. No macro, syntax, notation, axiom, sorry.
-/
import Derived.Test.YtnbopmlemddakaaDoorChecked
import GoSem.Claim
import GoSem.ClaimJoined
import GoSem.ClaimMapViews
import Derived.JoinedTies
import Derived.KernelRfl
namespace Go.Proofs.YtnbopmlemddakaaDoor
/- THE CELL 'sum', in the pinned program and in every row, IS THE sha256 OF THE DUMP (.gsa) THAT YtnbopmlemddakaaDoorProg.lean LOADS. Nothing in Lean hashes anything: it is a label: what it is worth is what the hold of that sum in a sandbox is worth. -/
noncomputable def Tryd.pinned : Pinned := { name := "ytnbopmlemddakaadoor", sum := "453155fdf2269afcb1c63e6b3ff91bd375ad03f9abefe0b7d3f72534db2a4581", checked := Tryd.checked }
namespace Rows
def none {H : Type} : Left H := { results := [], args := [] }

/- WHAT THE LISTED PACKAGE-LEVEL VARIABLES READ AS WHEN THE CALL BEGINS. Each datum BY PROGRAM (the guide's laid-datum.mjs) off the statement by which the dump's own 'gosem.cut.vars' lays the variable. In a bare row this is a premise. The card (YtnbopmlemddakaaDoorCards.lean) ties it to the program's text. -/
def laid_tierline_code_has {H : Type} : DataW H := .agg [.lit (.int .i64 0), .lit (.int .i64 9), .lit (.int .i64 7), .lit (.int .i64 7), .lit (.int .i64 7), .lit (.int .i64 7), .lit (.int .i64 7), .lit (.int .i64 7), .lit (.int .i64 7), .lit (.int .i64 7), .lit (.int .i64 7), .lit (.int .i64 7), .lit (.int .i64 7), .lit (.int .i64 3), .lit (.int .i64 6), .lit (.int .i64 16), .lit (.int .i64 18), .lit (.int .i64 39), .lit (.int .i64 3), .lit (.int .i64 2)]

/-- 'tierlinekeep.TrimSmall': WHATEVER THE INPUT: true; the input reads as it did. -/
def trimSmallSpec : ChangeSpec := { name := "trimSmall", fn := fun _ => fun
  | [d1, d2] => { results := [.lit (.bool true)], args := [d1, d2] }
  | _ => none }
def trimSmallRow : OpenClaim := { program := "ytnbopmlemddakaadoor", sum := "453155fdf2269afcb1c63e6b3ff91bd375ad03f9abefe0b7d3f72534db2a4581", func := "tierline/tierlinekeep.TrimSmall", spec := "trimSmall", named := ["tierline/code.has"], apart := false, laid := [("tierline/code.has", laid_tierline_code_has)] }
def TrimSmallSaid : Prop := trimSmallRow.holds Tryd.pinned (OpenSpec.ofChange trimSmallSpec)

/-- ITS FALSE NEIGHBOUR: 'it returns false'. Refute it at one input. -/
def trimSmallWrong : ChangeSpec := { name := "trimSmall", fn := fun _ => fun
  | [d1, d2] => { results := [.lit (.bool false)], args := [d1, d2] }
  | _ => none }
def TrimSmallWrongFalsely : Prop := trimSmallRow.holds Tryd.pinned (OpenSpec.ofChange trimSmallWrong)

/-- 'tierlinekeep.TrimAgain': WHATEVER THE INPUT: true; the input reads as it did. -/
def trimAgainSpec : ChangeSpec := { name := "trimAgain", fn := fun _ => fun
  | [d] => { results := [.lit (.bool true)], args := [d] }
  | _ => none }
def trimAgainRow : OpenClaim := { program := "ytnbopmlemddakaadoor", sum := "453155fdf2269afcb1c63e6b3ff91bd375ad03f9abefe0b7d3f72534db2a4581", func := "tierline/tierlinekeep.TrimAgain", spec := "trimAgain", named := ["tierline/code.has"], apart := false, laid := [("tierline/code.has", laid_tierline_code_has)] }
def TrimAgainSaid : Prop := trimAgainRow.holds Tryd.pinned (OpenSpec.ofChange trimAgainSpec)

/-- ITS FALSE NEIGHBOUR: 'it returns false'. Refute it at one input. -/
def trimAgainWrong : ChangeSpec := { name := "trimAgain", fn := fun _ => fun
  | [d] => { results := [.lit (.bool false)], args := [d] }
  | _ => none }
def TrimAgainWrongFalsely : Prop := trimAgainRow.holds Tryd.pinned (OpenSpec.ofChange trimAgainWrong)

/-- 'tierlinekeep.RunMore': WHATEVER THE INPUT: true; the input reads as it did. -/
def runMoreSpec : ChangeSpec := { name := "runMore", fn := fun _ => fun
  | [d1, d2, d3] => { results := [.lit (.bool true)], args := [d1, d2, d3] }
  | _ => none }
def runMoreRow : OpenClaim := { program := "ytnbopmlemddakaadoor", sum := "453155fdf2269afcb1c63e6b3ff91bd375ad03f9abefe0b7d3f72534db2a4581", func := "tierline/tierlinekeep.RunMore", spec := "runMore", named := ["tierline/code.has"], apart := false, laid := [("tierline/code.has", laid_tierline_code_has)] }
def RunMoreSaid : Prop := runMoreRow.holds Tryd.pinned (OpenSpec.ofChange runMoreSpec)

/-- ITS FALSE NEIGHBOUR: 'it returns false'. Refute it at one input. -/
def runMoreWrong : ChangeSpec := { name := "runMore", fn := fun _ => fun
  | [d1, d2, d3] => { results := [.lit (.bool false)], args := [d1, d2, d3] }
  | _ => none }
def RunMoreWrongFalsely : Prop := runMoreRow.holds Tryd.pinned (OpenSpec.ofChange runMoreWrong)

/-- 'tierlinekeep.WalkParts': WHATEVER THE INPUT: true; the input reads as it did. -/
def walkPartsSpec : ChangeSpec := { name := "walkParts", fn := fun _ => fun
  | [d1, d2, d3, d4] => { results := [.lit (.bool true)], args := [d1, d2, d3, d4] }
  | _ => none }
def walkPartsRow : OpenClaim := { program := "ytnbopmlemddakaadoor", sum := "453155fdf2269afcb1c63e6b3ff91bd375ad03f9abefe0b7d3f72534db2a4581", func := "tierline/tierlinekeep.WalkParts", spec := "walkParts", named := ["tierline/code.has"], apart := false, laid := [("tierline/code.has", laid_tierline_code_has)] }
def WalkPartsSaid : Prop := walkPartsRow.holds Tryd.pinned (OpenSpec.ofChange walkPartsSpec)

/-- ITS FALSE NEIGHBOUR: 'it returns false'. Refute it at one input. -/
def walkPartsWrong : ChangeSpec := { name := "walkParts", fn := fun _ => fun
  | [d1, d2, d3, d4] => { results := [.lit (.bool false)], args := [d1, d2, d3, d4] }
  | _ => none }
def WalkPartsWrongFalsely : Prop := walkPartsRow.holds Tryd.pinned (OpenSpec.ofChange walkPartsWrong)

/-- 'tierlinekeep.EventsGrow': WHATEVER THE INPUT: true; the input reads as it did. -/
def eventsGrowSpec : ChangeSpec := { name := "eventsGrow", fn := fun _ => fun
  | [d1, d2, d3, d4] => { results := [.lit (.bool true)], args := [d1, d2, d3, d4] }
  | _ => none }
def eventsGrowRow : OpenClaim := { program := "ytnbopmlemddakaadoor", sum := "453155fdf2269afcb1c63e6b3ff91bd375ad03f9abefe0b7d3f72534db2a4581", func := "tierline/tierlinekeep.EventsGrow", spec := "eventsGrow", named := ["tierline/code.has"], apart := false, laid := [("tierline/code.has", laid_tierline_code_has)] }
def EventsGrowSaid : Prop := eventsGrowRow.holds Tryd.pinned (OpenSpec.ofChange eventsGrowSpec)

/-- ITS FALSE NEIGHBOUR: 'it returns false'. Refute it at one input. -/
def eventsGrowWrong : ChangeSpec := { name := "eventsGrow", fn := fun _ => fun
  | [d1, d2, d3, d4] => { results := [.lit (.bool false)], args := [d1, d2, d3, d4] }
  | _ => none }
def EventsGrowWrongFalsely : Prop := eventsGrowRow.holds Tryd.pinned (OpenSpec.ofChange eventsGrowWrong)

/-- 'tierlinekeep.ProofSafe': WHATEVER THE INPUT: true; the input reads as it did. -/
def proofSafeSpec : ChangeSpec := { name := "proofSafe", fn := fun _ => fun
  | [d1, d2] => { results := [.lit (.bool true)], args := [d1, d2] }
  | _ => none }
def proofSafeRow : OpenClaim := { program := "ytnbopmlemddakaadoor", sum := "453155fdf2269afcb1c63e6b3ff91bd375ad03f9abefe0b7d3f72534db2a4581", func := "tierline/tierlinekeep.ProofSafe", spec := "proofSafe", named := ["tierline/code.has"], apart := false, laid := [("tierline/code.has", laid_tierline_code_has)] }
def ProofSafeSaid : Prop := proofSafeRow.holds Tryd.pinned (OpenSpec.ofChange proofSafeSpec)

/-- ITS FALSE NEIGHBOUR: 'it returns false'. Refute it at one input. -/
def proofSafeWrong : ChangeSpec := { name := "proofSafe", fn := fun _ => fun
  | [d1, d2] => { results := [.lit (.bool false)], args := [d1, d2] }
  | _ => none }
def ProofSafeWrongFalsely : Prop := proofSafeRow.holds Tryd.pinned (OpenSpec.ofChange proofSafeWrong)

/-- 'tierlinekeep.AnswersMore': WHATEVER THE INPUT: true; the input reads as it did. -/
def answersMoreSpec : ChangeSpec := { name := "answersMore", fn := fun _ => fun
  | [d1, d2, d3] => { results := [.lit (.bool true)], args := [d1, d2, d3] }
  | _ => none }
def answersMoreRow : OpenClaim := { program := "ytnbopmlemddakaadoor", sum := "453155fdf2269afcb1c63e6b3ff91bd375ad03f9abefe0b7d3f72534db2a4581", func := "tierline/tierlinekeep.AnswersMore", spec := "answersMore", named := ["tierline/code.has"], apart := false, laid := [("tierline/code.has", laid_tierline_code_has)] }
def AnswersMoreSaid : Prop := answersMoreRow.holds Tryd.pinned (OpenSpec.ofChange answersMoreSpec)

/-- ITS FALSE NEIGHBOUR: 'it returns false'. Refute it at one input. -/
def answersMoreWrong : ChangeSpec := { name := "answersMore", fn := fun _ => fun
  | [d1, d2, d3] => { results := [.lit (.bool false)], args := [d1, d2, d3] }
  | _ => none }
def AnswersMoreWrongFalsely : Prop := answersMoreRow.holds Tryd.pinned (OpenSpec.ofChange answersMoreWrong)

/-- 'tierlinekeep.FuelFalls': WHATEVER THE INPUT: true; the input reads as it did. -/
def fuelFallsSpec : ChangeSpec := { name := "fuelFalls", fn := fun _ => fun
  | [d1, d2, d3] => { results := [.lit (.bool true)], args := [d1, d2, d3] }
  | _ => none }
def fuelFallsRow : OpenClaim := { program := "ytnbopmlemddakaadoor", sum := "453155fdf2269afcb1c63e6b3ff91bd375ad03f9abefe0b7d3f72534db2a4581", func := "tierline/tierlinekeep.FuelFalls", spec := "fuelFalls", named := ["tierline/code.has"], apart := false, laid := [("tierline/code.has", laid_tierline_code_has)] }
def FuelFallsSaid : Prop := fuelFallsRow.holds Tryd.pinned (OpenSpec.ofChange fuelFallsSpec)

/-- ITS FALSE NEIGHBOUR: 'it returns false'. Refute it at one input. -/
def fuelFallsWrong : ChangeSpec := { name := "fuelFalls", fn := fun _ => fun
  | [d1, d2, d3] => { results := [.lit (.bool false)], args := [d1, d2, d3] }
  | _ => none }
def FuelFallsWrongFalsely : Prop := fuelFallsRow.holds Tryd.pinned (OpenSpec.ofChange fuelFallsWrong)

/-- 'tierlinekeep.MemoryStays': WHATEVER THE INPUT: true; the input reads as it did. -/
def memoryStaysSpec : ChangeSpec := { name := "memoryStays", fn := fun _ => fun
  | [d1, d2, d3] => { results := [.lit (.bool true)], args := [d1, d2, d3] }
  | _ => none }
def memoryStaysRow : OpenClaim := { program := "ytnbopmlemddakaadoor", sum := "453155fdf2269afcb1c63e6b3ff91bd375ad03f9abefe0b7d3f72534db2a4581", func := "tierline/tierlinekeep.MemoryStays", spec := "memoryStays", named := ["tierline/code.has"], apart := false, laid := [("tierline/code.has", laid_tierline_code_has)] }
def MemoryStaysSaid : Prop := memoryStaysRow.holds Tryd.pinned (OpenSpec.ofChange memoryStaysSpec)

/-- ITS FALSE NEIGHBOUR: 'it returns false'. Refute it at one input. -/
def memoryStaysWrong : ChangeSpec := { name := "memoryStays", fn := fun _ => fun
  | [d1, d2, d3] => { results := [.lit (.bool false)], args := [d1, d2, d3] }
  | _ => none }
def MemoryStaysWrongFalsely : Prop := memoryStaysRow.holds Tryd.pinned (OpenSpec.ofChange memoryStaysWrong)

/-- 'tierlinekeep.StateStays': WHATEVER THE INPUT: true; the input reads as it did. -/
def stateStaysSpec : ChangeSpec := { name := "stateStays", fn := fun _ => fun
  | [d1, d2, d3] => { results := [.lit (.bool true)], args := [d1, d2, d3] }
  | _ => none }
def stateStaysRow : OpenClaim := { program := "ytnbopmlemddakaadoor", sum := "453155fdf2269afcb1c63e6b3ff91bd375ad03f9abefe0b7d3f72534db2a4581", func := "tierline/tierlinekeep.StateStays", spec := "stateStays", named := ["tierline/code.has"], apart := false, laid := [("tierline/code.has", laid_tierline_code_has)] }
def StateStaysSaid : Prop := stateStaysRow.holds Tryd.pinned (OpenSpec.ofChange stateStaysSpec)

/-- ITS FALSE NEIGHBOUR: 'it returns false'. Refute it at one input. -/
def stateStaysWrong : ChangeSpec := { name := "stateStays", fn := fun _ => fun
  | [d1, d2, d3] => { results := [.lit (.bool false)], args := [d1, d2, d3] }
  | _ => none }
def StateStaysWrongFalsely : Prop := stateStaysRow.holds Tryd.pinned (OpenSpec.ofChange stateStaysWrong)

/-- 'tierlinekeep.CallFrames': WHATEVER THE INPUT: true; the input reads as it did. -/
def callFramesSpec : ChangeSpec := { name := "callFrames", fn := fun _ => fun
  | [d1, d2, d3] => { results := [.lit (.bool true)], args := [d1, d2, d3] }
  | _ => none }
def callFramesRow : OpenClaim := { program := "ytnbopmlemddakaadoor", sum := "453155fdf2269afcb1c63e6b3ff91bd375ad03f9abefe0b7d3f72534db2a4581", func := "tierline/tierlinekeep.CallFrames", spec := "callFrames", named := ["tierline/code.has"], apart := false, laid := [("tierline/code.has", laid_tierline_code_has)] }
def CallFramesSaid : Prop := callFramesRow.holds Tryd.pinned (OpenSpec.ofChange callFramesSpec)

/-- ITS FALSE NEIGHBOUR: 'it returns false'. Refute it at one input. -/
def callFramesWrong : ChangeSpec := { name := "callFrames", fn := fun _ => fun
  | [d1, d2, d3] => { results := [.lit (.bool false)], args := [d1, d2, d3] }
  | _ => none }
def CallFramesWrongFalsely : Prop := callFramesRow.holds Tryd.pinned (OpenSpec.ofChange callFramesWrong)

/-- 'tierlinekeep.CountsFlow': WHATEVER THE INPUT: true; the input reads as it did. -/
def countsFlowSpec : ChangeSpec := { name := "countsFlow", fn := fun _ => fun
  | [d1, d2] => { results := [.lit (.bool true)], args := [d1, d2] }
  | _ => none }
def countsFlowRow : OpenClaim := { program := "ytnbopmlemddakaadoor", sum := "453155fdf2269afcb1c63e6b3ff91bd375ad03f9abefe0b7d3f72534db2a4581", func := "tierline/tierlinekeep.CountsFlow", spec := "countsFlow", named := ["tierline/code.has"], apart := false, laid := [("tierline/code.has", laid_tierline_code_has)] }
def CountsFlowSaid : Prop := countsFlowRow.holds Tryd.pinned (OpenSpec.ofChange countsFlowSpec)

/-- ITS FALSE NEIGHBOUR: 'it returns false'. Refute it at one input. -/
def countsFlowWrong : ChangeSpec := { name := "countsFlow", fn := fun _ => fun
  | [d1, d2] => { results := [.lit (.bool false)], args := [d1, d2] }
  | _ => none }
def CountsFlowWrongFalsely : Prop := countsFlowRow.holds Tryd.pinned (OpenSpec.ofChange countsFlowWrong)

/-- 'tierlinekeep.RunEnds': WHATEVER THE INPUT: true; the input reads as it did. -/
def runEndsSpec : ChangeSpec := { name := "runEnds", fn := fun _ => fun
  | [d1, d2] => { results := [.lit (.bool true)], args := [d1, d2] }
  | _ => none }
def runEndsRow : OpenClaim := { program := "ytnbopmlemddakaadoor", sum := "453155fdf2269afcb1c63e6b3ff91bd375ad03f9abefe0b7d3f72534db2a4581", func := "tierline/tierlinekeep.RunEnds", spec := "runEnds", named := ["tierline/code.has"], apart := false, laid := [("tierline/code.has", laid_tierline_code_has)] }
def RunEndsSaid : Prop := runEndsRow.holds Tryd.pinned (OpenSpec.ofChange runEndsSpec)

/-- ITS FALSE NEIGHBOUR: 'it returns false'. Refute it at one input. -/
def runEndsWrong : ChangeSpec := { name := "runEnds", fn := fun _ => fun
  | [d1, d2] => { results := [.lit (.bool false)], args := [d1, d2] }
  | _ => none }
def RunEndsWrongFalsely : Prop := runEndsRow.holds Tryd.pinned (OpenSpec.ofChange runEndsWrong)

/-- 'tierlinekeep.StepPure': WHATEVER THE INPUT: true; the input reads as it did. -/
def stepPureSpec : ChangeSpec := { name := "stepPure", fn := fun _ => fun
  | [d1, d2, d3] => { results := [.lit (.bool true)], args := [d1, d2, d3] }
  | _ => none }
def stepPureRow : OpenClaim := { program := "ytnbopmlemddakaadoor", sum := "453155fdf2269afcb1c63e6b3ff91bd375ad03f9abefe0b7d3f72534db2a4581", func := "tierline/tierlinekeep.StepPure", spec := "stepPure", named := ["tierline/code.has"], apart := false, laid := [("tierline/code.has", laid_tierline_code_has)] }
def StepPureSaid : Prop := stepPureRow.holds Tryd.pinned (OpenSpec.ofChange stepPureSpec)

/-- ITS FALSE NEIGHBOUR: 'it returns false'. Refute it at one input. -/
def stepPureWrong : ChangeSpec := { name := "stepPure", fn := fun _ => fun
  | [d1, d2, d3] => { results := [.lit (.bool false)], args := [d1, d2, d3] }
  | _ => none }
def StepPureWrongFalsely : Prop := stepPureRow.holds Tryd.pinned (OpenSpec.ofChange stepPureWrong)

/-- 'tierlinekeep.HotMost': WHATEVER THE INPUT: true; the input reads as it did. -/
def hotMostSpec : ChangeSpec := { name := "hotMost", fn := fun _ => fun
  | [d1, d2] => { results := [.lit (.bool true)], args := [d1, d2] }
  | _ => none }
def hotMostRow : OpenClaim := { program := "ytnbopmlemddakaadoor", sum := "453155fdf2269afcb1c63e6b3ff91bd375ad03f9abefe0b7d3f72534db2a4581", func := "tierline/tierlinekeep.HotMost", spec := "hotMost", named := ["tierline/code.has"], apart := false, laid := [("tierline/code.has", laid_tierline_code_has)] }
def HotMostSaid : Prop := hotMostRow.holds Tryd.pinned (OpenSpec.ofChange hotMostSpec)

/-- ITS FALSE NEIGHBOUR: 'it returns false'. Refute it at one input. -/
def hotMostWrong : ChangeSpec := { name := "hotMost", fn := fun _ => fun
  | [d1, d2] => { results := [.lit (.bool false)], args := [d1, d2] }
  | _ => none }
def HotMostWrongFalsely : Prop := hotMostRow.holds Tryd.pinned (OpenSpec.ofChange hotMostWrong)

/-- 'tierlinekeep.CountsSum': WHATEVER THE INPUT: true; the input reads as it did. -/
def countsSumSpec : ChangeSpec := { name := "countsSum", fn := fun _ => fun
  | [d1, d2] => { results := [.lit (.bool true)], args := [d1, d2] }
  | _ => none }
def countsSumRow : OpenClaim := { program := "ytnbopmlemddakaadoor", sum := "453155fdf2269afcb1c63e6b3ff91bd375ad03f9abefe0b7d3f72534db2a4581", func := "tierline/tierlinekeep.CountsSum", spec := "countsSum", named := ["tierline/code.has"], apart := false, laid := [("tierline/code.has", laid_tierline_code_has)] }
def CountsSumSaid : Prop := countsSumRow.holds Tryd.pinned (OpenSpec.ofChange countsSumSpec)

/-- ITS FALSE NEIGHBOUR: 'it returns false'. Refute it at one input. -/
def countsSumWrong : ChangeSpec := { name := "countsSum", fn := fun _ => fun
  | [d1, d2] => { results := [.lit (.bool false)], args := [d1, d2] }
  | _ => none }
def CountsSumWrongFalsely : Prop := countsSumRow.holds Tryd.pinned (OpenSpec.ofChange countsSumWrong)

/-- 'tierlinekeep.TrimRuns': WHATEVER THE INPUT: true; the input reads as it did. -/
def trimRunsSpec : ChangeSpec := { name := "trimRuns", fn := fun _ => fun
  | [d1, d2] => { results := [.lit (.bool true)], args := [d1, d2] }
  | _ => none }
def trimRunsRow : OpenClaim := { program := "ytnbopmlemddakaadoor", sum := "453155fdf2269afcb1c63e6b3ff91bd375ad03f9abefe0b7d3f72534db2a4581", func := "tierline/tierlinekeep.TrimRuns", spec := "trimRuns", named := ["tierline/code.has"], apart := false, laid := [("tierline/code.has", laid_tierline_code_has)] }
def TrimRunsSaid : Prop := trimRunsRow.holds Tryd.pinned (OpenSpec.ofChange trimRunsSpec)

/-- ITS FALSE NEIGHBOUR: 'it returns false'. Refute it at one input. -/
def trimRunsWrong : ChangeSpec := { name := "trimRuns", fn := fun _ => fun
  | [d1, d2] => { results := [.lit (.bool false)], args := [d1, d2] }
  | _ => none }
def TrimRunsWrongFalsely : Prop := trimRunsRow.holds Tryd.pinned (OpenSpec.ofChange trimRunsWrong)

/- THE SECOND FORM. 'bulk': how many values and letters a reading holds, each counted each time it is reached (what is shared counts as often as it is met; a slice's spare places count too). A statement '..UptoSaid' is the law's where the arguments, and the package variables that the reading takes, are together of bulk at most 1048576: NARROWER than '..Said'. Prove '..Said' where nothing that the law and all that it calls make is longer than what came in: it says more and counts as full. Else prove '..UptoSaid'. A law counts once. -/
mutual
def uptoBulk {H : Type} : DataW H → Nat
  | .lit (.string bytes) => bytes.length + 1
  | .lit _ => 1
  | .nil => 1
  | .ptr d => uptoBulk d + 1
  | .slice elems spare => uptoBulkAll elems + uptoBulkAll spare + 1
  | .agg parts => uptoBulkAll parts + 1
  | .iface _ d => uptoBulk d + 1
  | .map entries => uptoBulkEntries entries + 1
  | .held _ => 1
def uptoBulkAll {H : Type} : List (DataW H) → Nat
  | [] => 0
  | d :: r => uptoBulk d + uptoBulkAll r
def uptoBulkEntries {H : Type} : List (Lit × DataW H) → Nat
  | [] => 0
  | x :: r => uptoBulkEntry x + uptoBulkEntries r
def uptoBulkEntry {H : Type} : Lit × DataW H → Nat
  | (.string bytes, d) => bytes.length + uptoBulk d + 1
  | (_, d) => uptoBulk d + 1
 end
def uptoSmall : (H : Type) → List (DataW H) → Bool := fun _ ds => decide (uptoBulkAll ds ≤ 1048576)
def OpenSpec.upto (s : _root_.Go.ChangeSpec) : _root_.Go.OpenSpec := { _root_.Go.OpenSpec.ofChange s with cond := some uptoSmall }

/-- 'tierlinekeep.TrimSmall', WHERE WHAT IT READS IS OF BULK AT MOST 1048576: true; the input reads as it did. -/
def trimSmallUptoRow : OpenClaim := { program := "ytnbopmlemddakaadoor", sum := "453155fdf2269afcb1c63e6b3ff91bd375ad03f9abefe0b7d3f72534db2a4581", func := "tierline/tierlinekeep.TrimSmall", spec := "trimSmall", named := ["tierline/code.has"], apart := false, laid := [("tierline/code.has", laid_tierline_code_has)], narrowed := true }
def TrimSmallUptoSaid : Prop := trimSmallUptoRow.holds Tryd.pinned (OpenSpec.upto trimSmallSpec)

/-- 'tierlinekeep.TrimAgain', WHERE WHAT IT READS IS OF BULK AT MOST 1048576: true; the input reads as it did. -/
def trimAgainUptoRow : OpenClaim := { program := "ytnbopmlemddakaadoor", sum := "453155fdf2269afcb1c63e6b3ff91bd375ad03f9abefe0b7d3f72534db2a4581", func := "tierline/tierlinekeep.TrimAgain", spec := "trimAgain", named := ["tierline/code.has"], apart := false, laid := [("tierline/code.has", laid_tierline_code_has)], narrowed := true }
def TrimAgainUptoSaid : Prop := trimAgainUptoRow.holds Tryd.pinned (OpenSpec.upto trimAgainSpec)

/-- 'tierlinekeep.RunMore', WHERE WHAT IT READS IS OF BULK AT MOST 1048576: true; the input reads as it did. -/
def runMoreUptoRow : OpenClaim := { program := "ytnbopmlemddakaadoor", sum := "453155fdf2269afcb1c63e6b3ff91bd375ad03f9abefe0b7d3f72534db2a4581", func := "tierline/tierlinekeep.RunMore", spec := "runMore", named := ["tierline/code.has"], apart := false, laid := [("tierline/code.has", laid_tierline_code_has)], narrowed := true }
def RunMoreUptoSaid : Prop := runMoreUptoRow.holds Tryd.pinned (OpenSpec.upto runMoreSpec)

/-- 'tierlinekeep.WalkParts', WHERE WHAT IT READS IS OF BULK AT MOST 1048576: true; the input reads as it did. -/
def walkPartsUptoRow : OpenClaim := { program := "ytnbopmlemddakaadoor", sum := "453155fdf2269afcb1c63e6b3ff91bd375ad03f9abefe0b7d3f72534db2a4581", func := "tierline/tierlinekeep.WalkParts", spec := "walkParts", named := ["tierline/code.has"], apart := false, laid := [("tierline/code.has", laid_tierline_code_has)], narrowed := true }
def WalkPartsUptoSaid : Prop := walkPartsUptoRow.holds Tryd.pinned (OpenSpec.upto walkPartsSpec)

/-- 'tierlinekeep.EventsGrow', WHERE WHAT IT READS IS OF BULK AT MOST 1048576: true; the input reads as it did. -/
def eventsGrowUptoRow : OpenClaim := { program := "ytnbopmlemddakaadoor", sum := "453155fdf2269afcb1c63e6b3ff91bd375ad03f9abefe0b7d3f72534db2a4581", func := "tierline/tierlinekeep.EventsGrow", spec := "eventsGrow", named := ["tierline/code.has"], apart := false, laid := [("tierline/code.has", laid_tierline_code_has)], narrowed := true }
def EventsGrowUptoSaid : Prop := eventsGrowUptoRow.holds Tryd.pinned (OpenSpec.upto eventsGrowSpec)

/-- 'tierlinekeep.ProofSafe', WHERE WHAT IT READS IS OF BULK AT MOST 1048576: true; the input reads as it did. -/
def proofSafeUptoRow : OpenClaim := { program := "ytnbopmlemddakaadoor", sum := "453155fdf2269afcb1c63e6b3ff91bd375ad03f9abefe0b7d3f72534db2a4581", func := "tierline/tierlinekeep.ProofSafe", spec := "proofSafe", named := ["tierline/code.has"], apart := false, laid := [("tierline/code.has", laid_tierline_code_has)], narrowed := true }
def ProofSafeUptoSaid : Prop := proofSafeUptoRow.holds Tryd.pinned (OpenSpec.upto proofSafeSpec)

/-- 'tierlinekeep.AnswersMore', WHERE WHAT IT READS IS OF BULK AT MOST 1048576: true; the input reads as it did. -/
def answersMoreUptoRow : OpenClaim := { program := "ytnbopmlemddakaadoor", sum := "453155fdf2269afcb1c63e6b3ff91bd375ad03f9abefe0b7d3f72534db2a4581", func := "tierline/tierlinekeep.AnswersMore", spec := "answersMore", named := ["tierline/code.has"], apart := false, laid := [("tierline/code.has", laid_tierline_code_has)], narrowed := true }
def AnswersMoreUptoSaid : Prop := answersMoreUptoRow.holds Tryd.pinned (OpenSpec.upto answersMoreSpec)

/-- 'tierlinekeep.FuelFalls', WHERE WHAT IT READS IS OF BULK AT MOST 1048576: true; the input reads as it did. -/
def fuelFallsUptoRow : OpenClaim := { program := "ytnbopmlemddakaadoor", sum := "453155fdf2269afcb1c63e6b3ff91bd375ad03f9abefe0b7d3f72534db2a4581", func := "tierline/tierlinekeep.FuelFalls", spec := "fuelFalls", named := ["tierline/code.has"], apart := false, laid := [("tierline/code.has", laid_tierline_code_has)], narrowed := true }
def FuelFallsUptoSaid : Prop := fuelFallsUptoRow.holds Tryd.pinned (OpenSpec.upto fuelFallsSpec)

/-- 'tierlinekeep.MemoryStays', WHERE WHAT IT READS IS OF BULK AT MOST 1048576: true; the input reads as it did. -/
def memoryStaysUptoRow : OpenClaim := { program := "ytnbopmlemddakaadoor", sum := "453155fdf2269afcb1c63e6b3ff91bd375ad03f9abefe0b7d3f72534db2a4581", func := "tierline/tierlinekeep.MemoryStays", spec := "memoryStays", named := ["tierline/code.has"], apart := false, laid := [("tierline/code.has", laid_tierline_code_has)], narrowed := true }
def MemoryStaysUptoSaid : Prop := memoryStaysUptoRow.holds Tryd.pinned (OpenSpec.upto memoryStaysSpec)

/-- 'tierlinekeep.StateStays', WHERE WHAT IT READS IS OF BULK AT MOST 1048576: true; the input reads as it did. -/
def stateStaysUptoRow : OpenClaim := { program := "ytnbopmlemddakaadoor", sum := "453155fdf2269afcb1c63e6b3ff91bd375ad03f9abefe0b7d3f72534db2a4581", func := "tierline/tierlinekeep.StateStays", spec := "stateStays", named := ["tierline/code.has"], apart := false, laid := [("tierline/code.has", laid_tierline_code_has)], narrowed := true }
def StateStaysUptoSaid : Prop := stateStaysUptoRow.holds Tryd.pinned (OpenSpec.upto stateStaysSpec)

/-- 'tierlinekeep.CallFrames', WHERE WHAT IT READS IS OF BULK AT MOST 1048576: true; the input reads as it did. -/
def callFramesUptoRow : OpenClaim := { program := "ytnbopmlemddakaadoor", sum := "453155fdf2269afcb1c63e6b3ff91bd375ad03f9abefe0b7d3f72534db2a4581", func := "tierline/tierlinekeep.CallFrames", spec := "callFrames", named := ["tierline/code.has"], apart := false, laid := [("tierline/code.has", laid_tierline_code_has)], narrowed := true }
def CallFramesUptoSaid : Prop := callFramesUptoRow.holds Tryd.pinned (OpenSpec.upto callFramesSpec)

/-- 'tierlinekeep.CountsFlow', WHERE WHAT IT READS IS OF BULK AT MOST 1048576: true; the input reads as it did. -/
def countsFlowUptoRow : OpenClaim := { program := "ytnbopmlemddakaadoor", sum := "453155fdf2269afcb1c63e6b3ff91bd375ad03f9abefe0b7d3f72534db2a4581", func := "tierline/tierlinekeep.CountsFlow", spec := "countsFlow", named := ["tierline/code.has"], apart := false, laid := [("tierline/code.has", laid_tierline_code_has)], narrowed := true }
def CountsFlowUptoSaid : Prop := countsFlowUptoRow.holds Tryd.pinned (OpenSpec.upto countsFlowSpec)

/-- 'tierlinekeep.RunEnds', WHERE WHAT IT READS IS OF BULK AT MOST 1048576: true; the input reads as it did. -/
def runEndsUptoRow : OpenClaim := { program := "ytnbopmlemddakaadoor", sum := "453155fdf2269afcb1c63e6b3ff91bd375ad03f9abefe0b7d3f72534db2a4581", func := "tierline/tierlinekeep.RunEnds", spec := "runEnds", named := ["tierline/code.has"], apart := false, laid := [("tierline/code.has", laid_tierline_code_has)], narrowed := true }
def RunEndsUptoSaid : Prop := runEndsUptoRow.holds Tryd.pinned (OpenSpec.upto runEndsSpec)

/-- 'tierlinekeep.StepPure', WHERE WHAT IT READS IS OF BULK AT MOST 1048576: true; the input reads as it did. -/
def stepPureUptoRow : OpenClaim := { program := "ytnbopmlemddakaadoor", sum := "453155fdf2269afcb1c63e6b3ff91bd375ad03f9abefe0b7d3f72534db2a4581", func := "tierline/tierlinekeep.StepPure", spec := "stepPure", named := ["tierline/code.has"], apart := false, laid := [("tierline/code.has", laid_tierline_code_has)], narrowed := true }
def StepPureUptoSaid : Prop := stepPureUptoRow.holds Tryd.pinned (OpenSpec.upto stepPureSpec)

/-- 'tierlinekeep.HotMost', WHERE WHAT IT READS IS OF BULK AT MOST 1048576: true; the input reads as it did. -/
def hotMostUptoRow : OpenClaim := { program := "ytnbopmlemddakaadoor", sum := "453155fdf2269afcb1c63e6b3ff91bd375ad03f9abefe0b7d3f72534db2a4581", func := "tierline/tierlinekeep.HotMost", spec := "hotMost", named := ["tierline/code.has"], apart := false, laid := [("tierline/code.has", laid_tierline_code_has)], narrowed := true }
def HotMostUptoSaid : Prop := hotMostUptoRow.holds Tryd.pinned (OpenSpec.upto hotMostSpec)

/-- 'tierlinekeep.CountsSum', WHERE WHAT IT READS IS OF BULK AT MOST 1048576: true; the input reads as it did. -/
def countsSumUptoRow : OpenClaim := { program := "ytnbopmlemddakaadoor", sum := "453155fdf2269afcb1c63e6b3ff91bd375ad03f9abefe0b7d3f72534db2a4581", func := "tierline/tierlinekeep.CountsSum", spec := "countsSum", named := ["tierline/code.has"], apart := false, laid := [("tierline/code.has", laid_tierline_code_has)], narrowed := true }
def CountsSumUptoSaid : Prop := countsSumUptoRow.holds Tryd.pinned (OpenSpec.upto countsSumSpec)

/-- 'tierlinekeep.TrimRuns', WHERE WHAT IT READS IS OF BULK AT MOST 1048576: true; the input reads as it did. -/
def trimRunsUptoRow : OpenClaim := { program := "ytnbopmlemddakaadoor", sum := "453155fdf2269afcb1c63e6b3ff91bd375ad03f9abefe0b7d3f72534db2a4581", func := "tierline/tierlinekeep.TrimRuns", spec := "trimRuns", named := ["tierline/code.has"], apart := false, laid := [("tierline/code.has", laid_tierline_code_has)], narrowed := true }
def TrimRunsUptoSaid : Prop := trimRunsUptoRow.holds Tryd.pinned (OpenSpec.upto trimRunsSpec)

end Rows
end Go.Proofs.YtnbopmlemddakaaDoor
