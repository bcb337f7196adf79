/-
  NARROWER THAN 'FOR EVERY INPUT', by the rows' own cells (each row's printed sentence says how): CodeBack: laid · CodeFixed: laid · CodeTorn: laid · TopTidy: laid · TopNames: laid · LiveSure: laid · BlocksCover: laid · BlocksMeet: laid · BlocksEnd: laid · AboveChain: laid · LiveBack: laid · LoopsHeads: laid · LoopsNone: laid · LiveDead: laid · EnterLeave: laid · RunWays: laid · FarWalks: laid · EmitParts: laid.
  DERIVED. THE GIVEN ROWS OF THIS SEAT. 18 by the template 'for every input the law returns true; each argument reads behind the call as it read before'; 0 by the template 'total and deterministic' (their statements: YtefbdecejoeamaaDoorTotals.lean).
  GIVEN WITH THE SEED: the statements are not yours to turn. If you find one false, say at which input.
  Laid BY PROGRAM, IN A SANDBOX (cutbox-rows.mjs): the forced cells as the released guide's own fill.sh prints them over the translation c56c1cb6a9a0128a… (all of the seat's roots in one cut). By AI agents, Wed Nov 11 2026. No macro, syntax, notation, axiom, sorry.
-/
import Derived.Test.YtefbdecejoeamaaDoorChecked
import GoSem.Claim
import GoSem.ClaimJoined
import GoSem.ClaimMapViews
import Derived.JoinedTies
import Derived.KernelRfl
namespace Go.Proofs.YtefbdecejoeamaaDoor
/- THE CELL 'sum', in the pinned program and in every row, IS THE sha256 OF THE DUMP (.gsa) THAT YtefbdecejoeamaaDoorProg.lean LOADS. Nothing in Lean hashes anything: it is a label: what it is worth is what the hold of that sum in a sandbox is worth. -/
noncomputable def Tryd.pinned : Pinned := { name := "ytefbdecejoeamaadoor", sum := "c56c1cb6a9a0128a0213c9277dee33475f2ad2ed14eff0d9171cf6cf25c98459", checked := Tryd.checked }
namespace Rows
def none {H : Type} : Left H := { results := [], args := [] }

/- WHAT THE LISTED PACKAGE-LEVEL VARIABLES READ AS WHEN THE CALL BEGINS. Each datum BY PROGRAM (the guide's laid-datum.mjs) off the statement by which the dump's own 'gosem.cut.vars' lays the variable. In a bare row this is a premise. The card (YtefbdecejoeamaaDoorCards.lean) ties it to the program's text. -/
def laid_tierline_code_has {H : Type} : DataW H := .agg [.lit (.int .i64 0), .lit (.int .i64 9), .lit (.int .i64 7), .lit (.int .i64 7), .lit (.int .i64 7), .lit (.int .i64 7), .lit (.int .i64 7), .lit (.int .i64 7), .lit (.int .i64 7), .lit (.int .i64 7), .lit (.int .i64 7), .lit (.int .i64 7), .lit (.int .i64 7), .lit (.int .i64 3), .lit (.int .i64 6), .lit (.int .i64 16), .lit (.int .i64 18), .lit (.int .i64 39), .lit (.int .i64 3), .lit (.int .i64 2)]

/-- 'tierlinekeep.CodeBack': WHATEVER THE INPUT: true; the input reads as it did. -/
def codeBackSpec : ChangeSpec := { name := "codeBack", fn := fun _ => fun
  | [d] => { results := [.lit (.bool true)], args := [d] }
  | _ => none }
def codeBackRow : OpenClaim := { program := "ytefbdecejoeamaadoor", sum := "c56c1cb6a9a0128a0213c9277dee33475f2ad2ed14eff0d9171cf6cf25c98459", func := "tierline/tierlinekeep.CodeBack", spec := "codeBack", unfollowed := true, recurses := true, named := ["tierline/code.has"], apart := false, laid := [("tierline/code.has", laid_tierline_code_has)] }
def CodeBackSaid : Prop := codeBackRow.holds Tryd.pinned (OpenSpec.ofChange codeBackSpec)

/-- ITS FALSE NEIGHBOUR: 'it returns false'. Refute it at one input. -/
def codeBackWrong : ChangeSpec := { name := "codeBack", fn := fun _ => fun
  | [d] => { results := [.lit (.bool false)], args := [d] }
  | _ => none }
def CodeBackWrongFalsely : Prop := codeBackRow.holds Tryd.pinned (OpenSpec.ofChange codeBackWrong)

/-- 'tierlinekeep.CodeFixed': WHATEVER THE INPUT: true; the input reads as it did. -/
def codeFixedSpec : ChangeSpec := { name := "codeFixed", fn := fun _ => fun
  | [d] => { results := [.lit (.bool true)], args := [d] }
  | _ => none }
def codeFixedRow : OpenClaim := { program := "ytefbdecejoeamaadoor", sum := "c56c1cb6a9a0128a0213c9277dee33475f2ad2ed14eff0d9171cf6cf25c98459", func := "tierline/tierlinekeep.CodeFixed", spec := "codeFixed", unfollowed := true, recurses := true, named := ["tierline/code.has"], apart := false, laid := [("tierline/code.has", laid_tierline_code_has)] }
def CodeFixedSaid : Prop := codeFixedRow.holds Tryd.pinned (OpenSpec.ofChange codeFixedSpec)

/-- ITS FALSE NEIGHBOUR: 'it returns false'. Refute it at one input. -/
def codeFixedWrong : ChangeSpec := { name := "codeFixed", fn := fun _ => fun
  | [d] => { results := [.lit (.bool false)], args := [d] }
  | _ => none }
def CodeFixedWrongFalsely : Prop := codeFixedRow.holds Tryd.pinned (OpenSpec.ofChange codeFixedWrong)

/-- 'tierlinekeep.CodeTorn': WHATEVER THE INPUT: true; the input reads as it did. -/
def codeTornSpec : ChangeSpec := { name := "codeTorn", fn := fun _ => fun
  | [d1, d2, d3] => { results := [.lit (.bool true)], args := [d1, d2, d3] }
  | _ => none }
def codeTornRow : OpenClaim := { program := "ytefbdecejoeamaadoor", sum := "c56c1cb6a9a0128a0213c9277dee33475f2ad2ed14eff0d9171cf6cf25c98459", func := "tierline/tierlinekeep.CodeTorn", spec := "codeTorn", unfollowed := true, recurses := true, named := ["tierline/code.has"], apart := false, laid := [("tierline/code.has", laid_tierline_code_has)] }
def CodeTornSaid : Prop := codeTornRow.holds Tryd.pinned (OpenSpec.ofChange codeTornSpec)

/-- ITS FALSE NEIGHBOUR: 'it returns false'. Refute it at one input. -/
def codeTornWrong : ChangeSpec := { name := "codeTorn", fn := fun _ => fun
  | [d1, d2, d3] => { results := [.lit (.bool false)], args := [d1, d2, d3] }
  | _ => none }
def CodeTornWrongFalsely : Prop := codeTornRow.holds Tryd.pinned (OpenSpec.ofChange codeTornWrong)

/-- 'tierlinetop.TopTidy': WHATEVER THE INPUT: true; the input reads as it did. -/
def topTidySpec : ChangeSpec := { name := "topTidy", fn := fun _ => fun
  | [d1, d2, d3] => { results := [.lit (.bool true)], args := [d1, d2, d3] }
  | _ => none }
def topTidyRow : OpenClaim := { program := "ytefbdecejoeamaadoor", sum := "c56c1cb6a9a0128a0213c9277dee33475f2ad2ed14eff0d9171cf6cf25c98459", func := "tierline/tierlinetop.TopTidy", spec := "topTidy", recurses := true, named := ["tierline/code.has"], apart := false, laid := [("tierline/code.has", laid_tierline_code_has)] }
def TopTidySaid : Prop := topTidyRow.holds Tryd.pinned (OpenSpec.ofChange topTidySpec)

/-- ITS FALSE NEIGHBOUR: 'it returns false'. Refute it at one input. -/
def topTidyWrong : ChangeSpec := { name := "topTidy", fn := fun _ => fun
  | [d1, d2, d3] => { results := [.lit (.bool false)], args := [d1, d2, d3] }
  | _ => none }
def TopTidyWrongFalsely : Prop := topTidyRow.holds Tryd.pinned (OpenSpec.ofChange topTidyWrong)

/-- 'tierlinetop.TopNames': WHATEVER THE INPUT: true; the input reads as it did. -/
def topNamesSpec : ChangeSpec := { name := "topNames", fn := fun _ => fun
  | [d1, d2, d3, d4] => { results := [.lit (.bool true)], args := [d1, d2, d3, d4] }
  | _ => none }
def topNamesRow : OpenClaim := { program := "ytefbdecejoeamaadoor", sum := "c56c1cb6a9a0128a0213c9277dee33475f2ad2ed14eff0d9171cf6cf25c98459", func := "tierline/tierlinetop.TopNames", spec := "topNames", unfollowed := true, recurses := true, named := ["tierline/code.has"], apart := false, laid := [("tierline/code.has", laid_tierline_code_has)] }
def TopNamesSaid : Prop := topNamesRow.holds Tryd.pinned (OpenSpec.ofChange topNamesSpec)

/-- ITS FALSE NEIGHBOUR: 'it returns false'. Refute it at one input. -/
def topNamesWrong : ChangeSpec := { name := "topNames", fn := fun _ => fun
  | [d1, d2, d3, d4] => { results := [.lit (.bool false)], args := [d1, d2, d3, d4] }
  | _ => none }
def TopNamesWrongFalsely : Prop := topNamesRow.holds Tryd.pinned (OpenSpec.ofChange topNamesWrong)

/-- 'tierlinekeep.LiveSure': WHATEVER THE INPUT: true; the input reads as it did. -/
def liveSureSpec : ChangeSpec := { name := "liveSure", fn := fun _ => fun
  | [d1, d2] => { results := [.lit (.bool true)], args := [d1, d2] }
  | _ => none }
def liveSureRow : OpenClaim := { program := "ytefbdecejoeamaadoor", sum := "c56c1cb6a9a0128a0213c9277dee33475f2ad2ed14eff0d9171cf6cf25c98459", func := "tierline/tierlinekeep.LiveSure", spec := "liveSure", recurses := true, named := ["tierline/code.has"], apart := false, laid := [("tierline/code.has", laid_tierline_code_has)] }
def LiveSureSaid : Prop := liveSureRow.holds Tryd.pinned (OpenSpec.ofChange liveSureSpec)

/-- ITS FALSE NEIGHBOUR: 'it returns false'. Refute it at one input. -/
def liveSureWrong : ChangeSpec := { name := "liveSure", fn := fun _ => fun
  | [d1, d2] => { results := [.lit (.bool false)], args := [d1, d2] }
  | _ => none }
def LiveSureWrongFalsely : Prop := liveSureRow.holds Tryd.pinned (OpenSpec.ofChange liveSureWrong)

/-- 'tierlinekeep.BlocksCover': WHATEVER THE INPUT: true; the input reads as it did. -/
def blocksCoverSpec : ChangeSpec := { name := "blocksCover", fn := fun _ => fun
  | [d1, d2] => { results := [.lit (.bool true)], args := [d1, d2] }
  | _ => none }
def blocksCoverRow : OpenClaim := { program := "ytefbdecejoeamaadoor", sum := "c56c1cb6a9a0128a0213c9277dee33475f2ad2ed14eff0d9171cf6cf25c98459", func := "tierline/tierlinekeep.BlocksCover", spec := "blocksCover", recurses := true, named := ["tierline/code.has"], apart := false, laid := [("tierline/code.has", laid_tierline_code_has)] }
def BlocksCoverSaid : Prop := blocksCoverRow.holds Tryd.pinned (OpenSpec.ofChange blocksCoverSpec)

/-- ITS FALSE NEIGHBOUR: 'it returns false'. Refute it at one input. -/
def blocksCoverWrong : ChangeSpec := { name := "blocksCover", fn := fun _ => fun
  | [d1, d2] => { results := [.lit (.bool false)], args := [d1, d2] }
  | _ => none }
def BlocksCoverWrongFalsely : Prop := blocksCoverRow.holds Tryd.pinned (OpenSpec.ofChange blocksCoverWrong)

/-- 'tierlinekeep.BlocksMeet': WHATEVER THE INPUT: true; the input reads as it did. -/
def blocksMeetSpec : ChangeSpec := { name := "blocksMeet", fn := fun _ => fun
  | [d1, d2] => { results := [.lit (.bool true)], args := [d1, d2] }
  | _ => none }
def blocksMeetRow : OpenClaim := { program := "ytefbdecejoeamaadoor", sum := "c56c1cb6a9a0128a0213c9277dee33475f2ad2ed14eff0d9171cf6cf25c98459", func := "tierline/tierlinekeep.BlocksMeet", spec := "blocksMeet", recurses := true, named := ["tierline/code.has"], apart := false, laid := [("tierline/code.has", laid_tierline_code_has)] }
def BlocksMeetSaid : Prop := blocksMeetRow.holds Tryd.pinned (OpenSpec.ofChange blocksMeetSpec)

/-- ITS FALSE NEIGHBOUR: 'it returns false'. Refute it at one input. -/
def blocksMeetWrong : ChangeSpec := { name := "blocksMeet", fn := fun _ => fun
  | [d1, d2] => { results := [.lit (.bool false)], args := [d1, d2] }
  | _ => none }
def BlocksMeetWrongFalsely : Prop := blocksMeetRow.holds Tryd.pinned (OpenSpec.ofChange blocksMeetWrong)

/-- 'tierlinekeep.BlocksEnd': WHATEVER THE INPUT: true; the input reads as it did. -/
def blocksEndSpec : ChangeSpec := { name := "blocksEnd", fn := fun _ => fun
  | [d1, d2] => { results := [.lit (.bool true)], args := [d1, d2] }
  | _ => none }
def blocksEndRow : OpenClaim := { program := "ytefbdecejoeamaadoor", sum := "c56c1cb6a9a0128a0213c9277dee33475f2ad2ed14eff0d9171cf6cf25c98459", func := "tierline/tierlinekeep.BlocksEnd", spec := "blocksEnd", recurses := true, named := ["tierline/code.has"], apart := false, laid := [("tierline/code.has", laid_tierline_code_has)] }
def BlocksEndSaid : Prop := blocksEndRow.holds Tryd.pinned (OpenSpec.ofChange blocksEndSpec)

/-- ITS FALSE NEIGHBOUR: 'it returns false'. Refute it at one input. -/
def blocksEndWrong : ChangeSpec := { name := "blocksEnd", fn := fun _ => fun
  | [d1, d2] => { results := [.lit (.bool false)], args := [d1, d2] }
  | _ => none }
def BlocksEndWrongFalsely : Prop := blocksEndRow.holds Tryd.pinned (OpenSpec.ofChange blocksEndWrong)

/-- 'tierlinekeep.AboveChain': WHATEVER THE INPUT: true; the input reads as it did. -/
def aboveChainSpec : ChangeSpec := { name := "aboveChain", fn := fun _ => fun
  | [d1, d2] => { results := [.lit (.bool true)], args := [d1, d2] }
  | _ => none }
def aboveChainRow : OpenClaim := { program := "ytefbdecejoeamaadoor", sum := "c56c1cb6a9a0128a0213c9277dee33475f2ad2ed14eff0d9171cf6cf25c98459", func := "tierline/tierlinekeep.AboveChain", spec := "aboveChain", recurses := true, named := ["tierline/code.has"], apart := false, laid := [("tierline/code.has", laid_tierline_code_has)] }
def AboveChainSaid : Prop := aboveChainRow.holds Tryd.pinned (OpenSpec.ofChange aboveChainSpec)

/-- ITS FALSE NEIGHBOUR: 'it returns false'. Refute it at one input. -/
def aboveChainWrong : ChangeSpec := { name := "aboveChain", fn := fun _ => fun
  | [d1, d2] => { results := [.lit (.bool false)], args := [d1, d2] }
  | _ => none }
def AboveChainWrongFalsely : Prop := aboveChainRow.holds Tryd.pinned (OpenSpec.ofChange aboveChainWrong)

/-- 'tierlinekeep.LiveBack': WHATEVER THE INPUT: true; the input reads as it did. -/
def liveBackSpec : ChangeSpec := { name := "liveBack", fn := fun _ => fun
  | [d1, d2] => { results := [.lit (.bool true)], args := [d1, d2] }
  | _ => none }
def liveBackRow : OpenClaim := { program := "ytefbdecejoeamaadoor", sum := "c56c1cb6a9a0128a0213c9277dee33475f2ad2ed14eff0d9171cf6cf25c98459", func := "tierline/tierlinekeep.LiveBack", spec := "liveBack", recurses := true, named := ["tierline/code.has"], apart := false, laid := [("tierline/code.has", laid_tierline_code_has)] }
def LiveBackSaid : Prop := liveBackRow.holds Tryd.pinned (OpenSpec.ofChange liveBackSpec)

/-- ITS FALSE NEIGHBOUR: 'it returns false'. Refute it at one input. -/
def liveBackWrong : ChangeSpec := { name := "liveBack", fn := fun _ => fun
  | [d1, d2] => { results := [.lit (.bool false)], args := [d1, d2] }
  | _ => none }
def LiveBackWrongFalsely : Prop := liveBackRow.holds Tryd.pinned (OpenSpec.ofChange liveBackWrong)

/-- 'tierlinekeep.LoopsHeads': WHATEVER THE INPUT: true; the input reads as it did. -/
def loopsHeadsSpec : ChangeSpec := { name := "loopsHeads", fn := fun _ => fun
  | [d1, d2] => { results := [.lit (.bool true)], args := [d1, d2] }
  | _ => none }
def loopsHeadsRow : OpenClaim := { program := "ytefbdecejoeamaadoor", sum := "c56c1cb6a9a0128a0213c9277dee33475f2ad2ed14eff0d9171cf6cf25c98459", func := "tierline/tierlinekeep.LoopsHeads", spec := "loopsHeads", unfollowed := true, recurses := true, named := ["tierline/code.has"], apart := false, laid := [("tierline/code.has", laid_tierline_code_has)] }
def LoopsHeadsSaid : Prop := loopsHeadsRow.holds Tryd.pinned (OpenSpec.ofChange loopsHeadsSpec)

/-- ITS FALSE NEIGHBOUR: 'it returns false'. Refute it at one input. -/
def loopsHeadsWrong : ChangeSpec := { name := "loopsHeads", fn := fun _ => fun
  | [d1, d2] => { results := [.lit (.bool false)], args := [d1, d2] }
  | _ => none }
def LoopsHeadsWrongFalsely : Prop := loopsHeadsRow.holds Tryd.pinned (OpenSpec.ofChange loopsHeadsWrong)

/-- 'tierlinekeep.LoopsNone': WHATEVER THE INPUT: true; the input reads as it did. -/
def loopsNoneSpec : ChangeSpec := { name := "loopsNone", fn := fun _ => fun
  | [d1, d2] => { results := [.lit (.bool true)], args := [d1, d2] }
  | _ => none }
def loopsNoneRow : OpenClaim := { program := "ytefbdecejoeamaadoor", sum := "c56c1cb6a9a0128a0213c9277dee33475f2ad2ed14eff0d9171cf6cf25c98459", func := "tierline/tierlinekeep.LoopsNone", spec := "loopsNone", unfollowed := true, recurses := true, named := ["tierline/code.has"], apart := false, laid := [("tierline/code.has", laid_tierline_code_has)] }
def LoopsNoneSaid : Prop := loopsNoneRow.holds Tryd.pinned (OpenSpec.ofChange loopsNoneSpec)

/-- ITS FALSE NEIGHBOUR: 'it returns false'. Refute it at one input. -/
def loopsNoneWrong : ChangeSpec := { name := "loopsNone", fn := fun _ => fun
  | [d1, d2] => { results := [.lit (.bool false)], args := [d1, d2] }
  | _ => none }
def LoopsNoneWrongFalsely : Prop := loopsNoneRow.holds Tryd.pinned (OpenSpec.ofChange loopsNoneWrong)

/-- 'tierlinekeep.LiveDead': WHATEVER THE INPUT: true; the input reads as it did. -/
def liveDeadSpec : ChangeSpec := { name := "liveDead", fn := fun _ => fun
  | [d1, d2, d3, d4] => { results := [.lit (.bool true)], args := [d1, d2, d3, d4] }
  | _ => none }
def liveDeadRow : OpenClaim := { program := "ytefbdecejoeamaadoor", sum := "c56c1cb6a9a0128a0213c9277dee33475f2ad2ed14eff0d9171cf6cf25c98459", func := "tierline/tierlinekeep.LiveDead", spec := "liveDead", recurses := true, named := ["tierline/code.has"], apart := false, laid := [("tierline/code.has", laid_tierline_code_has)] }
def LiveDeadSaid : Prop := liveDeadRow.holds Tryd.pinned (OpenSpec.ofChange liveDeadSpec)

/-- ITS FALSE NEIGHBOUR: 'it returns false'. Refute it at one input. -/
def liveDeadWrong : ChangeSpec := { name := "liveDead", fn := fun _ => fun
  | [d1, d2, d3, d4] => { results := [.lit (.bool false)], args := [d1, d2, d3, d4] }
  | _ => none }
def LiveDeadWrongFalsely : Prop := liveDeadRow.holds Tryd.pinned (OpenSpec.ofChange liveDeadWrong)

/-- 'tierlinekeep.EnterLeave': WHATEVER THE INPUT: true; the input reads as it did. -/
def enterLeaveSpec : ChangeSpec := { name := "enterLeave", fn := fun _ => fun
  | [d1, d2, d3] => { results := [.lit (.bool true)], args := [d1, d2, d3] }
  | _ => none }
def enterLeaveRow : OpenClaim := { program := "ytefbdecejoeamaadoor", sum := "c56c1cb6a9a0128a0213c9277dee33475f2ad2ed14eff0d9171cf6cf25c98459", func := "tierline/tierlinekeep.EnterLeave", spec := "enterLeave", recurses := true, named := ["tierline/code.has"], apart := false, laid := [("tierline/code.has", laid_tierline_code_has)] }
def EnterLeaveSaid : Prop := enterLeaveRow.holds Tryd.pinned (OpenSpec.ofChange enterLeaveSpec)

/-- ITS FALSE NEIGHBOUR: 'it returns false'. Refute it at one input. -/
def enterLeaveWrong : ChangeSpec := { name := "enterLeave", fn := fun _ => fun
  | [d1, d2, d3] => { results := [.lit (.bool false)], args := [d1, d2, d3] }
  | _ => none }
def EnterLeaveWrongFalsely : Prop := enterLeaveRow.holds Tryd.pinned (OpenSpec.ofChange enterLeaveWrong)

/-- 'tierlinekeep.RunWays': WHATEVER THE INPUT: true; the input reads as it did. -/
def runWaysSpec : ChangeSpec := { name := "runWays", fn := fun _ => fun
  | [d1, d2] => { results := [.lit (.bool true)], args := [d1, d2] }
  | _ => none }
def runWaysRow : OpenClaim := { program := "ytefbdecejoeamaadoor", sum := "c56c1cb6a9a0128a0213c9277dee33475f2ad2ed14eff0d9171cf6cf25c98459", func := "tierline/tierlinekeep.RunWays", spec := "runWays", recurses := true, named := ["tierline/code.has"], apart := false, laid := [("tierline/code.has", laid_tierline_code_has)] }
def RunWaysSaid : Prop := runWaysRow.holds Tryd.pinned (OpenSpec.ofChange runWaysSpec)

/-- ITS FALSE NEIGHBOUR: 'it returns false'. Refute it at one input. -/
def runWaysWrong : ChangeSpec := { name := "runWays", fn := fun _ => fun
  | [d1, d2] => { results := [.lit (.bool false)], args := [d1, d2] }
  | _ => none }
def RunWaysWrongFalsely : Prop := runWaysRow.holds Tryd.pinned (OpenSpec.ofChange runWaysWrong)

/-- 'tierlinekeep.FarWalks': WHATEVER THE INPUT: true; the input reads as it did. -/
def farWalksSpec : ChangeSpec := { name := "farWalks", fn := fun _ => fun
  | [d1, d2, d3] => { results := [.lit (.bool true)], args := [d1, d2, d3] }
  | _ => none }
def farWalksRow : OpenClaim := { program := "ytefbdecejoeamaadoor", sum := "c56c1cb6a9a0128a0213c9277dee33475f2ad2ed14eff0d9171cf6cf25c98459", func := "tierline/tierlinekeep.FarWalks", spec := "farWalks", unfollowed := true, recurses := true, named := ["tierline/code.has"], apart := false, laid := [("tierline/code.has", laid_tierline_code_has)] }
def FarWalksSaid : Prop := farWalksRow.holds Tryd.pinned (OpenSpec.ofChange farWalksSpec)

/-- ITS FALSE NEIGHBOUR: 'it returns false'. Refute it at one input. -/
def farWalksWrong : ChangeSpec := { name := "farWalks", fn := fun _ => fun
  | [d1, d2, d3] => { results := [.lit (.bool false)], args := [d1, d2, d3] }
  | _ => none }
def FarWalksWrongFalsely : Prop := farWalksRow.holds Tryd.pinned (OpenSpec.ofChange farWalksWrong)

/-- 'tierlinekeep.EmitParts': WHATEVER THE INPUT: true; the input reads as it did. -/
def emitPartsSpec : ChangeSpec := { name := "emitParts", fn := fun _ => fun
  | [d1, d2, d3, d4] => { results := [.lit (.bool true)], args := [d1, d2, d3, d4] }
  | _ => none }
def emitPartsRow : OpenClaim := { program := "ytefbdecejoeamaadoor", sum := "c56c1cb6a9a0128a0213c9277dee33475f2ad2ed14eff0d9171cf6cf25c98459", func := "tierline/tierlinekeep.EmitParts", spec := "emitParts", unfollowed := true, recurses := true, named := ["tierline/code.has"], apart := false, laid := [("tierline/code.has", laid_tierline_code_has)] }
def EmitPartsSaid : Prop := emitPartsRow.holds Tryd.pinned (OpenSpec.ofChange emitPartsSpec)

/-- ITS FALSE NEIGHBOUR: 'it returns false'. Refute it at one input. -/
def emitPartsWrong : ChangeSpec := { name := "emitParts", fn := fun _ => fun
  | [d1, d2, d3, d4] => { results := [.lit (.bool false)], args := [d1, d2, d3, d4] }
  | _ => none }
def EmitPartsWrongFalsely : Prop := emitPartsRow.holds Tryd.pinned (OpenSpec.ofChange emitPartsWrong)

/- THE SECOND FORM. 'bulk': how many values and letters a reading holds, each counted each time it is reached (what is shared counts as often as it is met; a slice's spare places count too). A statement '..UptoSaid' is the law's where the arguments, and the package variables that the reading takes, are together of bulk at most 1048576: NARROWER than '..Said'. Prove '..Said' where nothing that the law and all that it calls make is longer than what came in: it says more and counts as full. Else prove '..UptoSaid'. A law counts once. -/
mutual
def uptoBulk {H : Type} : DataW H → Nat
  | .lit (.string bytes) => bytes.length + 1
  | .lit _ => 1
  | .nil => 1
  | .ptr d => uptoBulk d + 1
  | .slice elems spare => uptoBulkAll elems + uptoBulkAll spare + 1
  | .agg parts => uptoBulkAll parts + 1
  | .iface _ d => uptoBulk d + 1
  | .map entries => uptoBulkEntries entries + 1
  | .held _ => 1
def uptoBulkAll {H : Type} : List (DataW H) → Nat
  | [] => 0
  | d :: r => uptoBulk d + uptoBulkAll r
def uptoBulkEntries {H : Type} : List (Lit × DataW H) → Nat
  | [] => 0
  | x :: r => uptoBulkEntry x + uptoBulkEntries r
def uptoBulkEntry {H : Type} : Lit × DataW H → Nat
  | (.string bytes, d) => bytes.length + uptoBulk d + 1
  | (_, d) => uptoBulk d + 1
 end
def uptoSmall : (H : Type) → List (DataW H) → Bool := fun _ ds => decide (uptoBulkAll ds ≤ 1048576)
def OpenSpec.upto (s : _root_.Go.ChangeSpec) : _root_.Go.OpenSpec := { _root_.Go.OpenSpec.ofChange s with cond := some uptoSmall }

/-- 'tierlinekeep.CodeBack', WHERE WHAT IT READS IS OF BULK AT MOST 1048576: true; the input reads as it did. -/
def codeBackUptoRow : OpenClaim := { program := "ytefbdecejoeamaadoor", sum := "c56c1cb6a9a0128a0213c9277dee33475f2ad2ed14eff0d9171cf6cf25c98459", func := "tierline/tierlinekeep.CodeBack", spec := "codeBack", unfollowed := true, recurses := true, named := ["tierline/code.has"], apart := false, laid := [("tierline/code.has", laid_tierline_code_has)], narrowed := true }
def CodeBackUptoSaid : Prop := codeBackUptoRow.holds Tryd.pinned (OpenSpec.upto codeBackSpec)

/-- 'tierlinekeep.CodeFixed', WHERE WHAT IT READS IS OF BULK AT MOST 1048576: true; the input reads as it did. -/
def codeFixedUptoRow : OpenClaim := { program := "ytefbdecejoeamaadoor", sum := "c56c1cb6a9a0128a0213c9277dee33475f2ad2ed14eff0d9171cf6cf25c98459", func := "tierline/tierlinekeep.CodeFixed", spec := "codeFixed", unfollowed := true, recurses := true, named := ["tierline/code.has"], apart := false, laid := [("tierline/code.has", laid_tierline_code_has)], narrowed := true }
def CodeFixedUptoSaid : Prop := codeFixedUptoRow.holds Tryd.pinned (OpenSpec.upto codeFixedSpec)

/-- 'tierlinekeep.CodeTorn', WHERE WHAT IT READS IS OF BULK AT MOST 1048576: true; the input reads as it did. -/
def codeTornUptoRow : OpenClaim := { program := "ytefbdecejoeamaadoor", sum := "c56c1cb6a9a0128a0213c9277dee33475f2ad2ed14eff0d9171cf6cf25c98459", func := "tierline/tierlinekeep.CodeTorn", spec := "codeTorn", unfollowed := true, recurses := true, named := ["tierline/code.has"], apart := false, laid := [("tierline/code.has", laid_tierline_code_has)], narrowed := true }
def CodeTornUptoSaid : Prop := codeTornUptoRow.holds Tryd.pinned (OpenSpec.upto codeTornSpec)

/-- 'tierlinetop.TopTidy', WHERE WHAT IT READS IS OF BULK AT MOST 1048576: true; the input reads as it did. -/
def topTidyUptoRow : OpenClaim := { program := "ytefbdecejoeamaadoor", sum := "c56c1cb6a9a0128a0213c9277dee33475f2ad2ed14eff0d9171cf6cf25c98459", func := "tierline/tierlinetop.TopTidy", spec := "topTidy", recurses := true, named := ["tierline/code.has"], apart := false, laid := [("tierline/code.has", laid_tierline_code_has)], narrowed := true }
def TopTidyUptoSaid : Prop := topTidyUptoRow.holds Tryd.pinned (OpenSpec.upto topTidySpec)

/-- 'tierlinetop.TopNames', WHERE WHAT IT READS IS OF BULK AT MOST 1048576: true; the input reads as it did. -/
def topNamesUptoRow : OpenClaim := { program := "ytefbdecejoeamaadoor", sum := "c56c1cb6a9a0128a0213c9277dee33475f2ad2ed14eff0d9171cf6cf25c98459", func := "tierline/tierlinetop.TopNames", spec := "topNames", unfollowed := true, recurses := true, named := ["tierline/code.has"], apart := false, laid := [("tierline/code.has", laid_tierline_code_has)], narrowed := true }
def TopNamesUptoSaid : Prop := topNamesUptoRow.holds Tryd.pinned (OpenSpec.upto topNamesSpec)

/-- 'tierlinekeep.LiveSure', WHERE WHAT IT READS IS OF BULK AT MOST 1048576: true; the input reads as it did. -/
def liveSureUptoRow : OpenClaim := { program := "ytefbdecejoeamaadoor", sum := "c56c1cb6a9a0128a0213c9277dee33475f2ad2ed14eff0d9171cf6cf25c98459", func := "tierline/tierlinekeep.LiveSure", spec := "liveSure", recurses := true, named := ["tierline/code.has"], apart := false, laid := [("tierline/code.has", laid_tierline_code_has)], narrowed := true }
def LiveSureUptoSaid : Prop := liveSureUptoRow.holds Tryd.pinned (OpenSpec.upto liveSureSpec)

/-- 'tierlinekeep.BlocksCover', WHERE WHAT IT READS IS OF BULK AT MOST 1048576: true; the input reads as it did. -/
def blocksCoverUptoRow : OpenClaim := { program := "ytefbdecejoeamaadoor", sum := "c56c1cb6a9a0128a0213c9277dee33475f2ad2ed14eff0d9171cf6cf25c98459", func := "tierline/tierlinekeep.BlocksCover", spec := "blocksCover", recurses := true, named := ["tierline/code.has"], apart := false, laid := [("tierline/code.has", laid_tierline_code_has)], narrowed := true }
def BlocksCoverUptoSaid : Prop := blocksCoverUptoRow.holds Tryd.pinned (OpenSpec.upto blocksCoverSpec)

/-- 'tierlinekeep.BlocksMeet', WHERE WHAT IT READS IS OF BULK AT MOST 1048576: true; the input reads as it did. -/
def blocksMeetUptoRow : OpenClaim := { program := "ytefbdecejoeamaadoor", sum := "c56c1cb6a9a0128a0213c9277dee33475f2ad2ed14eff0d9171cf6cf25c98459", func := "tierline/tierlinekeep.BlocksMeet", spec := "blocksMeet", recurses := true, named := ["tierline/code.has"], apart := false, laid := [("tierline/code.has", laid_tierline_code_has)], narrowed := true }
def BlocksMeetUptoSaid : Prop := blocksMeetUptoRow.holds Tryd.pinned (OpenSpec.upto blocksMeetSpec)

/-- 'tierlinekeep.BlocksEnd', WHERE WHAT IT READS IS OF BULK AT MOST 1048576: true; the input reads as it did. -/
def blocksEndUptoRow : OpenClaim := { program := "ytefbdecejoeamaadoor", sum := "c56c1cb6a9a0128a0213c9277dee33475f2ad2ed14eff0d9171cf6cf25c98459", func := "tierline/tierlinekeep.BlocksEnd", spec := "blocksEnd", recurses := true, named := ["tierline/code.has"], apart := false, laid := [("tierline/code.has", laid_tierline_code_has)], narrowed := true }
def BlocksEndUptoSaid : Prop := blocksEndUptoRow.holds Tryd.pinned (OpenSpec.upto blocksEndSpec)

/-- 'tierlinekeep.AboveChain', WHERE WHAT IT READS IS OF BULK AT MOST 1048576: true; the input reads as it did. -/
def aboveChainUptoRow : OpenClaim := { program := "ytefbdecejoeamaadoor", sum := "c56c1cb6a9a0128a0213c9277dee33475f2ad2ed14eff0d9171cf6cf25c98459", func := "tierline/tierlinekeep.AboveChain", spec := "aboveChain", recurses := true, named := ["tierline/code.has"], apart := false, laid := [("tierline/code.has", laid_tierline_code_has)], narrowed := true }
def AboveChainUptoSaid : Prop := aboveChainUptoRow.holds Tryd.pinned (OpenSpec.upto aboveChainSpec)

/-- 'tierlinekeep.LiveBack', WHERE WHAT IT READS IS OF BULK AT MOST 1048576: true; the input reads as it did. -/
def liveBackUptoRow : OpenClaim := { program := "ytefbdecejoeamaadoor", sum := "c56c1cb6a9a0128a0213c9277dee33475f2ad2ed14eff0d9171cf6cf25c98459", func := "tierline/tierlinekeep.LiveBack", spec := "liveBack", recurses := true, named := ["tierline/code.has"], apart := false, laid := [("tierline/code.has", laid_tierline_code_has)], narrowed := true }
def LiveBackUptoSaid : Prop := liveBackUptoRow.holds Tryd.pinned (OpenSpec.upto liveBackSpec)

/-- 'tierlinekeep.LoopsHeads', WHERE WHAT IT READS IS OF BULK AT MOST 1048576: true; the input reads as it did. -/
def loopsHeadsUptoRow : OpenClaim := { program := "ytefbdecejoeamaadoor", sum := "c56c1cb6a9a0128a0213c9277dee33475f2ad2ed14eff0d9171cf6cf25c98459", func := "tierline/tierlinekeep.LoopsHeads", spec := "loopsHeads", unfollowed := true, recurses := true, named := ["tierline/code.has"], apart := false, laid := [("tierline/code.has", laid_tierline_code_has)], narrowed := true }
def LoopsHeadsUptoSaid : Prop := loopsHeadsUptoRow.holds Tryd.pinned (OpenSpec.upto loopsHeadsSpec)

/-- 'tierlinekeep.LoopsNone', WHERE WHAT IT READS IS OF BULK AT MOST 1048576: true; the input reads as it did. -/
def loopsNoneUptoRow : OpenClaim := { program := "ytefbdecejoeamaadoor", sum := "c56c1cb6a9a0128a0213c9277dee33475f2ad2ed14eff0d9171cf6cf25c98459", func := "tierline/tierlinekeep.LoopsNone", spec := "loopsNone", unfollowed := true, recurses := true, named := ["tierline/code.has"], apart := false, laid := [("tierline/code.has", laid_tierline_code_has)], narrowed := true }
def LoopsNoneUptoSaid : Prop := loopsNoneUptoRow.holds Tryd.pinned (OpenSpec.upto loopsNoneSpec)

/-- 'tierlinekeep.LiveDead', WHERE WHAT IT READS IS OF BULK AT MOST 1048576: true; the input reads as it did. -/
def liveDeadUptoRow : OpenClaim := { program := "ytefbdecejoeamaadoor", sum := "c56c1cb6a9a0128a0213c9277dee33475f2ad2ed14eff0d9171cf6cf25c98459", func := "tierline/tierlinekeep.LiveDead", spec := "liveDead", recurses := true, named := ["tierline/code.has"], apart := false, laid := [("tierline/code.has", laid_tierline_code_has)], narrowed := true }
def LiveDeadUptoSaid : Prop := liveDeadUptoRow.holds Tryd.pinned (OpenSpec.upto liveDeadSpec)

/-- 'tierlinekeep.EnterLeave', WHERE WHAT IT READS IS OF BULK AT MOST 1048576: true; the input reads as it did. -/
def enterLeaveUptoRow : OpenClaim := { program := "ytefbdecejoeamaadoor", sum := "c56c1cb6a9a0128a0213c9277dee33475f2ad2ed14eff0d9171cf6cf25c98459", func := "tierline/tierlinekeep.EnterLeave", spec := "enterLeave", recurses := true, named := ["tierline/code.has"], apart := false, laid := [("tierline/code.has", laid_tierline_code_has)], narrowed := true }
def EnterLeaveUptoSaid : Prop := enterLeaveUptoRow.holds Tryd.pinned (OpenSpec.upto enterLeaveSpec)

/-- 'tierlinekeep.RunWays', WHERE WHAT IT READS IS OF BULK AT MOST 1048576: true; the input reads as it did. -/
def runWaysUptoRow : OpenClaim := { program := "ytefbdecejoeamaadoor", sum := "c56c1cb6a9a0128a0213c9277dee33475f2ad2ed14eff0d9171cf6cf25c98459", func := "tierline/tierlinekeep.RunWays", spec := "runWays", recurses := true, named := ["tierline/code.has"], apart := false, laid := [("tierline/code.has", laid_tierline_code_has)], narrowed := true }
def RunWaysUptoSaid : Prop := runWaysUptoRow.holds Tryd.pinned (OpenSpec.upto runWaysSpec)

/-- 'tierlinekeep.FarWalks', WHERE WHAT IT READS IS OF BULK AT MOST 1048576: true; the input reads as it did. -/
def farWalksUptoRow : OpenClaim := { program := "ytefbdecejoeamaadoor", sum := "c56c1cb6a9a0128a0213c9277dee33475f2ad2ed14eff0d9171cf6cf25c98459", func := "tierline/tierlinekeep.FarWalks", spec := "farWalks", unfollowed := true, recurses := true, named := ["tierline/code.has"], apart := false, laid := [("tierline/code.has", laid_tierline_code_has)], narrowed := true }
def FarWalksUptoSaid : Prop := farWalksUptoRow.holds Tryd.pinned (OpenSpec.upto farWalksSpec)

/-- 'tierlinekeep.EmitParts', WHERE WHAT IT READS IS OF BULK AT MOST 1048576: true; the input reads as it did. -/
def emitPartsUptoRow : OpenClaim := { program := "ytefbdecejoeamaadoor", sum := "c56c1cb6a9a0128a0213c9277dee33475f2ad2ed14eff0d9171cf6cf25c98459", func := "tierline/tierlinekeep.EmitParts", spec := "emitParts", unfollowed := true, recurses := true, named := ["tierline/code.has"], apart := false, laid := [("tierline/code.has", laid_tierline_code_has)], narrowed := true }
def EmitPartsUptoSaid : Prop := emitPartsUptoRow.holds Tryd.pinned (OpenSpec.upto emitPartsSpec)

end Rows
end Go.Proofs.YtefbdecejoeamaaDoor
