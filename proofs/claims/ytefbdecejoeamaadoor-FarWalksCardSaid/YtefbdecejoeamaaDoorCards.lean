/-
  DERIVED. GIVEN WITH THE SEED: THE CARDS: each row of YtefbdecejoeamaaDoorRows.lean that lists a variable, with what it lists TIED to the program's text (the seventh form; the later family's looks); each row that meets fmt, with fmt's text TOLD by the authors' own Lean function (tested against real Go, not proved from fmt's source: count such statements apart). THE CARD IS WHAT COUNTS. Prove the row's statement (the work); the ties are given (YtefbdecejoeamaaDoorTie.lean); close each card by the builder's one call (the guide's Derived/Test/ToyasCard.lean, 'card_holds'). Laid BY PROGRAM, IN A SANDBOX (cutbox-door.mjs). By AI agents, Wed Nov 11 2026. No macro, syntax, notation, axiom, sorry.
-/
import Derived.Test.YtefbdecejoeamaaDoorRows
import GoSem.ClaimSeven
namespace Go.Proofs.YtefbdecejoeamaaDoor
namespace Rows

/-- THE TIED CARD OF 'tierlinekeep.CodeBack'. -/
def codeBackCard : Claim7 := { stood := { row := codeBackRow, standIns := [], harness := (true, "8b4e87f3b7a553671b9717c8fa9c2825b137c78770216c6eb49076f37b602558"), looks := true }, kinds := [], alts := [], laidByText := true, laidKinds := [.data], laidTests := true, laidLooks := .later }
def CodeBackCardSaid : Prop := Claim7.holds Tryd.pinned (.plain (OpenSpec.ofChange codeBackSpec)) codeBackCard

/-- THE TIED CARD OF 'tierlinekeep.CodeFixed'. -/
def codeFixedCard : Claim7 := { stood := { row := codeFixedRow, standIns := [], harness := (true, "8b4e87f3b7a553671b9717c8fa9c2825b137c78770216c6eb49076f37b602558"), looks := true }, kinds := [], alts := [], laidByText := true, laidKinds := [.data], laidTests := true, laidLooks := .later }
def CodeFixedCardSaid : Prop := Claim7.holds Tryd.pinned (.plain (OpenSpec.ofChange codeFixedSpec)) codeFixedCard

/-- THE TIED CARD OF 'tierlinekeep.CodeTorn'. -/
def codeTornCard : Claim7 := { stood := { row := codeTornRow, standIns := [], harness := (true, "8b4e87f3b7a553671b9717c8fa9c2825b137c78770216c6eb49076f37b602558"), looks := true }, kinds := [], alts := [], laidByText := true, laidKinds := [.data], laidTests := true, laidLooks := .later }
def CodeTornCardSaid : Prop := Claim7.holds Tryd.pinned (.plain (OpenSpec.ofChange codeTornSpec)) codeTornCard

/-- THE TIED CARD OF 'tierlinetop.TopTidy'. -/
def topTidyCard : Claim7 := { stood := { row := topTidyRow, standIns := [], harness := (true, "8b4e87f3b7a553671b9717c8fa9c2825b137c78770216c6eb49076f37b602558"), looks := true }, kinds := [], alts := [], laidByText := true, laidKinds := [.data], laidTests := true, laidLooks := .later }
def TopTidyCardSaid : Prop := Claim7.holds Tryd.pinned (.plain (OpenSpec.ofChange topTidySpec)) topTidyCard

/-- THE TIED CARD OF 'tierlinetop.TopNames'. -/
def topNamesCard : Claim7 := { stood := { row := topNamesRow, standIns := [], harness := (true, "8b4e87f3b7a553671b9717c8fa9c2825b137c78770216c6eb49076f37b602558"), looks := true }, kinds := [], alts := [], laidByText := true, laidKinds := [.data], laidTests := true, laidLooks := .later }
def TopNamesCardSaid : Prop := Claim7.holds Tryd.pinned (.plain (OpenSpec.ofChange topNamesSpec)) topNamesCard

/-- THE TIED CARD OF 'tierlinekeep.LiveSure'. -/
def liveSureCard : Claim7 := { stood := { row := liveSureRow, standIns := [], harness := (true, "8b4e87f3b7a553671b9717c8fa9c2825b137c78770216c6eb49076f37b602558"), looks := true }, kinds := [], alts := [], laidByText := true, laidKinds := [.data], laidTests := true, laidLooks := .later }
def LiveSureCardSaid : Prop := Claim7.holds Tryd.pinned (.plain (OpenSpec.ofChange liveSureSpec)) liveSureCard

/-- THE TIED CARD OF 'tierlinekeep.BlocksCover'. -/
def blocksCoverCard : Claim7 := { stood := { row := blocksCoverRow, standIns := [], harness := (true, "8b4e87f3b7a553671b9717c8fa9c2825b137c78770216c6eb49076f37b602558"), looks := true }, kinds := [], alts := [], laidByText := true, laidKinds := [.data], laidTests := true, laidLooks := .later }
def BlocksCoverCardSaid : Prop := Claim7.holds Tryd.pinned (.plain (OpenSpec.ofChange blocksCoverSpec)) blocksCoverCard

/-- THE TIED CARD OF 'tierlinekeep.BlocksMeet'. -/
def blocksMeetCard : Claim7 := { stood := { row := blocksMeetRow, standIns := [], harness := (true, "8b4e87f3b7a553671b9717c8fa9c2825b137c78770216c6eb49076f37b602558"), looks := true }, kinds := [], alts := [], laidByText := true, laidKinds := [.data], laidTests := true, laidLooks := .later }
def BlocksMeetCardSaid : Prop := Claim7.holds Tryd.pinned (.plain (OpenSpec.ofChange blocksMeetSpec)) blocksMeetCard

/-- THE TIED CARD OF 'tierlinekeep.BlocksEnd'. -/
def blocksEndCard : Claim7 := { stood := { row := blocksEndRow, standIns := [], harness := (true, "8b4e87f3b7a553671b9717c8fa9c2825b137c78770216c6eb49076f37b602558"), looks := true }, kinds := [], alts := [], laidByText := true, laidKinds := [.data], laidTests := true, laidLooks := .later }
def BlocksEndCardSaid : Prop := Claim7.holds Tryd.pinned (.plain (OpenSpec.ofChange blocksEndSpec)) blocksEndCard

/-- THE TIED CARD OF 'tierlinekeep.AboveChain'. -/
def aboveChainCard : Claim7 := { stood := { row := aboveChainRow, standIns := [], harness := (true, "8b4e87f3b7a553671b9717c8fa9c2825b137c78770216c6eb49076f37b602558"), looks := true }, kinds := [], alts := [], laidByText := true, laidKinds := [.data], laidTests := true, laidLooks := .later }
def AboveChainCardSaid : Prop := Claim7.holds Tryd.pinned (.plain (OpenSpec.ofChange aboveChainSpec)) aboveChainCard

/-- THE TIED CARD OF 'tierlinekeep.LiveBack'. -/
def liveBackCard : Claim7 := { stood := { row := liveBackRow, standIns := [], harness := (true, "8b4e87f3b7a553671b9717c8fa9c2825b137c78770216c6eb49076f37b602558"), looks := true }, kinds := [], alts := [], laidByText := true, laidKinds := [.data], laidTests := true, laidLooks := .later }
def LiveBackCardSaid : Prop := Claim7.holds Tryd.pinned (.plain (OpenSpec.ofChange liveBackSpec)) liveBackCard

/-- THE TIED CARD OF 'tierlinekeep.LoopsHeads'. -/
def loopsHeadsCard : Claim7 := { stood := { row := loopsHeadsRow, standIns := [], harness := (true, "8b4e87f3b7a553671b9717c8fa9c2825b137c78770216c6eb49076f37b602558"), looks := true }, kinds := [], alts := [], laidByText := true, laidKinds := [.data], laidTests := true, laidLooks := .later }
def LoopsHeadsCardSaid : Prop := Claim7.holds Tryd.pinned (.plain (OpenSpec.ofChange loopsHeadsSpec)) loopsHeadsCard

/-- THE TIED CARD OF 'tierlinekeep.LoopsNone'. -/
def loopsNoneCard : Claim7 := { stood := { row := loopsNoneRow, standIns := [], harness := (true, "8b4e87f3b7a553671b9717c8fa9c2825b137c78770216c6eb49076f37b602558"), looks := true }, kinds := [], alts := [], laidByText := true, laidKinds := [.data], laidTests := true, laidLooks := .later }
def LoopsNoneCardSaid : Prop := Claim7.holds Tryd.pinned (.plain (OpenSpec.ofChange loopsNoneSpec)) loopsNoneCard

/-- THE TIED CARD OF 'tierlinekeep.LiveDead'. -/
def liveDeadCard : Claim7 := { stood := { row := liveDeadRow, standIns := [], harness := (true, "8b4e87f3b7a553671b9717c8fa9c2825b137c78770216c6eb49076f37b602558"), looks := true }, kinds := [], alts := [], laidByText := true, laidKinds := [.data], laidTests := true, laidLooks := .later }
def LiveDeadCardSaid : Prop := Claim7.holds Tryd.pinned (.plain (OpenSpec.ofChange liveDeadSpec)) liveDeadCard

/-- THE TIED CARD OF 'tierlinekeep.EnterLeave'. -/
def enterLeaveCard : Claim7 := { stood := { row := enterLeaveRow, standIns := [], harness := (true, "8b4e87f3b7a553671b9717c8fa9c2825b137c78770216c6eb49076f37b602558"), looks := true }, kinds := [], alts := [], laidByText := true, laidKinds := [.data], laidTests := true, laidLooks := .later }
def EnterLeaveCardSaid : Prop := Claim7.holds Tryd.pinned (.plain (OpenSpec.ofChange enterLeaveSpec)) enterLeaveCard

/-- THE TIED CARD OF 'tierlinekeep.RunWays'. -/
def runWaysCard : Claim7 := { stood := { row := runWaysRow, standIns := [], harness := (true, "8b4e87f3b7a553671b9717c8fa9c2825b137c78770216c6eb49076f37b602558"), looks := true }, kinds := [], alts := [], laidByText := true, laidKinds := [.data], laidTests := true, laidLooks := .later }
def RunWaysCardSaid : Prop := Claim7.holds Tryd.pinned (.plain (OpenSpec.ofChange runWaysSpec)) runWaysCard

/-- THE TIED CARD OF 'tierlinekeep.FarWalks'. -/
def farWalksCard : Claim7 := { stood := { row := farWalksRow, standIns := [], harness := (true, "8b4e87f3b7a553671b9717c8fa9c2825b137c78770216c6eb49076f37b602558"), looks := true }, kinds := [], alts := [], laidByText := true, laidKinds := [.data], laidTests := true, laidLooks := .later }
def FarWalksCardSaid : Prop := Claim7.holds Tryd.pinned (.plain (OpenSpec.ofChange farWalksSpec)) farWalksCard

/-- THE TIED CARD OF 'tierlinekeep.EmitParts'. -/
def emitPartsCard : Claim7 := { stood := { row := emitPartsRow, standIns := [], harness := (true, "8b4e87f3b7a553671b9717c8fa9c2825b137c78770216c6eb49076f37b602558"), looks := true }, kinds := [], alts := [], laidByText := true, laidKinds := [.data], laidTests := true, laidLooks := .later }
def EmitPartsCardSaid : Prop := Claim7.holds Tryd.pinned (.plain (OpenSpec.ofChange emitPartsSpec)) emitPartsCard

/-- THE SECOND FORM's CARD OF 'tierlinekeep.CodeBack'. -/
def codeBackUptoCard : Claim7 := { stood := { row := codeBackUptoRow, standIns := [], harness := (true, "8b4e87f3b7a553671b9717c8fa9c2825b137c78770216c6eb49076f37b602558"), looks := true }, kinds := [], alts := [], laidByText := true, laidKinds := [.data], laidTests := true, laidLooks := .later }
def CodeBackUptoCardSaid : Prop := Claim7.holds Tryd.pinned (.plain (OpenSpec.upto codeBackSpec)) codeBackUptoCard

/-- THE SECOND FORM's CARD OF 'tierlinekeep.CodeFixed'. -/
def codeFixedUptoCard : Claim7 := { stood := { row := codeFixedUptoRow, standIns := [], harness := (true, "8b4e87f3b7a553671b9717c8fa9c2825b137c78770216c6eb49076f37b602558"), looks := true }, kinds := [], alts := [], laidByText := true, laidKinds := [.data], laidTests := true, laidLooks := .later }
def CodeFixedUptoCardSaid : Prop := Claim7.holds Tryd.pinned (.plain (OpenSpec.upto codeFixedSpec)) codeFixedUptoCard

/-- THE SECOND FORM's CARD OF 'tierlinekeep.CodeTorn'. -/
def codeTornUptoCard : Claim7 := { stood := { row := codeTornUptoRow, standIns := [], harness := (true, "8b4e87f3b7a553671b9717c8fa9c2825b137c78770216c6eb49076f37b602558"), looks := true }, kinds := [], alts := [], laidByText := true, laidKinds := [.data], laidTests := true, laidLooks := .later }
def CodeTornUptoCardSaid : Prop := Claim7.holds Tryd.pinned (.plain (OpenSpec.upto codeTornSpec)) codeTornUptoCard

/-- THE SECOND FORM's CARD OF 'tierlinetop.TopTidy'. -/
def topTidyUptoCard : Claim7 := { stood := { row := topTidyUptoRow, standIns := [], harness := (true, "8b4e87f3b7a553671b9717c8fa9c2825b137c78770216c6eb49076f37b602558"), looks := true }, kinds := [], alts := [], laidByText := true, laidKinds := [.data], laidTests := true, laidLooks := .later }
def TopTidyUptoCardSaid : Prop := Claim7.holds Tryd.pinned (.plain (OpenSpec.upto topTidySpec)) topTidyUptoCard

/-- THE SECOND FORM's CARD OF 'tierlinetop.TopNames'. -/
def topNamesUptoCard : Claim7 := { stood := { row := topNamesUptoRow, standIns := [], harness := (true, "8b4e87f3b7a553671b9717c8fa9c2825b137c78770216c6eb49076f37b602558"), looks := true }, kinds := [], alts := [], laidByText := true, laidKinds := [.data], laidTests := true, laidLooks := .later }
def TopNamesUptoCardSaid : Prop := Claim7.holds Tryd.pinned (.plain (OpenSpec.upto topNamesSpec)) topNamesUptoCard

/-- THE SECOND FORM's CARD OF 'tierlinekeep.LiveSure'. -/
def liveSureUptoCard : Claim7 := { stood := { row := liveSureUptoRow, standIns := [], harness := (true, "8b4e87f3b7a553671b9717c8fa9c2825b137c78770216c6eb49076f37b602558"), looks := true }, kinds := [], alts := [], laidByText := true, laidKinds := [.data], laidTests := true, laidLooks := .later }
def LiveSureUptoCardSaid : Prop := Claim7.holds Tryd.pinned (.plain (OpenSpec.upto liveSureSpec)) liveSureUptoCard

/-- THE SECOND FORM's CARD OF 'tierlinekeep.BlocksCover'. -/
def blocksCoverUptoCard : Claim7 := { stood := { row := blocksCoverUptoRow, standIns := [], harness := (true, "8b4e87f3b7a553671b9717c8fa9c2825b137c78770216c6eb49076f37b602558"), looks := true }, kinds := [], alts := [], laidByText := true, laidKinds := [.data], laidTests := true, laidLooks := .later }
def BlocksCoverUptoCardSaid : Prop := Claim7.holds Tryd.pinned (.plain (OpenSpec.upto blocksCoverSpec)) blocksCoverUptoCard

/-- THE SECOND FORM's CARD OF 'tierlinekeep.BlocksMeet'. -/
def blocksMeetUptoCard : Claim7 := { stood := { row := blocksMeetUptoRow, standIns := [], harness := (true, "8b4e87f3b7a553671b9717c8fa9c2825b137c78770216c6eb49076f37b602558"), looks := true }, kinds := [], alts := [], laidByText := true, laidKinds := [.data], laidTests := true, laidLooks := .later }
def BlocksMeetUptoCardSaid : Prop := Claim7.holds Tryd.pinned (.plain (OpenSpec.upto blocksMeetSpec)) blocksMeetUptoCard

/-- THE SECOND FORM's CARD OF 'tierlinekeep.BlocksEnd'. -/
def blocksEndUptoCard : Claim7 := { stood := { row := blocksEndUptoRow, standIns := [], harness := (true, "8b4e87f3b7a553671b9717c8fa9c2825b137c78770216c6eb49076f37b602558"), looks := true }, kinds := [], alts := [], laidByText := true, laidKinds := [.data], laidTests := true, laidLooks := .later }
def BlocksEndUptoCardSaid : Prop := Claim7.holds Tryd.pinned (.plain (OpenSpec.upto blocksEndSpec)) blocksEndUptoCard

/-- THE SECOND FORM's CARD OF 'tierlinekeep.AboveChain'. -/
def aboveChainUptoCard : Claim7 := { stood := { row := aboveChainUptoRow, standIns := [], harness := (true, "8b4e87f3b7a553671b9717c8fa9c2825b137c78770216c6eb49076f37b602558"), looks := true }, kinds := [], alts := [], laidByText := true, laidKinds := [.data], laidTests := true, laidLooks := .later }
def AboveChainUptoCardSaid : Prop := Claim7.holds Tryd.pinned (.plain (OpenSpec.upto aboveChainSpec)) aboveChainUptoCard

/-- THE SECOND FORM's CARD OF 'tierlinekeep.LiveBack'. -/
def liveBackUptoCard : Claim7 := { stood := { row := liveBackUptoRow, standIns := [], harness := (true, "8b4e87f3b7a553671b9717c8fa9c2825b137c78770216c6eb49076f37b602558"), looks := true }, kinds := [], alts := [], laidByText := true, laidKinds := [.data], laidTests := true, laidLooks := .later }
def LiveBackUptoCardSaid : Prop := Claim7.holds Tryd.pinned (.plain (OpenSpec.upto liveBackSpec)) liveBackUptoCard

/-- THE SECOND FORM's CARD OF 'tierlinekeep.LoopsHeads'. -/
def loopsHeadsUptoCard : Claim7 := { stood := { row := loopsHeadsUptoRow, standIns := [], harness := (true, "8b4e87f3b7a553671b9717c8fa9c2825b137c78770216c6eb49076f37b602558"), looks := true }, kinds := [], alts := [], laidByText := true, laidKinds := [.data], laidTests := true, laidLooks := .later }
def LoopsHeadsUptoCardSaid : Prop := Claim7.holds Tryd.pinned (.plain (OpenSpec.upto loopsHeadsSpec)) loopsHeadsUptoCard

/-- THE SECOND FORM's CARD OF 'tierlinekeep.LoopsNone'. -/
def loopsNoneUptoCard : Claim7 := { stood := { row := loopsNoneUptoRow, standIns := [], harness := (true, "8b4e87f3b7a553671b9717c8fa9c2825b137c78770216c6eb49076f37b602558"), looks := true }, kinds := [], alts := [], laidByText := true, laidKinds := [.data], laidTests := true, laidLooks := .later }
def LoopsNoneUptoCardSaid : Prop := Claim7.holds Tryd.pinned (.plain (OpenSpec.upto loopsNoneSpec)) loopsNoneUptoCard

/-- THE SECOND FORM's CARD OF 'tierlinekeep.LiveDead'. -/
def liveDeadUptoCard : Claim7 := { stood := { row := liveDeadUptoRow, standIns := [], harness := (true, "8b4e87f3b7a553671b9717c8fa9c2825b137c78770216c6eb49076f37b602558"), looks := true }, kinds := [], alts := [], laidByText := true, laidKinds := [.data], laidTests := true, laidLooks := .later }
def LiveDeadUptoCardSaid : Prop := Claim7.holds Tryd.pinned (.plain (OpenSpec.upto liveDeadSpec)) liveDeadUptoCard

/-- THE SECOND FORM's CARD OF 'tierlinekeep.EnterLeave'. -/
def enterLeaveUptoCard : Claim7 := { stood := { row := enterLeaveUptoRow, standIns := [], harness := (true, "8b4e87f3b7a553671b9717c8fa9c2825b137c78770216c6eb49076f37b602558"), looks := true }, kinds := [], alts := [], laidByText := true, laidKinds := [.data], laidTests := true, laidLooks := .later }
def EnterLeaveUptoCardSaid : Prop := Claim7.holds Tryd.pinned (.plain (OpenSpec.upto enterLeaveSpec)) enterLeaveUptoCard

/-- THE SECOND FORM's CARD OF 'tierlinekeep.RunWays'. -/
def runWaysUptoCard : Claim7 := { stood := { row := runWaysUptoRow, standIns := [], harness := (true, "8b4e87f3b7a553671b9717c8fa9c2825b137c78770216c6eb49076f37b602558"), looks := true }, kinds := [], alts := [], laidByText := true, laidKinds := [.data], laidTests := true, laidLooks := .later }
def RunWaysUptoCardSaid : Prop := Claim7.holds Tryd.pinned (.plain (OpenSpec.upto runWaysSpec)) runWaysUptoCard

/-- THE SECOND FORM's CARD OF 'tierlinekeep.FarWalks'. -/
def farWalksUptoCard : Claim7 := { stood := { row := farWalksUptoRow, standIns := [], harness := (true, "8b4e87f3b7a553671b9717c8fa9c2825b137c78770216c6eb49076f37b602558"), looks := true }, kinds := [], alts := [], laidByText := true, laidKinds := [.data], laidTests := true, laidLooks := .later }
def FarWalksUptoCardSaid : Prop := Claim7.holds Tryd.pinned (.plain (OpenSpec.upto farWalksSpec)) farWalksUptoCard

/-- THE SECOND FORM's CARD OF 'tierlinekeep.EmitParts'. -/
def emitPartsUptoCard : Claim7 := { stood := { row := emitPartsUptoRow, standIns := [], harness := (true, "8b4e87f3b7a553671b9717c8fa9c2825b137c78770216c6eb49076f37b602558"), looks := true }, kinds := [], alts := [], laidByText := true, laidKinds := [.data], laidTests := true, laidLooks := .later }
def EmitPartsUptoCardSaid : Prop := Claim7.holds Tryd.pinned (.plain (OpenSpec.upto emitPartsSpec)) emitPartsUptoCard
end Rows
end Go.Proofs.YtefbdecejoeamaaDoor
