/-
  DERIVED. GIVEN WITH THE SEED: THE CARDS: each row of YtnbopmlemddakaaDoorRows.lean that lists a variable, with what it lists TIED to the program's text (the seventh form; the later family's looks); each row that meets fmt, with fmt's text TOLD by the authors' own Lean function (tested against real Go, not proved from fmt's source: count such statements apart). THE CARD IS WHAT COUNTS. Prove the row's statement (the work); the ties are given (YtnbopmlemddakaaDoorTie.lean); close each card by the builder's one call (the guide's Derived/Test/ToyasCard.lean, 'card_holds'). Laid BY PROGRAM, IN A SANDBOX (cutbox-door.mjs). By AI agents, Wed Nov 11 2026. No macro, syntax, notation, axiom, sorry.
-/
import Derived.Test.YtnbopmlemddakaaDoorRows
import GoSem.ClaimSeven
namespace Go.Proofs.YtnbopmlemddakaaDoor
namespace Rows

/-- THE TIED CARD OF 'tierlinekeep.TrimSmall'. -/
def trimSmallCard : Claim7 := { stood := { row := trimSmallRow, standIns := [], harness := (true, "ac2a0b07ad92bceede24dd726104d029db37d4e66bae076aaa67bd08017c8a68"), looks := false }, kinds := [], alts := [], laidByText := true, laidKinds := [.data], laidTests := true, laidLooks := .later }
def TrimSmallCardSaid : Prop := Claim7.holds Tryd.pinned (.plain (OpenSpec.ofChange trimSmallSpec)) trimSmallCard

/-- THE TIED CARD OF 'tierlinekeep.TrimAgain'. -/
def trimAgainCard : Claim7 := { stood := { row := trimAgainRow, standIns := [], harness := (true, "ac2a0b07ad92bceede24dd726104d029db37d4e66bae076aaa67bd08017c8a68"), looks := false }, kinds := [], alts := [], laidByText := true, laidKinds := [.data], laidTests := true, laidLooks := .later }
def TrimAgainCardSaid : Prop := Claim7.holds Tryd.pinned (.plain (OpenSpec.ofChange trimAgainSpec)) trimAgainCard

/-- THE TIED CARD OF 'tierlinekeep.RunMore'. -/
def runMoreCard : Claim7 := { stood := { row := runMoreRow, standIns := [], harness := (true, "ac2a0b07ad92bceede24dd726104d029db37d4e66bae076aaa67bd08017c8a68"), looks := false }, kinds := [], alts := [], laidByText := true, laidKinds := [.data], laidTests := true, laidLooks := .later }
def RunMoreCardSaid : Prop := Claim7.holds Tryd.pinned (.plain (OpenSpec.ofChange runMoreSpec)) runMoreCard

/-- THE TIED CARD OF 'tierlinekeep.WalkParts'. -/
def walkPartsCard : Claim7 := { stood := { row := walkPartsRow, standIns := [], harness := (true, "ac2a0b07ad92bceede24dd726104d029db37d4e66bae076aaa67bd08017c8a68"), looks := false }, kinds := [], alts := [], laidByText := true, laidKinds := [.data], laidTests := true, laidLooks := .later }
def WalkPartsCardSaid : Prop := Claim7.holds Tryd.pinned (.plain (OpenSpec.ofChange walkPartsSpec)) walkPartsCard

/-- THE TIED CARD OF 'tierlinekeep.EventsGrow'. -/
def eventsGrowCard : Claim7 := { stood := { row := eventsGrowRow, standIns := [], harness := (true, "ac2a0b07ad92bceede24dd726104d029db37d4e66bae076aaa67bd08017c8a68"), looks := false }, kinds := [], alts := [], laidByText := true, laidKinds := [.data], laidTests := true, laidLooks := .later }
def EventsGrowCardSaid : Prop := Claim7.holds Tryd.pinned (.plain (OpenSpec.ofChange eventsGrowSpec)) eventsGrowCard

/-- THE TIED CARD OF 'tierlinekeep.ProofSafe'. -/
def proofSafeCard : Claim7 := { stood := { row := proofSafeRow, standIns := [], harness := (true, "ac2a0b07ad92bceede24dd726104d029db37d4e66bae076aaa67bd08017c8a68"), looks := false }, kinds := [], alts := [], laidByText := true, laidKinds := [.data], laidTests := true, laidLooks := .later }
def ProofSafeCardSaid : Prop := Claim7.holds Tryd.pinned (.plain (OpenSpec.ofChange proofSafeSpec)) proofSafeCard

/-- THE TIED CARD OF 'tierlinekeep.AnswersMore'. -/
def answersMoreCard : Claim7 := { stood := { row := answersMoreRow, standIns := [], harness := (true, "ac2a0b07ad92bceede24dd726104d029db37d4e66bae076aaa67bd08017c8a68"), looks := false }, kinds := [], alts := [], laidByText := true, laidKinds := [.data], laidTests := true, laidLooks := .later }
def AnswersMoreCardSaid : Prop := Claim7.holds Tryd.pinned (.plain (OpenSpec.ofChange answersMoreSpec)) answersMoreCard

/-- THE TIED CARD OF 'tierlinekeep.FuelFalls'. -/
def fuelFallsCard : Claim7 := { stood := { row := fuelFallsRow, standIns := [], harness := (true, "ac2a0b07ad92bceede24dd726104d029db37d4e66bae076aaa67bd08017c8a68"), looks := false }, kinds := [], alts := [], laidByText := true, laidKinds := [.data], laidTests := true, laidLooks := .later }
def FuelFallsCardSaid : Prop := Claim7.holds Tryd.pinned (.plain (OpenSpec.ofChange fuelFallsSpec)) fuelFallsCard

/-- THE TIED CARD OF 'tierlinekeep.MemoryStays'. -/
def memoryStaysCard : Claim7 := { stood := { row := memoryStaysRow, standIns := [], harness := (true, "ac2a0b07ad92bceede24dd726104d029db37d4e66bae076aaa67bd08017c8a68"), looks := false }, kinds := [], alts := [], laidByText := true, laidKinds := [.data], laidTests := true, laidLooks := .later }
def MemoryStaysCardSaid : Prop := Claim7.holds Tryd.pinned (.plain (OpenSpec.ofChange memoryStaysSpec)) memoryStaysCard

/-- THE TIED CARD OF 'tierlinekeep.StateStays'. -/
def stateStaysCard : Claim7 := { stood := { row := stateStaysRow, standIns := [], harness := (true, "ac2a0b07ad92bceede24dd726104d029db37d4e66bae076aaa67bd08017c8a68"), looks := false }, kinds := [], alts := [], laidByText := true, laidKinds := [.data], laidTests := true, laidLooks := .later }
def StateStaysCardSaid : Prop := Claim7.holds Tryd.pinned (.plain (OpenSpec.ofChange stateStaysSpec)) stateStaysCard

/-- THE TIED CARD OF 'tierlinekeep.CallFrames'. -/
def callFramesCard : Claim7 := { stood := { row := callFramesRow, standIns := [], harness := (true, "ac2a0b07ad92bceede24dd726104d029db37d4e66bae076aaa67bd08017c8a68"), looks := false }, kinds := [], alts := [], laidByText := true, laidKinds := [.data], laidTests := true, laidLooks := .later }
def CallFramesCardSaid : Prop := Claim7.holds Tryd.pinned (.plain (OpenSpec.ofChange callFramesSpec)) callFramesCard

/-- THE TIED CARD OF 'tierlinekeep.CountsFlow'. -/
def countsFlowCard : Claim7 := { stood := { row := countsFlowRow, standIns := [], harness := (true, "ac2a0b07ad92bceede24dd726104d029db37d4e66bae076aaa67bd08017c8a68"), looks := false }, kinds := [], alts := [], laidByText := true, laidKinds := [.data], laidTests := true, laidLooks := .later }
def CountsFlowCardSaid : Prop := Claim7.holds Tryd.pinned (.plain (OpenSpec.ofChange countsFlowSpec)) countsFlowCard

/-- THE TIED CARD OF 'tierlinekeep.RunEnds'. -/
def runEndsCard : Claim7 := { stood := { row := runEndsRow, standIns := [], harness := (true, "ac2a0b07ad92bceede24dd726104d029db37d4e66bae076aaa67bd08017c8a68"), looks := false }, kinds := [], alts := [], laidByText := true, laidKinds := [.data], laidTests := true, laidLooks := .later }
def RunEndsCardSaid : Prop := Claim7.holds Tryd.pinned (.plain (OpenSpec.ofChange runEndsSpec)) runEndsCard

/-- THE TIED CARD OF 'tierlinekeep.StepPure'. -/
def stepPureCard : Claim7 := { stood := { row := stepPureRow, standIns := [], harness := (true, "ac2a0b07ad92bceede24dd726104d029db37d4e66bae076aaa67bd08017c8a68"), looks := false }, kinds := [], alts := [], laidByText := true, laidKinds := [.data], laidTests := true, laidLooks := .later }
def StepPureCardSaid : Prop := Claim7.holds Tryd.pinned (.plain (OpenSpec.ofChange stepPureSpec)) stepPureCard

/-- THE TIED CARD OF 'tierlinekeep.HotMost'. -/
def hotMostCard : Claim7 := { stood := { row := hotMostRow, standIns := [], harness := (true, "ac2a0b07ad92bceede24dd726104d029db37d4e66bae076aaa67bd08017c8a68"), looks := false }, kinds := [], alts := [], laidByText := true, laidKinds := [.data], laidTests := true, laidLooks := .later }
def HotMostCardSaid : Prop := Claim7.holds Tryd.pinned (.plain (OpenSpec.ofChange hotMostSpec)) hotMostCard

/-- THE TIED CARD OF 'tierlinekeep.CountsSum'. -/
def countsSumCard : Claim7 := { stood := { row := countsSumRow, standIns := [], harness := (true, "ac2a0b07ad92bceede24dd726104d029db37d4e66bae076aaa67bd08017c8a68"), looks := false }, kinds := [], alts := [], laidByText := true, laidKinds := [.data], laidTests := true, laidLooks := .later }
def CountsSumCardSaid : Prop := Claim7.holds Tryd.pinned (.plain (OpenSpec.ofChange countsSumSpec)) countsSumCard

/-- THE TIED CARD OF 'tierlinekeep.TrimRuns'. -/
def trimRunsCard : Claim7 := { stood := { row := trimRunsRow, standIns := [], harness := (true, "ac2a0b07ad92bceede24dd726104d029db37d4e66bae076aaa67bd08017c8a68"), looks := false }, kinds := [], alts := [], laidByText := true, laidKinds := [.data], laidTests := true, laidLooks := .later }
def TrimRunsCardSaid : Prop := Claim7.holds Tryd.pinned (.plain (OpenSpec.ofChange trimRunsSpec)) trimRunsCard

/-- THE SECOND FORM's CARD OF 'tierlinekeep.TrimSmall'. -/
def trimSmallUptoCard : Claim7 := { stood := { row := trimSmallUptoRow, standIns := [], harness := (true, "ac2a0b07ad92bceede24dd726104d029db37d4e66bae076aaa67bd08017c8a68"), looks := false }, kinds := [], alts := [], laidByText := true, laidKinds := [.data], laidTests := true, laidLooks := .later }
def TrimSmallUptoCardSaid : Prop := Claim7.holds Tryd.pinned (.plain (OpenSpec.upto trimSmallSpec)) trimSmallUptoCard

/-- THE SECOND FORM's CARD OF 'tierlinekeep.TrimAgain'. -/
def trimAgainUptoCard : Claim7 := { stood := { row := trimAgainUptoRow, standIns := [], harness := (true, "ac2a0b07ad92bceede24dd726104d029db37d4e66bae076aaa67bd08017c8a68"), looks := false }, kinds := [], alts := [], laidByText := true, laidKinds := [.data], laidTests := true, laidLooks := .later }
def TrimAgainUptoCardSaid : Prop := Claim7.holds Tryd.pinned (.plain (OpenSpec.upto trimAgainSpec)) trimAgainUptoCard

/-- THE SECOND FORM's CARD OF 'tierlinekeep.RunMore'. -/
def runMoreUptoCard : Claim7 := { stood := { row := runMoreUptoRow, standIns := [], harness := (true, "ac2a0b07ad92bceede24dd726104d029db37d4e66bae076aaa67bd08017c8a68"), looks := false }, kinds := [], alts := [], laidByText := true, laidKinds := [.data], laidTests := true, laidLooks := .later }
def RunMoreUptoCardSaid : Prop := Claim7.holds Tryd.pinned (.plain (OpenSpec.upto runMoreSpec)) runMoreUptoCard

/-- THE SECOND FORM's CARD OF 'tierlinekeep.WalkParts'. -/
def walkPartsUptoCard : Claim7 := { stood := { row := walkPartsUptoRow, standIns := [], harness := (true, "ac2a0b07ad92bceede24dd726104d029db37d4e66bae076aaa67bd08017c8a68"), looks := false }, kinds := [], alts := [], laidByText := true, laidKinds := [.data], laidTests := true, laidLooks := .later }
def WalkPartsUptoCardSaid : Prop := Claim7.holds Tryd.pinned (.plain (OpenSpec.upto walkPartsSpec)) walkPartsUptoCard

/-- THE SECOND FORM's CARD OF 'tierlinekeep.EventsGrow'. -/
def eventsGrowUptoCard : Claim7 := { stood := { row := eventsGrowUptoRow, standIns := [], harness := (true, "ac2a0b07ad92bceede24dd726104d029db37d4e66bae076aaa67bd08017c8a68"), looks := false }, kinds := [], alts := [], laidByText := true, laidKinds := [.data], laidTests := true, laidLooks := .later }
def EventsGrowUptoCardSaid : Prop := Claim7.holds Tryd.pinned (.plain (OpenSpec.upto eventsGrowSpec)) eventsGrowUptoCard

/-- THE SECOND FORM's CARD OF 'tierlinekeep.ProofSafe'. -/
def proofSafeUptoCard : Claim7 := { stood := { row := proofSafeUptoRow, standIns := [], harness := (true, "ac2a0b07ad92bceede24dd726104d029db37d4e66bae076aaa67bd08017c8a68"), looks := false }, kinds := [], alts := [], laidByText := true, laidKinds := [.data], laidTests := true, laidLooks := .later }
def ProofSafeUptoCardSaid : Prop := Claim7.holds Tryd.pinned (.plain (OpenSpec.upto proofSafeSpec)) proofSafeUptoCard

/-- THE SECOND FORM's CARD OF 'tierlinekeep.AnswersMore'. -/
def answersMoreUptoCard : Claim7 := { stood := { row := answersMoreUptoRow, standIns := [], harness := (true, "ac2a0b07ad92bceede24dd726104d029db37d4e66bae076aaa67bd08017c8a68"), looks := false }, kinds := [], alts := [], laidByText := true, laidKinds := [.data], laidTests := true, laidLooks := .later }
def AnswersMoreUptoCardSaid : Prop := Claim7.holds Tryd.pinned (.plain (OpenSpec.upto answersMoreSpec)) answersMoreUptoCard

/-- THE SECOND FORM's CARD OF 'tierlinekeep.FuelFalls'. -/
def fuelFallsUptoCard : Claim7 := { stood := { row := fuelFallsUptoRow, standIns := [], harness := (true, "ac2a0b07ad92bceede24dd726104d029db37d4e66bae076aaa67bd08017c8a68"), looks := false }, kinds := [], alts := [], laidByText := true, laidKinds := [.data], laidTests := true, laidLooks := .later }
def FuelFallsUptoCardSaid : Prop := Claim7.holds Tryd.pinned (.plain (OpenSpec.upto fuelFallsSpec)) fuelFallsUptoCard

/-- THE SECOND FORM's CARD OF 'tierlinekeep.MemoryStays'. -/
def memoryStaysUptoCard : Claim7 := { stood := { row := memoryStaysUptoRow, standIns := [], harness := (true, "ac2a0b07ad92bceede24dd726104d029db37d4e66bae076aaa67bd08017c8a68"), looks := false }, kinds := [], alts := [], laidByText := true, laidKinds := [.data], laidTests := true, laidLooks := .later }
def MemoryStaysUptoCardSaid : Prop := Claim7.holds Tryd.pinned (.plain (OpenSpec.upto memoryStaysSpec)) memoryStaysUptoCard

/-- THE SECOND FORM's CARD OF 'tierlinekeep.StateStays'. -/
def stateStaysUptoCard : Claim7 := { stood := { row := stateStaysUptoRow, standIns := [], harness := (true, "ac2a0b07ad92bceede24dd726104d029db37d4e66bae076aaa67bd08017c8a68"), looks := false }, kinds := [], alts := [], laidByText := true, laidKinds := [.data], laidTests := true, laidLooks := .later }
def StateStaysUptoCardSaid : Prop := Claim7.holds Tryd.pinned (.plain (OpenSpec.upto stateStaysSpec)) stateStaysUptoCard

/-- THE SECOND FORM's CARD OF 'tierlinekeep.CallFrames'. -/
def callFramesUptoCard : Claim7 := { stood := { row := callFramesUptoRow, standIns := [], harness := (true, "ac2a0b07ad92bceede24dd726104d029db37d4e66bae076aaa67bd08017c8a68"), looks := false }, kinds := [], alts := [], laidByText := true, laidKinds := [.data], laidTests := true, laidLooks := .later }
def CallFramesUptoCardSaid : Prop := Claim7.holds Tryd.pinned (.plain (OpenSpec.upto callFramesSpec)) callFramesUptoCard

/-- THE SECOND FORM's CARD OF 'tierlinekeep.CountsFlow'. -/
def countsFlowUptoCard : Claim7 := { stood := { row := countsFlowUptoRow, standIns := [], harness := (true, "ac2a0b07ad92bceede24dd726104d029db37d4e66bae076aaa67bd08017c8a68"), looks := false }, kinds := [], alts := [], laidByText := true, laidKinds := [.data], laidTests := true, laidLooks := .later }
def CountsFlowUptoCardSaid : Prop := Claim7.holds Tryd.pinned (.plain (OpenSpec.upto countsFlowSpec)) countsFlowUptoCard

/-- THE SECOND FORM's CARD OF 'tierlinekeep.RunEnds'. -/
def runEndsUptoCard : Claim7 := { stood := { row := runEndsUptoRow, standIns := [], harness := (true, "ac2a0b07ad92bceede24dd726104d029db37d4e66bae076aaa67bd08017c8a68"), looks := false }, kinds := [], alts := [], laidByText := true, laidKinds := [.data], laidTests := true, laidLooks := .later }
def RunEndsUptoCardSaid : Prop := Claim7.holds Tryd.pinned (.plain (OpenSpec.upto runEndsSpec)) runEndsUptoCard

/-- THE SECOND FORM's CARD OF 'tierlinekeep.StepPure'. -/
def stepPureUptoCard : Claim7 := { stood := { row := stepPureUptoRow, standIns := [], harness := (true, "ac2a0b07ad92bceede24dd726104d029db37d4e66bae076aaa67bd08017c8a68"), looks := false }, kinds := [], alts := [], laidByText := true, laidKinds := [.data], laidTests := true, laidLooks := .later }
def StepPureUptoCardSaid : Prop := Claim7.holds Tryd.pinned (.plain (OpenSpec.upto stepPureSpec)) stepPureUptoCard

/-- THE SECOND FORM's CARD OF 'tierlinekeep.HotMost'. -/
def hotMostUptoCard : Claim7 := { stood := { row := hotMostUptoRow, standIns := [], harness := (true, "ac2a0b07ad92bceede24dd726104d029db37d4e66bae076aaa67bd08017c8a68"), looks := false }, kinds := [], alts := [], laidByText := true, laidKinds := [.data], laidTests := true, laidLooks := .later }
def HotMostUptoCardSaid : Prop := Claim7.holds Tryd.pinned (.plain (OpenSpec.upto hotMostSpec)) hotMostUptoCard

/-- THE SECOND FORM's CARD OF 'tierlinekeep.CountsSum'. -/
def countsSumUptoCard : Claim7 := { stood := { row := countsSumUptoRow, standIns := [], harness := (true, "ac2a0b07ad92bceede24dd726104d029db37d4e66bae076aaa67bd08017c8a68"), looks := false }, kinds := [], alts := [], laidByText := true, laidKinds := [.data], laidTests := true, laidLooks := .later }
def CountsSumUptoCardSaid : Prop := Claim7.holds Tryd.pinned (.plain (OpenSpec.upto countsSumSpec)) countsSumUptoCard

/-- THE SECOND FORM's CARD OF 'tierlinekeep.TrimRuns'. -/
def trimRunsUptoCard : Claim7 := { stood := { row := trimRunsUptoRow, standIns := [], harness := (true, "ac2a0b07ad92bceede24dd726104d029db37d4e66bae076aaa67bd08017c8a68"), looks := false }, kinds := [], alts := [], laidByText := true, laidKinds := [.data], laidTests := true, laidLooks := .later }
def TrimRunsUptoCardSaid : Prop := Claim7.holds Tryd.pinned (.plain (OpenSpec.upto trimRunsSpec)) trimRunsUptoCard
end Rows
end Go.Proofs.YtnbopmlemddakaaDoor
