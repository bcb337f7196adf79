/-
  DERIVED. GIVEN WITH THE SEED: THE CARDS: each row of YtabeodibaogcbaaDoorRows.lean that lists a variable, with what it lists TIED to the program's text (the seventh form; the later family's looks); each row that meets fmt, with fmt's text TOLD by the authors' own Lean function (tested against real Go, not proved from fmt's source: count such statements apart). THE CARD IS WHAT COUNTS. Prove the row's statement (the work); the ties are given (YtabeodibaogcbaaDoorTie.lean); close each card by the builder's one call (the guide's Derived/Test/ToyasCard.lean, 'card_holds'). Laid BY PROGRAM, IN A SANDBOX (cutbox-door.mjs). By AI agents, Wed Nov 11 2026. No macro, syntax, notation, axiom, sorry.
-/
import Derived.Test.YtabeodibaogcbaaDoorRows
import GoSem.ClaimSeven
namespace Go.Proofs.YtabeodibaogcbaaDoor
namespace Rows

/-- THE TIED CARD OF 'tierlinekeep.CodeBad'. -/
def codeBadCard : Claim7 := { stood := { row := codeBadRow, standIns := [], harness := (true, "8faa6f7aeb87ac95a22236d4faeb5d0f1a63266d280173b50b80cf935c5bf751"), looks := true }, kinds := [], alts := [], laidByText := true, laidKinds := [.data], laidTests := true, laidLooks := .later }
def CodeBadCardSaid : Prop := Claim7.holds Tryd.pinned (.plain (OpenSpec.ofChange codeBadSpec)) codeBadCard

/-- THE TIED CARD OF 'tierlinekeep.CodeBytes'. -/
def codeBytesCard : Claim7 := { stood := { row := codeBytesRow, standIns := [], harness := (true, "8faa6f7aeb87ac95a22236d4faeb5d0f1a63266d280173b50b80cf935c5bf751"), looks := true }, kinds := [], alts := [], laidByText := true, laidKinds := [.data], laidTests := true, laidLooks := .later }
def CodeBytesCardSaid : Prop := Claim7.holds Tryd.pinned (.plain (OpenSpec.ofChange codeBytesSpec)) codeBytesCard

/-- THE TIED CARD OF 'tierlinekeep.ReadsTold'. -/
def readsToldCard : Claim7 := { stood := { row := readsToldRow, standIns := [], harness := (true, "8faa6f7aeb87ac95a22236d4faeb5d0f1a63266d280173b50b80cf935c5bf751"), looks := true }, kinds := [], alts := [], laidByText := true, laidKinds := [.data], laidTests := true, laidLooks := .later }
def ReadsToldCardSaid : Prop := Claim7.holds Tryd.pinned (.plain (OpenSpec.ofChange readsToldSpec)) readsToldCard

/-- THE TIED CARD OF 'tierlinekeep.CodeBack'. -/
def codeBackCard : Claim7 := { stood := { row := codeBackRow, standIns := [], harness := (true, "8faa6f7aeb87ac95a22236d4faeb5d0f1a63266d280173b50b80cf935c5bf751"), looks := true }, kinds := [], alts := [], laidByText := true, laidKinds := [.data], laidTests := true, laidLooks := .later }
def CodeBackCardSaid : Prop := Claim7.holds Tryd.pinned (.plain (OpenSpec.ofChange codeBackSpec)) codeBackCard

/-- THE TIED CARD OF 'tierlinekeep.CodeFixed'. -/
def codeFixedCard : Claim7 := { stood := { row := codeFixedRow, standIns := [], harness := (true, "8faa6f7aeb87ac95a22236d4faeb5d0f1a63266d280173b50b80cf935c5bf751"), looks := true }, kinds := [], alts := [], laidByText := true, laidKinds := [.data], laidTests := true, laidLooks := .later }
def CodeFixedCardSaid : Prop := Claim7.holds Tryd.pinned (.plain (OpenSpec.ofChange codeFixedSpec)) codeFixedCard

/-- THE TIED CARD OF 'tierlinekeep.CodeTorn'. -/
def codeTornCard : Claim7 := { stood := { row := codeTornRow, standIns := [], harness := (true, "8faa6f7aeb87ac95a22236d4faeb5d0f1a63266d280173b50b80cf935c5bf751"), looks := true }, kinds := [], alts := [], laidByText := true, laidKinds := [.data], laidTests := true, laidLooks := .later }
def CodeTornCardSaid : Prop := Claim7.holds Tryd.pinned (.plain (OpenSpec.ofChange codeTornSpec)) codeTornCard

/-- THE TIED CARD OF 'tierlinekeep.ProofUnset'. -/
def proofUnsetCard : Claim7 := { stood := { row := proofUnsetRow, standIns := [], harness := (true, "8faa6f7aeb87ac95a22236d4faeb5d0f1a63266d280173b50b80cf935c5bf751"), looks := true }, kinds := [], alts := [], laidByText := true, laidKinds := [.data], laidTests := true, laidLooks := .later }
def ProofUnsetCardSaid : Prop := Claim7.holds Tryd.pinned (.plain (OpenSpec.ofChange proofUnsetSpec)) proofUnsetCard

/-- THE TIED CARD OF 'tierlinekeep.SureFirst'. -/
def sureFirstCard : Claim7 := { stood := { row := sureFirstRow, standIns := [], harness := (true, "8faa6f7aeb87ac95a22236d4faeb5d0f1a63266d280173b50b80cf935c5bf751"), looks := true }, kinds := [], alts := [], laidByText := true, laidKinds := [.data], laidTests := true, laidLooks := .later }
def SureFirstCardSaid : Prop := Claim7.holds Tryd.pinned (.plain (OpenSpec.ofChange sureFirstSpec)) sureFirstCard

/-- THE TIED CARD OF 'tierlinekeep.TrimSmall'. -/
def trimSmallCard : Claim7 := { stood := { row := trimSmallRow, standIns := [], harness := (true, "8faa6f7aeb87ac95a22236d4faeb5d0f1a63266d280173b50b80cf935c5bf751"), looks := true }, kinds := [], alts := [], laidByText := true, laidKinds := [.data], laidTests := true, laidLooks := .later }
def TrimSmallCardSaid : Prop := Claim7.holds Tryd.pinned (.plain (OpenSpec.ofChange trimSmallSpec)) trimSmallCard

/-- THE TIED CARD OF 'tierlinekeep.TrimAgain'. -/
def trimAgainCard : Claim7 := { stood := { row := trimAgainRow, standIns := [], harness := (true, "8faa6f7aeb87ac95a22236d4faeb5d0f1a63266d280173b50b80cf935c5bf751"), looks := true }, kinds := [], alts := [], laidByText := true, laidKinds := [.data], laidTests := true, laidLooks := .later }
def TrimAgainCardSaid : Prop := Claim7.holds Tryd.pinned (.plain (OpenSpec.ofChange trimAgainSpec)) trimAgainCard

/-- THE SECOND FORM's CARD OF 'tierlinekeep.CodeBad'. -/
def codeBadUptoCard : Claim7 := { stood := { row := codeBadUptoRow, standIns := [], harness := (true, "8faa6f7aeb87ac95a22236d4faeb5d0f1a63266d280173b50b80cf935c5bf751"), looks := true }, kinds := [], alts := [], laidByText := true, laidKinds := [.data], laidTests := true, laidLooks := .later }
def CodeBadUptoCardSaid : Prop := Claim7.holds Tryd.pinned (.plain (OpenSpec.upto codeBadSpec)) codeBadUptoCard

/-- THE SECOND FORM's CARD OF 'tierlinekeep.CodeBytes'. -/
def codeBytesUptoCard : Claim7 := { stood := { row := codeBytesUptoRow, standIns := [], harness := (true, "8faa6f7aeb87ac95a22236d4faeb5d0f1a63266d280173b50b80cf935c5bf751"), looks := true }, kinds := [], alts := [], laidByText := true, laidKinds := [.data], laidTests := true, laidLooks := .later }
def CodeBytesUptoCardSaid : Prop := Claim7.holds Tryd.pinned (.plain (OpenSpec.upto codeBytesSpec)) codeBytesUptoCard

/-- THE SECOND FORM's CARD OF 'tierlinekeep.ReadsTold'. -/
def readsToldUptoCard : Claim7 := { stood := { row := readsToldUptoRow, standIns := [], harness := (true, "8faa6f7aeb87ac95a22236d4faeb5d0f1a63266d280173b50b80cf935c5bf751"), looks := true }, kinds := [], alts := [], laidByText := true, laidKinds := [.data], laidTests := true, laidLooks := .later }
def ReadsToldUptoCardSaid : Prop := Claim7.holds Tryd.pinned (.plain (OpenSpec.upto readsToldSpec)) readsToldUptoCard

/-- THE SECOND FORM's CARD OF 'tierlinekeep.CodeBack'. -/
def codeBackUptoCard : Claim7 := { stood := { row := codeBackUptoRow, standIns := [], harness := (true, "8faa6f7aeb87ac95a22236d4faeb5d0f1a63266d280173b50b80cf935c5bf751"), looks := true }, kinds := [], alts := [], laidByText := true, laidKinds := [.data], laidTests := true, laidLooks := .later }
def CodeBackUptoCardSaid : Prop := Claim7.holds Tryd.pinned (.plain (OpenSpec.upto codeBackSpec)) codeBackUptoCard

/-- THE SECOND FORM's CARD OF 'tierlinekeep.CodeFixed'. -/
def codeFixedUptoCard : Claim7 := { stood := { row := codeFixedUptoRow, standIns := [], harness := (true, "8faa6f7aeb87ac95a22236d4faeb5d0f1a63266d280173b50b80cf935c5bf751"), looks := true }, kinds := [], alts := [], laidByText := true, laidKinds := [.data], laidTests := true, laidLooks := .later }
def CodeFixedUptoCardSaid : Prop := Claim7.holds Tryd.pinned (.plain (OpenSpec.upto codeFixedSpec)) codeFixedUptoCard

/-- THE SECOND FORM's CARD OF 'tierlinekeep.CodeTorn'. -/
def codeTornUptoCard : Claim7 := { stood := { row := codeTornUptoRow, standIns := [], harness := (true, "8faa6f7aeb87ac95a22236d4faeb5d0f1a63266d280173b50b80cf935c5bf751"), looks := true }, kinds := [], alts := [], laidByText := true, laidKinds := [.data], laidTests := true, laidLooks := .later }
def CodeTornUptoCardSaid : Prop := Claim7.holds Tryd.pinned (.plain (OpenSpec.upto codeTornSpec)) codeTornUptoCard

/-- THE SECOND FORM's CARD OF 'tierlinekeep.ProofUnset'. -/
def proofUnsetUptoCard : Claim7 := { stood := { row := proofUnsetUptoRow, standIns := [], harness := (true, "8faa6f7aeb87ac95a22236d4faeb5d0f1a63266d280173b50b80cf935c5bf751"), looks := true }, kinds := [], alts := [], laidByText := true, laidKinds := [.data], laidTests := true, laidLooks := .later }
def ProofUnsetUptoCardSaid : Prop := Claim7.holds Tryd.pinned (.plain (OpenSpec.upto proofUnsetSpec)) proofUnsetUptoCard

/-- THE SECOND FORM's CARD OF 'tierlinekeep.SureFirst'. -/
def sureFirstUptoCard : Claim7 := { stood := { row := sureFirstUptoRow, standIns := [], harness := (true, "8faa6f7aeb87ac95a22236d4faeb5d0f1a63266d280173b50b80cf935c5bf751"), looks := true }, kinds := [], alts := [], laidByText := true, laidKinds := [.data], laidTests := true, laidLooks := .later }
def SureFirstUptoCardSaid : Prop := Claim7.holds Tryd.pinned (.plain (OpenSpec.upto sureFirstSpec)) sureFirstUptoCard

/-- THE SECOND FORM's CARD OF 'tierlinekeep.TrimSmall'. -/
def trimSmallUptoCard : Claim7 := { stood := { row := trimSmallUptoRow, standIns := [], harness := (true, "8faa6f7aeb87ac95a22236d4faeb5d0f1a63266d280173b50b80cf935c5bf751"), looks := true }, kinds := [], alts := [], laidByText := true, laidKinds := [.data], laidTests := true, laidLooks := .later }
def TrimSmallUptoCardSaid : Prop := Claim7.holds Tryd.pinned (.plain (OpenSpec.upto trimSmallSpec)) trimSmallUptoCard

/-- THE SECOND FORM's CARD OF 'tierlinekeep.TrimAgain'. -/
def trimAgainUptoCard : Claim7 := { stood := { row := trimAgainUptoRow, standIns := [], harness := (true, "8faa6f7aeb87ac95a22236d4faeb5d0f1a63266d280173b50b80cf935c5bf751"), looks := true }, kinds := [], alts := [], laidByText := true, laidKinds := [.data], laidTests := true, laidLooks := .later }
def TrimAgainUptoCardSaid : Prop := Claim7.holds Tryd.pinned (.plain (OpenSpec.upto trimAgainSpec)) trimAgainUptoCard
end Rows
end Go.Proofs.YtabeodibaogcbaaDoor
