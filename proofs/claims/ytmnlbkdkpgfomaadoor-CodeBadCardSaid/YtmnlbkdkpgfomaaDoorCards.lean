/-
  DERIVED. GIVEN WITH THE SEED: THE CARDS: each row of YtmnlbkdkpgfomaaDoorRows.lean that lists a variable, with what it lists TIED to the program's text (the seventh form; the later family's looks); each row that meets fmt, with fmt's text TOLD by the authors' own Lean function (tested against real Go, not proved from fmt's source: count such statements apart). THE CARD IS WHAT COUNTS. Prove the row's statement (the work); the ties are given (YtmnlbkdkpgfomaaDoorTie.lean); close each card by the builder's one call (the guide's Derived/Test/ToyasCard.lean, 'card_holds'). Laid BY PROGRAM, IN A SANDBOX (cutbox-door.mjs). By AI agents, Wed Nov 11 2026. No macro, syntax, notation, axiom, sorry.
-/
import Derived.Test.YtmnlbkdkpgfomaaDoorRows
import GoSem.ClaimSeven
namespace Go.Proofs.YtmnlbkdkpgfomaaDoor
namespace Rows

/-- THE TIED CARD OF 'tierlinekeep.CodeBad'. -/
def codeBadCard : Claim7 := { stood := { row := codeBadRow, standIns := [], harness := (true, "eb4bab79a08a7614f13f853ca42b33f0a6a3bd11e979d1c314bd29e55fe24944"), looks := true }, kinds := [], alts := [], laidByText := true, laidKinds := [.data], laidTests := true, laidLooks := .later }
def CodeBadCardSaid : Prop := Claim7.holds Tryd.pinned (.plain (OpenSpec.ofChange codeBadSpec)) codeBadCard

/-- THE TIED CARD OF 'tierlinekeep.CodeBack'. -/
def codeBackCard : Claim7 := { stood := { row := codeBackRow, standIns := [], harness := (true, "eb4bab79a08a7614f13f853ca42b33f0a6a3bd11e979d1c314bd29e55fe24944"), looks := true }, kinds := [], alts := [], laidByText := true, laidKinds := [.data], laidTests := true, laidLooks := .later }
def CodeBackCardSaid : Prop := Claim7.holds Tryd.pinned (.plain (OpenSpec.ofChange codeBackSpec)) codeBackCard

/-- THE TIED CARD OF 'tierlinekeep.CodeFixed'. -/
def codeFixedCard : Claim7 := { stood := { row := codeFixedRow, standIns := [], harness := (true, "eb4bab79a08a7614f13f853ca42b33f0a6a3bd11e979d1c314bd29e55fe24944"), looks := true }, kinds := [], alts := [], laidByText := true, laidKinds := [.data], laidTests := true, laidLooks := .later }
def CodeFixedCardSaid : Prop := Claim7.holds Tryd.pinned (.plain (OpenSpec.ofChange codeFixedSpec)) codeFixedCard

/-- THE TIED CARD OF 'tierlinekeep.CodeTorn'. -/
def codeTornCard : Claim7 := { stood := { row := codeTornRow, standIns := [], harness := (true, "eb4bab79a08a7614f13f853ca42b33f0a6a3bd11e979d1c314bd29e55fe24944"), looks := true }, kinds := [], alts := [], laidByText := true, laidKinds := [.data], laidTests := true, laidLooks := .later }
def CodeTornCardSaid : Prop := Claim7.holds Tryd.pinned (.plain (OpenSpec.ofChange codeTornSpec)) codeTornCard

/-- THE SECOND FORM's CARD OF 'tierlinekeep.CodeBad'. -/
def codeBadUptoCard : Claim7 := { stood := { row := codeBadUptoRow, standIns := [], harness := (true, "eb4bab79a08a7614f13f853ca42b33f0a6a3bd11e979d1c314bd29e55fe24944"), looks := true }, kinds := [], alts := [], laidByText := true, laidKinds := [.data], laidTests := true, laidLooks := .later }
def CodeBadUptoCardSaid : Prop := Claim7.holds Tryd.pinned (.plain (OpenSpec.upto codeBadSpec)) codeBadUptoCard

/-- THE SECOND FORM's CARD OF 'tierlinekeep.CodeBack'. -/
def codeBackUptoCard : Claim7 := { stood := { row := codeBackUptoRow, standIns := [], harness := (true, "eb4bab79a08a7614f13f853ca42b33f0a6a3bd11e979d1c314bd29e55fe24944"), looks := true }, kinds := [], alts := [], laidByText := true, laidKinds := [.data], laidTests := true, laidLooks := .later }
def CodeBackUptoCardSaid : Prop := Claim7.holds Tryd.pinned (.plain (OpenSpec.upto codeBackSpec)) codeBackUptoCard

/-- THE SECOND FORM's CARD OF 'tierlinekeep.CodeFixed'. -/
def codeFixedUptoCard : Claim7 := { stood := { row := codeFixedUptoRow, standIns := [], harness := (true, "eb4bab79a08a7614f13f853ca42b33f0a6a3bd11e979d1c314bd29e55fe24944"), looks := true }, kinds := [], alts := [], laidByText := true, laidKinds := [.data], laidTests := true, laidLooks := .later }
def CodeFixedUptoCardSaid : Prop := Claim7.holds Tryd.pinned (.plain (OpenSpec.upto codeFixedSpec)) codeFixedUptoCard

/-- THE SECOND FORM's CARD OF 'tierlinekeep.CodeTorn'. -/
def codeTornUptoCard : Claim7 := { stood := { row := codeTornUptoRow, standIns := [], harness := (true, "eb4bab79a08a7614f13f853ca42b33f0a6a3bd11e979d1c314bd29e55fe24944"), looks := true }, kinds := [], alts := [], laidByText := true, laidKinds := [.data], laidTests := true, laidLooks := .later }
def CodeTornUptoCardSaid : Prop := Claim7.holds Tryd.pinned (.plain (OpenSpec.upto codeTornSpec)) codeTornUptoCard
end Rows
end Go.Proofs.YtmnlbkdkpgfomaaDoor
