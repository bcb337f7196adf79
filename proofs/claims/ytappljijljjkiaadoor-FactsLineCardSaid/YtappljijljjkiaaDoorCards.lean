/-
  DERIVED. GIVEN WITH THE SEED: THE CARDS: each row of YtappljijljjkiaaDoorRows.lean that lists a variable, with what it lists TIED to the program's text (the seventh form; the later family's looks); each row that meets fmt, with fmt's text TOLD by the authors' own Lean function (tested against real Go, not proved from fmt's source: count such statements apart). THE CARD IS WHAT COUNTS. Prove the row's statement (the work); the ties are given (YtappljijljjkiaaDoorTie.lean); close each card by the builder's one call (the guide's Derived/Test/ToyasCard.lean, 'card_holds'). Laid BY PROGRAM, IN A SANDBOX (cutbox-door.mjs). By AI agents, Wed Nov 11 2026. No macro, syntax, notation, axiom, sorry.
-/
import Derived.Test.YtappljijljjkiaaDoorRows
import GoSem.ClaimSeven
namespace Go.Proofs.YtappljijljjkiaaDoor
namespace Rows

/-- THE TIED CARD OF 'tierlinekeep.SheetBack'. -/
def sheetBackCard : Claim7 := { stood := { row := sheetBackRow, standIns := [], harness := (true, "1fa8ce85ddc38384c220eeae08c9debc078536e38f7e47179ee200522ce44cc3"), looks := true }, kinds := [], alts := [], laidByText := true, laidKinds := [.data, .data, .data, .data, .sentinel, .sentinel, .data, .data, .pinned], laidTests := true, laidLooks := .later }
def SheetBackCardSaid : Prop := Claim7.holds Tryd.pinned (.plain (OpenSpec.ofChange sheetBackSpec)) sheetBackCard

/-- THE TIED CARD OF 'tierlinekeep.SheetTorn'. -/
def sheetTornCard : Claim7 := { stood := { row := sheetTornRow, standIns := [], harness := (true, "1fa8ce85ddc38384c220eeae08c9debc078536e38f7e47179ee200522ce44cc3"), looks := true }, kinds := [], alts := [], laidByText := true, laidKinds := [.data, .data, .data, .data, .sentinel, .sentinel, .data, .data, .pinned], laidTests := true, laidLooks := .later }
def SheetTornCardSaid : Prop := Claim7.holds Tryd.pinned (.plain (OpenSpec.ofChange sheetTornSpec)) sheetTornCard

/-- THE TIED CARD OF 'tierlinekeep.SheetFixed'. -/
def sheetFixedCard : Claim7 := { stood := { row := sheetFixedRow, standIns := [], harness := (true, "1fa8ce85ddc38384c220eeae08c9debc078536e38f7e47179ee200522ce44cc3"), looks := true }, kinds := [], alts := [], laidByText := true, laidKinds := [.data, .data, .data, .data, .sentinel, .sentinel, .data, .data, .pinned], laidTests := true, laidLooks := .later }
def SheetFixedCardSaid : Prop := Claim7.holds Tryd.pinned (.plain (OpenSpec.ofChange sheetFixedSpec)) sheetFixedCard

/-- THE TIED CARD OF 'tierlinekeep.SheetBad'. -/
def sheetBadCard : Claim7 := { stood := { row := sheetBadRow, standIns := [], harness := (true, "1fa8ce85ddc38384c220eeae08c9debc078536e38f7e47179ee200522ce44cc3"), looks := true }, kinds := [], alts := [], laidByText := true, laidKinds := [.data, .data, .data, .data, .sentinel, .sentinel, .data, .data, .pinned], laidTests := true, laidLooks := .later }
def SheetBadCardSaid : Prop := Claim7.holds Tryd.pinned (.plain (OpenSpec.ofChange sheetBadSpec)) sheetBadCard

/-- THE TIED CARD OF 'tierlinekeep.FactsSide'. -/
def factsSideCard : Claim7 := { stood := { row := factsSideRow, standIns := [], harness := (true, "1fa8ce85ddc38384c220eeae08c9debc078536e38f7e47179ee200522ce44cc3"), looks := true }, kinds := [], alts := [], laidByText := true, laidKinds := [.data], laidTests := true, laidLooks := .later }
def FactsSideCardSaid : Prop := Claim7.holds Tryd.pinned (.plain (OpenSpec.ofChange factsSideSpec)) factsSideCard

/-- THE TIED CARD OF 'tierlinekeep.FactsLoop'. -/
def factsLoopCard : Claim7 := { stood := { row := factsLoopRow, standIns := [], harness := (true, "1fa8ce85ddc38384c220eeae08c9debc078536e38f7e47179ee200522ce44cc3"), looks := true }, kinds := [], alts := [], laidByText := true, laidKinds := [.data], laidTests := true, laidLooks := .later }
def FactsLoopCardSaid : Prop := Claim7.holds Tryd.pinned (.plain (OpenSpec.ofChange factsLoopSpec)) factsLoopCard

/-- THE TIED CARD OF 'tierlinekeep.SsaTrue'. -/
def ssaTrueCard : Claim7 := { stood := { row := ssaTrueRow, standIns := [], harness := (true, "1fa8ce85ddc38384c220eeae08c9debc078536e38f7e47179ee200522ce44cc3"), looks := true }, kinds := [], alts := [], laidByText := true, laidKinds := [.data], laidTests := true, laidLooks := .later }
def SsaTrueCardSaid : Prop := Claim7.holds Tryd.pinned (.plain (OpenSpec.ofChange ssaTrueSpec)) ssaTrueCard

/-- THE TIED CARD OF 'tierlinekeep.FactsTrue'. -/
def factsTrueCard : Claim7 := { stood := { row := factsTrueRow, standIns := [], harness := (true, "1fa8ce85ddc38384c220eeae08c9debc078536e38f7e47179ee200522ce44cc3"), looks := true }, kinds := [], alts := [], laidByText := true, laidKinds := [.data], laidTests := true, laidLooks := .later }
def FactsTrueCardSaid : Prop := Claim7.holds Tryd.pinned (.plain (OpenSpec.ofChange factsTrueSpec)) factsTrueCard

/-- THE TIED CARD OF 'tierlinekeep.FactsLine'. -/
def factsLineCard : Claim7 := { stood := { row := factsLineRow, standIns := [], harness := (true, "1fa8ce85ddc38384c220eeae08c9debc078536e38f7e47179ee200522ce44cc3"), looks := true }, kinds := [], alts := [], laidByText := true, laidKinds := [.data], laidTests := true, laidLooks := .later }
def FactsLineCardSaid : Prop := Claim7.holds Tryd.pinned (.plain (OpenSpec.ofChange factsLineSpec)) factsLineCard

/-- THE TIED CARD OF 'tierlinekeep.AssignLine'. -/
def assignLineCard : Claim7 := { stood := { row := assignLineRow, standIns := [], harness := (true, "1fa8ce85ddc38384c220eeae08c9debc078536e38f7e47179ee200522ce44cc3"), looks := true }, kinds := [], alts := [], laidByText := true, laidKinds := [.data], laidTests := true, laidLooks := .later }
def AssignLineCardSaid : Prop := Claim7.holds Tryd.pinned (.plain (OpenSpec.ofChange assignLineSpec)) assignLineCard

/-- THE TIED CARD OF 'tierlinekeep.AssignKeeps'. -/
def assignKeepsCard : Claim7 := { stood := { row := assignKeepsRow, standIns := [], harness := (true, "1fa8ce85ddc38384c220eeae08c9debc078536e38f7e47179ee200522ce44cc3"), looks := true }, kinds := [], alts := [], laidByText := true, laidKinds := [.data], laidTests := true, laidLooks := .later }
def AssignKeepsCardSaid : Prop := Claim7.holds Tryd.pinned (.plain (OpenSpec.ofChange assignKeepsSpec)) assignKeepsCard

/-- THE SECOND FORM's CARD OF 'tierlinekeep.SheetBack'. -/
def sheetBackUptoCard : Claim7 := { stood := { row := sheetBackUptoRow, standIns := [], harness := (true, "1fa8ce85ddc38384c220eeae08c9debc078536e38f7e47179ee200522ce44cc3"), looks := true }, kinds := [], alts := [], laidByText := true, laidKinds := [.data, .data, .data, .data, .sentinel, .sentinel, .data, .data, .pinned], laidTests := true, laidLooks := .later }
def SheetBackUptoCardSaid : Prop := Claim7.holds Tryd.pinned (.plain (OpenSpec.upto sheetBackSpec)) sheetBackUptoCard

/-- THE SECOND FORM's CARD OF 'tierlinekeep.SheetTorn'. -/
def sheetTornUptoCard : Claim7 := { stood := { row := sheetTornUptoRow, standIns := [], harness := (true, "1fa8ce85ddc38384c220eeae08c9debc078536e38f7e47179ee200522ce44cc3"), looks := true }, kinds := [], alts := [], laidByText := true, laidKinds := [.data, .data, .data, .data, .sentinel, .sentinel, .data, .data, .pinned], laidTests := true, laidLooks := .later }
def SheetTornUptoCardSaid : Prop := Claim7.holds Tryd.pinned (.plain (OpenSpec.upto sheetTornSpec)) sheetTornUptoCard

/-- THE SECOND FORM's CARD OF 'tierlinekeep.SheetFixed'. -/
def sheetFixedUptoCard : Claim7 := { stood := { row := sheetFixedUptoRow, standIns := [], harness := (true, "1fa8ce85ddc38384c220eeae08c9debc078536e38f7e47179ee200522ce44cc3"), looks := true }, kinds := [], alts := [], laidByText := true, laidKinds := [.data, .data, .data, .data, .sentinel, .sentinel, .data, .data, .pinned], laidTests := true, laidLooks := .later }
def SheetFixedUptoCardSaid : Prop := Claim7.holds Tryd.pinned (.plain (OpenSpec.upto sheetFixedSpec)) sheetFixedUptoCard

/-- THE SECOND FORM's CARD OF 'tierlinekeep.SheetBad'. -/
def sheetBadUptoCard : Claim7 := { stood := { row := sheetBadUptoRow, standIns := [], harness := (true, "1fa8ce85ddc38384c220eeae08c9debc078536e38f7e47179ee200522ce44cc3"), looks := true }, kinds := [], alts := [], laidByText := true, laidKinds := [.data, .data, .data, .data, .sentinel, .sentinel, .data, .data, .pinned], laidTests := true, laidLooks := .later }
def SheetBadUptoCardSaid : Prop := Claim7.holds Tryd.pinned (.plain (OpenSpec.upto sheetBadSpec)) sheetBadUptoCard

/-- THE SECOND FORM's CARD OF 'tierlinekeep.FactsSide'. -/
def factsSideUptoCard : Claim7 := { stood := { row := factsSideUptoRow, standIns := [], harness := (true, "1fa8ce85ddc38384c220eeae08c9debc078536e38f7e47179ee200522ce44cc3"), looks := true }, kinds := [], alts := [], laidByText := true, laidKinds := [.data], laidTests := true, laidLooks := .later }
def FactsSideUptoCardSaid : Prop := Claim7.holds Tryd.pinned (.plain (OpenSpec.upto factsSideSpec)) factsSideUptoCard

/-- THE SECOND FORM's CARD OF 'tierlinekeep.FactsLoop'. -/
def factsLoopUptoCard : Claim7 := { stood := { row := factsLoopUptoRow, standIns := [], harness := (true, "1fa8ce85ddc38384c220eeae08c9debc078536e38f7e47179ee200522ce44cc3"), looks := true }, kinds := [], alts := [], laidByText := true, laidKinds := [.data], laidTests := true, laidLooks := .later }
def FactsLoopUptoCardSaid : Prop := Claim7.holds Tryd.pinned (.plain (OpenSpec.upto factsLoopSpec)) factsLoopUptoCard

/-- THE SECOND FORM's CARD OF 'tierlinekeep.SsaTrue'. -/
def ssaTrueUptoCard : Claim7 := { stood := { row := ssaTrueUptoRow, standIns := [], harness := (true, "1fa8ce85ddc38384c220eeae08c9debc078536e38f7e47179ee200522ce44cc3"), looks := true }, kinds := [], alts := [], laidByText := true, laidKinds := [.data], laidTests := true, laidLooks := .later }
def SsaTrueUptoCardSaid : Prop := Claim7.holds Tryd.pinned (.plain (OpenSpec.upto ssaTrueSpec)) ssaTrueUptoCard

/-- THE SECOND FORM's CARD OF 'tierlinekeep.FactsTrue'. -/
def factsTrueUptoCard : Claim7 := { stood := { row := factsTrueUptoRow, standIns := [], harness := (true, "1fa8ce85ddc38384c220eeae08c9debc078536e38f7e47179ee200522ce44cc3"), looks := true }, kinds := [], alts := [], laidByText := true, laidKinds := [.data], laidTests := true, laidLooks := .later }
def FactsTrueUptoCardSaid : Prop := Claim7.holds Tryd.pinned (.plain (OpenSpec.upto factsTrueSpec)) factsTrueUptoCard

/-- THE SECOND FORM's CARD OF 'tierlinekeep.FactsLine'. -/
def factsLineUptoCard : Claim7 := { stood := { row := factsLineUptoRow, standIns := [], harness := (true, "1fa8ce85ddc38384c220eeae08c9debc078536e38f7e47179ee200522ce44cc3"), looks := true }, kinds := [], alts := [], laidByText := true, laidKinds := [.data], laidTests := true, laidLooks := .later }
def FactsLineUptoCardSaid : Prop := Claim7.holds Tryd.pinned (.plain (OpenSpec.upto factsLineSpec)) factsLineUptoCard

/-- THE SECOND FORM's CARD OF 'tierlinekeep.AssignLine'. -/
def assignLineUptoCard : Claim7 := { stood := { row := assignLineUptoRow, standIns := [], harness := (true, "1fa8ce85ddc38384c220eeae08c9debc078536e38f7e47179ee200522ce44cc3"), looks := true }, kinds := [], alts := [], laidByText := true, laidKinds := [.data], laidTests := true, laidLooks := .later }
def AssignLineUptoCardSaid : Prop := Claim7.holds Tryd.pinned (.plain (OpenSpec.upto assignLineSpec)) assignLineUptoCard

/-- THE SECOND FORM's CARD OF 'tierlinekeep.AssignKeeps'. -/
def assignKeepsUptoCard : Claim7 := { stood := { row := assignKeepsUptoRow, standIns := [], harness := (true, "1fa8ce85ddc38384c220eeae08c9debc078536e38f7e47179ee200522ce44cc3"), looks := true }, kinds := [], alts := [], laidByText := true, laidKinds := [.data], laidTests := true, laidLooks := .later }
def AssignKeepsUptoCardSaid : Prop := Claim7.holds Tryd.pinned (.plain (OpenSpec.upto assignKeepsSpec)) assignKeepsUptoCard
end Rows
end Go.Proofs.YtappljijljjkiaaDoor
