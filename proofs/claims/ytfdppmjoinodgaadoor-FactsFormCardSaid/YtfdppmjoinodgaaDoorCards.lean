/-
  DERIVED. GIVEN WITH THE SEED: THE CARDS: each row of YtfdppmjoinodgaaDoorRows.lean that lists a variable, with what it lists TIED to the program's text (the seventh form; the later family's looks); each row that meets fmt, with fmt's text TOLD by the authors' own Lean function (tested against real Go, not proved from fmt's source: count such statements apart). THE CARD IS WHAT COUNTS. Prove the row's statement (the work); the ties are given (YtfdppmjoinodgaaDoorTie.lean); close each card by the builder's one call (the guide's Derived/Test/ToyasCard.lean, 'card_holds'). Laid BY PROGRAM, IN A SANDBOX (cutbox-door.mjs). By AI agents, Wed Nov 11 2026. No macro, syntax, notation, axiom, sorry.
-/
import Derived.Test.YtfdppmjoinodgaaDoorRows
import GoSem.ClaimSeven
namespace Go.Proofs.YtfdppmjoinodgaaDoor
namespace Rows

/-- THE TIED CARD OF 'tierlinekeep.ClashEven'. -/
def clashEvenCard : Claim7 := { stood := { row := clashEvenRow, standIns := [], harness := (true, "e692d10e3a76592b56d706538144cefb4ce4d58bde5ed9852ed655075d3a50db"), looks := false }, kinds := [], alts := [], laidByText := true, laidKinds := [.data], laidTests := true, laidLooks := .later }
def ClashEvenCardSaid : Prop := Claim7.holds Tryd.pinned (.plain (OpenSpec.ofChange clashEvenSpec)) clashEvenCard

/-- THE TIED CARD OF 'tierlinekeep.FactsForm'. -/
def factsFormCard : Claim7 := { stood := { row := factsFormRow, standIns := [], harness := (true, "e692d10e3a76592b56d706538144cefb4ce4d58bde5ed9852ed655075d3a50db"), looks := false }, kinds := [], alts := [], laidByText := true, laidKinds := [.data], laidTests := true, laidLooks := .later }
def FactsFormCardSaid : Prop := Claim7.holds Tryd.pinned (.plain (OpenSpec.ofChange factsFormSpec)) factsFormCard

/-- THE TIED CARD OF 'tierlinekeep.FactsSide'. -/
def factsSideCard : Claim7 := { stood := { row := factsSideRow, standIns := [], harness := (true, "e692d10e3a76592b56d706538144cefb4ce4d58bde5ed9852ed655075d3a50db"), looks := false }, kinds := [], alts := [], laidByText := true, laidKinds := [.data], laidTests := true, laidLooks := .later }
def FactsSideCardSaid : Prop := Claim7.holds Tryd.pinned (.plain (OpenSpec.ofChange factsSideSpec)) factsSideCard

/-- THE TIED CARD OF 'tierlinekeep.FactsLoop'. -/
def factsLoopCard : Claim7 := { stood := { row := factsLoopRow, standIns := [], harness := (true, "e692d10e3a76592b56d706538144cefb4ce4d58bde5ed9852ed655075d3a50db"), looks := false }, kinds := [], alts := [], laidByText := true, laidKinds := [.data], laidTests := true, laidLooks := .later }
def FactsLoopCardSaid : Prop := Claim7.holds Tryd.pinned (.plain (OpenSpec.ofChange factsLoopSpec)) factsLoopCard

/-- THE TIED CARD OF 'tierlinekeep.SsaTrue'. -/
def ssaTrueCard : Claim7 := { stood := { row := ssaTrueRow, standIns := [], harness := (true, "e692d10e3a76592b56d706538144cefb4ce4d58bde5ed9852ed655075d3a50db"), looks := false }, kinds := [], alts := [], laidByText := true, laidKinds := [.data], laidTests := true, laidLooks := .later }
def SsaTrueCardSaid : Prop := Claim7.holds Tryd.pinned (.plain (OpenSpec.ofChange ssaTrueSpec)) ssaTrueCard

/-- THE TIED CARD OF 'tierlinekeep.FactsTrue'. -/
def factsTrueCard : Claim7 := { stood := { row := factsTrueRow, standIns := [], harness := (true, "e692d10e3a76592b56d706538144cefb4ce4d58bde5ed9852ed655075d3a50db"), looks := false }, kinds := [], alts := [], laidByText := true, laidKinds := [.data], laidTests := true, laidLooks := .later }
def FactsTrueCardSaid : Prop := Claim7.holds Tryd.pinned (.plain (OpenSpec.ofChange factsTrueSpec)) factsTrueCard

/-- THE TIED CARD OF 'tierlinekeep.FactsLine'. -/
def factsLineCard : Claim7 := { stood := { row := factsLineRow, standIns := [], harness := (true, "e692d10e3a76592b56d706538144cefb4ce4d58bde5ed9852ed655075d3a50db"), looks := false }, kinds := [], alts := [], laidByText := true, laidKinds := [.data], laidTests := true, laidLooks := .later }
def FactsLineCardSaid : Prop := Claim7.holds Tryd.pinned (.plain (OpenSpec.ofChange factsLineSpec)) factsLineCard

/-- THE TIED CARD OF 'tierlinekeep.AssignLine'. -/
def assignLineCard : Claim7 := { stood := { row := assignLineRow, standIns := [], harness := (true, "e692d10e3a76592b56d706538144cefb4ce4d58bde5ed9852ed655075d3a50db"), looks := false }, kinds := [], alts := [], laidByText := true, laidKinds := [.data], laidTests := true, laidLooks := .later }
def AssignLineCardSaid : Prop := Claim7.holds Tryd.pinned (.plain (OpenSpec.ofChange assignLineSpec)) assignLineCard

/-- THE TIED CARD OF 'tierlinekeep.AssignKeeps'. -/
def assignKeepsCard : Claim7 := { stood := { row := assignKeepsRow, standIns := [], harness := (true, "e692d10e3a76592b56d706538144cefb4ce4d58bde5ed9852ed655075d3a50db"), looks := false }, kinds := [], alts := [], laidByText := true, laidKinds := [.data], laidTests := true, laidLooks := .later }
def AssignKeepsCardSaid : Prop := Claim7.holds Tryd.pinned (.plain (OpenSpec.ofChange assignKeepsSpec)) assignKeepsCard

/-- THE SECOND FORM's CARD OF 'tierlinekeep.ClashEven'. -/
def clashEvenUptoCard : Claim7 := { stood := { row := clashEvenUptoRow, standIns := [], harness := (true, "e692d10e3a76592b56d706538144cefb4ce4d58bde5ed9852ed655075d3a50db"), looks := false }, kinds := [], alts := [], laidByText := true, laidKinds := [.data], laidTests := true, laidLooks := .later }
def ClashEvenUptoCardSaid : Prop := Claim7.holds Tryd.pinned (.plain (OpenSpec.upto clashEvenSpec)) clashEvenUptoCard

/-- THE SECOND FORM's CARD OF 'tierlinekeep.FactsForm'. -/
def factsFormUptoCard : Claim7 := { stood := { row := factsFormUptoRow, standIns := [], harness := (true, "e692d10e3a76592b56d706538144cefb4ce4d58bde5ed9852ed655075d3a50db"), looks := false }, kinds := [], alts := [], laidByText := true, laidKinds := [.data], laidTests := true, laidLooks := .later }
def FactsFormUptoCardSaid : Prop := Claim7.holds Tryd.pinned (.plain (OpenSpec.upto factsFormSpec)) factsFormUptoCard

/-- THE SECOND FORM's CARD OF 'tierlinekeep.FactsSide'. -/
def factsSideUptoCard : Claim7 := { stood := { row := factsSideUptoRow, standIns := [], harness := (true, "e692d10e3a76592b56d706538144cefb4ce4d58bde5ed9852ed655075d3a50db"), looks := false }, kinds := [], alts := [], laidByText := true, laidKinds := [.data], laidTests := true, laidLooks := .later }
def FactsSideUptoCardSaid : Prop := Claim7.holds Tryd.pinned (.plain (OpenSpec.upto factsSideSpec)) factsSideUptoCard

/-- THE SECOND FORM's CARD OF 'tierlinekeep.FactsLoop'. -/
def factsLoopUptoCard : Claim7 := { stood := { row := factsLoopUptoRow, standIns := [], harness := (true, "e692d10e3a76592b56d706538144cefb4ce4d58bde5ed9852ed655075d3a50db"), looks := false }, kinds := [], alts := [], laidByText := true, laidKinds := [.data], laidTests := true, laidLooks := .later }
def FactsLoopUptoCardSaid : Prop := Claim7.holds Tryd.pinned (.plain (OpenSpec.upto factsLoopSpec)) factsLoopUptoCard

/-- THE SECOND FORM's CARD OF 'tierlinekeep.SsaTrue'. -/
def ssaTrueUptoCard : Claim7 := { stood := { row := ssaTrueUptoRow, standIns := [], harness := (true, "e692d10e3a76592b56d706538144cefb4ce4d58bde5ed9852ed655075d3a50db"), looks := false }, kinds := [], alts := [], laidByText := true, laidKinds := [.data], laidTests := true, laidLooks := .later }
def SsaTrueUptoCardSaid : Prop := Claim7.holds Tryd.pinned (.plain (OpenSpec.upto ssaTrueSpec)) ssaTrueUptoCard

/-- THE SECOND FORM's CARD OF 'tierlinekeep.FactsTrue'. -/
def factsTrueUptoCard : Claim7 := { stood := { row := factsTrueUptoRow, standIns := [], harness := (true, "e692d10e3a76592b56d706538144cefb4ce4d58bde5ed9852ed655075d3a50db"), looks := false }, kinds := [], alts := [], laidByText := true, laidKinds := [.data], laidTests := true, laidLooks := .later }
def FactsTrueUptoCardSaid : Prop := Claim7.holds Tryd.pinned (.plain (OpenSpec.upto factsTrueSpec)) factsTrueUptoCard

/-- THE SECOND FORM's CARD OF 'tierlinekeep.FactsLine'. -/
def factsLineUptoCard : Claim7 := { stood := { row := factsLineUptoRow, standIns := [], harness := (true, "e692d10e3a76592b56d706538144cefb4ce4d58bde5ed9852ed655075d3a50db"), looks := false }, kinds := [], alts := [], laidByText := true, laidKinds := [.data], laidTests := true, laidLooks := .later }
def FactsLineUptoCardSaid : Prop := Claim7.holds Tryd.pinned (.plain (OpenSpec.upto factsLineSpec)) factsLineUptoCard

/-- THE SECOND FORM's CARD OF 'tierlinekeep.AssignLine'. -/
def assignLineUptoCard : Claim7 := { stood := { row := assignLineUptoRow, standIns := [], harness := (true, "e692d10e3a76592b56d706538144cefb4ce4d58bde5ed9852ed655075d3a50db"), looks := false }, kinds := [], alts := [], laidByText := true, laidKinds := [.data], laidTests := true, laidLooks := .later }
def AssignLineUptoCardSaid : Prop := Claim7.holds Tryd.pinned (.plain (OpenSpec.upto assignLineSpec)) assignLineUptoCard

/-- THE SECOND FORM's CARD OF 'tierlinekeep.AssignKeeps'. -/
def assignKeepsUptoCard : Claim7 := { stood := { row := assignKeepsUptoRow, standIns := [], harness := (true, "e692d10e3a76592b56d706538144cefb4ce4d58bde5ed9852ed655075d3a50db"), looks := false }, kinds := [], alts := [], laidByText := true, laidKinds := [.data], laidTests := true, laidLooks := .later }
def AssignKeepsUptoCardSaid : Prop := Claim7.holds Tryd.pinned (.plain (OpenSpec.upto assignKeepsSpec)) assignKeepsUptoCard
end Rows
end Go.Proofs.YtfdppmjoinodgaaDoor
