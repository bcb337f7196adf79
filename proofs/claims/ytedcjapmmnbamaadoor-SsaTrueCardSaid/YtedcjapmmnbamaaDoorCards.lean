/-
  DERIVED. GIVEN WITH THE SEED: THE CARDS: each row of YtedcjapmmnbamaaDoorRows.lean that lists a variable, with what it lists TIED to the program's text (the seventh form; the later family's looks); each row that meets fmt, with fmt's text TOLD by the authors' own Lean function (tested against real Go, not proved from fmt's source: count such statements apart). THE CARD IS WHAT COUNTS. Prove the row's statement (the work); the ties are given (YtedcjapmmnbamaaDoorTie.lean); close each card by the builder's one call (the guide's Derived/Test/ToyasCard.lean, 'card_holds'). Laid BY PROGRAM, IN A SANDBOX (cutbox-door.mjs). By AI agents, Wed Nov 11 2026. No macro, syntax, notation, axiom, sorry.
-/
import Derived.Test.YtedcjapmmnbamaaDoorRows
import GoSem.ClaimSeven
namespace Go.Proofs.YtedcjapmmnbamaaDoor
namespace Rows

/-- THE TIED CARD OF 'tierlinekeep.SsaTrue'. -/
def ssaTrueCard : Claim7 := { stood := { row := ssaTrueRow, standIns := [], harness := (true, "88dca08a0e001dc95d5f3deaff00643acf3a5396dff67b684fc678d1c213ef0f"), looks := false }, kinds := [], alts := [], laidByText := true, laidKinds := [.data], laidTests := true, laidLooks := .later }
def SsaTrueCardSaid : Prop := Claim7.holds Tryd.pinned (.plain (OpenSpec.ofChange ssaTrueSpec)) ssaTrueCard

/-- THE TIED CARD OF 'tierlinekeep.FactsTrue'. -/
def factsTrueCard : Claim7 := { stood := { row := factsTrueRow, standIns := [], harness := (true, "88dca08a0e001dc95d5f3deaff00643acf3a5396dff67b684fc678d1c213ef0f"), looks := false }, kinds := [], alts := [], laidByText := true, laidKinds := [.data], laidTests := true, laidLooks := .later }
def FactsTrueCardSaid : Prop := Claim7.holds Tryd.pinned (.plain (OpenSpec.ofChange factsTrueSpec)) factsTrueCard

/-- THE TIED CARD OF 'tierlinekeep.AssignLine'. -/
def assignLineCard : Claim7 := { stood := { row := assignLineRow, standIns := [], harness := (true, "88dca08a0e001dc95d5f3deaff00643acf3a5396dff67b684fc678d1c213ef0f"), looks := false }, kinds := [], alts := [], laidByText := true, laidKinds := [.data], laidTests := true, laidLooks := .later }
def AssignLineCardSaid : Prop := Claim7.holds Tryd.pinned (.plain (OpenSpec.ofChange assignLineSpec)) assignLineCard

/-- THE TIED CARD OF 'tierlinekeep.AssignKeeps'. -/
def assignKeepsCard : Claim7 := { stood := { row := assignKeepsRow, standIns := [], harness := (true, "88dca08a0e001dc95d5f3deaff00643acf3a5396dff67b684fc678d1c213ef0f"), looks := false }, kinds := [], alts := [], laidByText := true, laidKinds := [.data], laidTests := true, laidLooks := .later }
def AssignKeepsCardSaid : Prop := Claim7.holds Tryd.pinned (.plain (OpenSpec.ofChange assignKeepsSpec)) assignKeepsCard

/-- THE SECOND FORM's CARD OF 'tierlinekeep.SsaTrue'. -/
def ssaTrueUptoCard : Claim7 := { stood := { row := ssaTrueUptoRow, standIns := [], harness := (true, "88dca08a0e001dc95d5f3deaff00643acf3a5396dff67b684fc678d1c213ef0f"), looks := false }, kinds := [], alts := [], laidByText := true, laidKinds := [.data], laidTests := true, laidLooks := .later }
def SsaTrueUptoCardSaid : Prop := Claim7.holds Tryd.pinned (.plain (OpenSpec.upto ssaTrueSpec)) ssaTrueUptoCard

/-- THE SECOND FORM's CARD OF 'tierlinekeep.FactsTrue'. -/
def factsTrueUptoCard : Claim7 := { stood := { row := factsTrueUptoRow, standIns := [], harness := (true, "88dca08a0e001dc95d5f3deaff00643acf3a5396dff67b684fc678d1c213ef0f"), looks := false }, kinds := [], alts := [], laidByText := true, laidKinds := [.data], laidTests := true, laidLooks := .later }
def FactsTrueUptoCardSaid : Prop := Claim7.holds Tryd.pinned (.plain (OpenSpec.upto factsTrueSpec)) factsTrueUptoCard

/-- THE SECOND FORM's CARD OF 'tierlinekeep.AssignLine'. -/
def assignLineUptoCard : Claim7 := { stood := { row := assignLineUptoRow, standIns := [], harness := (true, "88dca08a0e001dc95d5f3deaff00643acf3a5396dff67b684fc678d1c213ef0f"), looks := false }, kinds := [], alts := [], laidByText := true, laidKinds := [.data], laidTests := true, laidLooks := .later }
def AssignLineUptoCardSaid : Prop := Claim7.holds Tryd.pinned (.plain (OpenSpec.upto assignLineSpec)) assignLineUptoCard

/-- THE SECOND FORM's CARD OF 'tierlinekeep.AssignKeeps'. -/
def assignKeepsUptoCard : Claim7 := { stood := { row := assignKeepsUptoRow, standIns := [], harness := (true, "88dca08a0e001dc95d5f3deaff00643acf3a5396dff67b684fc678d1c213ef0f"), looks := false }, kinds := [], alts := [], laidByText := true, laidKinds := [.data], laidTests := true, laidLooks := .later }
def AssignKeepsUptoCardSaid : Prop := Claim7.holds Tryd.pinned (.plain (OpenSpec.upto assignKeepsSpec)) assignKeepsUptoCard
end Rows
end Go.Proofs.YtedcjapmmnbamaaDoor
