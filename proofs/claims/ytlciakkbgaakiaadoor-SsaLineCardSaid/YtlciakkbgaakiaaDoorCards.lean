/-
  DERIVED. GIVEN WITH THE SEED: THE CARDS: each row of YtlciakkbgaakiaaDoorRows.lean that lists a variable, with what it lists TIED to the program's text (the seventh form; the later family's looks); each row that meets fmt, with fmt's text TOLD by the authors' own Lean function (tested against real Go, not proved from fmt's source: count such statements apart). THE CARD IS WHAT COUNTS. Prove the row's statement (the work); the ties are given (YtlciakkbgaakiaaDoorTie.lean); close each card by the builder's one call (the guide's Derived/Test/ToyasCard.lean, 'card_holds'). Laid BY PROGRAM, IN A SANDBOX (cutbox-door.mjs). By AI agents, Wed Nov 11 2026. No macro, syntax, notation, axiom, sorry.
-/
import Derived.Test.YtlciakkbgaakiaaDoorRows
import GoSem.ClaimSeven
namespace Go.Proofs.YtlciakkbgaakiaaDoor
namespace Rows

/-- THE TIED CARD OF 'tierlinekeep.SsaLine'. -/
def ssaLineCard : Claim7 := { stood := { row := ssaLineRow, standIns := [], harness := (true, "46a320c340798a833a9bd92911a78d7195ad2ad4dbc32a0f2d6ec7a1a11a003f"), looks := false }, kinds := [], alts := [], laidByText := true, laidKinds := [.data], laidTests := true, laidLooks := .later }
def SsaLineCardSaid : Prop := Claim7.holds Tryd.pinned (.plain (OpenSpec.ofChange ssaLineSpec)) ssaLineCard

/-- THE TIED CARD OF 'tierlinekeep.SsaOnce'. -/
def ssaOnceCard : Claim7 := { stood := { row := ssaOnceRow, standIns := [], harness := (true, "46a320c340798a833a9bd92911a78d7195ad2ad4dbc32a0f2d6ec7a1a11a003f"), looks := false }, kinds := [], alts := [], laidByText := true, laidKinds := [.data], laidTests := true, laidLooks := .later }
def SsaOnceCardSaid : Prop := Claim7.holds Tryd.pinned (.plain (OpenSpec.ofChange ssaOnceSpec)) ssaOnceCard

/-- THE TIED CARD OF 'tierlinekeep.SsaSays'. -/
def ssaSaysCard : Claim7 := { stood := { row := ssaSaysRow, standIns := [], harness := (true, "46a320c340798a833a9bd92911a78d7195ad2ad4dbc32a0f2d6ec7a1a11a003f"), looks := false }, kinds := [], alts := [], laidByText := true, laidKinds := [.data], laidTests := true, laidLooks := .later }
def SsaSaysCardSaid : Prop := Claim7.holds Tryd.pinned (.plain (OpenSpec.ofChange ssaSaysSpec)) ssaSaysCard

/-- THE TIED CARD OF 'tierlinekeep.SsaPhis'. -/
def ssaPhisCard : Claim7 := { stood := { row := ssaPhisRow, standIns := [], harness := (true, "46a320c340798a833a9bd92911a78d7195ad2ad4dbc32a0f2d6ec7a1a11a003f"), looks := false }, kinds := [], alts := [], laidByText := true, laidKinds := [.data], laidTests := true, laidLooks := .later }
def SsaPhisCardSaid : Prop := Claim7.holds Tryd.pinned (.plain (OpenSpec.ofChange ssaPhisSpec)) ssaPhisCard

/-- THE TIED CARD OF 'tierlinekeep.SsaReads'. -/
def ssaReadsCard : Claim7 := { stood := { row := ssaReadsRow, standIns := [], harness := (true, "46a320c340798a833a9bd92911a78d7195ad2ad4dbc32a0f2d6ec7a1a11a003f"), looks := false }, kinds := [], alts := [], laidByText := true, laidKinds := [.data], laidTests := true, laidLooks := .later }
def SsaReadsCardSaid : Prop := Claim7.holds Tryd.pinned (.plain (OpenSpec.ofChange ssaReadsSpec)) ssaReadsCard

/-- THE TIED CARD OF 'tierlinekeep.SsaIn'. -/
def ssaInCard : Claim7 := { stood := { row := ssaInRow, standIns := [], harness := (true, "46a320c340798a833a9bd92911a78d7195ad2ad4dbc32a0f2d6ec7a1a11a003f"), looks := false }, kinds := [], alts := [], laidByText := true, laidKinds := [.data], laidTests := true, laidLooks := .later }
def SsaInCardSaid : Prop := Claim7.holds Tryd.pinned (.plain (OpenSpec.ofChange ssaInSpec)) ssaInCard

/-- THE TIED CARD OF 'tierlinekeep.ClashEven'. -/
def clashEvenCard : Claim7 := { stood := { row := clashEvenRow, standIns := [], harness := (true, "46a320c340798a833a9bd92911a78d7195ad2ad4dbc32a0f2d6ec7a1a11a003f"), looks := false }, kinds := [], alts := [], laidByText := true, laidKinds := [.data], laidTests := true, laidLooks := .later }
def ClashEvenCardSaid : Prop := Claim7.holds Tryd.pinned (.plain (OpenSpec.ofChange clashEvenSpec)) clashEvenCard

/-- THE TIED CARD OF 'tierlinekeep.FactsForm'. -/
def factsFormCard : Claim7 := { stood := { row := factsFormRow, standIns := [], harness := (true, "46a320c340798a833a9bd92911a78d7195ad2ad4dbc32a0f2d6ec7a1a11a003f"), looks := false }, kinds := [], alts := [], laidByText := true, laidKinds := [.data], laidTests := true, laidLooks := .later }
def FactsFormCardSaid : Prop := Claim7.holds Tryd.pinned (.plain (OpenSpec.ofChange factsFormSpec)) factsFormCard

/-- THE TIED CARD OF 'tierlinekeep.FactsSide'. -/
def factsSideCard : Claim7 := { stood := { row := factsSideRow, standIns := [], harness := (true, "46a320c340798a833a9bd92911a78d7195ad2ad4dbc32a0f2d6ec7a1a11a003f"), looks := false }, kinds := [], alts := [], laidByText := true, laidKinds := [.data], laidTests := true, laidLooks := .later }
def FactsSideCardSaid : Prop := Claim7.holds Tryd.pinned (.plain (OpenSpec.ofChange factsSideSpec)) factsSideCard

/-- THE TIED CARD OF 'tierlinekeep.FactsLoop'. -/
def factsLoopCard : Claim7 := { stood := { row := factsLoopRow, standIns := [], harness := (true, "46a320c340798a833a9bd92911a78d7195ad2ad4dbc32a0f2d6ec7a1a11a003f"), looks := false }, kinds := [], alts := [], laidByText := true, laidKinds := [.data], laidTests := true, laidLooks := .later }
def FactsLoopCardSaid : Prop := Claim7.holds Tryd.pinned (.plain (OpenSpec.ofChange factsLoopSpec)) factsLoopCard

/-- THE TIED CARD OF 'tierlinekeep.SsaTrue'. -/
def ssaTrueCard : Claim7 := { stood := { row := ssaTrueRow, standIns := [], harness := (true, "46a320c340798a833a9bd92911a78d7195ad2ad4dbc32a0f2d6ec7a1a11a003f"), looks := false }, kinds := [], alts := [], laidByText := true, laidKinds := [.data], laidTests := true, laidLooks := .later }
def SsaTrueCardSaid : Prop := Claim7.holds Tryd.pinned (.plain (OpenSpec.ofChange ssaTrueSpec)) ssaTrueCard

/-- THE TIED CARD OF 'tierlinekeep.AssignLine'. -/
def assignLineCard : Claim7 := { stood := { row := assignLineRow, standIns := [], harness := (true, "46a320c340798a833a9bd92911a78d7195ad2ad4dbc32a0f2d6ec7a1a11a003f"), looks := false }, kinds := [], alts := [], laidByText := true, laidKinds := [.data], laidTests := true, laidLooks := .later }
def AssignLineCardSaid : Prop := Claim7.holds Tryd.pinned (.plain (OpenSpec.ofChange assignLineSpec)) assignLineCard

/-- THE SECOND FORM's CARD OF 'tierlinekeep.SsaLine'. -/
def ssaLineUptoCard : Claim7 := { stood := { row := ssaLineUptoRow, standIns := [], harness := (true, "46a320c340798a833a9bd92911a78d7195ad2ad4dbc32a0f2d6ec7a1a11a003f"), looks := false }, kinds := [], alts := [], laidByText := true, laidKinds := [.data], laidTests := true, laidLooks := .later }
def SsaLineUptoCardSaid : Prop := Claim7.holds Tryd.pinned (.plain (OpenSpec.upto ssaLineSpec)) ssaLineUptoCard

/-- THE SECOND FORM's CARD OF 'tierlinekeep.SsaOnce'. -/
def ssaOnceUptoCard : Claim7 := { stood := { row := ssaOnceUptoRow, standIns := [], harness := (true, "46a320c340798a833a9bd92911a78d7195ad2ad4dbc32a0f2d6ec7a1a11a003f"), looks := false }, kinds := [], alts := [], laidByText := true, laidKinds := [.data], laidTests := true, laidLooks := .later }
def SsaOnceUptoCardSaid : Prop := Claim7.holds Tryd.pinned (.plain (OpenSpec.upto ssaOnceSpec)) ssaOnceUptoCard

/-- THE SECOND FORM's CARD OF 'tierlinekeep.SsaSays'. -/
def ssaSaysUptoCard : Claim7 := { stood := { row := ssaSaysUptoRow, standIns := [], harness := (true, "46a320c340798a833a9bd92911a78d7195ad2ad4dbc32a0f2d6ec7a1a11a003f"), looks := false }, kinds := [], alts := [], laidByText := true, laidKinds := [.data], laidTests := true, laidLooks := .later }
def SsaSaysUptoCardSaid : Prop := Claim7.holds Tryd.pinned (.plain (OpenSpec.upto ssaSaysSpec)) ssaSaysUptoCard

/-- THE SECOND FORM's CARD OF 'tierlinekeep.SsaPhis'. -/
def ssaPhisUptoCard : Claim7 := { stood := { row := ssaPhisUptoRow, standIns := [], harness := (true, "46a320c340798a833a9bd92911a78d7195ad2ad4dbc32a0f2d6ec7a1a11a003f"), looks := false }, kinds := [], alts := [], laidByText := true, laidKinds := [.data], laidTests := true, laidLooks := .later }
def SsaPhisUptoCardSaid : Prop := Claim7.holds Tryd.pinned (.plain (OpenSpec.upto ssaPhisSpec)) ssaPhisUptoCard

/-- THE SECOND FORM's CARD OF 'tierlinekeep.SsaReads'. -/
def ssaReadsUptoCard : Claim7 := { stood := { row := ssaReadsUptoRow, standIns := [], harness := (true, "46a320c340798a833a9bd92911a78d7195ad2ad4dbc32a0f2d6ec7a1a11a003f"), looks := false }, kinds := [], alts := [], laidByText := true, laidKinds := [.data], laidTests := true, laidLooks := .later }
def SsaReadsUptoCardSaid : Prop := Claim7.holds Tryd.pinned (.plain (OpenSpec.upto ssaReadsSpec)) ssaReadsUptoCard

/-- THE SECOND FORM's CARD OF 'tierlinekeep.SsaIn'. -/
def ssaInUptoCard : Claim7 := { stood := { row := ssaInUptoRow, standIns := [], harness := (true, "46a320c340798a833a9bd92911a78d7195ad2ad4dbc32a0f2d6ec7a1a11a003f"), looks := false }, kinds := [], alts := [], laidByText := true, laidKinds := [.data], laidTests := true, laidLooks := .later }
def SsaInUptoCardSaid : Prop := Claim7.holds Tryd.pinned (.plain (OpenSpec.upto ssaInSpec)) ssaInUptoCard

/-- THE SECOND FORM's CARD OF 'tierlinekeep.ClashEven'. -/
def clashEvenUptoCard : Claim7 := { stood := { row := clashEvenUptoRow, standIns := [], harness := (true, "46a320c340798a833a9bd92911a78d7195ad2ad4dbc32a0f2d6ec7a1a11a003f"), looks := false }, kinds := [], alts := [], laidByText := true, laidKinds := [.data], laidTests := true, laidLooks := .later }
def ClashEvenUptoCardSaid : Prop := Claim7.holds Tryd.pinned (.plain (OpenSpec.upto clashEvenSpec)) clashEvenUptoCard

/-- THE SECOND FORM's CARD OF 'tierlinekeep.FactsForm'. -/
def factsFormUptoCard : Claim7 := { stood := { row := factsFormUptoRow, standIns := [], harness := (true, "46a320c340798a833a9bd92911a78d7195ad2ad4dbc32a0f2d6ec7a1a11a003f"), looks := false }, kinds := [], alts := [], laidByText := true, laidKinds := [.data], laidTests := true, laidLooks := .later }
def FactsFormUptoCardSaid : Prop := Claim7.holds Tryd.pinned (.plain (OpenSpec.upto factsFormSpec)) factsFormUptoCard

/-- THE SECOND FORM's CARD OF 'tierlinekeep.FactsSide'. -/
def factsSideUptoCard : Claim7 := { stood := { row := factsSideUptoRow, standIns := [], harness := (true, "46a320c340798a833a9bd92911a78d7195ad2ad4dbc32a0f2d6ec7a1a11a003f"), looks := false }, kinds := [], alts := [], laidByText := true, laidKinds := [.data], laidTests := true, laidLooks := .later }
def FactsSideUptoCardSaid : Prop := Claim7.holds Tryd.pinned (.plain (OpenSpec.upto factsSideSpec)) factsSideUptoCard

/-- THE SECOND FORM's CARD OF 'tierlinekeep.FactsLoop'. -/
def factsLoopUptoCard : Claim7 := { stood := { row := factsLoopUptoRow, standIns := [], harness := (true, "46a320c340798a833a9bd92911a78d7195ad2ad4dbc32a0f2d6ec7a1a11a003f"), looks := false }, kinds := [], alts := [], laidByText := true, laidKinds := [.data], laidTests := true, laidLooks := .later }
def FactsLoopUptoCardSaid : Prop := Claim7.holds Tryd.pinned (.plain (OpenSpec.upto factsLoopSpec)) factsLoopUptoCard

/-- THE SECOND FORM's CARD OF 'tierlinekeep.SsaTrue'. -/
def ssaTrueUptoCard : Claim7 := { stood := { row := ssaTrueUptoRow, standIns := [], harness := (true, "46a320c340798a833a9bd92911a78d7195ad2ad4dbc32a0f2d6ec7a1a11a003f"), looks := false }, kinds := [], alts := [], laidByText := true, laidKinds := [.data], laidTests := true, laidLooks := .later }
def SsaTrueUptoCardSaid : Prop := Claim7.holds Tryd.pinned (.plain (OpenSpec.upto ssaTrueSpec)) ssaTrueUptoCard

/-- THE SECOND FORM's CARD OF 'tierlinekeep.AssignLine'. -/
def assignLineUptoCard : Claim7 := { stood := { row := assignLineUptoRow, standIns := [], harness := (true, "46a320c340798a833a9bd92911a78d7195ad2ad4dbc32a0f2d6ec7a1a11a003f"), looks := false }, kinds := [], alts := [], laidByText := true, laidKinds := [.data], laidTests := true, laidLooks := .later }
def AssignLineUptoCardSaid : Prop := Claim7.holds Tryd.pinned (.plain (OpenSpec.upto assignLineSpec)) assignLineUptoCard
end Rows
end Go.Proofs.YtlciakkbgaakiaaDoor
