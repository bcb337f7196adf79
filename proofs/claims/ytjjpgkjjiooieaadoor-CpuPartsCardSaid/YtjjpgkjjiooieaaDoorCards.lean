/-
  DERIVED. GIVEN WITH THE SEED: THE CARDS: each row of YtjjpgkjjiooieaaDoorRows.lean that lists a variable, with what it lists TIED to the program's text (the seventh form; the later family's looks); each row that meets fmt, with fmt's text TOLD by the authors' own Lean function (tested against real Go, not proved from fmt's source: count such statements apart). THE CARD IS WHAT COUNTS. Prove the row's statement (the work); the ties are given (YtjjpgkjjiooieaaDoorTie.lean); close each card by the builder's one call (the guide's Derived/Test/ToyasCard.lean, 'card_holds'). Laid BY PROGRAM, IN A SANDBOX (cutbox-door.mjs). By AI agents, Wed Nov 11 2026. No macro, syntax, notation, axiom, sorry.
-/
import Derived.Test.YtjjpgkjjiooieaaDoorRows
import GoSem.ClaimSeven
namespace Go.Proofs.YtjjpgkjjiooieaaDoor
namespace Rows

/-- THE TIED CARD OF 'tierlinekeep.CpuSelf'. -/
def cpuSelfCard : Claim7 := { stood := { row := cpuSelfRow, standIns := [], harness := (true, "f75d7c9e87b3b8a88650da002fd0ee3a94f1e16c0e10efa893b2fa764cd6aaf2"), looks := false }, kinds := [], alts := [], laidByText := true, laidKinds := [.data, .data], laidTests := true, laidLooks := .later }
def CpuSelfCardSaid : Prop := Claim7.holds Tryd.pinned (.plain (OpenSpec.ofChange cpuSelfSpec)) cpuSelfCard

/-- THE TIED CARD OF 'tierlinekeep.CpuData'. -/
def cpuDataCard : Claim7 := { stood := { row := cpuDataRow, standIns := [], harness := (true, "f75d7c9e87b3b8a88650da002fd0ee3a94f1e16c0e10efa893b2fa764cd6aaf2"), looks := false }, kinds := [], alts := [], laidByText := true, laidKinds := [.data, .data], laidTests := true, laidLooks := .later }
def CpuDataCardSaid : Prop := Claim7.holds Tryd.pinned (.plain (OpenSpec.ofChange cpuDataSpec)) cpuDataCard

/-- THE TIED CARD OF 'tierlinekeep.CpuJumps'. -/
def cpuJumpsCard : Claim7 := { stood := { row := cpuJumpsRow, standIns := [], harness := (true, "f75d7c9e87b3b8a88650da002fd0ee3a94f1e16c0e10efa893b2fa764cd6aaf2"), looks := false }, kinds := [], alts := [], laidByText := true, laidKinds := [.data, .data], laidTests := true, laidLooks := .later }
def CpuJumpsCardSaid : Prop := Claim7.holds Tryd.pinned (.plain (OpenSpec.ofChange cpuJumpsSpec)) cpuJumpsCard

/-- THE TIED CARD OF 'tierlinekeep.CpuNumbers'. -/
def cpuNumbersCard : Claim7 := { stood := { row := cpuNumbersRow, standIns := [], harness := (true, "f75d7c9e87b3b8a88650da002fd0ee3a94f1e16c0e10efa893b2fa764cd6aaf2"), looks := false }, kinds := [], alts := [], laidByText := true, laidKinds := [.data, .data], laidTests := true, laidLooks := .later }
def CpuNumbersCardSaid : Prop := Claim7.holds Tryd.pinned (.plain (OpenSpec.ofChange cpuNumbersSpec)) cpuNumbersCard

/-- THE TIED CARD OF 'tierlinekeep.CpuLui'. -/
def cpuLuiCard : Claim7 := { stood := { row := cpuLuiRow, standIns := [], harness := (true, "f75d7c9e87b3b8a88650da002fd0ee3a94f1e16c0e10efa893b2fa764cd6aaf2"), looks := false }, kinds := [], alts := [], laidByText := true, laidKinds := [.data, .data], laidTests := true, laidLooks := .later }
def CpuLuiCardSaid : Prop := Claim7.holds Tryd.pinned (.plain (OpenSpec.ofChange cpuLuiSpec)) cpuLuiCard

/-- THE TIED CARD OF 'tierlinekeep.CpuLoop'. -/
def cpuLoopCard : Claim7 := { stood := { row := cpuLoopRow, standIns := [], harness := (true, "f75d7c9e87b3b8a88650da002fd0ee3a94f1e16c0e10efa893b2fa764cd6aaf2"), looks := false }, kinds := [], alts := [], laidByText := true, laidKinds := [.data, .data], laidTests := true, laidLooks := .later }
def CpuLoopCardSaid : Prop := Claim7.holds Tryd.pinned (.plain (OpenSpec.ofChange cpuLoopSpec)) cpuLoopCard

/-- THE TIED CARD OF 'tierlinekeep.CpuParts'. -/
def cpuPartsCard : Claim7 := { stood := { row := cpuPartsRow, standIns := [], harness := (true, "f75d7c9e87b3b8a88650da002fd0ee3a94f1e16c0e10efa893b2fa764cd6aaf2"), looks := false }, kinds := [], alts := [], laidByText := true, laidKinds := [.data, .data], laidTests := true, laidLooks := .later }
def CpuPartsCardSaid : Prop := Claim7.holds Tryd.pinned (.plain (OpenSpec.ofChange cpuPartsSpec)) cpuPartsCard

/-- THE TIED CARD OF 'tierlinekeep.CpuHalts'. -/
def cpuHaltsCard : Claim7 := { stood := { row := cpuHaltsRow, standIns := [], harness := (true, "f75d7c9e87b3b8a88650da002fd0ee3a94f1e16c0e10efa893b2fa764cd6aaf2"), looks := false }, kinds := [], alts := [], laidByText := true, laidKinds := [.data, .data], laidTests := true, laidLooks := .later }
def CpuHaltsCardSaid : Prop := Claim7.holds Tryd.pinned (.plain (OpenSpec.ofChange cpuHaltsSpec)) cpuHaltsCard

/-- THE TIED CARD OF 'tierlinekeep.CpuMakes'. -/
def cpuMakesCard : Claim7 := { stood := { row := cpuMakesRow, standIns := [], harness := (true, "f75d7c9e87b3b8a88650da002fd0ee3a94f1e16c0e10efa893b2fa764cd6aaf2"), looks := false }, kinds := [], alts := [], laidByText := true, laidKinds := [.data, .data], laidTests := true, laidLooks := .later }
def CpuMakesCardSaid : Prop := Claim7.holds Tryd.pinned (.plain (OpenSpec.ofChange cpuMakesSpec)) cpuMakesCard

/-- THE SECOND FORM's CARD OF 'tierlinekeep.CpuSelf'. -/
def cpuSelfUptoCard : Claim7 := { stood := { row := cpuSelfUptoRow, standIns := [], harness := (true, "f75d7c9e87b3b8a88650da002fd0ee3a94f1e16c0e10efa893b2fa764cd6aaf2"), looks := false }, kinds := [], alts := [], laidByText := true, laidKinds := [.data, .data], laidTests := true, laidLooks := .later }
def CpuSelfUptoCardSaid : Prop := Claim7.holds Tryd.pinned (.plain (OpenSpec.upto cpuSelfSpec)) cpuSelfUptoCard

/-- THE SECOND FORM's CARD OF 'tierlinekeep.CpuData'. -/
def cpuDataUptoCard : Claim7 := { stood := { row := cpuDataUptoRow, standIns := [], harness := (true, "f75d7c9e87b3b8a88650da002fd0ee3a94f1e16c0e10efa893b2fa764cd6aaf2"), looks := false }, kinds := [], alts := [], laidByText := true, laidKinds := [.data, .data], laidTests := true, laidLooks := .later }
def CpuDataUptoCardSaid : Prop := Claim7.holds Tryd.pinned (.plain (OpenSpec.upto cpuDataSpec)) cpuDataUptoCard

/-- THE SECOND FORM's CARD OF 'tierlinekeep.CpuJumps'. -/
def cpuJumpsUptoCard : Claim7 := { stood := { row := cpuJumpsUptoRow, standIns := [], harness := (true, "f75d7c9e87b3b8a88650da002fd0ee3a94f1e16c0e10efa893b2fa764cd6aaf2"), looks := false }, kinds := [], alts := [], laidByText := true, laidKinds := [.data, .data], laidTests := true, laidLooks := .later }
def CpuJumpsUptoCardSaid : Prop := Claim7.holds Tryd.pinned (.plain (OpenSpec.upto cpuJumpsSpec)) cpuJumpsUptoCard

/-- THE SECOND FORM's CARD OF 'tierlinekeep.CpuNumbers'. -/
def cpuNumbersUptoCard : Claim7 := { stood := { row := cpuNumbersUptoRow, standIns := [], harness := (true, "f75d7c9e87b3b8a88650da002fd0ee3a94f1e16c0e10efa893b2fa764cd6aaf2"), looks := false }, kinds := [], alts := [], laidByText := true, laidKinds := [.data, .data], laidTests := true, laidLooks := .later }
def CpuNumbersUptoCardSaid : Prop := Claim7.holds Tryd.pinned (.plain (OpenSpec.upto cpuNumbersSpec)) cpuNumbersUptoCard

/-- THE SECOND FORM's CARD OF 'tierlinekeep.CpuLui'. -/
def cpuLuiUptoCard : Claim7 := { stood := { row := cpuLuiUptoRow, standIns := [], harness := (true, "f75d7c9e87b3b8a88650da002fd0ee3a94f1e16c0e10efa893b2fa764cd6aaf2"), looks := false }, kinds := [], alts := [], laidByText := true, laidKinds := [.data, .data], laidTests := true, laidLooks := .later }
def CpuLuiUptoCardSaid : Prop := Claim7.holds Tryd.pinned (.plain (OpenSpec.upto cpuLuiSpec)) cpuLuiUptoCard

/-- THE SECOND FORM's CARD OF 'tierlinekeep.CpuLoop'. -/
def cpuLoopUptoCard : Claim7 := { stood := { row := cpuLoopUptoRow, standIns := [], harness := (true, "f75d7c9e87b3b8a88650da002fd0ee3a94f1e16c0e10efa893b2fa764cd6aaf2"), looks := false }, kinds := [], alts := [], laidByText := true, laidKinds := [.data, .data], laidTests := true, laidLooks := .later }
def CpuLoopUptoCardSaid : Prop := Claim7.holds Tryd.pinned (.plain (OpenSpec.upto cpuLoopSpec)) cpuLoopUptoCard

/-- THE SECOND FORM's CARD OF 'tierlinekeep.CpuParts'. -/
def cpuPartsUptoCard : Claim7 := { stood := { row := cpuPartsUptoRow, standIns := [], harness := (true, "f75d7c9e87b3b8a88650da002fd0ee3a94f1e16c0e10efa893b2fa764cd6aaf2"), looks := false }, kinds := [], alts := [], laidByText := true, laidKinds := [.data, .data], laidTests := true, laidLooks := .later }
def CpuPartsUptoCardSaid : Prop := Claim7.holds Tryd.pinned (.plain (OpenSpec.upto cpuPartsSpec)) cpuPartsUptoCard

/-- THE SECOND FORM's CARD OF 'tierlinekeep.CpuHalts'. -/
def cpuHaltsUptoCard : Claim7 := { stood := { row := cpuHaltsUptoRow, standIns := [], harness := (true, "f75d7c9e87b3b8a88650da002fd0ee3a94f1e16c0e10efa893b2fa764cd6aaf2"), looks := false }, kinds := [], alts := [], laidByText := true, laidKinds := [.data, .data], laidTests := true, laidLooks := .later }
def CpuHaltsUptoCardSaid : Prop := Claim7.holds Tryd.pinned (.plain (OpenSpec.upto cpuHaltsSpec)) cpuHaltsUptoCard

/-- THE SECOND FORM's CARD OF 'tierlinekeep.CpuMakes'. -/
def cpuMakesUptoCard : Claim7 := { stood := { row := cpuMakesUptoRow, standIns := [], harness := (true, "f75d7c9e87b3b8a88650da002fd0ee3a94f1e16c0e10efa893b2fa764cd6aaf2"), looks := false }, kinds := [], alts := [], laidByText := true, laidKinds := [.data, .data], laidTests := true, laidLooks := .later }
def CpuMakesUptoCardSaid : Prop := Claim7.holds Tryd.pinned (.plain (OpenSpec.upto cpuMakesSpec)) cpuMakesUptoCard
end Rows
end Go.Proofs.YtjjpgkjjiooieaaDoor
