/-
  DERIVED. GIVEN WITH THE SEED: THE CARDS: each row of YtoipcikgeafemaaDoorRows.lean that lists a variable, with what it lists TIED to the program's text (the seventh form; the later family's looks); each row that meets fmt, with fmt's text TOLD by the authors' own Lean function (tested against real Go, not proved from fmt's source: count such statements apart). THE CARD IS WHAT COUNTS. Prove the row's statement (the work); the ties are given (YtoipcikgeafemaaDoorTie.lean); close each card by the builder's one call (the guide's Derived/Test/ToyasCard.lean, 'card_holds'). Laid BY PROGRAM, IN A SANDBOX (cutbox-door.mjs). By AI agents, Wed Nov 11 2026. No macro, syntax, notation, axiom, sorry.
-/
import Derived.Test.YtoipcikgeafemaaDoorRows
import GoSem.ClaimSeven
namespace Go.Proofs.YtoipcikgeafemaaDoor
namespace Rows

/-- THE TIED CARD OF 'tierlinekeep.RvApart'. -/
def rvApartCard : Claim7 := { stood := { row := rvApartRow, standIns := [], harness := (true, "0d686bcc5cd24794f165e23fdb62deeab0df8017c0244bb425b64910435e8b0c"), looks := false }, kinds := [], alts := [], laidByText := true, laidKinds := [.data, .data], laidTests := true, laidLooks := .later }
def RvApartCardSaid : Prop := Claim7.holds Tryd.pinned (.plain (OpenSpec.ofChange rvApartSpec)) rvApartCard

/-- THE TIED CARD OF 'tierlinekeep.RvBits'. -/
def rvBitsCard : Claim7 := { stood := { row := rvBitsRow, standIns := [], harness := (true, "0d686bcc5cd24794f165e23fdb62deeab0df8017c0244bb425b64910435e8b0c"), looks := false }, kinds := [], alts := [], laidByText := true, laidKinds := [.data, .data], laidTests := true, laidLooks := .later }
def RvBitsCardSaid : Prop := Claim7.holds Tryd.pinned (.plain (OpenSpec.ofChange rvBitsSpec)) rvBitsCard

/-- THE TIED CARD OF 'tierlinekeep.RvBad'. -/
def rvBadCard : Claim7 := { stood := { row := rvBadRow, standIns := [], harness := (true, "0d686bcc5cd24794f165e23fdb62deeab0df8017c0244bb425b64910435e8b0c"), looks := false }, kinds := [], alts := [], laidByText := true, laidKinds := [.data, .data], laidTests := true, laidLooks := .later }
def RvBadCardSaid : Prop := Claim7.holds Tryd.pinned (.plain (OpenSpec.ofChange rvBadSpec)) rvBadCard

/-- THE TIED CARD OF 'tierlinekeep.RvBack'. -/
def rvBackCard : Claim7 := { stood := { row := rvBackRow, standIns := [], harness := (true, "0d686bcc5cd24794f165e23fdb62deeab0df8017c0244bb425b64910435e8b0c"), looks := false }, kinds := [], alts := [], laidByText := true, laidKinds := [.data, .data], laidTests := true, laidLooks := .later }
def RvBackCardSaid : Prop := Claim7.holds Tryd.pinned (.plain (OpenSpec.ofChange rvBackSpec)) rvBackCard

/-- THE TIED CARD OF 'tierlinekeep.RvFixed'. -/
def rvFixedCard : Claim7 := { stood := { row := rvFixedRow, standIns := [], harness := (true, "0d686bcc5cd24794f165e23fdb62deeab0df8017c0244bb425b64910435e8b0c"), looks := false }, kinds := [], alts := [], laidByText := true, laidKinds := [.data, .data], laidTests := true, laidLooks := .later }
def RvFixedCardSaid : Prop := Claim7.holds Tryd.pinned (.plain (OpenSpec.ofChange rvFixedSpec)) rvFixedCard

/-- THE TIED CARD OF 'tierlinekeep.RvMinus'. -/
def rvMinusCard : Claim7 := { stood := { row := rvMinusRow, standIns := [], harness := (true, "0d686bcc5cd24794f165e23fdb62deeab0df8017c0244bb425b64910435e8b0c"), looks := false }, kinds := [], alts := [], laidByText := true, laidKinds := [.data, .data], laidTests := true, laidLooks := .later }
def RvMinusCardSaid : Prop := Claim7.holds Tryd.pinned (.plain (OpenSpec.ofChange rvMinusSpec)) rvMinusCard

/-- THE SECOND FORM's CARD OF 'tierlinekeep.RvApart'. -/
def rvApartUptoCard : Claim7 := { stood := { row := rvApartUptoRow, standIns := [], harness := (true, "0d686bcc5cd24794f165e23fdb62deeab0df8017c0244bb425b64910435e8b0c"), looks := false }, kinds := [], alts := [], laidByText := true, laidKinds := [.data, .data], laidTests := true, laidLooks := .later }
def RvApartUptoCardSaid : Prop := Claim7.holds Tryd.pinned (.plain (OpenSpec.upto rvApartSpec)) rvApartUptoCard

/-- THE SECOND FORM's CARD OF 'tierlinekeep.RvBits'. -/
def rvBitsUptoCard : Claim7 := { stood := { row := rvBitsUptoRow, standIns := [], harness := (true, "0d686bcc5cd24794f165e23fdb62deeab0df8017c0244bb425b64910435e8b0c"), looks := false }, kinds := [], alts := [], laidByText := true, laidKinds := [.data, .data], laidTests := true, laidLooks := .later }
def RvBitsUptoCardSaid : Prop := Claim7.holds Tryd.pinned (.plain (OpenSpec.upto rvBitsSpec)) rvBitsUptoCard

/-- THE SECOND FORM's CARD OF 'tierlinekeep.RvBad'. -/
def rvBadUptoCard : Claim7 := { stood := { row := rvBadUptoRow, standIns := [], harness := (true, "0d686bcc5cd24794f165e23fdb62deeab0df8017c0244bb425b64910435e8b0c"), looks := false }, kinds := [], alts := [], laidByText := true, laidKinds := [.data, .data], laidTests := true, laidLooks := .later }
def RvBadUptoCardSaid : Prop := Claim7.holds Tryd.pinned (.plain (OpenSpec.upto rvBadSpec)) rvBadUptoCard

/-- THE SECOND FORM's CARD OF 'tierlinekeep.RvBack'. -/
def rvBackUptoCard : Claim7 := { stood := { row := rvBackUptoRow, standIns := [], harness := (true, "0d686bcc5cd24794f165e23fdb62deeab0df8017c0244bb425b64910435e8b0c"), looks := false }, kinds := [], alts := [], laidByText := true, laidKinds := [.data, .data], laidTests := true, laidLooks := .later }
def RvBackUptoCardSaid : Prop := Claim7.holds Tryd.pinned (.plain (OpenSpec.upto rvBackSpec)) rvBackUptoCard

/-- THE SECOND FORM's CARD OF 'tierlinekeep.RvFixed'. -/
def rvFixedUptoCard : Claim7 := { stood := { row := rvFixedUptoRow, standIns := [], harness := (true, "0d686bcc5cd24794f165e23fdb62deeab0df8017c0244bb425b64910435e8b0c"), looks := false }, kinds := [], alts := [], laidByText := true, laidKinds := [.data, .data], laidTests := true, laidLooks := .later }
def RvFixedUptoCardSaid : Prop := Claim7.holds Tryd.pinned (.plain (OpenSpec.upto rvFixedSpec)) rvFixedUptoCard

/-- THE SECOND FORM's CARD OF 'tierlinekeep.RvMinus'. -/
def rvMinusUptoCard : Claim7 := { stood := { row := rvMinusUptoRow, standIns := [], harness := (true, "0d686bcc5cd24794f165e23fdb62deeab0df8017c0244bb425b64910435e8b0c"), looks := false }, kinds := [], alts := [], laidByText := true, laidKinds := [.data, .data], laidTests := true, laidLooks := .later }
def RvMinusUptoCardSaid : Prop := Claim7.holds Tryd.pinned (.plain (OpenSpec.upto rvMinusSpec)) rvMinusUptoCard
end Rows
end Go.Proofs.YtoipcikgeafemaaDoor
