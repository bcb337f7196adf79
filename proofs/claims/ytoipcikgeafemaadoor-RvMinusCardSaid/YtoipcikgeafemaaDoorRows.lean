/-
  NARROWER THAN 'FOR EVERY INPUT', by the rows' own cells (each row's printed sentence says how): RvApart: laid · RvBits: laid · RvBad: laid · RvBack: laid · RvFixed: laid · RvMinus: laid.
  DERIVED. THE GIVEN ROWS OF THIS SEAT. 6 by the template 'for every input the law returns true; each argument reads behind the call as it read before'; 0 by the template 'total and deterministic' (their statements: YtoipcikgeafemaaDoorTotals.lean).
  GIVEN WITH THE SEED: the statements are not yours to turn. If you find one false, say at which input.
  Laid BY PROGRAM, IN A SANDBOX (cutbox-rows.mjs): the forced cells as the released guide's own fill.sh prints them over the translation 7f0f88bf2621f4ba… (all of the seat's roots in one cut). By AI agents, Wed Nov 11 2026. No macro, syntax, notation, axiom, sorry.
-/
import Derived.Test.YtoipcikgeafemaaDoorChecked
import GoSem.Claim
import GoSem.ClaimJoined
import GoSem.ClaimMapViews
import Derived.JoinedTies
import Derived.KernelRfl
namespace Go.Proofs.YtoipcikgeafemaaDoor
/- THE CELL 'sum', in the pinned program and in every row, IS THE sha256 OF THE DUMP (.gsa) THAT YtoipcikgeafemaaDoorProg.lean LOADS. Nothing in Lean hashes anything: it is a label: what it is worth is what the hold of that sum in a sandbox is worth. -/
noncomputable def Tryd.pinned : Pinned := { name := "ytoipcikgeafemaadoor", sum := "7f0f88bf2621f4ba095bd6849fae2ae39853bc7919116efb88a5523ec5892332", checked := Tryd.checked }
namespace Rows
def none {H : Type} : Left H := { results := [], args := [] }

/- WHAT THE LISTED PACKAGE-LEVEL VARIABLES READ AS WHEN THE CALL BEGINS. Each datum BY PROGRAM (the guide's laid-datum.mjs) off the statement by which the dump's own 'gosem.cut.vars' lays the variable. In a bare row this is a premise. The card (YtoipcikgeafemaaDoorCards.lean) ties it to the program's text. -/
def laid_tierline_rv_forms {H : Type} : DataW H := .agg [.agg [.lit (.int .i64 0), .lit (.int .i64 0), .lit (.int .i64 0), .lit (.int .i64 0)], .agg [.lit (.int .i64 0), .lit (.int .i64 51), .lit (.int .i64 0), .lit (.int .i64 0)], .agg [.lit (.int .i64 0), .lit (.int .i64 51), .lit (.int .i64 0), .lit (.int .i64 32)], .agg [.lit (.int .i64 0), .lit (.int .i64 51), .lit (.int .i64 0), .lit (.int .i64 1)], .agg [.lit (.int .i64 0), .lit (.int .i64 51), .lit (.int .i64 4), .lit (.int .i64 1)], .agg [.lit (.int .i64 0), .lit (.int .i64 51), .lit (.int .i64 7), .lit (.int .i64 0)], .agg [.lit (.int .i64 0), .lit (.int .i64 51), .lit (.int .i64 6), .lit (.int .i64 0)], .agg [.lit (.int .i64 0), .lit (.int .i64 51), .lit (.int .i64 4), .lit (.int .i64 0)], .agg [.lit (.int .i64 0), .lit (.int .i64 51), .lit (.int .i64 1), .lit (.int .i64 0)], .agg [.lit (.int .i64 0), .lit (.int .i64 51), .lit (.int .i64 5), .lit (.int .i64 32)], .agg [.lit (.int .i64 0), .lit (.int .i64 51), .lit (.int .i64 2), .lit (.int .i64 0)], .agg [.lit (.int .i64 0), .lit (.int .i64 51), .lit (.int .i64 3), .lit (.int .i64 0)], .agg [.lit (.int .i64 1), .lit (.int .i64 19), .lit (.int .i64 0), .lit (.int .i64 0)], .agg [.lit (.int .i64 1), .lit (.int .i64 19), .lit (.int .i64 7), .lit (.int .i64 0)], .agg [.lit (.int .i64 1), .lit (.int .i64 19), .lit (.int .i64 6), .lit (.int .i64 0)], .agg [.lit (.int .i64 1), .lit (.int .i64 19), .lit (.int .i64 4), .lit (.int .i64 0)], .agg [.lit (.int .i64 1), .lit (.int .i64 19), .lit (.int .i64 2), .lit (.int .i64 0)], .agg [.lit (.int .i64 1), .lit (.int .i64 19), .lit (.int .i64 3), .lit (.int .i64 0)], .agg [.lit (.int .i64 2), .lit (.int .i64 19), .lit (.int .i64 1), .lit (.int .i64 0)], .agg [.lit (.int .i64 2), .lit (.int .i64 19), .lit (.int .i64 5), .lit (.int .i64 16)], .agg [.lit (.int .i64 1), .lit (.int .i64 3), .lit (.int .i64 3), .lit (.int .i64 0)], .agg [.lit (.int .i64 3), .lit (.int .i64 35), .lit (.int .i64 3), .lit (.int .i64 0)], .agg [.lit (.int .i64 4), .lit (.int .i64 99), .lit (.int .i64 0), .lit (.int .i64 0)], .agg [.lit (.int .i64 4), .lit (.int .i64 99), .lit (.int .i64 1), .lit (.int .i64 0)], .agg [.lit (.int .i64 4), .lit (.int .i64 99), .lit (.int .i64 4), .lit (.int .i64 0)], .agg [.lit (.int .i64 4), .lit (.int .i64 99), .lit (.int .i64 5), .lit (.int .i64 0)], .agg [.lit (.int .i64 5), .lit (.int .i64 111), .lit (.int .i64 0), .lit (.int .i64 0)], .agg [.lit (.int .i64 1), .lit (.int .i64 103), .lit (.int .i64 0), .lit (.int .i64 0)], .agg [.lit (.int .i64 6), .lit (.int .i64 55), .lit (.int .i64 0), .lit (.int .i64 0)], .agg [.lit (.int .i64 7), .lit (.int .i64 115), .lit (.int .i64 0), .lit (.int .i64 0)]]
def laid_tierline_rv_fields {H : Type} : DataW H := .agg [.agg [.lit (.bool true), .lit (.bool true), .lit (.bool true)], .agg [.lit (.bool true), .lit (.bool true), .lit (.bool false)], .agg [.lit (.bool true), .lit (.bool true), .lit (.bool false)], .agg [.lit (.bool false), .lit (.bool true), .lit (.bool true)], .agg [.lit (.bool false), .lit (.bool true), .lit (.bool true)], .agg [.lit (.bool true), .lit (.bool false), .lit (.bool false)], .agg [.lit (.bool true), .lit (.bool false), .lit (.bool false)], .agg [.lit (.bool false), .lit (.bool false), .lit (.bool false)]]

/-- 'tierlinekeep.RvApart': WHATEVER THE INPUT: true; the input reads as it did. -/
def rvApartSpec : ChangeSpec := { name := "rvApart", fn := fun _ => fun
  | [d1, d2] => { results := [.lit (.bool true)], args := [d1, d2] }
  | _ => none }
def rvApartRow : OpenClaim := { program := "ytoipcikgeafemaadoor", sum := "7f0f88bf2621f4ba095bd6849fae2ae39853bc7919116efb88a5523ec5892332", func := "tierline/tierlinekeep.RvApart", spec := "rvApart", named := ["tierline/rv.forms", "tierline/rv.fields"], apart := false, laid := [("tierline/rv.forms", laid_tierline_rv_forms), ("tierline/rv.fields", laid_tierline_rv_fields)] }
def RvApartSaid : Prop := rvApartRow.holds Tryd.pinned (OpenSpec.ofChange rvApartSpec)

/-- ITS FALSE NEIGHBOUR: 'it returns false'. Refute it at one input. -/
def rvApartWrong : ChangeSpec := { name := "rvApart", fn := fun _ => fun
  | [d1, d2] => { results := [.lit (.bool false)], args := [d1, d2] }
  | _ => none }
def RvApartWrongFalsely : Prop := rvApartRow.holds Tryd.pinned (OpenSpec.ofChange rvApartWrong)

/-- 'tierlinekeep.RvBits': WHATEVER THE INPUT: true; the input reads as it did. -/
def rvBitsSpec : ChangeSpec := { name := "rvBits", fn := fun _ => fun
  | [d] => { results := [.lit (.bool true)], args := [d] }
  | _ => none }
def rvBitsRow : OpenClaim := { program := "ytoipcikgeafemaadoor", sum := "7f0f88bf2621f4ba095bd6849fae2ae39853bc7919116efb88a5523ec5892332", func := "tierline/tierlinekeep.RvBits", spec := "rvBits", named := ["tierline/rv.forms", "tierline/rv.fields"], apart := false, laid := [("tierline/rv.forms", laid_tierline_rv_forms), ("tierline/rv.fields", laid_tierline_rv_fields)] }
def RvBitsSaid : Prop := rvBitsRow.holds Tryd.pinned (OpenSpec.ofChange rvBitsSpec)

/-- ITS FALSE NEIGHBOUR: 'it returns false'. Refute it at one input. -/
def rvBitsWrong : ChangeSpec := { name := "rvBits", fn := fun _ => fun
  | [d] => { results := [.lit (.bool false)], args := [d] }
  | _ => none }
def RvBitsWrongFalsely : Prop := rvBitsRow.holds Tryd.pinned (OpenSpec.ofChange rvBitsWrong)

/-- 'tierlinekeep.RvBad': WHATEVER THE INPUT: true; the input reads as it did. -/
def rvBadSpec : ChangeSpec := { name := "rvBad", fn := fun _ => fun
  | [d1, d2] => { results := [.lit (.bool true)], args := [d1, d2] }
  | _ => none }
def rvBadRow : OpenClaim := { program := "ytoipcikgeafemaadoor", sum := "7f0f88bf2621f4ba095bd6849fae2ae39853bc7919116efb88a5523ec5892332", func := "tierline/tierlinekeep.RvBad", spec := "rvBad", named := ["tierline/rv.forms", "tierline/rv.fields"], apart := false, laid := [("tierline/rv.forms", laid_tierline_rv_forms), ("tierline/rv.fields", laid_tierline_rv_fields)] }
def RvBadSaid : Prop := rvBadRow.holds Tryd.pinned (OpenSpec.ofChange rvBadSpec)

/-- ITS FALSE NEIGHBOUR: 'it returns false'. Refute it at one input. -/
def rvBadWrong : ChangeSpec := { name := "rvBad", fn := fun _ => fun
  | [d1, d2] => { results := [.lit (.bool false)], args := [d1, d2] }
  | _ => none }
def RvBadWrongFalsely : Prop := rvBadRow.holds Tryd.pinned (OpenSpec.ofChange rvBadWrong)

/-- 'tierlinekeep.RvBack': WHATEVER THE INPUT: true; the input reads as it did. -/
def rvBackSpec : ChangeSpec := { name := "rvBack", fn := fun _ => fun
  | [d] => { results := [.lit (.bool true)], args := [d] }
  | _ => none }
def rvBackRow : OpenClaim := { program := "ytoipcikgeafemaadoor", sum := "7f0f88bf2621f4ba095bd6849fae2ae39853bc7919116efb88a5523ec5892332", func := "tierline/tierlinekeep.RvBack", spec := "rvBack", named := ["tierline/rv.forms", "tierline/rv.fields"], apart := false, laid := [("tierline/rv.forms", laid_tierline_rv_forms), ("tierline/rv.fields", laid_tierline_rv_fields)] }
def RvBackSaid : Prop := rvBackRow.holds Tryd.pinned (OpenSpec.ofChange rvBackSpec)

/-- ITS FALSE NEIGHBOUR: 'it returns false'. Refute it at one input. -/
def rvBackWrong : ChangeSpec := { name := "rvBack", fn := fun _ => fun
  | [d] => { results := [.lit (.bool false)], args := [d] }
  | _ => none }
def RvBackWrongFalsely : Prop := rvBackRow.holds Tryd.pinned (OpenSpec.ofChange rvBackWrong)

/-- 'tierlinekeep.RvFixed': WHATEVER THE INPUT: true; the input reads as it did. -/
def rvFixedSpec : ChangeSpec := { name := "rvFixed", fn := fun _ => fun
  | [d] => { results := [.lit (.bool true)], args := [d] }
  | _ => none }
def rvFixedRow : OpenClaim := { program := "ytoipcikgeafemaadoor", sum := "7f0f88bf2621f4ba095bd6849fae2ae39853bc7919116efb88a5523ec5892332", func := "tierline/tierlinekeep.RvFixed", spec := "rvFixed", named := ["tierline/rv.forms", "tierline/rv.fields"], apart := false, laid := [("tierline/rv.forms", laid_tierline_rv_forms), ("tierline/rv.fields", laid_tierline_rv_fields)] }
def RvFixedSaid : Prop := rvFixedRow.holds Tryd.pinned (OpenSpec.ofChange rvFixedSpec)

/-- ITS FALSE NEIGHBOUR: 'it returns false'. Refute it at one input. -/
def rvFixedWrong : ChangeSpec := { name := "rvFixed", fn := fun _ => fun
  | [d] => { results := [.lit (.bool false)], args := [d] }
  | _ => none }
def RvFixedWrongFalsely : Prop := rvFixedRow.holds Tryd.pinned (OpenSpec.ofChange rvFixedWrong)

/-- 'tierlinekeep.RvMinus': WHATEVER THE INPUT: true; the input reads as it did. -/
def rvMinusSpec : ChangeSpec := { name := "rvMinus", fn := fun _ => fun
  | [d1, d2, d3] => { results := [.lit (.bool true)], args := [d1, d2, d3] }
  | _ => none }
def rvMinusRow : OpenClaim := { program := "ytoipcikgeafemaadoor", sum := "7f0f88bf2621f4ba095bd6849fae2ae39853bc7919116efb88a5523ec5892332", func := "tierline/tierlinekeep.RvMinus", spec := "rvMinus", named := ["tierline/rv.forms", "tierline/rv.fields"], apart := false, laid := [("tierline/rv.forms", laid_tierline_rv_forms), ("tierline/rv.fields", laid_tierline_rv_fields)] }
def RvMinusSaid : Prop := rvMinusRow.holds Tryd.pinned (OpenSpec.ofChange rvMinusSpec)

/-- ITS FALSE NEIGHBOUR: 'it returns false'. Refute it at one input. -/
def rvMinusWrong : ChangeSpec := { name := "rvMinus", fn := fun _ => fun
  | [d1, d2, d3] => { results := [.lit (.bool false)], args := [d1, d2, d3] }
  | _ => none }
def RvMinusWrongFalsely : Prop := rvMinusRow.holds Tryd.pinned (OpenSpec.ofChange rvMinusWrong)

/- THE SECOND FORM. 'bulk': how many values and letters a reading holds, each counted each time it is reached (what is shared counts as often as it is met; a slice's spare places count too). A statement '..UptoSaid' is the law's where the arguments, and the package variables that the reading takes, are together of bulk at most 1048576: NARROWER than '..Said'. Prove '..Said' where nothing that the law and all that it calls make is longer than what came in: it says more and counts as full. Else prove '..UptoSaid'. A law counts once. -/
mutual
def uptoBulk {H : Type} : DataW H → Nat
  | .lit (.string bytes) => bytes.length + 1
  | .lit _ => 1
  | .nil => 1
  | .ptr d => uptoBulk d + 1
  | .slice elems spare => uptoBulkAll elems + uptoBulkAll spare + 1
  | .agg parts => uptoBulkAll parts + 1
  | .iface _ d => uptoBulk d + 1
  | .map entries => uptoBulkEntries entries + 1
  | .held _ => 1
def uptoBulkAll {H : Type} : List (DataW H) → Nat
  | [] => 0
  | d :: r => uptoBulk d + uptoBulkAll r
def uptoBulkEntries {H : Type} : List (Lit × DataW H) → Nat
  | [] => 0
  | x :: r => uptoBulkEntry x + uptoBulkEntries r
def uptoBulkEntry {H : Type} : Lit × DataW H → Nat
  | (.string bytes, d) => bytes.length + uptoBulk d + 1
  | (_, d) => uptoBulk d + 1
 end
def uptoSmall : (H : Type) → List (DataW H) → Bool := fun _ ds => decide (uptoBulkAll ds ≤ 1048576)
def OpenSpec.upto (s : _root_.Go.ChangeSpec) : _root_.Go.OpenSpec := { _root_.Go.OpenSpec.ofChange s with cond := some uptoSmall }

/-- 'tierlinekeep.RvApart', WHERE WHAT IT READS IS OF BULK AT MOST 1048576: true; the input reads as it did. -/
def rvApartUptoRow : OpenClaim := { program := "ytoipcikgeafemaadoor", sum := "7f0f88bf2621f4ba095bd6849fae2ae39853bc7919116efb88a5523ec5892332", func := "tierline/tierlinekeep.RvApart", spec := "rvApart", named := ["tierline/rv.forms", "tierline/rv.fields"], apart := false, laid := [("tierline/rv.forms", laid_tierline_rv_forms), ("tierline/rv.fields", laid_tierline_rv_fields)], narrowed := true }
def RvApartUptoSaid : Prop := rvApartUptoRow.holds Tryd.pinned (OpenSpec.upto rvApartSpec)

/-- 'tierlinekeep.RvBits', WHERE WHAT IT READS IS OF BULK AT MOST 1048576: true; the input reads as it did. -/
def rvBitsUptoRow : OpenClaim := { program := "ytoipcikgeafemaadoor", sum := "7f0f88bf2621f4ba095bd6849fae2ae39853bc7919116efb88a5523ec5892332", func := "tierline/tierlinekeep.RvBits", spec := "rvBits", named := ["tierline/rv.forms", "tierline/rv.fields"], apart := false, laid := [("tierline/rv.forms", laid_tierline_rv_forms), ("tierline/rv.fields", laid_tierline_rv_fields)], narrowed := true }
def RvBitsUptoSaid : Prop := rvBitsUptoRow.holds Tryd.pinned (OpenSpec.upto rvBitsSpec)

/-- 'tierlinekeep.RvBad', WHERE WHAT IT READS IS OF BULK AT MOST 1048576: true; the input reads as it did. -/
def rvBadUptoRow : OpenClaim := { program := "ytoipcikgeafemaadoor", sum := "7f0f88bf2621f4ba095bd6849fae2ae39853bc7919116efb88a5523ec5892332", func := "tierline/tierlinekeep.RvBad", spec := "rvBad", named := ["tierline/rv.forms", "tierline/rv.fields"], apart := false, laid := [("tierline/rv.forms", laid_tierline_rv_forms), ("tierline/rv.fields", laid_tierline_rv_fields)], narrowed := true }
def RvBadUptoSaid : Prop := rvBadUptoRow.holds Tryd.pinned (OpenSpec.upto rvBadSpec)

/-- 'tierlinekeep.RvBack', WHERE WHAT IT READS IS OF BULK AT MOST 1048576: true; the input reads as it did. -/
def rvBackUptoRow : OpenClaim := { program := "ytoipcikgeafemaadoor", sum := "7f0f88bf2621f4ba095bd6849fae2ae39853bc7919116efb88a5523ec5892332", func := "tierline/tierlinekeep.RvBack", spec := "rvBack", named := ["tierline/rv.forms", "tierline/rv.fields"], apart := false, laid := [("tierline/rv.forms", laid_tierline_rv_forms), ("tierline/rv.fields", laid_tierline_rv_fields)], narrowed := true }
def RvBackUptoSaid : Prop := rvBackUptoRow.holds Tryd.pinned (OpenSpec.upto rvBackSpec)

/-- 'tierlinekeep.RvFixed', WHERE WHAT IT READS IS OF BULK AT MOST 1048576: true; the input reads as it did. -/
def rvFixedUptoRow : OpenClaim := { program := "ytoipcikgeafemaadoor", sum := "7f0f88bf2621f4ba095bd6849fae2ae39853bc7919116efb88a5523ec5892332", func := "tierline/tierlinekeep.RvFixed", spec := "rvFixed", named := ["tierline/rv.forms", "tierline/rv.fields"], apart := false, laid := [("tierline/rv.forms", laid_tierline_rv_forms), ("tierline/rv.fields", laid_tierline_rv_fields)], narrowed := true }
def RvFixedUptoSaid : Prop := rvFixedUptoRow.holds Tryd.pinned (OpenSpec.upto rvFixedSpec)

/-- 'tierlinekeep.RvMinus', WHERE WHAT IT READS IS OF BULK AT MOST 1048576: true; the input reads as it did. -/
def rvMinusUptoRow : OpenClaim := { program := "ytoipcikgeafemaadoor", sum := "7f0f88bf2621f4ba095bd6849fae2ae39853bc7919116efb88a5523ec5892332", func := "tierline/tierlinekeep.RvMinus", spec := "rvMinus", named := ["tierline/rv.forms", "tierline/rv.fields"], apart := false, laid := [("tierline/rv.forms", laid_tierline_rv_forms), ("tierline/rv.fields", laid_tierline_rv_fields)], narrowed := true }
def RvMinusUptoSaid : Prop := rvMinusUptoRow.holds Tryd.pinned (OpenSpec.upto rvMinusSpec)

end Rows
end Go.Proofs.YtoipcikgeafemaaDoor
