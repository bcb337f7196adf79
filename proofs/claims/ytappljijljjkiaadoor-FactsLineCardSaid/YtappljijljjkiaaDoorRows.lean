/-
  NARROWER THAN 'FOR EVERY INPUT', by the rows' own cells (each row's printed sentence says how): SheetBack: laid · SheetTorn: laid · SheetFixed: laid · SheetBad: laid · FactsSide: laid · FactsLoop: laid · SsaTrue: laid · FactsTrue: laid · FactsLine: laid · AssignLine: laid · AssignKeeps: laid.
  DERIVED. THE GIVEN ROWS OF THIS SEAT. 11 by the template 'for every input the law returns true; each argument reads behind the call as it read before'; 0 by the template 'total and deterministic' (their statements: YtappljijljjkiaaDoorTotals.lean).
  GIVEN WITH THE SEED: the statements are not yours to turn. If you find one false, say at which input.
  Laid BY PROGRAM, IN A SANDBOX (cutbox-rows.mjs): the forced cells as the released guide's own fill.sh prints them over the translation 98e42bd11d1039e8… (all of the seat's roots in one cut). By AI agents, Wed Nov 11 2026. No macro, syntax, notation, axiom, sorry.
-/
import Derived.Test.YtappljijljjkiaaDoorChecked
import GoSem.PinnedTables
import GoSem.Claim
import GoSem.ClaimJoined
import GoSem.ClaimMapViews
import Derived.JoinedTies
import Derived.KernelRfl
namespace Go.Proofs.YtappljijljjkiaaDoor
/- THE CELL 'sum', in the pinned program and in every row, IS THE sha256 OF THE DUMP (.gsa) THAT YtappljijljjkiaaDoorProg.lean LOADS. Nothing in Lean hashes anything: it is a label: what it is worth is what the hold of that sum in a sandbox is worth. -/
noncomputable def Tryd.pinned : Pinned := { name := "ytappljijljjkiaadoor", sum := "98e42bd11d1039e8993f5f8246e78abeb3bbd07ccde4bab2e62d7c1fe57f5eb1", checked := Tryd.checked }
namespace Rows
def none {H : Type} : Left H := { results := [], args := [] }

/- WHAT THE LISTED PACKAGE-LEVEL VARIABLES READ AS WHEN THE CALL BEGINS. Each datum BY PROGRAM (the guide's laid-datum.mjs) off the statement by which the dump's own 'gosem.cut.vars' lays the variable. In a bare row this is a premise. The card (YtappljijljjkiaaDoorCards.lean) ties it to the program's text. -/
def laid_math_bits_deBruijn32tab {H : Type} : DataW H := .agg [.lit (.int .u8 0), .lit (.int .u8 1), .lit (.int .u8 28), .lit (.int .u8 2), .lit (.int .u8 29), .lit (.int .u8 14), .lit (.int .u8 24), .lit (.int .u8 3), .lit (.int .u8 30), .lit (.int .u8 22), .lit (.int .u8 20), .lit (.int .u8 15), .lit (.int .u8 25), .lit (.int .u8 17), .lit (.int .u8 4), .lit (.int .u8 8), .lit (.int .u8 31), .lit (.int .u8 27), .lit (.int .u8 13), .lit (.int .u8 23), .lit (.int .u8 21), .lit (.int .u8 19), .lit (.int .u8 16), .lit (.int .u8 7), .lit (.int .u8 26), .lit (.int .u8 12), .lit (.int .u8 18), .lit (.int .u8 6), .lit (.int .u8 11), .lit (.int .u8 5), .lit (.int .u8 10), .lit (.int .u8 9)]
def laid_math_bits_deBruijn64tab {H : Type} : DataW H := .agg [.lit (.int .u8 0), .lit (.int .u8 1), .lit (.int .u8 56), .lit (.int .u8 2), .lit (.int .u8 57), .lit (.int .u8 49), .lit (.int .u8 28), .lit (.int .u8 3), .lit (.int .u8 61), .lit (.int .u8 58), .lit (.int .u8 42), .lit (.int .u8 50), .lit (.int .u8 38), .lit (.int .u8 29), .lit (.int .u8 17), .lit (.int .u8 4), .lit (.int .u8 62), .lit (.int .u8 47), .lit (.int .u8 59), .lit (.int .u8 36), .lit (.int .u8 45), .lit (.int .u8 43), .lit (.int .u8 51), .lit (.int .u8 22), .lit (.int .u8 53), .lit (.int .u8 39), .lit (.int .u8 33), .lit (.int .u8 30), .lit (.int .u8 24), .lit (.int .u8 18), .lit (.int .u8 12), .lit (.int .u8 5), .lit (.int .u8 63), .lit (.int .u8 55), .lit (.int .u8 48), .lit (.int .u8 27), .lit (.int .u8 60), .lit (.int .u8 41), .lit (.int .u8 37), .lit (.int .u8 16), .lit (.int .u8 46), .lit (.int .u8 35), .lit (.int .u8 44), .lit (.int .u8 21), .lit (.int .u8 52), .lit (.int .u8 32), .lit (.int .u8 23), .lit (.int .u8 11), .lit (.int .u8 54), .lit (.int .u8 26), .lit (.int .u8 40), .lit (.int .u8 15), .lit (.int .u8 34), .lit (.int .u8 20), .lit (.int .u8 31), .lit (.int .u8 10), .lit (.int .u8 25), .lit (.int .u8 14), .lit (.int .u8 19), .lit (.int .u8 9), .lit (.int .u8 13), .lit (.int .u8 8), .lit (.int .u8 7), .lit (.int .u8 6)]
def laid_internal_strconv_uint64pow10 {H : Type} : DataW H := .agg [.lit (.int .u64 1), .lit (.int .u64 10), .lit (.int .u64 100), .lit (.int .u64 1000), .lit (.int .u64 10000), .lit (.int .u64 100000), .lit (.int .u64 1000000), .lit (.int .u64 10000000), .lit (.int .u64 100000000), .lit (.int .u64 1000000000), .lit (.int .u64 10000000000), .lit (.int .u64 100000000000), .lit (.int .u64 1000000000000), .lit (.int .u64 10000000000000), .lit (.int .u64 100000000000000), .lit (.int .u64 1000000000000000), .lit (.int .u64 10000000000000000), .lit (.int .u64 100000000000000000), .lit (.int .u64 1000000000000000000), .lit (.int .u64 10000000000000000000)]
def laid_unicode_utf8_acceptRanges {H : Type} : DataW H := .agg [.agg [.lit (.int .u8 128), .lit (.int .u8 191)], .agg [.lit (.int .u8 160), .lit (.int .u8 191)], .agg [.lit (.int .u8 128), .lit (.int .u8 159)], .agg [.lit (.int .u8 144), .lit (.int .u8 191)], .agg [.lit (.int .u8 128), .lit (.int .u8 143)], .agg [.lit (.int .u8 0), .lit (.int .u8 0)], .agg [.lit (.int .u8 0), .lit (.int .u8 0)], .agg [.lit (.int .u8 0), .lit (.int .u8 0)], .agg [.lit (.int .u8 0), .lit (.int .u8 0)], .agg [.lit (.int .u8 0), .lit (.int .u8 0)], .agg [.lit (.int .u8 0), .lit (.int .u8 0)], .agg [.lit (.int .u8 0), .lit (.int .u8 0)], .agg [.lit (.int .u8 0), .lit (.int .u8 0)], .agg [.lit (.int .u8 0), .lit (.int .u8 0)], .agg [.lit (.int .u8 0), .lit (.int .u8 0)], .agg [.lit (.int .u8 0), .lit (.int .u8 0)]]
def laid_strconv_ErrRange {H : Type} : DataW H := .iface "*errors.errorString" (.ptr (.agg [.lit (.string [118, 97, 108, 117, 101, 32, 111, 117, 116, 32, 111, 102, 32, 114, 97, 110, 103, 101])]))
def laid_strconv_ErrSyntax {H : Type} : DataW H := .iface "*errors.errorString" (.ptr (.agg [.lit (.string [105, 110, 118, 97, 108, 105, 100, 32, 115, 121, 110, 116, 97, 120])]))
def laid_tierline_code_has {H : Type} : DataW H := .agg [.lit (.int .i64 0), .lit (.int .i64 9), .lit (.int .i64 7), .lit (.int .i64 7), .lit (.int .i64 7), .lit (.int .i64 7), .lit (.int .i64 7), .lit (.int .i64 7), .lit (.int .i64 7), .lit (.int .i64 7), .lit (.int .i64 7), .lit (.int .i64 7), .lit (.int .i64 7), .lit (.int .i64 3), .lit (.int .i64 6), .lit (.int .i64 16), .lit (.int .i64 18), .lit (.int .i64 39), .lit (.int .i64 3), .lit (.int .i64 2)]
def laid_tierline_sheet_words {H : Type} : DataW H := .agg [.lit (.string []), .lit (.string [115, 101, 116]), .lit (.string [97, 100, 100]), .lit (.string [115, 117, 98]), .lit (.string [109, 117, 108]), .lit (.string [100, 105, 118]), .lit (.string [97, 110, 100]), .lit (.string [111, 114]), .lit (.string [120, 111, 114]), .lit (.string [115, 104, 108]), .lit (.string [115, 97, 114]), .lit (.string [108, 116]), .lit (.string [101, 113]), .lit (.string [108, 111, 97, 100]), .lit (.string [115, 116, 111, 114, 101]), .lit (.string [106, 117, 109, 112]), .lit (.string [105, 102]), .lit (.string [99, 97, 108, 108]), .lit (.string [104, 111, 115, 116]), .lit (.string [114, 101, 116])]
/-- One of Go's own tables, pinned by name: the form's constant. -/
def laid_unicode_utf8_first : DataW Unit := Go.Pinned.utf8First

/-- 'tierlinekeep.SheetBack': WHATEVER THE INPUT: true; the input reads as it did. -/
def sheetBackSpec : ChangeSpec := { name := "sheetBack", fn := fun _ => fun
  | [d] => { results := [.lit (.bool true)], args := [d] }
  | _ => none }
def sheetBackRow : OpenClaim := { program := "ytappljijljjkiaadoor", sum := "98e42bd11d1039e8993f5f8246e78abeb3bbd07ccde4bab2e62d7c1fe57f5eb1", func := "tierline/tierlinekeep.SheetBack", spec := "sheetBack", inPlace := ["internal/abi.NoEscape", "internal/bytealg.IndexByteString", "internal/bytealg.CountString", "internal/bytealg.IndexString"], unfollowed := true, recurses := true, named := ["tierline/code.has", "internal/strconv.uint64pow10", "math/bits.deBruijn32tab", "math/bits.deBruijn64tab", "tierline/sheet.words", "unicode/utf8.first", "unicode/utf8.acceptRanges", "internal/bytealg.MaxLen", "strconv.ErrSyntax", "strconv.ErrRange"], plainKeys := false, apart := false, laid := [("math/bits.deBruijn32tab", laid_math_bits_deBruijn32tab), ("math/bits.deBruijn64tab", laid_math_bits_deBruijn64tab), ("internal/strconv.uint64pow10", laid_internal_strconv_uint64pow10), ("unicode/utf8.acceptRanges", laid_unicode_utf8_acceptRanges), ("strconv.ErrRange", laid_strconv_ErrRange), ("strconv.ErrSyntax", laid_strconv_ErrSyntax), ("tierline/code.has", laid_tierline_code_has), ("tierline/sheet.words", laid_tierline_sheet_words), ("unicode/utf8.first", laid_unicode_utf8_first)] }
def SheetBackSaid : Prop := sheetBackRow.holds Tryd.pinned (OpenSpec.ofChange sheetBackSpec)

/-- ITS FALSE NEIGHBOUR: 'it returns false'. Refute it at one input. -/
def sheetBackWrong : ChangeSpec := { name := "sheetBack", fn := fun _ => fun
  | [d] => { results := [.lit (.bool false)], args := [d] }
  | _ => none }
def SheetBackWrongFalsely : Prop := sheetBackRow.holds Tryd.pinned (OpenSpec.ofChange sheetBackWrong)

/-- 'tierlinekeep.SheetTorn': WHATEVER THE INPUT: true; the input reads as it did. -/
def sheetTornSpec : ChangeSpec := { name := "sheetTorn", fn := fun _ => fun
  | [d] => { results := [.lit (.bool true)], args := [d] }
  | _ => none }
def sheetTornRow : OpenClaim := { program := "ytappljijljjkiaadoor", sum := "98e42bd11d1039e8993f5f8246e78abeb3bbd07ccde4bab2e62d7c1fe57f5eb1", func := "tierline/tierlinekeep.SheetTorn", spec := "sheetTorn", inPlace := ["internal/abi.NoEscape", "internal/bytealg.IndexByteString", "internal/bytealg.CountString", "internal/bytealg.IndexString"], unfollowed := true, recurses := true, named := ["tierline/code.has", "internal/strconv.uint64pow10", "math/bits.deBruijn32tab", "math/bits.deBruijn64tab", "tierline/sheet.words", "unicode/utf8.first", "unicode/utf8.acceptRanges", "internal/bytealg.MaxLen", "strconv.ErrSyntax", "strconv.ErrRange"], plainKeys := false, apart := false, laid := [("math/bits.deBruijn32tab", laid_math_bits_deBruijn32tab), ("math/bits.deBruijn64tab", laid_math_bits_deBruijn64tab), ("internal/strconv.uint64pow10", laid_internal_strconv_uint64pow10), ("unicode/utf8.acceptRanges", laid_unicode_utf8_acceptRanges), ("strconv.ErrRange", laid_strconv_ErrRange), ("strconv.ErrSyntax", laid_strconv_ErrSyntax), ("tierline/code.has", laid_tierline_code_has), ("tierline/sheet.words", laid_tierline_sheet_words), ("unicode/utf8.first", laid_unicode_utf8_first)] }
def SheetTornSaid : Prop := sheetTornRow.holds Tryd.pinned (OpenSpec.ofChange sheetTornSpec)

/-- ITS FALSE NEIGHBOUR: 'it returns false'. Refute it at one input. -/
def sheetTornWrong : ChangeSpec := { name := "sheetTorn", fn := fun _ => fun
  | [d] => { results := [.lit (.bool false)], args := [d] }
  | _ => none }
def SheetTornWrongFalsely : Prop := sheetTornRow.holds Tryd.pinned (OpenSpec.ofChange sheetTornWrong)

/-- 'tierlinekeep.SheetFixed': WHATEVER THE INPUT: true; the input reads as it did. -/
def sheetFixedSpec : ChangeSpec := { name := "sheetFixed", fn := fun _ => fun
  | [d] => { results := [.lit (.bool true)], args := [d] }
  | _ => none }
def sheetFixedRow : OpenClaim := { program := "ytappljijljjkiaadoor", sum := "98e42bd11d1039e8993f5f8246e78abeb3bbd07ccde4bab2e62d7c1fe57f5eb1", func := "tierline/tierlinekeep.SheetFixed", spec := "sheetFixed", inPlace := ["internal/bytealg.IndexByteString", "internal/bytealg.CountString", "internal/bytealg.IndexString", "internal/abi.NoEscape"], unfollowed := true, recurses := true, named := ["unicode/utf8.first", "unicode/utf8.acceptRanges", "internal/bytealg.MaxLen", "strconv.ErrSyntax", "strconv.ErrRange", "internal/strconv.uint64pow10", "math/bits.deBruijn32tab", "math/bits.deBruijn64tab", "tierline/sheet.words", "tierline/code.has"], plainKeys := false, apart := false, laid := [("math/bits.deBruijn32tab", laid_math_bits_deBruijn32tab), ("math/bits.deBruijn64tab", laid_math_bits_deBruijn64tab), ("internal/strconv.uint64pow10", laid_internal_strconv_uint64pow10), ("unicode/utf8.acceptRanges", laid_unicode_utf8_acceptRanges), ("strconv.ErrRange", laid_strconv_ErrRange), ("strconv.ErrSyntax", laid_strconv_ErrSyntax), ("tierline/code.has", laid_tierline_code_has), ("tierline/sheet.words", laid_tierline_sheet_words), ("unicode/utf8.first", laid_unicode_utf8_first)] }
def SheetFixedSaid : Prop := sheetFixedRow.holds Tryd.pinned (OpenSpec.ofChange sheetFixedSpec)

/-- ITS FALSE NEIGHBOUR: 'it returns false'. Refute it at one input. -/
def sheetFixedWrong : ChangeSpec := { name := "sheetFixed", fn := fun _ => fun
  | [d] => { results := [.lit (.bool false)], args := [d] }
  | _ => none }
def SheetFixedWrongFalsely : Prop := sheetFixedRow.holds Tryd.pinned (OpenSpec.ofChange sheetFixedWrong)

/-- 'tierlinekeep.SheetBad': WHATEVER THE INPUT: true; the input reads as it did. -/
def sheetBadSpec : ChangeSpec := { name := "sheetBad", fn := fun _ => fun
  | [d1, d2, d3] => { results := [.lit (.bool true)], args := [d1, d2, d3] }
  | _ => none }
def sheetBadRow : OpenClaim := { program := "ytappljijljjkiaadoor", sum := "98e42bd11d1039e8993f5f8246e78abeb3bbd07ccde4bab2e62d7c1fe57f5eb1", func := "tierline/tierlinekeep.SheetBad", spec := "sheetBad", inPlace := ["internal/abi.NoEscape", "internal/bytealg.IndexByteString", "internal/bytealg.CountString", "internal/bytealg.IndexString"], unfollowed := true, recurses := true, named := ["tierline/code.has", "internal/strconv.uint64pow10", "math/bits.deBruijn32tab", "math/bits.deBruijn64tab", "tierline/sheet.words", "unicode/utf8.first", "unicode/utf8.acceptRanges", "internal/bytealg.MaxLen", "strconv.ErrSyntax", "strconv.ErrRange"], plainKeys := false, apart := false, laid := [("math/bits.deBruijn32tab", laid_math_bits_deBruijn32tab), ("math/bits.deBruijn64tab", laid_math_bits_deBruijn64tab), ("internal/strconv.uint64pow10", laid_internal_strconv_uint64pow10), ("unicode/utf8.acceptRanges", laid_unicode_utf8_acceptRanges), ("strconv.ErrRange", laid_strconv_ErrRange), ("strconv.ErrSyntax", laid_strconv_ErrSyntax), ("tierline/code.has", laid_tierline_code_has), ("tierline/sheet.words", laid_tierline_sheet_words), ("unicode/utf8.first", laid_unicode_utf8_first)] }
def SheetBadSaid : Prop := sheetBadRow.holds Tryd.pinned (OpenSpec.ofChange sheetBadSpec)

/-- ITS FALSE NEIGHBOUR: 'it returns false'. Refute it at one input. -/
def sheetBadWrong : ChangeSpec := { name := "sheetBad", fn := fun _ => fun
  | [d1, d2, d3] => { results := [.lit (.bool false)], args := [d1, d2, d3] }
  | _ => none }
def SheetBadWrongFalsely : Prop := sheetBadRow.holds Tryd.pinned (OpenSpec.ofChange sheetBadWrong)

/-- 'tierlinekeep.FactsSide': WHATEVER THE INPUT: true; the input reads as it did. -/
def factsSideSpec : ChangeSpec := { name := "factsSide", fn := fun _ => fun
  | [d1, d2] => { results := [.lit (.bool true)], args := [d1, d2] }
  | _ => none }
def factsSideRow : OpenClaim := { program := "ytappljijljjkiaadoor", sum := "98e42bd11d1039e8993f5f8246e78abeb3bbd07ccde4bab2e62d7c1fe57f5eb1", func := "tierline/tierlinekeep.FactsSide", spec := "factsSide", unfollowed := true, recurses := true, named := ["tierline/code.has"], plainKeys := false, apart := false, laid := [("tierline/code.has", laid_tierline_code_has)] }
def FactsSideSaid : Prop := factsSideRow.holds Tryd.pinned (OpenSpec.ofChange factsSideSpec)

/-- ITS FALSE NEIGHBOUR: 'it returns false'. Refute it at one input. -/
def factsSideWrong : ChangeSpec := { name := "factsSide", fn := fun _ => fun
  | [d1, d2] => { results := [.lit (.bool false)], args := [d1, d2] }
  | _ => none }
def FactsSideWrongFalsely : Prop := factsSideRow.holds Tryd.pinned (OpenSpec.ofChange factsSideWrong)

/-- 'tierlinekeep.FactsLoop': WHATEVER THE INPUT: true; the input reads as it did. -/
def factsLoopSpec : ChangeSpec := { name := "factsLoop", fn := fun _ => fun
  | [d1, d2] => { results := [.lit (.bool true)], args := [d1, d2] }
  | _ => none }
def factsLoopRow : OpenClaim := { program := "ytappljijljjkiaadoor", sum := "98e42bd11d1039e8993f5f8246e78abeb3bbd07ccde4bab2e62d7c1fe57f5eb1", func := "tierline/tierlinekeep.FactsLoop", spec := "factsLoop", unfollowed := true, recurses := true, named := ["tierline/code.has"], plainKeys := false, apart := false, laid := [("tierline/code.has", laid_tierline_code_has)] }
def FactsLoopSaid : Prop := factsLoopRow.holds Tryd.pinned (OpenSpec.ofChange factsLoopSpec)

/-- ITS FALSE NEIGHBOUR: 'it returns false'. Refute it at one input. -/
def factsLoopWrong : ChangeSpec := { name := "factsLoop", fn := fun _ => fun
  | [d1, d2] => { results := [.lit (.bool false)], args := [d1, d2] }
  | _ => none }
def FactsLoopWrongFalsely : Prop := factsLoopRow.holds Tryd.pinned (OpenSpec.ofChange factsLoopWrong)

/-- 'tierlinekeep.SsaTrue': WHATEVER THE INPUT: true; the input reads as it did. -/
def ssaTrueSpec : ChangeSpec := { name := "ssaTrue", fn := fun _ => fun
  | [d1, d2] => { results := [.lit (.bool true)], args := [d1, d2] }
  | _ => none }
def ssaTrueRow : OpenClaim := { program := "ytappljijljjkiaadoor", sum := "98e42bd11d1039e8993f5f8246e78abeb3bbd07ccde4bab2e62d7c1fe57f5eb1", func := "tierline/tierlinekeep.SsaTrue", spec := "ssaTrue", unfollowed := true, recurses := true, named := ["tierline/code.has"], plainKeys := false, apart := false, laid := [("tierline/code.has", laid_tierline_code_has)] }
def SsaTrueSaid : Prop := ssaTrueRow.holds Tryd.pinned (OpenSpec.ofChange ssaTrueSpec)

/-- ITS FALSE NEIGHBOUR: 'it returns false'. Refute it at one input. -/
def ssaTrueWrong : ChangeSpec := { name := "ssaTrue", fn := fun _ => fun
  | [d1, d2] => { results := [.lit (.bool false)], args := [d1, d2] }
  | _ => none }
def SsaTrueWrongFalsely : Prop := ssaTrueRow.holds Tryd.pinned (OpenSpec.ofChange ssaTrueWrong)

/-- 'tierlinekeep.FactsTrue': WHATEVER THE INPUT: true; the input reads as it did. -/
def factsTrueSpec : ChangeSpec := { name := "factsTrue", fn := fun _ => fun
  | [d1, d2] => { results := [.lit (.bool true)], args := [d1, d2] }
  | _ => none }
def factsTrueRow : OpenClaim := { program := "ytappljijljjkiaadoor", sum := "98e42bd11d1039e8993f5f8246e78abeb3bbd07ccde4bab2e62d7c1fe57f5eb1", func := "tierline/tierlinekeep.FactsTrue", spec := "factsTrue", unfollowed := true, recurses := true, named := ["tierline/code.has"], plainKeys := false, apart := false, laid := [("tierline/code.has", laid_tierline_code_has)] }
def FactsTrueSaid : Prop := factsTrueRow.holds Tryd.pinned (OpenSpec.ofChange factsTrueSpec)

/-- ITS FALSE NEIGHBOUR: 'it returns false'. Refute it at one input. -/
def factsTrueWrong : ChangeSpec := { name := "factsTrue", fn := fun _ => fun
  | [d1, d2] => { results := [.lit (.bool false)], args := [d1, d2] }
  | _ => none }
def FactsTrueWrongFalsely : Prop := factsTrueRow.holds Tryd.pinned (OpenSpec.ofChange factsTrueWrong)

/-- 'tierlinekeep.FactsLine': WHATEVER THE INPUT: true; the input reads as it did. -/
def factsLineSpec : ChangeSpec := { name := "factsLine", fn := fun _ => fun
  | [d] => { results := [.lit (.bool true)], args := [d] }
  | _ => none }
def factsLineRow : OpenClaim := { program := "ytappljijljjkiaadoor", sum := "98e42bd11d1039e8993f5f8246e78abeb3bbd07ccde4bab2e62d7c1fe57f5eb1", func := "tierline/tierlinekeep.FactsLine", spec := "factsLine", unfollowed := true, recurses := true, named := ["tierline/code.has"], plainKeys := false, apart := false, laid := [("tierline/code.has", laid_tierline_code_has)] }
def FactsLineSaid : Prop := factsLineRow.holds Tryd.pinned (OpenSpec.ofChange factsLineSpec)

/-- ITS FALSE NEIGHBOUR: 'it returns false'. Refute it at one input. -/
def factsLineWrong : ChangeSpec := { name := "factsLine", fn := fun _ => fun
  | [d] => { results := [.lit (.bool false)], args := [d] }
  | _ => none }
def FactsLineWrongFalsely : Prop := factsLineRow.holds Tryd.pinned (OpenSpec.ofChange factsLineWrong)

/-- 'tierlinekeep.AssignLine': WHATEVER THE INPUT: true; the input reads as it did. -/
def assignLineSpec : ChangeSpec := { name := "assignLine", fn := fun _ => fun
  | [d] => { results := [.lit (.bool true)], args := [d] }
  | _ => none }
def assignLineRow : OpenClaim := { program := "ytappljijljjkiaadoor", sum := "98e42bd11d1039e8993f5f8246e78abeb3bbd07ccde4bab2e62d7c1fe57f5eb1", func := "tierline/tierlinekeep.AssignLine", spec := "assignLine", unfollowed := true, recurses := true, named := ["tierline/code.has"], plainKeys := false, apart := false, laid := [("tierline/code.has", laid_tierline_code_has)] }
def AssignLineSaid : Prop := assignLineRow.holds Tryd.pinned (OpenSpec.ofChange assignLineSpec)

/-- ITS FALSE NEIGHBOUR: 'it returns false'. Refute it at one input. -/
def assignLineWrong : ChangeSpec := { name := "assignLine", fn := fun _ => fun
  | [d] => { results := [.lit (.bool false)], args := [d] }
  | _ => none }
def AssignLineWrongFalsely : Prop := assignLineRow.holds Tryd.pinned (OpenSpec.ofChange assignLineWrong)

/-- 'tierlinekeep.AssignKeeps': WHATEVER THE INPUT: true; the input reads as it did. -/
def assignKeepsSpec : ChangeSpec := { name := "assignKeeps", fn := fun _ => fun
  | [d1, d2] => { results := [.lit (.bool true)], args := [d1, d2] }
  | _ => none }
def assignKeepsRow : OpenClaim := { program := "ytappljijljjkiaadoor", sum := "98e42bd11d1039e8993f5f8246e78abeb3bbd07ccde4bab2e62d7c1fe57f5eb1", func := "tierline/tierlinekeep.AssignKeeps", spec := "assignKeeps", unfollowed := true, recurses := true, named := ["tierline/code.has"], plainKeys := false, apart := false, laid := [("tierline/code.has", laid_tierline_code_has)] }
def AssignKeepsSaid : Prop := assignKeepsRow.holds Tryd.pinned (OpenSpec.ofChange assignKeepsSpec)

/-- ITS FALSE NEIGHBOUR: 'it returns false'. Refute it at one input. -/
def assignKeepsWrong : ChangeSpec := { name := "assignKeeps", fn := fun _ => fun
  | [d1, d2] => { results := [.lit (.bool false)], args := [d1, d2] }
  | _ => none }
def AssignKeepsWrongFalsely : Prop := assignKeepsRow.holds Tryd.pinned (OpenSpec.ofChange assignKeepsWrong)

/- THE SECOND FORM. 'bulk': how many values and letters a reading holds, each counted each time it is reached (what is shared counts as often as it is met; a slice's spare places count too). A statement '..UptoSaid' is the law's where the arguments, and the package variables that the reading takes, are together of bulk at most 1048576: NARROWER than '..Said'. Prove '..Said' where nothing that the law and all that it calls make is longer than what came in: it says more and counts as full. Else prove '..UptoSaid'. A law counts once. -/
mutual
def uptoBulk {H : Type} : DataW H → Nat
  | .lit (.string bytes) => bytes.length + 1
  | .lit _ => 1
  | .nil => 1
  | .ptr d => uptoBulk d + 1
  | .slice elems spare => uptoBulkAll elems + uptoBulkAll spare + 1
  | .agg parts => uptoBulkAll parts + 1
  | .iface _ d => uptoBulk d + 1
  | .map entries => uptoBulkEntries entries + 1
  | .held _ => 1
def uptoBulkAll {H : Type} : List (DataW H) → Nat
  | [] => 0
  | d :: r => uptoBulk d + uptoBulkAll r
def uptoBulkEntries {H : Type} : List (Lit × DataW H) → Nat
  | [] => 0
  | x :: r => uptoBulkEntry x + uptoBulkEntries r
def uptoBulkEntry {H : Type} : Lit × DataW H → Nat
  | (.string bytes, d) => bytes.length + uptoBulk d + 1
  | (_, d) => uptoBulk d + 1
 end
def uptoSmall : (H : Type) → List (DataW H) → Bool := fun _ ds => decide (uptoBulkAll ds ≤ 1048576)
def OpenSpec.upto (s : _root_.Go.ChangeSpec) : _root_.Go.OpenSpec := { _root_.Go.OpenSpec.ofChange s with cond := some uptoSmall }

/-- 'tierlinekeep.SheetBack', WHERE WHAT IT READS IS OF BULK AT MOST 1048576: true; the input reads as it did. -/
def sheetBackUptoRow : OpenClaim := { program := "ytappljijljjkiaadoor", sum := "98e42bd11d1039e8993f5f8246e78abeb3bbd07ccde4bab2e62d7c1fe57f5eb1", func := "tierline/tierlinekeep.SheetBack", spec := "sheetBack", inPlace := ["internal/abi.NoEscape", "internal/bytealg.IndexByteString", "internal/bytealg.CountString", "internal/bytealg.IndexString"], unfollowed := true, recurses := true, named := ["tierline/code.has", "internal/strconv.uint64pow10", "math/bits.deBruijn32tab", "math/bits.deBruijn64tab", "tierline/sheet.words", "unicode/utf8.first", "unicode/utf8.acceptRanges", "internal/bytealg.MaxLen", "strconv.ErrSyntax", "strconv.ErrRange"], plainKeys := false, apart := false, laid := [("math/bits.deBruijn32tab", laid_math_bits_deBruijn32tab), ("math/bits.deBruijn64tab", laid_math_bits_deBruijn64tab), ("internal/strconv.uint64pow10", laid_internal_strconv_uint64pow10), ("unicode/utf8.acceptRanges", laid_unicode_utf8_acceptRanges), ("strconv.ErrRange", laid_strconv_ErrRange), ("strconv.ErrSyntax", laid_strconv_ErrSyntax), ("tierline/code.has", laid_tierline_code_has), ("tierline/sheet.words", laid_tierline_sheet_words), ("unicode/utf8.first", laid_unicode_utf8_first)], narrowed := true }
def SheetBackUptoSaid : Prop := sheetBackUptoRow.holds Tryd.pinned (OpenSpec.upto sheetBackSpec)

/-- 'tierlinekeep.SheetTorn', WHERE WHAT IT READS IS OF BULK AT MOST 1048576: true; the input reads as it did. -/
def sheetTornUptoRow : OpenClaim := { program := "ytappljijljjkiaadoor", sum := "98e42bd11d1039e8993f5f8246e78abeb3bbd07ccde4bab2e62d7c1fe57f5eb1", func := "tierline/tierlinekeep.SheetTorn", spec := "sheetTorn", inPlace := ["internal/abi.NoEscape", "internal/bytealg.IndexByteString", "internal/bytealg.CountString", "internal/bytealg.IndexString"], unfollowed := true, recurses := true, named := ["tierline/code.has", "internal/strconv.uint64pow10", "math/bits.deBruijn32tab", "math/bits.deBruijn64tab", "tierline/sheet.words", "unicode/utf8.first", "unicode/utf8.acceptRanges", "internal/bytealg.MaxLen", "strconv.ErrSyntax", "strconv.ErrRange"], plainKeys := false, apart := false, laid := [("math/bits.deBruijn32tab", laid_math_bits_deBruijn32tab), ("math/bits.deBruijn64tab", laid_math_bits_deBruijn64tab), ("internal/strconv.uint64pow10", laid_internal_strconv_uint64pow10), ("unicode/utf8.acceptRanges", laid_unicode_utf8_acceptRanges), ("strconv.ErrRange", laid_strconv_ErrRange), ("strconv.ErrSyntax", laid_strconv_ErrSyntax), ("tierline/code.has", laid_tierline_code_has), ("tierline/sheet.words", laid_tierline_sheet_words), ("unicode/utf8.first", laid_unicode_utf8_first)], narrowed := true }
def SheetTornUptoSaid : Prop := sheetTornUptoRow.holds Tryd.pinned (OpenSpec.upto sheetTornSpec)

/-- 'tierlinekeep.SheetFixed', WHERE WHAT IT READS IS OF BULK AT MOST 1048576: true; the input reads as it did. -/
def sheetFixedUptoRow : OpenClaim := { program := "ytappljijljjkiaadoor", sum := "98e42bd11d1039e8993f5f8246e78abeb3bbd07ccde4bab2e62d7c1fe57f5eb1", func := "tierline/tierlinekeep.SheetFixed", spec := "sheetFixed", inPlace := ["internal/bytealg.IndexByteString", "internal/bytealg.CountString", "internal/bytealg.IndexString", "internal/abi.NoEscape"], unfollowed := true, recurses := true, named := ["unicode/utf8.first", "unicode/utf8.acceptRanges", "internal/bytealg.MaxLen", "strconv.ErrSyntax", "strconv.ErrRange", "internal/strconv.uint64pow10", "math/bits.deBruijn32tab", "math/bits.deBruijn64tab", "tierline/sheet.words", "tierline/code.has"], plainKeys := false, apart := false, laid := [("math/bits.deBruijn32tab", laid_math_bits_deBruijn32tab), ("math/bits.deBruijn64tab", laid_math_bits_deBruijn64tab), ("internal/strconv.uint64pow10", laid_internal_strconv_uint64pow10), ("unicode/utf8.acceptRanges", laid_unicode_utf8_acceptRanges), ("strconv.ErrRange", laid_strconv_ErrRange), ("strconv.ErrSyntax", laid_strconv_ErrSyntax), ("tierline/code.has", laid_tierline_code_has), ("tierline/sheet.words", laid_tierline_sheet_words), ("unicode/utf8.first", laid_unicode_utf8_first)], narrowed := true }
def SheetFixedUptoSaid : Prop := sheetFixedUptoRow.holds Tryd.pinned (OpenSpec.upto sheetFixedSpec)

/-- 'tierlinekeep.SheetBad', WHERE WHAT IT READS IS OF BULK AT MOST 1048576: true; the input reads as it did. -/
def sheetBadUptoRow : OpenClaim := { program := "ytappljijljjkiaadoor", sum := "98e42bd11d1039e8993f5f8246e78abeb3bbd07ccde4bab2e62d7c1fe57f5eb1", func := "tierline/tierlinekeep.SheetBad", spec := "sheetBad", inPlace := ["internal/abi.NoEscape", "internal/bytealg.IndexByteString", "internal/bytealg.CountString", "internal/bytealg.IndexString"], unfollowed := true, recurses := true, named := ["tierline/code.has", "internal/strconv.uint64pow10", "math/bits.deBruijn32tab", "math/bits.deBruijn64tab", "tierline/sheet.words", "unicode/utf8.first", "unicode/utf8.acceptRanges", "internal/bytealg.MaxLen", "strconv.ErrSyntax", "strconv.ErrRange"], plainKeys := false, apart := false, laid := [("math/bits.deBruijn32tab", laid_math_bits_deBruijn32tab), ("math/bits.deBruijn64tab", laid_math_bits_deBruijn64tab), ("internal/strconv.uint64pow10", laid_internal_strconv_uint64pow10), ("unicode/utf8.acceptRanges", laid_unicode_utf8_acceptRanges), ("strconv.ErrRange", laid_strconv_ErrRange), ("strconv.ErrSyntax", laid_strconv_ErrSyntax), ("tierline/code.has", laid_tierline_code_has), ("tierline/sheet.words", laid_tierline_sheet_words), ("unicode/utf8.first", laid_unicode_utf8_first)], narrowed := true }
def SheetBadUptoSaid : Prop := sheetBadUptoRow.holds Tryd.pinned (OpenSpec.upto sheetBadSpec)

/-- 'tierlinekeep.FactsSide', WHERE WHAT IT READS IS OF BULK AT MOST 1048576: true; the input reads as it did. -/
def factsSideUptoRow : OpenClaim := { program := "ytappljijljjkiaadoor", sum := "98e42bd11d1039e8993f5f8246e78abeb3bbd07ccde4bab2e62d7c1fe57f5eb1", func := "tierline/tierlinekeep.FactsSide", spec := "factsSide", unfollowed := true, recurses := true, named := ["tierline/code.has"], plainKeys := false, apart := false, laid := [("tierline/code.has", laid_tierline_code_has)], narrowed := true }
def FactsSideUptoSaid : Prop := factsSideUptoRow.holds Tryd.pinned (OpenSpec.upto factsSideSpec)

/-- 'tierlinekeep.FactsLoop', WHERE WHAT IT READS IS OF BULK AT MOST 1048576: true; the input reads as it did. -/
def factsLoopUptoRow : OpenClaim := { program := "ytappljijljjkiaadoor", sum := "98e42bd11d1039e8993f5f8246e78abeb3bbd07ccde4bab2e62d7c1fe57f5eb1", func := "tierline/tierlinekeep.FactsLoop", spec := "factsLoop", unfollowed := true, recurses := true, named := ["tierline/code.has"], plainKeys := false, apart := false, laid := [("tierline/code.has", laid_tierline_code_has)], narrowed := true }
def FactsLoopUptoSaid : Prop := factsLoopUptoRow.holds Tryd.pinned (OpenSpec.upto factsLoopSpec)

/-- 'tierlinekeep.SsaTrue', WHERE WHAT IT READS IS OF BULK AT MOST 1048576: true; the input reads as it did. -/
def ssaTrueUptoRow : OpenClaim := { program := "ytappljijljjkiaadoor", sum := "98e42bd11d1039e8993f5f8246e78abeb3bbd07ccde4bab2e62d7c1fe57f5eb1", func := "tierline/tierlinekeep.SsaTrue", spec := "ssaTrue", unfollowed := true, recurses := true, named := ["tierline/code.has"], plainKeys := false, apart := false, laid := [("tierline/code.has", laid_tierline_code_has)], narrowed := true }
def SsaTrueUptoSaid : Prop := ssaTrueUptoRow.holds Tryd.pinned (OpenSpec.upto ssaTrueSpec)

/-- 'tierlinekeep.FactsTrue', WHERE WHAT IT READS IS OF BULK AT MOST 1048576: true; the input reads as it did. -/
def factsTrueUptoRow : OpenClaim := { program := "ytappljijljjkiaadoor", sum := "98e42bd11d1039e8993f5f8246e78abeb3bbd07ccde4bab2e62d7c1fe57f5eb1", func := "tierline/tierlinekeep.FactsTrue", spec := "factsTrue", unfollowed := true, recurses := true, named := ["tierline/code.has"], plainKeys := false, apart := false, laid := [("tierline/code.has", laid_tierline_code_has)], narrowed := true }
def FactsTrueUptoSaid : Prop := factsTrueUptoRow.holds Tryd.pinned (OpenSpec.upto factsTrueSpec)

/-- 'tierlinekeep.FactsLine', WHERE WHAT IT READS IS OF BULK AT MOST 1048576: true; the input reads as it did. -/
def factsLineUptoRow : OpenClaim := { program := "ytappljijljjkiaadoor", sum := "98e42bd11d1039e8993f5f8246e78abeb3bbd07ccde4bab2e62d7c1fe57f5eb1", func := "tierline/tierlinekeep.FactsLine", spec := "factsLine", unfollowed := true, recurses := true, named := ["tierline/code.has"], plainKeys := false, apart := false, laid := [("tierline/code.has", laid_tierline_code_has)], narrowed := true }
def FactsLineUptoSaid : Prop := factsLineUptoRow.holds Tryd.pinned (OpenSpec.upto factsLineSpec)

/-- 'tierlinekeep.AssignLine', WHERE WHAT IT READS IS OF BULK AT MOST 1048576: true; the input reads as it did. -/
def assignLineUptoRow : OpenClaim := { program := "ytappljijljjkiaadoor", sum := "98e42bd11d1039e8993f5f8246e78abeb3bbd07ccde4bab2e62d7c1fe57f5eb1", func := "tierline/tierlinekeep.AssignLine", spec := "assignLine", unfollowed := true, recurses := true, named := ["tierline/code.has"], plainKeys := false, apart := false, laid := [("tierline/code.has", laid_tierline_code_has)], narrowed := true }
def AssignLineUptoSaid : Prop := assignLineUptoRow.holds Tryd.pinned (OpenSpec.upto assignLineSpec)

/-- 'tierlinekeep.AssignKeeps', WHERE WHAT IT READS IS OF BULK AT MOST 1048576: true; the input reads as it did. -/
def assignKeepsUptoRow : OpenClaim := { program := "ytappljijljjkiaadoor", sum := "98e42bd11d1039e8993f5f8246e78abeb3bbd07ccde4bab2e62d7c1fe57f5eb1", func := "tierline/tierlinekeep.AssignKeeps", spec := "assignKeeps", unfollowed := true, recurses := true, named := ["tierline/code.has"], plainKeys := false, apart := false, laid := [("tierline/code.has", laid_tierline_code_has)], narrowed := true }
def AssignKeepsUptoSaid : Prop := assignKeepsUptoRow.holds Tryd.pinned (OpenSpec.upto assignKeepsSpec)

end Rows
end Go.Proofs.YtappljijljjkiaaDoor
