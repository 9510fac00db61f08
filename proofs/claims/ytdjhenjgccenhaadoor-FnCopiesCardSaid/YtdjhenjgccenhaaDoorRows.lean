/-
  NARROWER THAN 'FOR EVERY INPUT', by the rows' own cells (each row's printed sentence says how): FnExactAreCopies: laid · FnExactCountDifferences: laid · FnExactMajorityText: laid · FnExactMayDerive: laid · FnExactReadCopy: laid · FnExactErrorsOf: laid · FnExactCommonErrors: laid · FnExactUselessCopies: laid · FnCopies: laid · FnExactCopyText: laid · FnCopyTexts: laid · FnExactIsStemma: laid.
  DERIVED. THE GIVEN ROWS OF THIS SEAT. 12 by the template 'for every input the law returns true; each argument reads behind the call as it read before'; 0 by the template 'total and deterministic' (their statements: YtdjhenjgccenhaaDoorTotals.lean).
  GIVEN WITH THE SEED: the statements are not yours to turn. If you find one false, say at which input.
  Laid BY PROGRAM, IN A SANDBOX (cutbox-rows.mjs): the forced cells as the released guide's own fill.sh prints them over the translation 59eec3a8283944e4… (all of the seat's roots in one cut). By AI agents, Wed Nov 11 2026. No macro, syntax, notation, axiom, sorry.
-/
import Derived.Test.YtdjhenjgccenhaaDoorChecked
import GoSem.PinnedTables
import GoSem.Claim
import GoSem.ClaimJoined
import GoSem.ClaimMapViews
import Derived.JoinedTies
import Derived.KernelRfl
namespace Go.Proofs.YtdjhenjgccenhaaDoor
/- THE CELL 'sum', in the pinned program and in every row, IS THE sha256 OF THE DUMP (.gsa) THAT YtdjhenjgccenhaaDoorProg.lean LOADS. Nothing in Lean hashes anything: it is a label: what it is worth is what the hold of that sum in a sandbox is worth. -/
noncomputable def Tryd.pinned : Pinned := { name := "ytdjhenjgccenhaadoor", sum := "59eec3a8283944e481415158c6ca36203cf0b19057b2b43c0301ebb1c71140a6", checked := Tryd.checked }
namespace Rows
def none {H : Type} : Left H := { results := [], args := [] }

/- WHAT THE LISTED PACKAGE-LEVEL VARIABLES READ AS WHEN THE CALL BEGINS. Each datum BY PROGRAM (the guide's laid-datum.mjs) off the statement by which the dump's own 'gosem.cut.vars' lays the variable. In a bare row this is a premise. The card (YtdjhenjgccenhaaDoorCards.lean) ties it to the program's text. -/
def laid_unicode_utf8_acceptRanges {H : Type} : DataW H := .agg [.agg [.lit (.int .u8 128), .lit (.int .u8 191)], .agg [.lit (.int .u8 160), .lit (.int .u8 191)], .agg [.lit (.int .u8 128), .lit (.int .u8 159)], .agg [.lit (.int .u8 144), .lit (.int .u8 191)], .agg [.lit (.int .u8 128), .lit (.int .u8 143)], .agg [.lit (.int .u8 0), .lit (.int .u8 0)], .agg [.lit (.int .u8 0), .lit (.int .u8 0)], .agg [.lit (.int .u8 0), .lit (.int .u8 0)], .agg [.lit (.int .u8 0), .lit (.int .u8 0)], .agg [.lit (.int .u8 0), .lit (.int .u8 0)], .agg [.lit (.int .u8 0), .lit (.int .u8 0)], .agg [.lit (.int .u8 0), .lit (.int .u8 0)], .agg [.lit (.int .u8 0), .lit (.int .u8 0)], .agg [.lit (.int .u8 0), .lit (.int .u8 0)], .agg [.lit (.int .u8 0), .lit (.int .u8 0)], .agg [.lit (.int .u8 0), .lit (.int .u8 0)]]
/-- One of Go's own tables, pinned by name: the form's constant. -/
def laid_unicode_utf8_first : DataW Unit := Go.Pinned.utf8First
def laid_math_bits_deBruijn32tab {H : Type} : DataW H := .agg [.lit (.int .u8 0), .lit (.int .u8 1), .lit (.int .u8 28), .lit (.int .u8 2), .lit (.int .u8 29), .lit (.int .u8 14), .lit (.int .u8 24), .lit (.int .u8 3), .lit (.int .u8 30), .lit (.int .u8 22), .lit (.int .u8 20), .lit (.int .u8 15), .lit (.int .u8 25), .lit (.int .u8 17), .lit (.int .u8 4), .lit (.int .u8 8), .lit (.int .u8 31), .lit (.int .u8 27), .lit (.int .u8 13), .lit (.int .u8 23), .lit (.int .u8 21), .lit (.int .u8 19), .lit (.int .u8 16), .lit (.int .u8 7), .lit (.int .u8 26), .lit (.int .u8 12), .lit (.int .u8 18), .lit (.int .u8 6), .lit (.int .u8 11), .lit (.int .u8 5), .lit (.int .u8 10), .lit (.int .u8 9)]
def laid_math_bits_deBruijn64tab {H : Type} : DataW H := .agg [.lit (.int .u8 0), .lit (.int .u8 1), .lit (.int .u8 56), .lit (.int .u8 2), .lit (.int .u8 57), .lit (.int .u8 49), .lit (.int .u8 28), .lit (.int .u8 3), .lit (.int .u8 61), .lit (.int .u8 58), .lit (.int .u8 42), .lit (.int .u8 50), .lit (.int .u8 38), .lit (.int .u8 29), .lit (.int .u8 17), .lit (.int .u8 4), .lit (.int .u8 62), .lit (.int .u8 47), .lit (.int .u8 59), .lit (.int .u8 36), .lit (.int .u8 45), .lit (.int .u8 43), .lit (.int .u8 51), .lit (.int .u8 22), .lit (.int .u8 53), .lit (.int .u8 39), .lit (.int .u8 33), .lit (.int .u8 30), .lit (.int .u8 24), .lit (.int .u8 18), .lit (.int .u8 12), .lit (.int .u8 5), .lit (.int .u8 63), .lit (.int .u8 55), .lit (.int .u8 48), .lit (.int .u8 27), .lit (.int .u8 60), .lit (.int .u8 41), .lit (.int .u8 37), .lit (.int .u8 16), .lit (.int .u8 46), .lit (.int .u8 35), .lit (.int .u8 44), .lit (.int .u8 21), .lit (.int .u8 52), .lit (.int .u8 32), .lit (.int .u8 23), .lit (.int .u8 11), .lit (.int .u8 54), .lit (.int .u8 26), .lit (.int .u8 40), .lit (.int .u8 15), .lit (.int .u8 34), .lit (.int .u8 20), .lit (.int .u8 31), .lit (.int .u8 10), .lit (.int .u8 25), .lit (.int .u8 14), .lit (.int .u8 19), .lit (.int .u8 9), .lit (.int .u8 13), .lit (.int .u8 8), .lit (.int .u8 7), .lit (.int .u8 6)]
def laid_internal_strconv_uint64pow10 {H : Type} : DataW H := .agg [.lit (.int .u64 1), .lit (.int .u64 10), .lit (.int .u64 100), .lit (.int .u64 1000), .lit (.int .u64 10000), .lit (.int .u64 100000), .lit (.int .u64 1000000), .lit (.int .u64 10000000), .lit (.int .u64 100000000), .lit (.int .u64 1000000000), .lit (.int .u64 10000000000), .lit (.int .u64 100000000000), .lit (.int .u64 1000000000000), .lit (.int .u64 10000000000000), .lit (.int .u64 100000000000000), .lit (.int .u64 1000000000000000), .lit (.int .u64 10000000000000000), .lit (.int .u64 100000000000000000), .lit (.int .u64 1000000000000000000), .lit (.int .u64 10000000000000000000)]

/-- 'laws.FnExactAreCopies': WHATEVER THE INPUT: true; the input reads as it did. -/
def fnExactAreCopiesSpec : ChangeSpec := { name := "fnExactAreCopies", fn := fun _ => fun
  | [d] => { results := [.lit (.bool true)], args := [d] }
  | _ => none }
def fnExactAreCopiesRow : OpenClaim := { program := "ytdjhenjgccenhaadoor", sum := "59eec3a8283944e481415158c6ca36203cf0b19057b2b43c0301ebb1c71140a6", func := "loop.example/g01034/laws.FnExactAreCopies", spec := "fnExactAreCopies", inPlace := ["internal/bytealg.IndexByteString", "internal/bytealg.IndexString"], unfollowed := true, recurses := true, named := ["unicode/utf8.first", "unicode/utf8.acceptRanges", "internal/bytealg.MaxLen"], apart := false, laid := [("unicode/utf8.acceptRanges", laid_unicode_utf8_acceptRanges), ("unicode/utf8.first", laid_unicode_utf8_first)] }
def FnExactAreCopiesSaid : Prop := fnExactAreCopiesRow.holds Tryd.pinned (OpenSpec.ofChange fnExactAreCopiesSpec)

/-- ITS FALSE NEIGHBOUR: 'it returns false'. Refute it at one input. -/
def fnExactAreCopiesWrong : ChangeSpec := { name := "fnExactAreCopies", fn := fun _ => fun
  | [d] => { results := [.lit (.bool false)], args := [d] }
  | _ => none }
def FnExactAreCopiesWrongFalsely : Prop := fnExactAreCopiesRow.holds Tryd.pinned (OpenSpec.ofChange fnExactAreCopiesWrong)

/-- 'laws.FnExactCountDifferences': WHATEVER THE INPUT: true; the input reads as it did. -/
def fnExactCountDifferencesSpec : ChangeSpec := { name := "fnExactCountDifferences", fn := fun _ => fun
  | [d1, d2, d3] => { results := [.lit (.bool true)], args := [d1, d2, d3] }
  | _ => none }
def fnExactCountDifferencesRow : OpenClaim := { program := "ytdjhenjgccenhaadoor", sum := "59eec3a8283944e481415158c6ca36203cf0b19057b2b43c0301ebb1c71140a6", func := "loop.example/g01034/laws.FnExactCountDifferences", spec := "fnExactCountDifferences", inPlace := ["internal/bytealg.IndexByteString", "internal/bytealg.IndexString"], unfollowed := true, recurses := true, named := ["unicode/utf8.first", "unicode/utf8.acceptRanges", "internal/bytealg.MaxLen"], apart := false, laid := [("unicode/utf8.acceptRanges", laid_unicode_utf8_acceptRanges), ("unicode/utf8.first", laid_unicode_utf8_first)] }
def FnExactCountDifferencesSaid : Prop := fnExactCountDifferencesRow.holds Tryd.pinned (OpenSpec.ofChange fnExactCountDifferencesSpec)

/-- ITS FALSE NEIGHBOUR: 'it returns false'. Refute it at one input. -/
def fnExactCountDifferencesWrong : ChangeSpec := { name := "fnExactCountDifferences", fn := fun _ => fun
  | [d1, d2, d3] => { results := [.lit (.bool false)], args := [d1, d2, d3] }
  | _ => none }
def FnExactCountDifferencesWrongFalsely : Prop := fnExactCountDifferencesRow.holds Tryd.pinned (OpenSpec.ofChange fnExactCountDifferencesWrong)

/-- 'laws.FnExactMajorityText': WHATEVER THE INPUT: true; the input reads as it did. -/
def fnExactMajorityTextSpec : ChangeSpec := { name := "fnExactMajorityText", fn := fun _ => fun
  | [d] => { results := [.lit (.bool true)], args := [d] }
  | _ => none }
def fnExactMajorityTextRow : OpenClaim := { program := "ytdjhenjgccenhaadoor", sum := "59eec3a8283944e481415158c6ca36203cf0b19057b2b43c0301ebb1c71140a6", func := "loop.example/g01034/laws.FnExactMajorityText", spec := "fnExactMajorityText", inPlace := ["internal/bytealg.IndexByteString", "internal/bytealg.IndexString"], unfollowed := true, recurses := true, named := ["unicode/utf8.first", "unicode/utf8.acceptRanges", "internal/bytealg.MaxLen"], apart := false, laid := [("unicode/utf8.acceptRanges", laid_unicode_utf8_acceptRanges), ("unicode/utf8.first", laid_unicode_utf8_first)] }
def FnExactMajorityTextSaid : Prop := fnExactMajorityTextRow.holds Tryd.pinned (OpenSpec.ofChange fnExactMajorityTextSpec)

/-- ITS FALSE NEIGHBOUR: 'it returns false'. Refute it at one input. -/
def fnExactMajorityTextWrong : ChangeSpec := { name := "fnExactMajorityText", fn := fun _ => fun
  | [d] => { results := [.lit (.bool false)], args := [d] }
  | _ => none }
def FnExactMajorityTextWrongFalsely : Prop := fnExactMajorityTextRow.holds Tryd.pinned (OpenSpec.ofChange fnExactMajorityTextWrong)

/-- 'laws.FnExactMayDerive': WHATEVER THE INPUT: true; the input reads as it did. -/
def fnExactMayDeriveSpec : ChangeSpec := { name := "fnExactMayDerive", fn := fun _ => fun
  | [d1, d2, d3, d4] => { results := [.lit (.bool true)], args := [d1, d2, d3, d4] }
  | _ => none }
def fnExactMayDeriveRow : OpenClaim := { program := "ytdjhenjgccenhaadoor", sum := "59eec3a8283944e481415158c6ca36203cf0b19057b2b43c0301ebb1c71140a6", func := "loop.example/g01034/laws.FnExactMayDerive", spec := "fnExactMayDerive", inPlace := ["internal/bytealg.IndexByteString", "internal/bytealg.IndexString"], unfollowed := true, recurses := true, named := ["unicode/utf8.first", "unicode/utf8.acceptRanges", "internal/bytealg.MaxLen"], apart := false, laid := [("unicode/utf8.acceptRanges", laid_unicode_utf8_acceptRanges), ("unicode/utf8.first", laid_unicode_utf8_first)] }
def FnExactMayDeriveSaid : Prop := fnExactMayDeriveRow.holds Tryd.pinned (OpenSpec.ofChange fnExactMayDeriveSpec)

/-- ITS FALSE NEIGHBOUR: 'it returns false'. Refute it at one input. -/
def fnExactMayDeriveWrong : ChangeSpec := { name := "fnExactMayDerive", fn := fun _ => fun
  | [d1, d2, d3, d4] => { results := [.lit (.bool false)], args := [d1, d2, d3, d4] }
  | _ => none }
def FnExactMayDeriveWrongFalsely : Prop := fnExactMayDeriveRow.holds Tryd.pinned (OpenSpec.ofChange fnExactMayDeriveWrong)

/-- 'laws.FnExactReadCopy': WHATEVER THE INPUT: true; the input reads as it did. -/
def fnExactReadCopySpec : ChangeSpec := { name := "fnExactReadCopy", fn := fun _ => fun
  | [d] => { results := [.lit (.bool true)], args := [d] }
  | _ => none }
def fnExactReadCopyRow : OpenClaim := { program := "ytdjhenjgccenhaadoor", sum := "59eec3a8283944e481415158c6ca36203cf0b19057b2b43c0301ebb1c71140a6", func := "loop.example/g01034/laws.FnExactReadCopy", spec := "fnExactReadCopy", inPlace := ["internal/bytealg.IndexByteString", "internal/bytealg.IndexString"], unfollowed := true, recurses := true, named := ["internal/bytealg.MaxLen", "unicode/utf8.first", "unicode/utf8.acceptRanges"], apart := false, laid := [("unicode/utf8.acceptRanges", laid_unicode_utf8_acceptRanges), ("unicode/utf8.first", laid_unicode_utf8_first)] }
def FnExactReadCopySaid : Prop := fnExactReadCopyRow.holds Tryd.pinned (OpenSpec.ofChange fnExactReadCopySpec)

/-- ITS FALSE NEIGHBOUR: 'it returns false'. Refute it at one input. -/
def fnExactReadCopyWrong : ChangeSpec := { name := "fnExactReadCopy", fn := fun _ => fun
  | [d] => { results := [.lit (.bool false)], args := [d] }
  | _ => none }
def FnExactReadCopyWrongFalsely : Prop := fnExactReadCopyRow.holds Tryd.pinned (OpenSpec.ofChange fnExactReadCopyWrong)

/-- 'laws.FnExactErrorsOf': WHATEVER THE INPUT: true; the input reads as it did. -/
def fnExactErrorsOfSpec : ChangeSpec := { name := "fnExactErrorsOf", fn := fun _ => fun
  | [d1, d2, d3] => { results := [.lit (.bool true)], args := [d1, d2, d3] }
  | _ => none }
def fnExactErrorsOfRow : OpenClaim := { program := "ytdjhenjgccenhaadoor", sum := "59eec3a8283944e481415158c6ca36203cf0b19057b2b43c0301ebb1c71140a6", func := "loop.example/g01034/laws.FnExactErrorsOf", spec := "fnExactErrorsOf", inPlace := ["internal/bytealg.IndexByteString", "internal/bytealg.IndexString"], unfollowed := true, recurses := true, named := ["unicode/utf8.first", "unicode/utf8.acceptRanges", "internal/bytealg.MaxLen"], apart := false, laid := [("unicode/utf8.acceptRanges", laid_unicode_utf8_acceptRanges), ("unicode/utf8.first", laid_unicode_utf8_first)] }
def FnExactErrorsOfSaid : Prop := fnExactErrorsOfRow.holds Tryd.pinned (OpenSpec.ofChange fnExactErrorsOfSpec)

/-- ITS FALSE NEIGHBOUR: 'it returns false'. Refute it at one input. -/
def fnExactErrorsOfWrong : ChangeSpec := { name := "fnExactErrorsOf", fn := fun _ => fun
  | [d1, d2, d3] => { results := [.lit (.bool false)], args := [d1, d2, d3] }
  | _ => none }
def FnExactErrorsOfWrongFalsely : Prop := fnExactErrorsOfRow.holds Tryd.pinned (OpenSpec.ofChange fnExactErrorsOfWrong)

/-- 'laws.FnExactCommonErrors': WHATEVER THE INPUT: true; the input reads as it did. -/
def fnExactCommonErrorsSpec : ChangeSpec := { name := "fnExactCommonErrors", fn := fun _ => fun
  | [d1, d2, d3, d4] => { results := [.lit (.bool true)], args := [d1, d2, d3, d4] }
  | _ => none }
def fnExactCommonErrorsRow : OpenClaim := { program := "ytdjhenjgccenhaadoor", sum := "59eec3a8283944e481415158c6ca36203cf0b19057b2b43c0301ebb1c71140a6", func := "loop.example/g01034/laws.FnExactCommonErrors", spec := "fnExactCommonErrors", inPlace := ["internal/bytealg.IndexByteString", "internal/bytealg.IndexString"], unfollowed := true, recurses := true, named := ["unicode/utf8.first", "unicode/utf8.acceptRanges", "internal/bytealg.MaxLen"], apart := false, laid := [("unicode/utf8.acceptRanges", laid_unicode_utf8_acceptRanges), ("unicode/utf8.first", laid_unicode_utf8_first)] }
def FnExactCommonErrorsSaid : Prop := fnExactCommonErrorsRow.holds Tryd.pinned (OpenSpec.ofChange fnExactCommonErrorsSpec)

/-- ITS FALSE NEIGHBOUR: 'it returns false'. Refute it at one input. -/
def fnExactCommonErrorsWrong : ChangeSpec := { name := "fnExactCommonErrors", fn := fun _ => fun
  | [d1, d2, d3, d4] => { results := [.lit (.bool false)], args := [d1, d2, d3, d4] }
  | _ => none }
def FnExactCommonErrorsWrongFalsely : Prop := fnExactCommonErrorsRow.holds Tryd.pinned (OpenSpec.ofChange fnExactCommonErrorsWrong)

/-- 'laws.FnExactUselessCopies': WHATEVER THE INPUT: true; the input reads as it did. -/
def fnExactUselessCopiesSpec : ChangeSpec := { name := "fnExactUselessCopies", fn := fun _ => fun
  | [d1, d2] => { results := [.lit (.bool true)], args := [d1, d2] }
  | _ => none }
def fnExactUselessCopiesRow : OpenClaim := { program := "ytdjhenjgccenhaadoor", sum := "59eec3a8283944e481415158c6ca36203cf0b19057b2b43c0301ebb1c71140a6", func := "loop.example/g01034/laws.FnExactUselessCopies", spec := "fnExactUselessCopies", inPlace := ["internal/bytealg.IndexByteString", "internal/bytealg.IndexString"], unfollowed := true, recurses := true, named := ["unicode/utf8.first", "unicode/utf8.acceptRanges", "internal/bytealg.MaxLen"], apart := false, laid := [("unicode/utf8.acceptRanges", laid_unicode_utf8_acceptRanges), ("unicode/utf8.first", laid_unicode_utf8_first)] }
def FnExactUselessCopiesSaid : Prop := fnExactUselessCopiesRow.holds Tryd.pinned (OpenSpec.ofChange fnExactUselessCopiesSpec)

/-- ITS FALSE NEIGHBOUR: 'it returns false'. Refute it at one input. -/
def fnExactUselessCopiesWrong : ChangeSpec := { name := "fnExactUselessCopies", fn := fun _ => fun
  | [d1, d2] => { results := [.lit (.bool false)], args := [d1, d2] }
  | _ => none }
def FnExactUselessCopiesWrongFalsely : Prop := fnExactUselessCopiesRow.holds Tryd.pinned (OpenSpec.ofChange fnExactUselessCopiesWrong)

/-- 'laws.FnCopies': WHATEVER THE INPUT: true; the input reads as it did. -/
def fnCopiesSpec : ChangeSpec := { name := "fnCopies", fn := fun _ => fun
  | [d] => { results := [.lit (.bool true)], args := [d] }
  | _ => none }
def fnCopiesRow : OpenClaim := { program := "ytdjhenjgccenhaadoor", sum := "59eec3a8283944e481415158c6ca36203cf0b19057b2b43c0301ebb1c71140a6", func := "loop.example/g01034/laws.FnCopies", spec := "fnCopies", inPlace := ["internal/bytealg.IndexByteString", "internal/bytealg.IndexString"], unfollowed := true, recurses := true, named := ["unicode/utf8.first", "unicode/utf8.acceptRanges", "internal/bytealg.MaxLen"], apart := false, laid := [("unicode/utf8.acceptRanges", laid_unicode_utf8_acceptRanges), ("unicode/utf8.first", laid_unicode_utf8_first)] }
def FnCopiesSaid : Prop := fnCopiesRow.holds Tryd.pinned (OpenSpec.ofChange fnCopiesSpec)

/-- ITS FALSE NEIGHBOUR: 'it returns false'. Refute it at one input. -/
def fnCopiesWrong : ChangeSpec := { name := "fnCopies", fn := fun _ => fun
  | [d] => { results := [.lit (.bool false)], args := [d] }
  | _ => none }
def FnCopiesWrongFalsely : Prop := fnCopiesRow.holds Tryd.pinned (OpenSpec.ofChange fnCopiesWrong)

/-- 'laws.FnExactCopyText': WHATEVER THE INPUT: true; the input reads as it did. -/
def fnExactCopyTextSpec : ChangeSpec := { name := "fnExactCopyText", fn := fun _ => fun
  | [d] => { results := [.lit (.bool true)], args := [d] }
  | _ => none }
def fnExactCopyTextRow : OpenClaim := { program := "ytdjhenjgccenhaadoor", sum := "59eec3a8283944e481415158c6ca36203cf0b19057b2b43c0301ebb1c71140a6", func := "loop.example/g01034/laws.FnExactCopyText", spec := "fnExactCopyText", inPlace := ["internal/bytealg.IndexByteString", "internal/bytealg.IndexString"], unfollowed := true, recurses := true, named := ["unicode/utf8.first", "unicode/utf8.acceptRanges", "internal/strconv.uint64pow10", "math/bits.deBruijn32tab", "math/bits.deBruijn64tab", "internal/bytealg.MaxLen"], apart := false, laid := [("math/bits.deBruijn32tab", laid_math_bits_deBruijn32tab), ("math/bits.deBruijn64tab", laid_math_bits_deBruijn64tab), ("internal/strconv.uint64pow10", laid_internal_strconv_uint64pow10), ("unicode/utf8.acceptRanges", laid_unicode_utf8_acceptRanges), ("unicode/utf8.first", laid_unicode_utf8_first)] }
def FnExactCopyTextSaid : Prop := fnExactCopyTextRow.holds Tryd.pinned (OpenSpec.ofChange fnExactCopyTextSpec)

/-- ITS FALSE NEIGHBOUR: 'it returns false'. Refute it at one input. -/
def fnExactCopyTextWrong : ChangeSpec := { name := "fnExactCopyText", fn := fun _ => fun
  | [d] => { results := [.lit (.bool false)], args := [d] }
  | _ => none }
def FnExactCopyTextWrongFalsely : Prop := fnExactCopyTextRow.holds Tryd.pinned (OpenSpec.ofChange fnExactCopyTextWrong)

/-- 'laws.FnCopyTexts': WHATEVER THE INPUT: true; the input reads as it did. -/
def fnCopyTextsSpec : ChangeSpec := { name := "fnCopyTexts", fn := fun _ => fun
  | [d] => { results := [.lit (.bool true)], args := [d] }
  | _ => none }
def fnCopyTextsRow : OpenClaim := { program := "ytdjhenjgccenhaadoor", sum := "59eec3a8283944e481415158c6ca36203cf0b19057b2b43c0301ebb1c71140a6", func := "loop.example/g01034/laws.FnCopyTexts", spec := "fnCopyTexts", inPlace := ["internal/bytealg.IndexByteString", "internal/bytealg.IndexString"], unfollowed := true, recurses := true, named := ["unicode/utf8.first", "unicode/utf8.acceptRanges", "internal/strconv.uint64pow10", "math/bits.deBruijn32tab", "math/bits.deBruijn64tab", "internal/bytealg.MaxLen"], apart := false, laid := [("math/bits.deBruijn32tab", laid_math_bits_deBruijn32tab), ("math/bits.deBruijn64tab", laid_math_bits_deBruijn64tab), ("internal/strconv.uint64pow10", laid_internal_strconv_uint64pow10), ("unicode/utf8.acceptRanges", laid_unicode_utf8_acceptRanges), ("unicode/utf8.first", laid_unicode_utf8_first)] }
def FnCopyTextsSaid : Prop := fnCopyTextsRow.holds Tryd.pinned (OpenSpec.ofChange fnCopyTextsSpec)

/-- ITS FALSE NEIGHBOUR: 'it returns false'. Refute it at one input. -/
def fnCopyTextsWrong : ChangeSpec := { name := "fnCopyTexts", fn := fun _ => fun
  | [d] => { results := [.lit (.bool false)], args := [d] }
  | _ => none }
def FnCopyTextsWrongFalsely : Prop := fnCopyTextsRow.holds Tryd.pinned (OpenSpec.ofChange fnCopyTextsWrong)

/-- 'laws.FnExactIsStemma': WHATEVER THE INPUT: true; the input reads as it did. -/
def fnExactIsStemmaSpec : ChangeSpec := { name := "fnExactIsStemma", fn := fun _ => fun
  | [d1, d2] => { results := [.lit (.bool true)], args := [d1, d2] }
  | _ => none }
def fnExactIsStemmaRow : OpenClaim := { program := "ytdjhenjgccenhaadoor", sum := "59eec3a8283944e481415158c6ca36203cf0b19057b2b43c0301ebb1c71140a6", func := "loop.example/g01034/laws.FnExactIsStemma", spec := "fnExactIsStemma", inPlace := ["internal/bytealg.IndexByteString", "internal/bytealg.IndexString"], unfollowed := true, recurses := true, named := ["unicode/utf8.first", "unicode/utf8.acceptRanges", "internal/bytealg.MaxLen"], apart := false, laid := [("unicode/utf8.acceptRanges", laid_unicode_utf8_acceptRanges), ("unicode/utf8.first", laid_unicode_utf8_first)] }
def FnExactIsStemmaSaid : Prop := fnExactIsStemmaRow.holds Tryd.pinned (OpenSpec.ofChange fnExactIsStemmaSpec)

/-- ITS FALSE NEIGHBOUR: 'it returns false'. Refute it at one input. -/
def fnExactIsStemmaWrong : ChangeSpec := { name := "fnExactIsStemma", fn := fun _ => fun
  | [d1, d2] => { results := [.lit (.bool false)], args := [d1, d2] }
  | _ => none }
def FnExactIsStemmaWrongFalsely : Prop := fnExactIsStemmaRow.holds Tryd.pinned (OpenSpec.ofChange fnExactIsStemmaWrong)

/- THE SECOND FORM. 'bulk': how many values and letters a reading holds, each counted each time it is reached (what is shared counts as often as it is met; a slice's spare places count too). A statement '..UptoSaid' is the law's where the arguments, and the package variables that the reading takes, are together of bulk at most 1048576: NARROWER than '..Said'. Prove '..Said' where nothing that the law and all that it calls make is longer than what came in: it says more and counts as full. Else prove '..UptoSaid'. A law counts once. -/
mutual
def uptoBulk {H : Type} : DataW H → Nat
  | .lit (.string bytes) => bytes.length + 1
  | .lit _ => 1
  | .nil => 1
  | .ptr d => uptoBulk d + 1
  | .slice elems spare => uptoBulkAll elems + uptoBulkAll spare + 1
  | .agg parts => uptoBulkAll parts + 1
  | .iface _ d => uptoBulk d + 1
  | .map entries => uptoBulkEntries entries + 1
  | .held _ => 1
def uptoBulkAll {H : Type} : List (DataW H) → Nat
  | [] => 0
  | d :: r => uptoBulk d + uptoBulkAll r
def uptoBulkEntries {H : Type} : List (Lit × DataW H) → Nat
  | [] => 0
  | x :: r => uptoBulkEntry x + uptoBulkEntries r
def uptoBulkEntry {H : Type} : Lit × DataW H → Nat
  | (.string bytes, d) => bytes.length + uptoBulk d + 1
  | (_, d) => uptoBulk d + 1
 end
def uptoSmall : (H : Type) → List (DataW H) → Bool := fun _ ds => decide (uptoBulkAll ds ≤ 1048576)
def OpenSpec.upto (s : _root_.Go.ChangeSpec) : _root_.Go.OpenSpec := { _root_.Go.OpenSpec.ofChange s with cond := some uptoSmall }

/-- 'laws.FnExactAreCopies', WHERE WHAT IT READS IS OF BULK AT MOST 1048576: true; the input reads as it did. -/
def fnExactAreCopiesUptoRow : OpenClaim := { program := "ytdjhenjgccenhaadoor", sum := "59eec3a8283944e481415158c6ca36203cf0b19057b2b43c0301ebb1c71140a6", func := "loop.example/g01034/laws.FnExactAreCopies", spec := "fnExactAreCopies", inPlace := ["internal/bytealg.IndexByteString", "internal/bytealg.IndexString"], unfollowed := true, recurses := true, named := ["unicode/utf8.first", "unicode/utf8.acceptRanges", "internal/bytealg.MaxLen"], apart := false, laid := [("unicode/utf8.acceptRanges", laid_unicode_utf8_acceptRanges), ("unicode/utf8.first", laid_unicode_utf8_first)], narrowed := true }
def FnExactAreCopiesUptoSaid : Prop := fnExactAreCopiesUptoRow.holds Tryd.pinned (OpenSpec.upto fnExactAreCopiesSpec)

/-- 'laws.FnExactCountDifferences', WHERE WHAT IT READS IS OF BULK AT MOST 1048576: true; the input reads as it did. -/
def fnExactCountDifferencesUptoRow : OpenClaim := { program := "ytdjhenjgccenhaadoor", sum := "59eec3a8283944e481415158c6ca36203cf0b19057b2b43c0301ebb1c71140a6", func := "loop.example/g01034/laws.FnExactCountDifferences", spec := "fnExactCountDifferences", inPlace := ["internal/bytealg.IndexByteString", "internal/bytealg.IndexString"], unfollowed := true, recurses := true, named := ["unicode/utf8.first", "unicode/utf8.acceptRanges", "internal/bytealg.MaxLen"], apart := false, laid := [("unicode/utf8.acceptRanges", laid_unicode_utf8_acceptRanges), ("unicode/utf8.first", laid_unicode_utf8_first)], narrowed := true }
def FnExactCountDifferencesUptoSaid : Prop := fnExactCountDifferencesUptoRow.holds Tryd.pinned (OpenSpec.upto fnExactCountDifferencesSpec)

/-- 'laws.FnExactMajorityText', WHERE WHAT IT READS IS OF BULK AT MOST 1048576: true; the input reads as it did. -/
def fnExactMajorityTextUptoRow : OpenClaim := { program := "ytdjhenjgccenhaadoor", sum := "59eec3a8283944e481415158c6ca36203cf0b19057b2b43c0301ebb1c71140a6", func := "loop.example/g01034/laws.FnExactMajorityText", spec := "fnExactMajorityText", inPlace := ["internal/bytealg.IndexByteString", "internal/bytealg.IndexString"], unfollowed := true, recurses := true, named := ["unicode/utf8.first", "unicode/utf8.acceptRanges", "internal/bytealg.MaxLen"], apart := false, laid := [("unicode/utf8.acceptRanges", laid_unicode_utf8_acceptRanges), ("unicode/utf8.first", laid_unicode_utf8_first)], narrowed := true }
def FnExactMajorityTextUptoSaid : Prop := fnExactMajorityTextUptoRow.holds Tryd.pinned (OpenSpec.upto fnExactMajorityTextSpec)

/-- 'laws.FnExactMayDerive', WHERE WHAT IT READS IS OF BULK AT MOST 1048576: true; the input reads as it did. -/
def fnExactMayDeriveUptoRow : OpenClaim := { program := "ytdjhenjgccenhaadoor", sum := "59eec3a8283944e481415158c6ca36203cf0b19057b2b43c0301ebb1c71140a6", func := "loop.example/g01034/laws.FnExactMayDerive", spec := "fnExactMayDerive", inPlace := ["internal/bytealg.IndexByteString", "internal/bytealg.IndexString"], unfollowed := true, recurses := true, named := ["unicode/utf8.first", "unicode/utf8.acceptRanges", "internal/bytealg.MaxLen"], apart := false, laid := [("unicode/utf8.acceptRanges", laid_unicode_utf8_acceptRanges), ("unicode/utf8.first", laid_unicode_utf8_first)], narrowed := true }
def FnExactMayDeriveUptoSaid : Prop := fnExactMayDeriveUptoRow.holds Tryd.pinned (OpenSpec.upto fnExactMayDeriveSpec)

/-- 'laws.FnExactReadCopy', WHERE WHAT IT READS IS OF BULK AT MOST 1048576: true; the input reads as it did. -/
def fnExactReadCopyUptoRow : OpenClaim := { program := "ytdjhenjgccenhaadoor", sum := "59eec3a8283944e481415158c6ca36203cf0b19057b2b43c0301ebb1c71140a6", func := "loop.example/g01034/laws.FnExactReadCopy", spec := "fnExactReadCopy", inPlace := ["internal/bytealg.IndexByteString", "internal/bytealg.IndexString"], unfollowed := true, recurses := true, named := ["internal/bytealg.MaxLen", "unicode/utf8.first", "unicode/utf8.acceptRanges"], apart := false, laid := [("unicode/utf8.acceptRanges", laid_unicode_utf8_acceptRanges), ("unicode/utf8.first", laid_unicode_utf8_first)], narrowed := true }
def FnExactReadCopyUptoSaid : Prop := fnExactReadCopyUptoRow.holds Tryd.pinned (OpenSpec.upto fnExactReadCopySpec)

/-- 'laws.FnExactErrorsOf', WHERE WHAT IT READS IS OF BULK AT MOST 1048576: true; the input reads as it did. -/
def fnExactErrorsOfUptoRow : OpenClaim := { program := "ytdjhenjgccenhaadoor", sum := "59eec3a8283944e481415158c6ca36203cf0b19057b2b43c0301ebb1c71140a6", func := "loop.example/g01034/laws.FnExactErrorsOf", spec := "fnExactErrorsOf", inPlace := ["internal/bytealg.IndexByteString", "internal/bytealg.IndexString"], unfollowed := true, recurses := true, named := ["unicode/utf8.first", "unicode/utf8.acceptRanges", "internal/bytealg.MaxLen"], apart := false, laid := [("unicode/utf8.acceptRanges", laid_unicode_utf8_acceptRanges), ("unicode/utf8.first", laid_unicode_utf8_first)], narrowed := true }
def FnExactErrorsOfUptoSaid : Prop := fnExactErrorsOfUptoRow.holds Tryd.pinned (OpenSpec.upto fnExactErrorsOfSpec)

/-- 'laws.FnExactCommonErrors', WHERE WHAT IT READS IS OF BULK AT MOST 1048576: true; the input reads as it did. -/
def fnExactCommonErrorsUptoRow : OpenClaim := { program := "ytdjhenjgccenhaadoor", sum := "59eec3a8283944e481415158c6ca36203cf0b19057b2b43c0301ebb1c71140a6", func := "loop.example/g01034/laws.FnExactCommonErrors", spec := "fnExactCommonErrors", inPlace := ["internal/bytealg.IndexByteString", "internal/bytealg.IndexString"], unfollowed := true, recurses := true, named := ["unicode/utf8.first", "unicode/utf8.acceptRanges", "internal/bytealg.MaxLen"], apart := false, laid := [("unicode/utf8.acceptRanges", laid_unicode_utf8_acceptRanges), ("unicode/utf8.first", laid_unicode_utf8_first)], narrowed := true }
def FnExactCommonErrorsUptoSaid : Prop := fnExactCommonErrorsUptoRow.holds Tryd.pinned (OpenSpec.upto fnExactCommonErrorsSpec)

/-- 'laws.FnExactUselessCopies', WHERE WHAT IT READS IS OF BULK AT MOST 1048576: true; the input reads as it did. -/
def fnExactUselessCopiesUptoRow : OpenClaim := { program := "ytdjhenjgccenhaadoor", sum := "59eec3a8283944e481415158c6ca36203cf0b19057b2b43c0301ebb1c71140a6", func := "loop.example/g01034/laws.FnExactUselessCopies", spec := "fnExactUselessCopies", inPlace := ["internal/bytealg.IndexByteString", "internal/bytealg.IndexString"], unfollowed := true, recurses := true, named := ["unicode/utf8.first", "unicode/utf8.acceptRanges", "internal/bytealg.MaxLen"], apart := false, laid := [("unicode/utf8.acceptRanges", laid_unicode_utf8_acceptRanges), ("unicode/utf8.first", laid_unicode_utf8_first)], narrowed := true }
def FnExactUselessCopiesUptoSaid : Prop := fnExactUselessCopiesUptoRow.holds Tryd.pinned (OpenSpec.upto fnExactUselessCopiesSpec)

/-- 'laws.FnCopies', WHERE WHAT IT READS IS OF BULK AT MOST 1048576: true; the input reads as it did. -/
def fnCopiesUptoRow : OpenClaim := { program := "ytdjhenjgccenhaadoor", sum := "59eec3a8283944e481415158c6ca36203cf0b19057b2b43c0301ebb1c71140a6", func := "loop.example/g01034/laws.FnCopies", spec := "fnCopies", inPlace := ["internal/bytealg.IndexByteString", "internal/bytealg.IndexString"], unfollowed := true, recurses := true, named := ["unicode/utf8.first", "unicode/utf8.acceptRanges", "internal/bytealg.MaxLen"], apart := false, laid := [("unicode/utf8.acceptRanges", laid_unicode_utf8_acceptRanges), ("unicode/utf8.first", laid_unicode_utf8_first)], narrowed := true }
def FnCopiesUptoSaid : Prop := fnCopiesUptoRow.holds Tryd.pinned (OpenSpec.upto fnCopiesSpec)

/-- 'laws.FnExactCopyText', WHERE WHAT IT READS IS OF BULK AT MOST 1048576: true; the input reads as it did. -/
def fnExactCopyTextUptoRow : OpenClaim := { program := "ytdjhenjgccenhaadoor", sum := "59eec3a8283944e481415158c6ca36203cf0b19057b2b43c0301ebb1c71140a6", func := "loop.example/g01034/laws.FnExactCopyText", spec := "fnExactCopyText", inPlace := ["internal/bytealg.IndexByteString", "internal/bytealg.IndexString"], unfollowed := true, recurses := true, named := ["unicode/utf8.first", "unicode/utf8.acceptRanges", "internal/strconv.uint64pow10", "math/bits.deBruijn32tab", "math/bits.deBruijn64tab", "internal/bytealg.MaxLen"], apart := false, laid := [("math/bits.deBruijn32tab", laid_math_bits_deBruijn32tab), ("math/bits.deBruijn64tab", laid_math_bits_deBruijn64tab), ("internal/strconv.uint64pow10", laid_internal_strconv_uint64pow10), ("unicode/utf8.acceptRanges", laid_unicode_utf8_acceptRanges), ("unicode/utf8.first", laid_unicode_utf8_first)], narrowed := true }
def FnExactCopyTextUptoSaid : Prop := fnExactCopyTextUptoRow.holds Tryd.pinned (OpenSpec.upto fnExactCopyTextSpec)

/-- 'laws.FnCopyTexts', WHERE WHAT IT READS IS OF BULK AT MOST 1048576: true; the input reads as it did. -/
def fnCopyTextsUptoRow : OpenClaim := { program := "ytdjhenjgccenhaadoor", sum := "59eec3a8283944e481415158c6ca36203cf0b19057b2b43c0301ebb1c71140a6", func := "loop.example/g01034/laws.FnCopyTexts", spec := "fnCopyTexts", inPlace := ["internal/bytealg.IndexByteString", "internal/bytealg.IndexString"], unfollowed := true, recurses := true, named := ["unicode/utf8.first", "unicode/utf8.acceptRanges", "internal/strconv.uint64pow10", "math/bits.deBruijn32tab", "math/bits.deBruijn64tab", "internal/bytealg.MaxLen"], apart := false, laid := [("math/bits.deBruijn32tab", laid_math_bits_deBruijn32tab), ("math/bits.deBruijn64tab", laid_math_bits_deBruijn64tab), ("internal/strconv.uint64pow10", laid_internal_strconv_uint64pow10), ("unicode/utf8.acceptRanges", laid_unicode_utf8_acceptRanges), ("unicode/utf8.first", laid_unicode_utf8_first)], narrowed := true }
def FnCopyTextsUptoSaid : Prop := fnCopyTextsUptoRow.holds Tryd.pinned (OpenSpec.upto fnCopyTextsSpec)

/-- 'laws.FnExactIsStemma', WHERE WHAT IT READS IS OF BULK AT MOST 1048576: true; the input reads as it did. -/
def fnExactIsStemmaUptoRow : OpenClaim := { program := "ytdjhenjgccenhaadoor", sum := "59eec3a8283944e481415158c6ca36203cf0b19057b2b43c0301ebb1c71140a6", func := "loop.example/g01034/laws.FnExactIsStemma", spec := "fnExactIsStemma", inPlace := ["internal/bytealg.IndexByteString", "internal/bytealg.IndexString"], unfollowed := true, recurses := true, named := ["unicode/utf8.first", "unicode/utf8.acceptRanges", "internal/bytealg.MaxLen"], apart := false, laid := [("unicode/utf8.acceptRanges", laid_unicode_utf8_acceptRanges), ("unicode/utf8.first", laid_unicode_utf8_first)], narrowed := true }
def FnExactIsStemmaUptoSaid : Prop := fnExactIsStemmaUptoRow.holds Tryd.pinned (OpenSpec.upto fnExactIsStemmaSpec)

end Rows
end Go.Proofs.YtdjhenjgccenhaaDoor
