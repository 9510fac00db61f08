/-
  NARROWER THAN 'FOR EVERY INPUT', by the rows' own cells (each row's printed sentence says how): FnExactStemmaDepth: laid · FnExactCommonAncestor: laid · FnExactStemmaCost: laid · FnExactAncestorsOf: laid · FnExactBestStemma: laid · FnExactStemmaText: laid · FnExactChangesOn: laid · FnAncestors: laid · FnStemmas: laid · FnExactAreFormulas: laid.
  DERIVED. THE GIVEN ROWS OF THIS SEAT. 10 by the template 'for every input the law returns true; each argument reads behind the call as it read before'; 0 by the template 'total and deterministic' (their statements: YtcmhgjldkgnblaaDoorTotals.lean).
  GIVEN WITH THE SEED: the statements are not yours to turn. If you find one false, say at which input.
  Laid BY PROGRAM, IN A SANDBOX (cutbox-rows.mjs): the forced cells as the released guide's own fill.sh prints them over the translation 81ace36c36b1ca72… (all of the seat's roots in one cut). By AI agents, Wed Nov 11 2026. No macro, syntax, notation, axiom, sorry.
-/
import Derived.Test.YtcmhgjldkgnblaaDoorChecked
import GoSem.PinnedTables
import GoSem.Claim
import GoSem.ClaimJoined
import GoSem.ClaimMapViews
import Derived.JoinedTies
import Derived.KernelRfl
namespace Go.Proofs.YtcmhgjldkgnblaaDoor
/- THE CELL 'sum', in the pinned program and in every row, IS THE sha256 OF THE DUMP (.gsa) THAT YtcmhgjldkgnblaaDoorProg.lean LOADS. Nothing in Lean hashes anything: it is a label: what it is worth is what the hold of that sum in a sandbox is worth. -/
noncomputable def Tryd.pinned : Pinned := { name := "ytcmhgjldkgnblaadoor", sum := "81ace36c36b1ca720f68c280c14f628841f21ba395ee93cba69cb1b74ed2345e", checked := Tryd.checked }
namespace Rows
def none {H : Type} : Left H := { results := [], args := [] }

/- WHAT THE LISTED PACKAGE-LEVEL VARIABLES READ AS WHEN THE CALL BEGINS. Each datum BY PROGRAM (the guide's laid-datum.mjs) off the statement by which the dump's own 'gosem.cut.vars' lays the variable. In a bare row this is a premise. The card (YtcmhgjldkgnblaaDoorCards.lean) ties it to the program's text. -/
def laid_unicode_utf8_acceptRanges {H : Type} : DataW H := .agg [.agg [.lit (.int .u8 128), .lit (.int .u8 191)], .agg [.lit (.int .u8 160), .lit (.int .u8 191)], .agg [.lit (.int .u8 128), .lit (.int .u8 159)], .agg [.lit (.int .u8 144), .lit (.int .u8 191)], .agg [.lit (.int .u8 128), .lit (.int .u8 143)], .agg [.lit (.int .u8 0), .lit (.int .u8 0)], .agg [.lit (.int .u8 0), .lit (.int .u8 0)], .agg [.lit (.int .u8 0), .lit (.int .u8 0)], .agg [.lit (.int .u8 0), .lit (.int .u8 0)], .agg [.lit (.int .u8 0), .lit (.int .u8 0)], .agg [.lit (.int .u8 0), .lit (.int .u8 0)], .agg [.lit (.int .u8 0), .lit (.int .u8 0)], .agg [.lit (.int .u8 0), .lit (.int .u8 0)], .agg [.lit (.int .u8 0), .lit (.int .u8 0)], .agg [.lit (.int .u8 0), .lit (.int .u8 0)], .agg [.lit (.int .u8 0), .lit (.int .u8 0)]]
/-- One of Go's own tables, pinned by name: the form's constant. -/
def laid_unicode_utf8_first : DataW Unit := Go.Pinned.utf8First

/-- 'laws.FnExactStemmaDepth': WHATEVER THE INPUT: true; the input reads as it did. -/
def fnExactStemmaDepthSpec : ChangeSpec := { name := "fnExactStemmaDepth", fn := fun _ => fun
  | [d1, d2] => { results := [.lit (.bool true)], args := [d1, d2] }
  | _ => none }
def fnExactStemmaDepthRow : OpenClaim := { program := "ytcmhgjldkgnblaadoor", sum := "81ace36c36b1ca720f68c280c14f628841f21ba395ee93cba69cb1b74ed2345e", func := "loop.example/g01034/laws.FnExactStemmaDepth", spec := "fnExactStemmaDepth", inPlace := ["internal/bytealg.IndexByteString", "internal/bytealg.IndexString"], unfollowed := true, recurses := true, named := ["unicode/utf8.first", "unicode/utf8.acceptRanges", "internal/bytealg.MaxLen"], apart := false, laid := [("unicode/utf8.acceptRanges", laid_unicode_utf8_acceptRanges), ("unicode/utf8.first", laid_unicode_utf8_first)] }
def FnExactStemmaDepthSaid : Prop := fnExactStemmaDepthRow.holds Tryd.pinned (OpenSpec.ofChange fnExactStemmaDepthSpec)

/-- ITS FALSE NEIGHBOUR: 'it returns false'. Refute it at one input. -/
def fnExactStemmaDepthWrong : ChangeSpec := { name := "fnExactStemmaDepth", fn := fun _ => fun
  | [d1, d2] => { results := [.lit (.bool false)], args := [d1, d2] }
  | _ => none }
def FnExactStemmaDepthWrongFalsely : Prop := fnExactStemmaDepthRow.holds Tryd.pinned (OpenSpec.ofChange fnExactStemmaDepthWrong)

/-- 'laws.FnExactCommonAncestor': WHATEVER THE INPUT: true; the input reads as it did. -/
def fnExactCommonAncestorSpec : ChangeSpec := { name := "fnExactCommonAncestor", fn := fun _ => fun
  | [d1, d2, d3, d4] => { results := [.lit (.bool true)], args := [d1, d2, d3, d4] }
  | _ => none }
def fnExactCommonAncestorRow : OpenClaim := { program := "ytcmhgjldkgnblaadoor", sum := "81ace36c36b1ca720f68c280c14f628841f21ba395ee93cba69cb1b74ed2345e", func := "loop.example/g01034/laws.FnExactCommonAncestor", spec := "fnExactCommonAncestor", inPlace := ["internal/bytealg.IndexByteString", "internal/bytealg.IndexString"], unfollowed := true, recurses := true, named := ["unicode/utf8.first", "unicode/utf8.acceptRanges", "internal/bytealg.MaxLen"], apart := false, laid := [("unicode/utf8.acceptRanges", laid_unicode_utf8_acceptRanges), ("unicode/utf8.first", laid_unicode_utf8_first)] }
def FnExactCommonAncestorSaid : Prop := fnExactCommonAncestorRow.holds Tryd.pinned (OpenSpec.ofChange fnExactCommonAncestorSpec)

/-- ITS FALSE NEIGHBOUR: 'it returns false'. Refute it at one input. -/
def fnExactCommonAncestorWrong : ChangeSpec := { name := "fnExactCommonAncestor", fn := fun _ => fun
  | [d1, d2, d3, d4] => { results := [.lit (.bool false)], args := [d1, d2, d3, d4] }
  | _ => none }
def FnExactCommonAncestorWrongFalsely : Prop := fnExactCommonAncestorRow.holds Tryd.pinned (OpenSpec.ofChange fnExactCommonAncestorWrong)

/-- 'laws.FnExactStemmaCost': WHATEVER THE INPUT: true; the input reads as it did. -/
def fnExactStemmaCostSpec : ChangeSpec := { name := "fnExactStemmaCost", fn := fun _ => fun
  | [d1, d2, d3] => { results := [.lit (.bool true)], args := [d1, d2, d3] }
  | _ => none }
def fnExactStemmaCostRow : OpenClaim := { program := "ytcmhgjldkgnblaadoor", sum := "81ace36c36b1ca720f68c280c14f628841f21ba395ee93cba69cb1b74ed2345e", func := "loop.example/g01034/laws.FnExactStemmaCost", spec := "fnExactStemmaCost", inPlace := ["internal/bytealg.IndexByteString", "internal/bytealg.IndexString"], unfollowed := true, recurses := true, named := ["unicode/utf8.first", "unicode/utf8.acceptRanges", "internal/bytealg.MaxLen"], apart := false, laid := [("unicode/utf8.acceptRanges", laid_unicode_utf8_acceptRanges), ("unicode/utf8.first", laid_unicode_utf8_first)] }
def FnExactStemmaCostSaid : Prop := fnExactStemmaCostRow.holds Tryd.pinned (OpenSpec.ofChange fnExactStemmaCostSpec)

/-- ITS FALSE NEIGHBOUR: 'it returns false'. Refute it at one input. -/
def fnExactStemmaCostWrong : ChangeSpec := { name := "fnExactStemmaCost", fn := fun _ => fun
  | [d1, d2, d3] => { results := [.lit (.bool false)], args := [d1, d2, d3] }
  | _ => none }
def FnExactStemmaCostWrongFalsely : Prop := fnExactStemmaCostRow.holds Tryd.pinned (OpenSpec.ofChange fnExactStemmaCostWrong)

/-- 'laws.FnExactAncestorsOf': WHATEVER THE INPUT: true; the input reads as it did. -/
def fnExactAncestorsOfSpec : ChangeSpec := { name := "fnExactAncestorsOf", fn := fun _ => fun
  | [d1, d2, d3] => { results := [.lit (.bool true)], args := [d1, d2, d3] }
  | _ => none }
def fnExactAncestorsOfRow : OpenClaim := { program := "ytcmhgjldkgnblaadoor", sum := "81ace36c36b1ca720f68c280c14f628841f21ba395ee93cba69cb1b74ed2345e", func := "loop.example/g01034/laws.FnExactAncestorsOf", spec := "fnExactAncestorsOf", inPlace := ["internal/bytealg.IndexByteString", "internal/bytealg.IndexString"], unfollowed := true, recurses := true, named := ["unicode/utf8.first", "unicode/utf8.acceptRanges", "internal/bytealg.MaxLen"], apart := false, laid := [("unicode/utf8.acceptRanges", laid_unicode_utf8_acceptRanges), ("unicode/utf8.first", laid_unicode_utf8_first)] }
def FnExactAncestorsOfSaid : Prop := fnExactAncestorsOfRow.holds Tryd.pinned (OpenSpec.ofChange fnExactAncestorsOfSpec)

/-- ITS FALSE NEIGHBOUR: 'it returns false'. Refute it at one input. -/
def fnExactAncestorsOfWrong : ChangeSpec := { name := "fnExactAncestorsOf", fn := fun _ => fun
  | [d1, d2, d3] => { results := [.lit (.bool false)], args := [d1, d2, d3] }
  | _ => none }
def FnExactAncestorsOfWrongFalsely : Prop := fnExactAncestorsOfRow.holds Tryd.pinned (OpenSpec.ofChange fnExactAncestorsOfWrong)

/-- 'laws.FnExactBestStemma': WHATEVER THE INPUT: true; the input reads as it did. -/
def fnExactBestStemmaSpec : ChangeSpec := { name := "fnExactBestStemma", fn := fun _ => fun
  | [d1, d2] => { results := [.lit (.bool true)], args := [d1, d2] }
  | _ => none }
def fnExactBestStemmaRow : OpenClaim := { program := "ytcmhgjldkgnblaadoor", sum := "81ace36c36b1ca720f68c280c14f628841f21ba395ee93cba69cb1b74ed2345e", func := "loop.example/g01034/laws.FnExactBestStemma", spec := "fnExactBestStemma", inPlace := ["internal/bytealg.IndexByteString", "internal/bytealg.IndexString"], unfollowed := true, recurses := true, named := ["unicode/utf8.first", "unicode/utf8.acceptRanges", "internal/bytealg.MaxLen"], apart := false, laid := [("unicode/utf8.acceptRanges", laid_unicode_utf8_acceptRanges), ("unicode/utf8.first", laid_unicode_utf8_first)] }
def FnExactBestStemmaSaid : Prop := fnExactBestStemmaRow.holds Tryd.pinned (OpenSpec.ofChange fnExactBestStemmaSpec)

/-- ITS FALSE NEIGHBOUR: 'it returns false'. Refute it at one input. -/
def fnExactBestStemmaWrong : ChangeSpec := { name := "fnExactBestStemma", fn := fun _ => fun
  | [d1, d2] => { results := [.lit (.bool false)], args := [d1, d2] }
  | _ => none }
def FnExactBestStemmaWrongFalsely : Prop := fnExactBestStemmaRow.holds Tryd.pinned (OpenSpec.ofChange fnExactBestStemmaWrong)

/-- 'laws.FnExactStemmaText': WHATEVER THE INPUT: true; the input reads as it did. -/
def fnExactStemmaTextSpec : ChangeSpec := { name := "fnExactStemmaText", fn := fun _ => fun
  | [d1, d2] => { results := [.lit (.bool true)], args := [d1, d2] }
  | _ => none }
def fnExactStemmaTextRow : OpenClaim := { program := "ytcmhgjldkgnblaadoor", sum := "81ace36c36b1ca720f68c280c14f628841f21ba395ee93cba69cb1b74ed2345e", func := "loop.example/g01034/laws.FnExactStemmaText", spec := "fnExactStemmaText", inPlace := ["internal/bytealg.IndexByteString", "internal/bytealg.IndexString", "internal/abi.NoEscape", "internal/bytealg.MakeNoZero"], unfollowed := true, recurses := true, named := ["unicode/utf8.first", "unicode/utf8.acceptRanges", "internal/bytealg.MaxLen"], apart := false, laid := [("unicode/utf8.acceptRanges", laid_unicode_utf8_acceptRanges), ("unicode/utf8.first", laid_unicode_utf8_first)] }
def FnExactStemmaTextSaid : Prop := fnExactStemmaTextRow.holds Tryd.pinned (OpenSpec.ofChange fnExactStemmaTextSpec)

/-- ITS FALSE NEIGHBOUR: 'it returns false'. Refute it at one input. -/
def fnExactStemmaTextWrong : ChangeSpec := { name := "fnExactStemmaText", fn := fun _ => fun
  | [d1, d2] => { results := [.lit (.bool false)], args := [d1, d2] }
  | _ => none }
def FnExactStemmaTextWrongFalsely : Prop := fnExactStemmaTextRow.holds Tryd.pinned (OpenSpec.ofChange fnExactStemmaTextWrong)

/-- 'laws.FnExactChangesOn': WHATEVER THE INPUT: true; the input reads as it did. -/
def fnExactChangesOnSpec : ChangeSpec := { name := "fnExactChangesOn", fn := fun _ => fun
  | [d1, d2, d3, d4] => { results := [.lit (.bool true)], args := [d1, d2, d3, d4] }
  | _ => none }
def fnExactChangesOnRow : OpenClaim := { program := "ytcmhgjldkgnblaadoor", sum := "81ace36c36b1ca720f68c280c14f628841f21ba395ee93cba69cb1b74ed2345e", func := "loop.example/g01034/laws.FnExactChangesOn", spec := "fnExactChangesOn", inPlace := ["internal/bytealg.IndexByteString", "internal/bytealg.IndexString"], unfollowed := true, recurses := true, named := ["unicode/utf8.first", "unicode/utf8.acceptRanges", "internal/bytealg.MaxLen"], apart := false, laid := [("unicode/utf8.acceptRanges", laid_unicode_utf8_acceptRanges), ("unicode/utf8.first", laid_unicode_utf8_first)] }
def FnExactChangesOnSaid : Prop := fnExactChangesOnRow.holds Tryd.pinned (OpenSpec.ofChange fnExactChangesOnSpec)

/-- ITS FALSE NEIGHBOUR: 'it returns false'. Refute it at one input. -/
def fnExactChangesOnWrong : ChangeSpec := { name := "fnExactChangesOn", fn := fun _ => fun
  | [d1, d2, d3, d4] => { results := [.lit (.bool false)], args := [d1, d2, d3, d4] }
  | _ => none }
def FnExactChangesOnWrongFalsely : Prop := fnExactChangesOnRow.holds Tryd.pinned (OpenSpec.ofChange fnExactChangesOnWrong)

/-- 'laws.FnAncestors': WHATEVER THE INPUT: true; the input reads as it did. -/
def fnAncestorsSpec : ChangeSpec := { name := "fnAncestors", fn := fun _ => fun
  | [d] => { results := [.lit (.bool true)], args := [d] }
  | _ => none }
def fnAncestorsRow : OpenClaim := { program := "ytcmhgjldkgnblaadoor", sum := "81ace36c36b1ca720f68c280c14f628841f21ba395ee93cba69cb1b74ed2345e", func := "loop.example/g01034/laws.FnAncestors", spec := "fnAncestors", inPlace := ["internal/bytealg.IndexByteString", "internal/bytealg.IndexString"], unfollowed := true, recurses := true, named := ["unicode/utf8.first", "unicode/utf8.acceptRanges", "internal/bytealg.MaxLen"], apart := false, laid := [("unicode/utf8.acceptRanges", laid_unicode_utf8_acceptRanges), ("unicode/utf8.first", laid_unicode_utf8_first)] }
def FnAncestorsSaid : Prop := fnAncestorsRow.holds Tryd.pinned (OpenSpec.ofChange fnAncestorsSpec)

/-- ITS FALSE NEIGHBOUR: 'it returns false'. Refute it at one input. -/
def fnAncestorsWrong : ChangeSpec := { name := "fnAncestors", fn := fun _ => fun
  | [d] => { results := [.lit (.bool false)], args := [d] }
  | _ => none }
def FnAncestorsWrongFalsely : Prop := fnAncestorsRow.holds Tryd.pinned (OpenSpec.ofChange fnAncestorsWrong)

/-- 'laws.FnStemmas': WHATEVER THE INPUT: true; the input reads as it did. -/
def fnStemmasSpec : ChangeSpec := { name := "fnStemmas", fn := fun _ => fun
  | [d] => { results := [.lit (.bool true)], args := [d] }
  | _ => none }
def fnStemmasRow : OpenClaim := { program := "ytcmhgjldkgnblaadoor", sum := "81ace36c36b1ca720f68c280c14f628841f21ba395ee93cba69cb1b74ed2345e", func := "loop.example/g01034/laws.FnStemmas", spec := "fnStemmas", inPlace := ["internal/bytealg.IndexByteString", "internal/bytealg.IndexString", "internal/abi.NoEscape", "internal/bytealg.MakeNoZero"], unfollowed := true, recurses := true, named := ["unicode/utf8.first", "unicode/utf8.acceptRanges", "internal/bytealg.MaxLen"], apart := false, laid := [("unicode/utf8.acceptRanges", laid_unicode_utf8_acceptRanges), ("unicode/utf8.first", laid_unicode_utf8_first)] }
def FnStemmasSaid : Prop := fnStemmasRow.holds Tryd.pinned (OpenSpec.ofChange fnStemmasSpec)

/-- ITS FALSE NEIGHBOUR: 'it returns false'. Refute it at one input. -/
def fnStemmasWrong : ChangeSpec := { name := "fnStemmas", fn := fun _ => fun
  | [d] => { results := [.lit (.bool false)], args := [d] }
  | _ => none }
def FnStemmasWrongFalsely : Prop := fnStemmasRow.holds Tryd.pinned (OpenSpec.ofChange fnStemmasWrong)

/-- 'laws.FnExactAreFormulas': WHATEVER THE INPUT: true; the input reads as it did. -/
def fnExactAreFormulasSpec : ChangeSpec := { name := "fnExactAreFormulas", fn := fun _ => fun
  | [d] => { results := [.lit (.bool true)], args := [d] }
  | _ => none }
def fnExactAreFormulasRow : OpenClaim := { program := "ytcmhgjldkgnblaadoor", sum := "81ace36c36b1ca720f68c280c14f628841f21ba395ee93cba69cb1b74ed2345e", func := "loop.example/g01034/laws.FnExactAreFormulas", spec := "fnExactAreFormulas", inPlace := ["internal/bytealg.IndexByteString", "internal/bytealg.IndexString"], unfollowed := true, recurses := true, named := ["unicode/utf8.first", "unicode/utf8.acceptRanges", "internal/bytealg.MaxLen"], apart := false, laid := [("unicode/utf8.acceptRanges", laid_unicode_utf8_acceptRanges), ("unicode/utf8.first", laid_unicode_utf8_first)] }
def FnExactAreFormulasSaid : Prop := fnExactAreFormulasRow.holds Tryd.pinned (OpenSpec.ofChange fnExactAreFormulasSpec)

/-- ITS FALSE NEIGHBOUR: 'it returns false'. Refute it at one input. -/
def fnExactAreFormulasWrong : ChangeSpec := { name := "fnExactAreFormulas", fn := fun _ => fun
  | [d] => { results := [.lit (.bool false)], args := [d] }
  | _ => none }
def FnExactAreFormulasWrongFalsely : Prop := fnExactAreFormulasRow.holds Tryd.pinned (OpenSpec.ofChange fnExactAreFormulasWrong)

/- THE SECOND FORM. 'bulk': how many values and letters a reading holds, each counted each time it is reached (what is shared counts as often as it is met; a slice's spare places count too). A statement '..UptoSaid' is the law's where the arguments, and the package variables that the reading takes, are together of bulk at most 1048576: NARROWER than '..Said'. Prove '..Said' where nothing that the law and all that it calls make is longer than what came in: it says more and counts as full. Else prove '..UptoSaid'. A law counts once. -/
mutual
def uptoBulk {H : Type} : DataW H → Nat
  | .lit (.string bytes) => bytes.length + 1
  | .lit _ => 1
  | .nil => 1
  | .ptr d => uptoBulk d + 1
  | .slice elems spare => uptoBulkAll elems + uptoBulkAll spare + 1
  | .agg parts => uptoBulkAll parts + 1
  | .iface _ d => uptoBulk d + 1
  | .map entries => uptoBulkEntries entries + 1
  | .held _ => 1
def uptoBulkAll {H : Type} : List (DataW H) → Nat
  | [] => 0
  | d :: r => uptoBulk d + uptoBulkAll r
def uptoBulkEntries {H : Type} : List (Lit × DataW H) → Nat
  | [] => 0
  | x :: r => uptoBulkEntry x + uptoBulkEntries r
def uptoBulkEntry {H : Type} : Lit × DataW H → Nat
  | (.string bytes, d) => bytes.length + uptoBulk d + 1
  | (_, d) => uptoBulk d + 1
 end
def uptoSmall : (H : Type) → List (DataW H) → Bool := fun _ ds => decide (uptoBulkAll ds ≤ 1048576)
def OpenSpec.upto (s : _root_.Go.ChangeSpec) : _root_.Go.OpenSpec := { _root_.Go.OpenSpec.ofChange s with cond := some uptoSmall }

/-- 'laws.FnExactStemmaDepth', WHERE WHAT IT READS IS OF BULK AT MOST 1048576: true; the input reads as it did. -/
def fnExactStemmaDepthUptoRow : OpenClaim := { program := "ytcmhgjldkgnblaadoor", sum := "81ace36c36b1ca720f68c280c14f628841f21ba395ee93cba69cb1b74ed2345e", func := "loop.example/g01034/laws.FnExactStemmaDepth", spec := "fnExactStemmaDepth", inPlace := ["internal/bytealg.IndexByteString", "internal/bytealg.IndexString"], unfollowed := true, recurses := true, named := ["unicode/utf8.first", "unicode/utf8.acceptRanges", "internal/bytealg.MaxLen"], apart := false, laid := [("unicode/utf8.acceptRanges", laid_unicode_utf8_acceptRanges), ("unicode/utf8.first", laid_unicode_utf8_first)], narrowed := true }
def FnExactStemmaDepthUptoSaid : Prop := fnExactStemmaDepthUptoRow.holds Tryd.pinned (OpenSpec.upto fnExactStemmaDepthSpec)

/-- 'laws.FnExactCommonAncestor', WHERE WHAT IT READS IS OF BULK AT MOST 1048576: true; the input reads as it did. -/
def fnExactCommonAncestorUptoRow : OpenClaim := { program := "ytcmhgjldkgnblaadoor", sum := "81ace36c36b1ca720f68c280c14f628841f21ba395ee93cba69cb1b74ed2345e", func := "loop.example/g01034/laws.FnExactCommonAncestor", spec := "fnExactCommonAncestor", inPlace := ["internal/bytealg.IndexByteString", "internal/bytealg.IndexString"], unfollowed := true, recurses := true, named := ["unicode/utf8.first", "unicode/utf8.acceptRanges", "internal/bytealg.MaxLen"], apart := false, laid := [("unicode/utf8.acceptRanges", laid_unicode_utf8_acceptRanges), ("unicode/utf8.first", laid_unicode_utf8_first)], narrowed := true }
def FnExactCommonAncestorUptoSaid : Prop := fnExactCommonAncestorUptoRow.holds Tryd.pinned (OpenSpec.upto fnExactCommonAncestorSpec)

/-- 'laws.FnExactStemmaCost', WHERE WHAT IT READS IS OF BULK AT MOST 1048576: true; the input reads as it did. -/
def fnExactStemmaCostUptoRow : OpenClaim := { program := "ytcmhgjldkgnblaadoor", sum := "81ace36c36b1ca720f68c280c14f628841f21ba395ee93cba69cb1b74ed2345e", func := "loop.example/g01034/laws.FnExactStemmaCost", spec := "fnExactStemmaCost", inPlace := ["internal/bytealg.IndexByteString", "internal/bytealg.IndexString"], unfollowed := true, recurses := true, named := ["unicode/utf8.first", "unicode/utf8.acceptRanges", "internal/bytealg.MaxLen"], apart := false, laid := [("unicode/utf8.acceptRanges", laid_unicode_utf8_acceptRanges), ("unicode/utf8.first", laid_unicode_utf8_first)], narrowed := true }
def FnExactStemmaCostUptoSaid : Prop := fnExactStemmaCostUptoRow.holds Tryd.pinned (OpenSpec.upto fnExactStemmaCostSpec)

/-- 'laws.FnExactAncestorsOf', WHERE WHAT IT READS IS OF BULK AT MOST 1048576: true; the input reads as it did. -/
def fnExactAncestorsOfUptoRow : OpenClaim := { program := "ytcmhgjldkgnblaadoor", sum := "81ace36c36b1ca720f68c280c14f628841f21ba395ee93cba69cb1b74ed2345e", func := "loop.example/g01034/laws.FnExactAncestorsOf", spec := "fnExactAncestorsOf", inPlace := ["internal/bytealg.IndexByteString", "internal/bytealg.IndexString"], unfollowed := true, recurses := true, named := ["unicode/utf8.first", "unicode/utf8.acceptRanges", "internal/bytealg.MaxLen"], apart := false, laid := [("unicode/utf8.acceptRanges", laid_unicode_utf8_acceptRanges), ("unicode/utf8.first", laid_unicode_utf8_first)], narrowed := true }
def FnExactAncestorsOfUptoSaid : Prop := fnExactAncestorsOfUptoRow.holds Tryd.pinned (OpenSpec.upto fnExactAncestorsOfSpec)

/-- 'laws.FnExactBestStemma', WHERE WHAT IT READS IS OF BULK AT MOST 1048576: true; the input reads as it did. -/
def fnExactBestStemmaUptoRow : OpenClaim := { program := "ytcmhgjldkgnblaadoor", sum := "81ace36c36b1ca720f68c280c14f628841f21ba395ee93cba69cb1b74ed2345e", func := "loop.example/g01034/laws.FnExactBestStemma", spec := "fnExactBestStemma", inPlace := ["internal/bytealg.IndexByteString", "internal/bytealg.IndexString"], unfollowed := true, recurses := true, named := ["unicode/utf8.first", "unicode/utf8.acceptRanges", "internal/bytealg.MaxLen"], apart := false, laid := [("unicode/utf8.acceptRanges", laid_unicode_utf8_acceptRanges), ("unicode/utf8.first", laid_unicode_utf8_first)], narrowed := true }
def FnExactBestStemmaUptoSaid : Prop := fnExactBestStemmaUptoRow.holds Tryd.pinned (OpenSpec.upto fnExactBestStemmaSpec)

/-- 'laws.FnExactStemmaText', WHERE WHAT IT READS IS OF BULK AT MOST 1048576: true; the input reads as it did. -/
def fnExactStemmaTextUptoRow : OpenClaim := { program := "ytcmhgjldkgnblaadoor", sum := "81ace36c36b1ca720f68c280c14f628841f21ba395ee93cba69cb1b74ed2345e", func := "loop.example/g01034/laws.FnExactStemmaText", spec := "fnExactStemmaText", inPlace := ["internal/bytealg.IndexByteString", "internal/bytealg.IndexString", "internal/abi.NoEscape", "internal/bytealg.MakeNoZero"], unfollowed := true, recurses := true, named := ["unicode/utf8.first", "unicode/utf8.acceptRanges", "internal/bytealg.MaxLen"], apart := false, laid := [("unicode/utf8.acceptRanges", laid_unicode_utf8_acceptRanges), ("unicode/utf8.first", laid_unicode_utf8_first)], narrowed := true }
def FnExactStemmaTextUptoSaid : Prop := fnExactStemmaTextUptoRow.holds Tryd.pinned (OpenSpec.upto fnExactStemmaTextSpec)

/-- 'laws.FnExactChangesOn', WHERE WHAT IT READS IS OF BULK AT MOST 1048576: true; the input reads as it did. -/
def fnExactChangesOnUptoRow : OpenClaim := { program := "ytcmhgjldkgnblaadoor", sum := "81ace36c36b1ca720f68c280c14f628841f21ba395ee93cba69cb1b74ed2345e", func := "loop.example/g01034/laws.FnExactChangesOn", spec := "fnExactChangesOn", inPlace := ["internal/bytealg.IndexByteString", "internal/bytealg.IndexString"], unfollowed := true, recurses := true, named := ["unicode/utf8.first", "unicode/utf8.acceptRanges", "internal/bytealg.MaxLen"], apart := false, laid := [("unicode/utf8.acceptRanges", laid_unicode_utf8_acceptRanges), ("unicode/utf8.first", laid_unicode_utf8_first)], narrowed := true }
def FnExactChangesOnUptoSaid : Prop := fnExactChangesOnUptoRow.holds Tryd.pinned (OpenSpec.upto fnExactChangesOnSpec)

/-- 'laws.FnAncestors', WHERE WHAT IT READS IS OF BULK AT MOST 1048576: true; the input reads as it did. -/
def fnAncestorsUptoRow : OpenClaim := { program := "ytcmhgjldkgnblaadoor", sum := "81ace36c36b1ca720f68c280c14f628841f21ba395ee93cba69cb1b74ed2345e", func := "loop.example/g01034/laws.FnAncestors", spec := "fnAncestors", inPlace := ["internal/bytealg.IndexByteString", "internal/bytealg.IndexString"], unfollowed := true, recurses := true, named := ["unicode/utf8.first", "unicode/utf8.acceptRanges", "internal/bytealg.MaxLen"], apart := false, laid := [("unicode/utf8.acceptRanges", laid_unicode_utf8_acceptRanges), ("unicode/utf8.first", laid_unicode_utf8_first)], narrowed := true }
def FnAncestorsUptoSaid : Prop := fnAncestorsUptoRow.holds Tryd.pinned (OpenSpec.upto fnAncestorsSpec)

/-- 'laws.FnStemmas', WHERE WHAT IT READS IS OF BULK AT MOST 1048576: true; the input reads as it did. -/
def fnStemmasUptoRow : OpenClaim := { program := "ytcmhgjldkgnblaadoor", sum := "81ace36c36b1ca720f68c280c14f628841f21ba395ee93cba69cb1b74ed2345e", func := "loop.example/g01034/laws.FnStemmas", spec := "fnStemmas", inPlace := ["internal/bytealg.IndexByteString", "internal/bytealg.IndexString", "internal/abi.NoEscape", "internal/bytealg.MakeNoZero"], unfollowed := true, recurses := true, named := ["unicode/utf8.first", "unicode/utf8.acceptRanges", "internal/bytealg.MaxLen"], apart := false, laid := [("unicode/utf8.acceptRanges", laid_unicode_utf8_acceptRanges), ("unicode/utf8.first", laid_unicode_utf8_first)], narrowed := true }
def FnStemmasUptoSaid : Prop := fnStemmasUptoRow.holds Tryd.pinned (OpenSpec.upto fnStemmasSpec)

/-- 'laws.FnExactAreFormulas', WHERE WHAT IT READS IS OF BULK AT MOST 1048576: true; the input reads as it did. -/
def fnExactAreFormulasUptoRow : OpenClaim := { program := "ytcmhgjldkgnblaadoor", sum := "81ace36c36b1ca720f68c280c14f628841f21ba395ee93cba69cb1b74ed2345e", func := "loop.example/g01034/laws.FnExactAreFormulas", spec := "fnExactAreFormulas", inPlace := ["internal/bytealg.IndexByteString", "internal/bytealg.IndexString"], unfollowed := true, recurses := true, named := ["unicode/utf8.first", "unicode/utf8.acceptRanges", "internal/bytealg.MaxLen"], apart := false, laid := [("unicode/utf8.acceptRanges", laid_unicode_utf8_acceptRanges), ("unicode/utf8.first", laid_unicode_utf8_first)], narrowed := true }
def FnExactAreFormulasUptoSaid : Prop := fnExactAreFormulasUptoRow.holds Tryd.pinned (OpenSpec.upto fnExactAreFormulasSpec)

end Rows
end Go.Proofs.YtcmhgjldkgnblaaDoor
