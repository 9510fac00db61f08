/- The witness's world where five of Go's tables and two of its errors are laid, and what a row of such a list gives the walk. -/
import Derived.Test.YtehoaoeahfmfpaaDoorRow5
import Derived.Test.YtehoaoeahfmfpaaDoorNumR
import Derived.Stop.LaidErr
namespace Go.Proofs.YtehoaoeahfmfpaaDoor
open Go.RowKit

noncomputable def laidWorld7 (os : Os) : World :=
  { laidWorld5 os with heap := ((((laidWorld5 os).heap.modify 3 (putCells #[.iface 95 (.pointer (some ⟨(laidWorld5 os).heap.size, 0, none⟩))])).modify 4 (putCells #[.iface 95 (.pointer (some ⟨(laidWorld5 os).heap.size + 1, 0, none⟩))])).push (.cells #[.string ⟨#[105, 110, 118, 97, 108, 105, 100, 32, 115, 121, 110, 116, 97, 120]⟩] 97)).push (.cells #[.string ⟨#[118, 97, 108, 117, 101, 32, 111, 117, 116, 32, 111, 102, 32, 114, 97, 110, 103, 101]⟩] 97) }
theorem laid_tl {P : Program} {x : String × DataW Unit} {r : List (String × DataW Unit)} {w : World} (h : laidMet P (x :: r) w) : laidMet P r w := by
  obtain ⟨ps, hv, hnd, hrows⟩ := h
  obtain ⟨n, d⟩ := x
  obtain ⟨g, t, cs, fuel, p, q, _, _, _, _, hq, rfl⟩ := hv
  exact ⟨q, hq, List.Nodup.sublist (List.sublist_append_right _ _) hnd, fun b off hm => hrows b off (List.mem_append_right _ hm)⟩
theorem star : "*" ++ "errors.errorString" = "*errors.errorString" := by decide
theorem rowES (u : TypeId) (h : Tryd.prog.typeName? 3 u = some "*errors.errorString") : u = 95 :=
  typeName_ptr_named (nm := "errors.errorString") (by rw [star]; kernel_rfl) (by kernel_rfl) (by decide) u (by rw [star]; exact h)
theorem gES : Tryd.prog.globalNamed "strconv.ErrSyntax" = some 3 := by kernel_rfl
theorem gER : Tryd.prog.globalNamed "strconv.ErrRange" = some 4 := by kernel_rfl
theorem gEST : (Tryd.prog.globals[3]?).map (·.type) = some 45 := by kernel_rfl
theorem gERT : (Tryd.prog.globals[4]?).map (·.type) = some 45 := by kernel_rfl
theorem cellsES : Tryd.prog.cellsOf 97 = 1 := by kernel_rfl
theorem cellsST : Tryd.prog.cellsOf 9 = 1 := by kernel_rfl
/-- what the rows' list gives -/
theorem env_of {W : World} (h0 : laidMet Tryd.prog [("math/bits.deBruijn32tab", Rows.laid_math_bits_deBruijn32tab), ("math/bits.deBruijn64tab", Rows.laid_math_bits_deBruijn64tab), ("internal/strconv.uint64pow10", Rows.laid_internal_strconv_uint64pow10), ("unicode/utf8.acceptRanges", Rows.laid_unicode_utf8_acceptRanges), ("strconv.ErrRange", Rows.laid_strconv_ErrRange), ("strconv.ErrSyntax", Rows.laid_strconv_ErrSyntax), ("unicode/utf8.first", Rows.laid_unicode_utf8_first)] W)
    (hs : W.ShapedOpen Tryd.prog) : EnvP W := by
  have h2 := laid_tl (laid_tl h0)
  have h3 := laid_tl (laid_tl h2)
  have h1 : laidMet Tryd.prog (("internal/strconv.uint64pow10", Lib.tabData .u64 Lib.pow10Tab) :: [("unicode/utf8.acceptRanges", Rows.laid_unicode_utf8_acceptRanges), ("strconv.ErrRange", Rows.laid_strconv_ErrRange), ("strconv.ErrSyntax", Rows.laid_strconv_ErrSyntax), ("unicode/utf8.first", Rows.laid_unicode_utf8_first)]) W := h2
  refine ⟨Lib.tabIs_of_head (g := 5) (t := 99) (e := 68) (n := 20) (by kernel_rfl) (by kernel_rfl) (by kernel_rfl) (by kernel_rfl) (by kernel_rfl) (by kernel_rfl) h1, Tryd.laysM146.s1_3 W hs, ?_, ?_⟩
  · obtain ⟨a, s, hv, -, -, -⟩ := laid_sentinel (laid_tl h3) gES gEST Tryd.underlying45 rowES Tryd.underlying95 Tryd.underlying97 rfl rfl Tryd.underlying9 cellsES cellsST
    exact ⟨_, _, by have h := World.var?_cell gES hv 0; simpa using h⟩
  · obtain ⟨a, s, hv, -, -, -⟩ := laid_sentinel h3 gER gERT Tryd.underlying45 rowES Tryd.underlying95 Tryd.underlying97 rfl rfl Tryd.underlying9 cellsES cellsST
    exact ⟨_, _, by have h := World.var?_cell gER hv 0; simpa using h⟩
end Go.Proofs.YtehoaoeahfmfpaaDoor
