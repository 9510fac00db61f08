/- A copy that came in by value, opened. -/
import Derived.Test.YtdjhenjgccenhaaDoorOpenCopy
import Derived.Lib.SmallJoins
namespace Go.Proofs.YtdjhenjgccenhaaDoor
open Go.Joins Go.ChangeShapes Go.WideShapes Go.RowKit Go.Deep
variable {H : Type} {enc : TypeId × Value → H}
set_option maxRecDepth 100000 in
theorem open_copy {W : World} {r : Reach} {b0 : Nat} {v : Value} {d : DataW H} {p : List MemPlace} (hv : Value.okWide Tryd.prog W r b0 60 v) (h : DataW.Trod enc Tryd.prog W 0 (fun _ => true) true 60 v d p) :
    ∃ x : Cp, v = x.val ∧ RdI W 0 W.heap.size x.A x.rs ∧ x.ok := by
  obtain ⟨v0, v1, y0, y1, n, rfl, -, -, t0, t1⟩ := open_agg2 Tryd.underlying60 (by kernel_rfl) (by kernel_rfl) hv h
  obtain ⟨s0, e0, _, z0⟩ := DataW.trod_string Tryd.underlying9 t0
  obtain ⟨A', n', c', e1, h1, h2, l, rfl, h4, h5⟩ := open_ints_cells t1
  simp only [List.cons.injEq, and_true] at e0 e1
  subst e0 e1
  exact ⟨⟨s0, A', c', l⟩, rfl, h4, z0, h1, h2⟩
end Go.Proofs.YtdjhenjgccenhaaDoor
