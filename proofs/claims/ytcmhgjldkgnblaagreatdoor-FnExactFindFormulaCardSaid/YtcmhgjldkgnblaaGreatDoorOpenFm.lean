/- A formula that came in by value, opened. -/
import Derived.Test.YtcmhgjldkgnblaaGreatDoorOpenStr
import Derived.Test.YtcmhgjldkgnblaaGreatDoorForm
import Derived.Lib.SmallJoins
namespace Go.Proofs.YtcmhgjldkgnblaaGreatDoor
open Go.Joins Go.ChangeShapes Go.WideShapes Go.RowKit Go.Deep
variable {H : Type} {enc : TypeId × Value → H}
set_option maxRecDepth 100000 in
theorem open_form {W : World} {r : Reach} {b0 : Nat} {v : Value} {d : DataW H} {p : List MemPlace} (hv : Value.okWide Tryz.prog W r b0 30 v) (h : DataW.Trod enc Tryz.prog W 0 (fun _ => true) true 30 v d p) :
    ∃ x : Fm, v = x.val ∧ RdT W 0 W.heap.size x.A x.ws ∧ x.ok := by
  obtain ⟨v0, v1, v2, y0, y1, y2, n, rfl, -, -, t0, t1, t2⟩ := open_agg3 Tryz.underlying30 (by kernel_rfl) (by kernel_rfl) hv h
  obtain ⟨A', n', c', e0, h1, h2, l, rfl, h4, h5⟩ := open_strs_cells t0
  obtain ⟨m1, e1, _, _⟩ := DataW.trod_int Tryz.underlying2 t1
  obtain ⟨m2, e2, _, _⟩ := DataW.trod_int Tryz.underlying2 t2
  simp only [List.cons.injEq, and_true] at e0 e1 e2
  subst e0 e1 e2
  exact ⟨⟨A', c', l, m1, m2⟩, rfl, h4, h5, h1, h2⟩
end Go.Proofs.YtcmhgjldkgnblaaGreatDoor
