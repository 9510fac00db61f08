/- A decision that came in by value, opened. -/
import Derived.Test.YtngananoidplmaaDoorOpenDec
import Derived.Lib.SmallJoins
namespace Go.Proofs.YtngananoidplmaaDoor
open Go.Joins Go.ChangeShapes Go.WideShapes Go.RowKit Go.Deep
variable {H : Type} {enc : TypeId × Value → H}
set_option maxRecDepth 100000 in
theorem open_dec {W : World} {r : Reach} {b0 : Nat} {v : Value} {d : DataW H} {p : List MemPlace} (hv : Value.okWide Tryd.prog W r b0 39 v) (h : DataW.Trod enc Tryd.prog W 0 (fun _ => true) true 39 v d p) :
    ∃ x : Dec, v = x.val ∧ x.ok := by
  obtain ⟨v0, v1, v2, v3, y0, y1, y2, y3, n, rfl, -, -, t0, t1, t2, t3⟩ := open_agg4 Tryd.underlying39 (by kernel_rfl) (by kernel_rfl) hv h
  obtain ⟨s0, e0, _, z0⟩ := DataW.trod_string Tryd.underlying9 t0
  obtain ⟨s1, e1, _, _⟩ := DataW.trod_int Tryd.underlying2 t1
  obtain ⟨s2, e2, _, _⟩ := DataW.trod_int Tryd.underlying2 t2
  obtain ⟨s3, e3, _, z3⟩ := DataW.trod_string Tryd.underlying9 t3
  simp only [List.cons.injEq, and_true] at e0 e1 e2 e3
  subst e0 e1 e2 e3
  exact ⟨⟨s0, s1, s2, s3⟩, rfl, z0, z3⟩
end Go.Proofs.YtngananoidplmaaDoor
