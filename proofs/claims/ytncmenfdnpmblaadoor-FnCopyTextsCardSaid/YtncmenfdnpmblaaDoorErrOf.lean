/- ErrorsOf: the program's and the reference's walks. -/
import Derived.Test.YtncmenfdnpmblaaDoorDer
namespace Go.Proofs.YtncmenfdnpmblaaDoor
open Go.RowKit Go.Sort

theorem cd_dup {right : Bool} {P : List PC} {i : Int} : cdB right P [i, i] = cdB right P [i] := by unfold cdB; simp
def eoC (o : List Int) (P : List PC) (i : Int) : Int := cdB (orB o P) P [i]
def eoL (o : List Int) (P : List PC) (i : Int) : List Int := if eoC o P i = 0 then (match P[i.toNat]? with | some x => pl (dfB x.2 o) o.length | none => []) else []
theorem eo_no {o : List Int} {P : List PC} {i : Int} (h : (eoC o P i != 0) = true) : eoL o P i = [] := by unfold eoL; rw [if_neg (by simpa using h)]
theorem eo_yes {o : List Int} {P : List PC} {i : Nat} {x : PC} (h : eoC o P i = 0) (hx : P[i]? = some x) : eoL o P i = pl (dfB x.2 o) o.length := by
  have e1 : P[(i : Int).toNat]? = some x := hx
  unfold eoL; rw [if_pos h, e1]
theorem eo_len (o : List Int) (P : List PC) (i : Int) : (eoL o P i).length ≤ o.length := by
  unfold eoL
  split
  · split
    · exact pl_len _ _
    · simp
  · simp
theorem ret_vi {k : IntKind} {v : Value} {a' b' : Int} (h' : a' = b') : Ending.returned (.tuple #[v, .int k a']) = .returned (.tuple #[v, .int k b']) := by rw [h']

theorem one_rd (w : World) (i : Int) : RdI (w.alloc (.cells #[.int .i64 i] 2)) w.heap.size (w.heap.size + 1) (some ⟨w.heap.size, 0, none⟩) [i] := fun _ => by
  refine ⟨w.heap.size, 0, rfl, Nat.le_refl _, by omega, fun j x hx q u hu => ?_⟩
  match j, hx with
  | 0, hx => match q, hu with
    | 0, hu => simp at hx; subst hx; simp at hu; subst hu; simp

end Go.Proofs.YtncmenfdnpmblaaDoor
