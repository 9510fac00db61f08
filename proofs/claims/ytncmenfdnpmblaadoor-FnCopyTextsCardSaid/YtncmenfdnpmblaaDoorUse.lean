/- UselessCopies: the program's and the reference's walks. -/
import Derived.Test.YtncmenfdnpmblaaDoorCom
namespace Go.Proofs.YtncmenfdnpmblaaDoor
open Go.RowKit Go.Sort

/-- copy i errs more than copy q and may derive from it -/
def us1 (o : List Int) (P : List PC) (i q : Nat) : Bool := match P[i]?, P[q]? with
  | some x, some y => decide ((pl (dfB y.2 o) o.length).length < (pl (dfB x.2 o) o.length).length) && deB x.2 y.2 o
  | _, _ => false
def usN (o : List Int) (P : List PC) (i k : Nat) : Bool := (List.range k).any (us1 o P i)
def usB (o : List Int) (P : List PC) (i : Nat) : Bool := usN o P i P.length
theorem usN_succ (o : List Int) (P : List PC) (i k : Nat) : usN o P i (k + 1) = (usN o P i k || us1 o P i k) := by simp [usN, List.range_succ]
theorem us1_of {o : List Int} {P : List PC} {i q : Nat} {x y : PC} (hx : P[i]? = some x) (hy : P[q]? = some y) : us1 o P i q = (decide ((pl (dfB y.2 o) o.length).length < (pl (dfB x.2 o) o.length).length) && deB x.2 y.2 o) := by
  unfold us1; rw [hx, hy]
def ucC (o : List Int) (P : List PC) : Int := cdB (orB o P) P []
def ucL (o : List Int) (P : List PC) : List Int := if ucC o P = 0 then pl (usB o P) P.length else []

end Go.Proofs.YtncmenfdnpmblaaDoor
