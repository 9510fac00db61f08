/- CommonErrors: the program's and the reference's walks. -/
import Derived.Test.YtncmenfdnpmblaaDoorErrOf
namespace Go.Proofs.YtncmenfdnpmblaaDoor
open Go.RowKit Go.Sort

/-- the places where copy a errs and b reads as a does -/
def ceB (a b o : List Int) (j : Nat) : Bool := dfB a o j && hitB a b (j : Int)
theorem ce_eq (a b o : List Int) (n : Nat) : (pl (dfB a o) n).filter (hitB a b) = pl (ceB a b o) n := by
  unfold pl
  rw [List.filter_map, List.filter_filter]
  congr 1
  apply List.filter_congr
  intro j _
  simp [ceB, Bool.and_comm]
theorem filt_yes {L : List Int} {p : Int → Bool} {k : Nat} {z : Int} (h : L[k]? = some z) (hp : p z = true) : (L.take (k + 1)).filter p = (L.take k).filter p ++ [z] := by
  rw [List.take_succ_eq_append_getElem (List.getElem?_eq_some_iff.1 h).1, (List.getElem?_eq_some_iff.1 h).2, List.filter_append]; simp [hp]
theorem filt_no {L : List Int} {p : Int → Bool} {k : Nat} {z : Int} (h : L[k]? = some z) (hp : p z = false) : (L.take (k + 1)).filter p = (L.take k).filter p := by
  rw [List.take_succ_eq_append_getElem (List.getElem?_eq_some_iff.1 h).1, (List.getElem?_eq_some_iff.1 h).2, List.filter_append]; simp [hp]
theorem filt_step {w' : World} {base : Nat} {T : TypeId} {v' : Value} {L : List Int} {p : Int → Bool} {k : Nat} {z : Int} (h : L[k]? = some z) (hp : p z = true) (ho : w'.ownsRow base T 1 v' (((L.take k).filter p).length + 1) (((L.take k).filter p).flatMap intCells ++ [.int .i64 z])) : w'.ownsRow base T 1 v' ((L.take (k + 1)).filter p).length (((L.take (k + 1)).filter p).flatMap intCells) := by
  rw [filt_yes h hp, List.length_append, List.flatMap_append]; exact ho

theorem ce_of {a b o : List Int} {j : Nat} {x y z : Int} (hx : a[j]? = some x) (hy : o[j]? = some y) (hz : b[j]? = some z) : ceB a b o j = (dfI x y && x == z) := by
  unfold ceB; rw [dfB_of hx hy, hit_of hx hz]

def coC (o : List Int) (P : List PC) (i k : Int) : Int := cdB (orB o P) P [i, k]
def coL (o : List Int) (P : List PC) (i k : Int) : List Int := if coC o P i k = 0 then (match P[i.toNat]?, P[k.toNat]? with | some x, some y => pl (ceB x.2 y.2 o) o.length | _, _ => []) else []
theorem co_no {o : List Int} {P : List PC} {i k : Int} (h : (coC o P i k != 0) = true) : coL o P i k = [] := by unfold coL; rw [if_neg (by simpa using h)]
theorem co_yes {o : List Int} {P : List PC} {i k : Nat} {x y : PC} (h : coC o P i k = 0) (hx : P[i]? = some x) (hy : P[k]? = some y) : coL o P i k = pl (ceB x.2 y.2 o) o.length := by
  have e1 : P[(i : Int).toNat]? = some x := hx
  have e2 : P[(k : Int).toNat]? = some y := hy
  unfold coL; rw [if_pos h, e1, e2]
theorem co_len (o : List Int) (P : List PC) (i k : Int) : (coL o P i k).length ≤ o.length := by
  unfold coL
  split
  · split
    · exact pl_len _ _
    · simp
  · simp

end Go.Proofs.YtncmenfdnpmblaaDoor
