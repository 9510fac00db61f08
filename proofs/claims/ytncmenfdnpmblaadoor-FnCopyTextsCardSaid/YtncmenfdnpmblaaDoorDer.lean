/- Whether one copy may derive from another: the program's and the reference's walks. -/
import Derived.Test.YtncmenfdnpmblaaDoorErr
import Derived.Test.YtncmenfdnpmblaaDoorCntD
import Derived.Deep.RegionHeld3
namespace Go.Proofs.YtncmenfdnpmblaaDoor
open Go.RowKit Go.Sort

theorem pl_mem {p : Nat → Bool} {n : Nat} {z : Int} (h : z ∈ pl p n) : ∃ q : Nat, q < n ∧ z = q := by
  unfold pl at h
  obtain ⟨q, hq, rfl⟩ := List.mem_map.1 h
  exact ⟨q, by simpa using (List.mem_filter.1 hq).1, rfl⟩
def hitB (a o : List Int) (z : Int) : Bool := match a[z.toNat]?, o[z.toNat]? with | some x, some y => x == y | _, _ => false
theorem hit_of {a o : List Int} {q : Nat} {x y : Int} (hx : a[q]? = some x) (hy : o[q]? = some y) : hitB a o (q : Int) = (x == y) := by simp [hitB, hx, hy]
def deB (a b o : List Int) : Bool := !(pl (dfB b o) o.length).any (hitB a o)

/-- whether copy i may derive from copy k, and the code -/
def mdB (o : List Int) (P : List PC) (i k : Int) : Bool := match P[i.toNat]?, P[k.toNat]? with | some x, some y => !(decide (i = k)) && deB x.2 y.2 o | _, _ => false
def mdC (o : List Int) (P : List PC) (i k : Int) : Int := cdB (orB o P) P [i, k]
def mdA (o : List Int) (P : List PC) (i k : Int) : Bool := if mdC o P i k = 0 then mdB o P i k else false
theorem mdA_no {o : List Int} {P : List PC} {i k : Int} (h : (mdC o P i k != 0) = true) : mdA o P i k = false := by unfold mdA; rw [if_neg (by simpa using h)]
theorem mdA_yes {o : List Int} {P : List PC} {i k : Nat} {x y : PC} (h : mdC o P i k = 0) (hx : P[i]? = some x) (hy : P[k]? = some y) : mdA o P i k = (!(decide (i = k)) && deB x.2 y.2 o) := by
  have hd : decide ((i : Int) = (k : Int)) = decide (i = k) := by rw [decide_eq_decide]; omega
  have e1 : P[(i : Int).toNat]? = some x := hx
  have e2 : P[(k : Int).toNat]? = some y := hy
  unfold mdA mdB; rw [if_pos h, e1, e2]
  exact congrArg (fun z => !z && deB x.2 y.2 o) hd
theorem ret_bi {k : IntKind} {a b : Bool} {a' b' : Int} (h : a = b) (h' : a' = b') : Ending.returned (.tuple #[.bool a, .int k a']) = .returned (.tuple #[.bool b, .int k b']) := by rw [h, h']
theorem orB_inv {o : List Int} {P : List PC} {i : Nat} {x : PC} (hA : arB P = true) (h : orB o P = true) (hx : P[i]? = some x) : o.length = x.2.length ∧ o.all rdB = true := by
  have h1 := arB_ok hA hx
  simp only [okC, Bool.and_eq_true, decide_eq_true_eq] at h1
  simp only [orB, Bool.and_eq_true, Bool.or_eq_true, decide_eq_true_eq] at h
  have hp : P.length ≠ 0 := by have := (List.getElem?_eq_some_iff.1 hx).1; omega
  rcases h.1.2 with h2 | h2
  · exact absurd h2 hp
  · exact ⟨by rw [h2, h1.2.1], h.2⟩

end Go.Proofs.YtncmenfdnpmblaaDoor
