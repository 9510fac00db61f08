/- Plain facts of FnCopyTexts. -/
import Derived.Test.YtncmenfdnpmblaaDoorFnCopL
import Derived.Test.YtncmenfdnpmblaaDoorCntD
import Derived.Test.YtncmenfdnpmblaaDoorMajI
import Derived.Test.YtncmenfdnpmblaaDoorRcopy
namespace Go.Proofs.YtncmenfdnpmblaaDoor
open Go.RowKit Go.Sort

theorem cdB_two (P : List PC) (i k : Int) : cdB true P [k, i] = cdB true P [i, k] := by
  unfold cdB
  simp only [List.all_cons, List.all_nil, Bool.and_true]
  rw [Bool.and_comm (ixB P.length k)]
theorem dfI_sym (x y : Int) : dfI x y = dfI y x := by unfold dfI; grind
theorem dfI_self (x : Int) : dfI x x = false := by unfold dfI; simp
theorem dfB_sym (a b : List Int) (j : Nat) : dfB a b j = dfB b a j := by
  unfold dfB
  cases a[j]? <;> cases b[j]? <;> simp [dfI_sym]
theorem dfB_self (a : List Int) (j : Nat) : dfB a a j = false := by
  unfold dfB
  cases a[j]? <;> simp [dfI_self]
theorem cd_ar {P : List PC} {ix : List Int} (h : cdB true P ix = 0) : arB P = true := by
  unfold cdB at h
  split at h
  · simp_all
  · omega
theorem dfN_sym {P : List PC} (h : arB P = true) (i k : Int) : dfN P i k = dfN P k i := by
  unfold dfN
  cases hx : P[i.toNat]? with
  | none => cases P[k.toNat]? <;> rfl
  | some x =>
    cases hy : P[k.toNat]? with
    | none => rfl
    | some y =>
      have e := arB_len h hx hy
      show ((pl (dfB x.2 y.2) x.2.length).length : Int) = ((pl (dfB y.2 x.2) y.2.length).length : Int)
      rw [e, show dfB x.2 y.2 = dfB y.2 x.2 from funext fun j => dfB_sym _ _ j]
theorem dfN_self (P : List PC) (i : Int) : dfN P i i = 0 := by
  unfold dfN
  cases P[i.toNat]? with
  | none => rfl
  | some x => show ((pl (dfB x.2 x.2) x.2.length).length : Int) = 0; rw [show dfB x.2 x.2 = fun _ => false from funext fun j => dfB_self _ j]; simp [pl]
theorem cdA_sym {P : List PC} {i k : Int} (h : cdB true P [i, k] = 0) : cdA P k i = cdA P i k := by
  unfold cdA
  rw [cdB_two P i k, if_pos h, if_pos h, dfN_sym (cd_ar h)]
theorem cdA_self (P : List PC) (i : Int) : cdA P i i = 0 := by
  unfold cdA
  split
  · exact dfN_self P i
  · rfl
theorem mj_ar (P : List PC) : (mjE P == 0) = arB P := by
  unfold mjE cdB
  cases arB P <;> simp
end Go.Proofs.YtncmenfdnpmblaaDoor
