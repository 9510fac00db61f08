/- The reading that most copies have: plain lists. -/
import Derived.Test.YtncmenfdnpmblaaDoorCode
namespace Go.Proofs.YtncmenfdnpmblaaDoor

/-- how many copies read r at place p -/
def mjN (P : List PC) (p : Nat) (r : Int) : Nat := (P.filter fun x => match x.2[p]? with | some y => y == r | none => false).length
theorem mjN_step {P : List PC} {k p : Nat} {x : PC} {y : Int} (hx : P[k]? = some x) (hy : x.2[p]? = some y) (r : Int) : mjN (P.take (k + 1)) p r = mjN (P.take k) p r + if (y == r) = true then 1 else 0 := by
  have hk := (List.getElem?_eq_some_iff.1 hx).1
  unfold mjN
  rw [List.take_succ_eq_append_getElem hk, (List.getElem?_eq_some_iff.1 hx).2, List.filter_append, List.length_append]
  congr 1
  simp only [List.filter_cons, List.filter_nil, hy]
  split <;> rfl
theorem mjN_le (P : List PC) (p : Nat) (r : Int) (k : Nat) : mjN (P.take k) p r ≤ k := by
  unfold mjN
  have h1 := List.length_filter_le (fun x : PC => match x.2[p]? with | some y => y == r | none => false) (P.take k)
  have h2 : (P.take k).length ≤ k := List.length_take_le ..
  omega
def mjC (P : List PC) (p r : Nat) : Nat := if r = 0 then 0 else mjN P p r
/-- the first of the numbers below m at which f is largest -/
def bst (f : Nat → Nat) : Nat → Nat
  | 0 => 0
  | r + 1 => if f r > f (bst f r) then r else bst f r
theorem bst_le (f : Nat → Nat) : ∀ m, bst f m ≤ m
  | 0 => by simp [bst]
  | m + 1 => by unfold bst; have := bst_le f m; split <;> omega
theorem bst_lt (f : Nat → Nat) : ∀ m, bst f (m + 1) ≤ m
  | 0 => by simp [bst]
  | m + 1 => by unfold bst; have := bst_lt f m; split <;> omega
theorem bst_yes {f : Nat → Nat} {m : Nat} (h : f m > f (bst f m)) : bst f (m + 1) = m := by rw [bst, if_pos h]
theorem bst_no {f : Nat → Nat} {m : Nat} (h : ¬ f m > f (bst f m)) : bst f (m + 1) = bst f m := by rw [bst, if_neg h]
theorem bst_one (f : Nat → Nat) : bst f 1 = 0 := by simp [bst]
def mjA (P : List PC) (p : Nat) : Int := (bst (mjC P p) 10 : Nat)
def mjP (P : List PC) (k : Nat) : List Int := (List.range k).map (mjA P)
theorem mjP_len (P : List PC) (k : Nat) : (mjP P k).length = k := by simp [mjP]
theorem mjP_succ (P : List PC) (k : Nat) : mjP P (k + 1) = mjP P k ++ [mjA P k] := by simp [mjP, List.range_succ]
theorem mjP_step {w' : World} {base : Nat} {T : TypeId} {v' : Value} {P : List PC} {k : Nat} (ho : w'.ownsRow base T 1 v' (k + 1) ((mjP P k).flatMap intCells ++ [.int .i64 (mjA P k)])) : w'.ownsRow base T 1 v' (k + 1) ((mjP P (k + 1)).flatMap intCells) := by
  rw [mjP_succ, List.flatMap_append]; exact ho
def mjL (P : List PC) : List Int := if arB P = true then mjP P (n0 P) else []
def mjE (P : List PC) : Int := cdB true P []
theorem mj_no {P : List PC} (h : arB P = false) : mjL P = [] ∧ mjE P = 1 := ⟨by simp [mjL, h], cd_1 (by rw [h]; rfl)⟩
theorem mj_yes {P : List PC} (h : arB P = true) : mjL P = mjP P (n0 P) ∧ mjE P = 0 := ⟨by simp [mjL, h], cd_0 (by rw [h]; rfl) (by simp)⟩
/-- the counts as the program's table holds them -/
def mjT (P : List PC) (p : Nat) : List Int := (List.range 10).map fun (r : Nat) => (mjN P p r : Int)
theorem mjT_len (P : List PC) (p : Nat) : (mjT P p).length = 10 := by simp [mjT]
theorem mjT_get {P : List PC} {p r : Nat} (h : r < 10) : (mjT P p)[r]? = some (mjN P p r : Int) := by simp [mjT, h]
def mjU (P : List PC) (p : Nat) : List Int := (List.range 10).map fun (r : Nat) => (mjC P p r : Int)
theorem mjU_len (P : List PC) (p : Nat) : (mjU P p).length = 10 := by simp [mjU]
theorem mjU_get {P : List PC} {p r : Nat} (h : r < 10) : (mjU P p)[r]? = some (mjC P p r : Int) := by simp [mjU, h]
theorem cells_set (l : List Int) (i : Nat) (z : Int) : (l.flatMap intCells).set i (.int .i64 z) = (l.set i z).flatMap intCells := by
  have e : ∀ l : List Int, l.flatMap intCells = l.map fun z => Value.int .i64 z := fun l => by induction l with | nil => rfl | cons x l ih => simp [ih]
  rw [e, e, List.map_set]
theorem cells_at {l : List Int} {i : Nat} {z : Int} (h : l[i]? = some z) : (l.flatMap intCells)[i]? = some (.int .i64 z) := by
  have := flat_get intCells 1 int_len l i z h 0 _ rfl
  rwa [Nat.mul_one, Nat.add_zero] at this
theorem mjT_zero (P : List PC) (p : Nat) : mjT (P.take 0) p = List.replicate 10 0 := by
  simp only [mjT, mjN, List.take_zero, List.filter_nil, List.length_nil]; decide
theorem mjT_step {P : List PC} {k p r : Nat} {x : PC} (hx : P[k]? = some x) (hy : x.2[p]? = some (r : Int)) (hr : r < 10) : (mjT (P.take k) p).set r ((mjN (P.take k) p r : Int) + 1) = mjT (P.take (k + 1)) p := by
  apply List.ext_getElem?
  intro i
  rw [List.getElem?_set, mjT_len]
  rcases Nat.lt_or_ge i 10 with hi | hi
  · rw [mjT_get hi, mjT_get hi, mjN_step hx hy i]
    by_cases e : r = i
    · subst e; simp [hr]
    · have : ((r : Int) == (i : Int)) = false := by simp; omega
      simp [e, this]
  · rw [List.getElem?_eq_none (by simp [mjT_len]; omega), List.getElem?_eq_none (by simp [mjT_len]; omega)]
    have : r ≠ i := by omega
    simp [this]
theorem mjT_end (P : List PC) (p : Nat) : (mjT P p).set 0 0 = mjU P p := by
  apply List.ext_getElem?
  intro i
  rw [List.getElem?_set, mjT_len]
  rcases Nat.lt_or_ge i 10 with hi | hi
  · rw [mjT_get hi, mjU_get hi]
    unfold mjC
    by_cases e : i = 0
    · subst e; simp
    · have : (0 : Nat) ≠ i := by omega
      simp [this, e]
  · rw [List.getElem?_eq_none (by simp [mjT_len]; omega), List.getElem?_eq_none (by simp [mjU_len]; omega)]
    have : (0 : Nat) ≠ i := by omega
    simp [this]
end Go.Proofs.YtncmenfdnpmblaaDoor
