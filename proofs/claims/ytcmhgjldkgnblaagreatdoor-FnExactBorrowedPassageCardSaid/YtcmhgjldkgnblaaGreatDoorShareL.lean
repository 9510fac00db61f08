/- The longest list of words in common, plainly. -/
import Derived.Test.YtcmhgjldkgnblaaGreatDoorFind
namespace Go.Proofs.YtcmhgjldkgnblaaGreatDoor
open Go.RowKit Go.Sort

/-- how many words in front are alike -/
def cpl : List ByteArray → List ByteArray → Nat
  | x :: a, y :: b => if alkB x y = true then cpl a b + 1 else 0
  | _, _ => 0
theorem cpl_le : ∀ a b : List ByteArray, cpl a b ≤ a.length ∧ cpl a b ≤ b.length
  | [], b => by simp [cpl]
  | x :: a, [] => by simp [cpl]
  | x :: a, y :: b => by
    have := cpl_le a b
    unfold cpl; split <;> simp <;> omega
theorem cpl_yes {P Q : List ByteArray} {p q : Nat} {x y : ByteArray} (hx : P[p]? = some x) (hy : Q[q]? = some y) (h : alkB x y = true) : cpl (P.drop p) (Q.drop q) = 1 + cpl (P.drop (p + 1)) (Q.drop (q + 1)) := by
  rw [List.drop_eq_getElem_cons (List.getElem?_eq_some_iff.1 hx).1, List.drop_eq_getElem_cons (List.getElem?_eq_some_iff.1 hy).1, (List.getElem?_eq_some_iff.1 hx).2, (List.getElem?_eq_some_iff.1 hy).2, cpl, if_pos h]; omega
theorem cpl_no {P Q : List ByteArray} {p q : Nat} {x y : ByteArray} (hx : P[p]? = some x) (hy : Q[q]? = some y) (h : alkB x y = false) : cpl (P.drop p) (Q.drop q) = 0 := by
  rw [List.drop_eq_getElem_cons (List.getElem?_eq_some_iff.1 hx).1, List.drop_eq_getElem_cons (List.getElem?_eq_some_iff.1 hy).1, (List.getElem?_eq_some_iff.1 hx).2, (List.getElem?_eq_some_iff.1 hy).2, cpl, if_neg (by rw [h]; simp)]
theorem cpl_endP {P Q : List ByteArray} {p q : Nat} (h : P.length ≤ p) : cpl (P.drop p) (Q.drop q) = 0 := by
  rw [List.drop_eq_nil_of_le h]; rfl
theorem cpl_endQ {P Q : List ByteArray} {p q : Nat} (h : Q.length ≤ q) : cpl (P.drop p) (Q.drop q) = 0 := by
  rw [List.drop_eq_nil_of_le h]; cases P.drop p <;> rfl
theorem cpl_iff : ∀ (n : Nat) (a b : List ByteArray), n ≤ cpl a b ↔ n ≤ a.length ∧ n ≤ b.length ∧ (b.take n).map nrm = (a.take n).map nrm
  | 0, a, b => by simp
  | n + 1, [], b => by simp [cpl]
  | n + 1, x :: a, [] => by simp [cpl]
  | n + 1, x :: a, y :: b => by
    have ih := cpl_iff n a b
    unfold cpl
    by_cases h : alkB x y = true
    · rw [if_pos h]
      have hn := alkB_eq.1 h
      simp only [List.take_succ_cons, List.map_cons, List.length_cons, List.cons.injEq]
      constructor
      · intro h2
        have := ih.1 (by omega)
        exact ⟨by omega, by omega, hn.symm, this.2.2⟩
      · rintro ⟨h1, h2, -, h3⟩
        have := ih.2 ⟨by omega, by omega, h3⟩
        omega
    · rw [if_neg h]
      simp only [List.take_succ_cons, List.map_cons, List.length_cons, List.cons.injEq]
      constructor
      · intro h2; omega
      · rintro ⟨-, -, h3, -⟩
        exact absurd (alkB_eq.2 h3.symm) h
def mlB (P Q : List ByteArray) (i k : Nat) : Nat := cpl (P.drop i) (Q.drop k)
/-- the search in row i, from the best so far -/
def rowM (P Q : List ByteArray) (i : Nat) : Nat → Nat × Nat → Nat × Nat
  | 0, s => s
  | k + 1, s => if (rowM P Q i k s).1 < mlB P Q i k then (mlB P Q i k, i) else rowM P Q i k s
def allM (P Q : List ByteArray) : Nat → Nat × Nat
  | 0 => (0, 0)
  | i + 1 => rowM P Q i Q.length (allM P Q i)
theorem rowM_yes {P Q : List ByteArray} {i k : Nat} {s : Nat × Nat} (h : (rowM P Q i k s).1 < mlB P Q i k) : rowM P Q i (k + 1) s = (mlB P Q i k, i) := by rw [rowM, if_pos h]
theorem rowM_no {P Q : List ByteArray} {i k : Nat} {s : Nat × Nat} (h : ¬ (rowM P Q i k s).1 < mlB P Q i k) : rowM P Q i (k + 1) s = rowM P Q i k s := by rw [rowM, if_neg h]
theorem rowM_max (P Q : List ByteArray) (i k : Nat) (s : Nat × Nat) : (rowM P Q i (k + 1) s).1 = max (rowM P Q i k s).1 (mlB P Q i k) := by
  rw [rowM]; split
  · simp; omega
  · omega
theorem rowM_spec (P Q : List ByteArray) (i : Nat) : ∀ (k : Nat) (s : Nat × Nat), s.1 ≤ (rowM P Q i k s).1 ∧ (∀ k', k' < k → mlB P Q i k' ≤ (rowM P Q i k s).1) ∧ (rowM P Q i k s = s ∨ ((rowM P Q i k s).2 = i ∧ s.1 < (rowM P Q i k s).1 ∧ ∃ k', k' < k ∧ mlB P Q i k' = (rowM P Q i k s).1))
  | 0, s => ⟨Nat.le_refl _, fun k' h => absurd h (by omega), .inl rfl⟩
  | k + 1, s => by
    obtain ⟨h1, h2, h3⟩ := rowM_spec P Q i k s
    by_cases h : (rowM P Q i k s).1 < mlB P Q i k
    · rw [rowM_yes h]
      refine ⟨by simp only; omega, fun k' hk => ?_, .inr ⟨rfl, by simp only; omega, k, by omega, rfl⟩⟩
      by_cases e : k' = k
      · subst e; exact Nat.le_refl _
      · have := h2 k' (by omega); simp only; omega
    · rw [rowM_no h]
      refine ⟨h1, fun k' hk => ?_, ?_⟩
      · by_cases e : k' = k
        · subst e; omega
        · exact h2 k' (by omega)
      · rcases h3 with h3 | ⟨a, b, k', c, d⟩
        · exact .inl h3
        · exact .inr ⟨a, b, k', by omega, d⟩
theorem allM_spec (P Q : List ByteArray) : ∀ n : Nat, (∀ i k, i < n → k < Q.length → mlB P Q i k ≤ (allM P Q n).1) ∧ (allM P Q n = (0, 0) ∨ ((allM P Q n).2 < n ∧ 0 < (allM P Q n).1 ∧ (∃ k, k < Q.length ∧ mlB P Q (allM P Q n).2 k = (allM P Q n).1) ∧ ∀ i k, i < (allM P Q n).2 → k < Q.length → mlB P Q i k < (allM P Q n).1))
  | 0 => ⟨fun i k h => absurd h (by omega), .inl rfl⟩
  | n + 1 => by
    obtain ⟨h1, h2⟩ := allM_spec P Q n
    obtain ⟨g1, g2, g3⟩ := rowM_spec P Q n Q.length (allM P Q n)
    rw [allM]
    refine ⟨fun i k hi hk => ?_, ?_⟩
    · by_cases e : i = n
      · subst e; exact g2 k hk
      · exact Nat.le_trans (h1 i k (by omega) hk) g1
    · rcases g3 with e | ⟨a, b, k', c, d⟩
      · rw [e]
        rcases h2 with h2 | ⟨p1, p2, p3, p4⟩
        · exact .inl h2
        · exact .inr ⟨by omega, p2, p3, p4⟩
      · refine .inr ⟨by omega, by omega, ⟨k', c, by rw [a]; exact d⟩, fun i k hi hk => ?_⟩
        rw [a] at hi
        have := h1 i k hi hk
        omega
def shM (P Q : List ByteArray) : Nat := (allM P Q P.length).1
def shA (P Q : List ByteArray) : Nat := (allM P Q P.length).2
theorem mlB_le (P Q : List ByteArray) (i k : Nat) : mlB P Q i k ≤ P.length := by
  have := (cpl_le (P.drop i) (Q.drop k)).1
  rw [List.length_drop] at this; unfold mlB; omega
theorem rowM_le {P Q : List ByteArray} {i n : Nat} : ∀ (k : Nat) (s : Nat × Nat), s.1 ≤ P.length → s.2 ≤ n → i ≤ n → (rowM P Q i k s).1 ≤ P.length ∧ (rowM P Q i k s).2 ≤ n
  | 0, s, h, h', _ => ⟨h, h'⟩
  | k + 1, s, h, h', hi => by
    have ih := rowM_le (P := P) (Q := Q) (i := i) k s h h' hi
    by_cases e : (rowM P Q i k s).1 < mlB P Q i k
    · rw [rowM_yes e]; exact ⟨mlB_le P Q i k, hi⟩
    · rw [rowM_no e]; exact ih
theorem allM_le (P Q : List ByteArray) : ∀ n : Nat, (allM P Q n).1 ≤ P.length ∧ (allM P Q n).2 ≤ n
  | 0 => ⟨Nat.zero_le _, Nat.le_refl _⟩
  | n + 1 => by
    have ih := allM_le P Q n
    rw [allM]; exact rowM_le _ _ ih.1 (by omega) (by omega)
/-- where a part of a is found in b -/
theorem fd_iff {P Q : List ByteArray} {at_ n j : Nat} (h : at_ + n ≤ P.length) : fdB Q ((P.drop at_).take n) j = true ↔ n ≤ mlB P Q at_ j ∧ j + n ≤ Q.length := by
  unfold fdB mlB
  rw [sub_len h, Bool.and_eq_true, decide_eq_true_eq, cpl_iff]
  unfold alL
  rw [decide_eq_true_eq, List.length_drop, List.length_drop]
  constructor
  · rintro ⟨h1, h2⟩; exact ⟨⟨by omega, by omega, h2⟩, h1⟩
  · rintro ⟨⟨h1, h2, h3⟩, h4⟩; exact ⟨h4, h3⟩
theorem pl_nil_iff {p : Nat → Bool} {n : Nat} : pl p n = [] ↔ ∀ j, j < n → p j = false := by
  unfold pl
  rw [List.map_eq_nil_iff, List.filter_eq_nil_iff]
  constructor
  · intro h j hj; simpa using h j (by simpa using hj)
  · intro h j hj; simpa using h j (by simpa using hj)
theorem fd_empty {P Q : List ByteArray} {at_ : Nat} (h : at_ < shA P Q) (hm : 0 < shM P Q) : at_ + shM P Q ≤ P.length ∧ fdL Q ((P.drop at_).take (shM P Q)) = [] := by
  obtain ⟨-, h2⟩ := allM_spec P Q P.length
  rcases h2 with h2 | ⟨p1, p2, ⟨k, p3, p3'⟩, p4⟩
  · unfold shA at h; rw [h2] at h; simp at h
  · have hl := (cpl_le (P.drop (shA P Q)) (Q.drop k)).1
    rw [List.length_drop] at hl
    have e : cpl (P.drop (shA P Q)) (Q.drop k) = shM P Q := p3'
    have hle : at_ + shM P Q ≤ P.length := by omega
    refine ⟨hle, ?_⟩
    unfold fdL; rw [pl_nil_iff]
    intro j hj
    by_cases hf : fdB Q ((P.drop at_).take (shM P Q)) j = true
    · have := (fd_iff hle).1 hf
      have := p4 at_ j h hj
      unfold shM at *
      omega
    · simpa using hf
theorem fd_there {P Q : List ByteArray} (hm : 0 < shM P Q) : shA P Q + shM P Q ≤ P.length ∧ fdL Q ((P.drop (shA P Q)).take (shM P Q)) ≠ [] := by
  obtain ⟨-, h2⟩ := allM_spec P Q P.length
  rcases h2 with h2 | ⟨p1, p2, ⟨k, p3, p3'⟩, p4⟩
  · unfold shM at hm; rw [h2] at hm; simp at hm
  · have hl := cpl_le (P.drop (shA P Q)) (Q.drop k)
    rw [List.length_drop, List.length_drop] at hl
    have e : cpl (P.drop (shA P Q)) (Q.drop k) = shM P Q := p3'
    have hle : shA P Q + shM P Q ≤ P.length := by omega
    refine ⟨hle, fun hn => ?_⟩
    unfold fdL at hn; rw [pl_nil_iff] at hn
    have := hn k p3
    rw [(fd_iff hle).2 ⟨Nat.le_of_eq e.symm, by omega⟩] at this
    cases this
end Go.Proofs.YtcmhgjldkgnblaaGreatDoor
