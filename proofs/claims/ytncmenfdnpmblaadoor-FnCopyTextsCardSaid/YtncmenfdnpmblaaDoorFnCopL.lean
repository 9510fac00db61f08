/- FnCopies' plain laws. -/
import Derived.Test.YtncmenfdnpmblaaDoorUseI
import Derived.Test.YtncmenfdnpmblaaDoorCom
import Derived.Test.YtncmenfdnpmblaaDoorErrOf
namespace Go.Proofs.YtncmenfdnpmblaaDoor
open Go.RowKit Go.Sort

theorem pl_mem_iff {p : Nat → Bool} {n : Nat} {z : Int} : z ∈ pl p n ↔ ∃ i : Nat, i < n ∧ p i = true ∧ z = (i : Int) := by
  unfold pl
  simp only [List.mem_map, List.mem_filter, List.mem_range]
  constructor
  · rintro ⟨i, ⟨h1, h2⟩, rfl⟩; exact ⟨i, h1, h2, rfl⟩
  · rintro ⟨i, h1, h2, rfl⟩; exact ⟨i, ⟨h1, h2⟩, rfl⟩
theorem cd_ok {r : Bool} {P : List PC} {ix : List Int} (h : cdB r P ix = 0) : (arB P && r) = true ∧ ix.all (ixB P.length) = true := by
  unfold cdB at h
  split at h
  · split at h
    · exact ⟨by assumption, by assumption⟩
    · cases h
  · cases h
theorem ix_nat {n i : Nat} (h : i < n) : ixB n (i : Int) = true := by simp [ixB, inB]; omega
theorem uc_der {o : List Int} {P : List PC} {z : Int} (hC : ucC o P = 0) (hz : z ∈ ucL o P) : ∃ i y : Nat, z = (i : Int) ∧ y < P.length ∧ mdC o P i y = 0 ∧ mdA o P i y = true := by
  unfold ucL at hz
  rw [if_pos hC] at hz
  obtain ⟨i, hi, hu, rfl⟩ := pl_mem_iff.1 hz
  unfold usB usN at hu
  obtain ⟨q, hq, h1⟩ := List.any_eq_true.1 hu
  rw [List.mem_range] at hq
  have hM : mdC o P i q = 0 := by
    unfold mdC cdB
    rw [if_pos (cd_ok hC).1, if_pos (by simp [ix_nat hi, ix_nat hq])]
  refine ⟨i, q, rfl, hq, hM, ?_⟩
  have e1 := List.getElem?_eq_getElem hi
  have e2 := List.getElem?_eq_getElem hq
  rw [mdA_yes hM e1 e2]
  unfold us1 at h1
  rw [e1, e2] at h1
  rw [Bool.and_eq_true, decide_eq_true_eq] at h1
  have hne : ¬ i = q := by
    intro e
    subst e
    exact Nat.lt_irrefl _ h1.1
  rw [h1.2]; simp [hne]
theorem ce_sym (a b o : List Int) (j : Nat) : ceB a b o j = ceB b a o j := by
  unfold ceB hitB dfB
  simp only [Int.toNat_natCast]
  rcases ha : a[j]? with _ | x <;> rcases hb : b[j]? with _ | y <;> simp
  rcases o[j]? with _ | v
  · simp
  · by_cases h : x = y
    · subst h; simp
    · have h' : ¬ y = x := fun e => h e.symm
      have h1 : (x == y) = false := by simpa using h
      have h2 : (y == x) = false := by simpa using h'
      rw [h1, h2]; simp
theorem co_sym {o : List Int} {P : List PC} {i k : Int} (h : coC o P i k = 0) : coC o P k i = 0 ∧ coL o P k i = coL o P i k := by
  obtain ⟨h1, h2⟩ := cd_ok h
  have h3 : coC o P k i = 0 := by
    unfold coC cdB
    rw [if_pos h1, if_pos (by simp at h2 ⊢; exact ⟨h2.2, h2.1⟩)]
  refine ⟨h3, ?_⟩
  unfold coL
  rw [if_pos h, if_pos h3]
  rcases P[i.toNat]? with _ | x <;> rcases P[k.toNat]? with _ | y <;> simp
  congr 1
  funext j
  exact ce_sym _ _ _ _
end Go.Proofs.YtncmenfdnpmblaaDoor
