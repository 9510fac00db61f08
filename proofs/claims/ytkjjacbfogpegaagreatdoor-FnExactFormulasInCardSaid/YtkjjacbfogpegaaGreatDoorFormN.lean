/- How large formulas are that were counted. -/
import Derived.Test.YtkjjacbfogpegaaGreatDoorFormC
namespace Go.Proofs.YtkjjacbfogpegaaGreatDoor
open Go.RowKit Go.Sort

theorem szFs_len : ∀ (l : List Fm) (z : Int), 0 ≤ z → ¬ szFs l z < 0 → szFs l z ≤ z ∧ ∀ x ∈ l, (x.ws.length : Int) ≤ z
  | [], z, _, _ => ⟨Int.le_refl _, by simp⟩
  | d :: l, z, h0, h => by
    simp only [szFs] at h ⊢
    by_cases hd : szSL d.ws z < 0
    · rw [if_pos hd] at h; exact absurd (by omega) h
    · rw [if_neg hd] at h ⊢
      have h1 := szSL_le d.ws z h0
      have h2 := szSL_len h0 hd
      have h3 := szFs_len l _ (by omega) h
      refine ⟨by omega, fun x hx => ?_⟩
      rcases List.mem_cons.1 hx with rfl | hx
      · exact h2
      · have := h3.2 x hx; omega
theorem szFL_len {l : List Fm} {z : Int} (_h0 : 0 ≤ z) (h : ¬ szFL l z < 0) : szFL l z ≤ z ∧ (l.length : Int) ≤ z ∧ ∀ x ∈ l, (x.ws.length : Int) ≤ z := by
  by_cases c1 : z < l.length
  · rw [szFL_a c1] at h; exact absurd (by omega) h
  · rw [szFL_b c1] at h ⊢
    have h1 := szFs_len l (z - l.length) (by omega) h
    refine ⟨by omega, by omega, fun x hx => ?_⟩
    have := h1.2 x hx; omega
