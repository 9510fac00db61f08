/- Spans of days, and one formula, by the reference. -/
import Derived.Test.YtehoaoeahfmfpaaGreatDoorPhraseI
import Derived.Test.YtehoaoeahfmfpaaGreatDoorFormA
namespace Go.Proofs.YtehoaoeahfmfpaaGreatDoor
open Go.RowKit Go.Sort

def spanB (a b : Int) : Bool := dayB a && (dayB b && decide (a ≤ b))

set_option maxRecDepth 20000 in
set_option maxHeartbeats 1000000 in
theorem l02Span_any (a b : Int) (w : World) :
    Calls Tryz.prog 106 #[.agg #[.int .i64 a, .int .i64 b]] w fun e w' => e = .returned (.bool (spanB a b)) ∧ Up w w' := by
  obtain ⟨b1, hb1⟩ : ∃ x, x = dayB a := ⟨_, rfl⟩
  obtain ⟨b2, hb2⟩ : ∃ x, x = dayB b := ⟨_, rfl⟩
  have c1 := fun wx => l01Day_any a wx
  have c2 := fun wx => l01Day_any b wx
  simp only [← hb1] at c1
  simp only [← hb2] at c2
  have HE := Lib.hid (show spanB a b = (b1 && (b2 && decide (a ≤ b))) by unfold spanB; rw [hb1, hb2])
  clear hb1 hb2
  cases b1 <;> cases b2 <;> go_enter Tryz.func106, Tryz.ntmps106
  all_goals (go_wp2_with (go_at_call 80; first | ((with_reducible refine (c2 _).mono ?_); rintro e w' ⟨rfl, rfl⟩) | ((with_reducible refine (c1 _).mono ?_); rintro e w' ⟨rfl, rfl⟩)))
  all_goals go_ret
  all_goals exact ⟨ret_bool (by rw [HE.out]; first | rfl | simp), Up.alloc _ _⟩

theorem l13Span_any (a b : Int) (w : World) :
    Calls Tryz.prog 88 #[.int .i64 a, .int .i64 b] w fun e w' => e = .returned (.bool (spanB a b)) ∧ Up w w' := by
  go_enter Tryz.func88, Tryz.ntmps88
  go_wp2_with (go_at_call 106; refine (l02Span_any _ _ _).mono ?_; rintro e w' ⟨rfl, hup⟩)
  go_ret
  exact ⟨rfl, hup⟩
