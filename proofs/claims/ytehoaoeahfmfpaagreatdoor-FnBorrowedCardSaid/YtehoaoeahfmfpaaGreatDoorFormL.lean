/- One formula, by the reference. -/
import Derived.Test.YtehoaoeahfmfpaaGreatDoorSpan
namespace Go.Proofs.YtehoaoeahfmfpaaGreatDoor
open Go.RowKit Go.Sort

/-- what makes a formula sound -/
def fmB (p : List ByteArray × Int × Int) : Bool := decide (1 ≤ p.1.length) && (phB p.1 && spanB p.2.1 p.2.2)

set_option maxRecDepth 20000 in
set_option maxHeartbeats 2000000 in
theorem l24Formula_any (x : Fm) (lo hi : Nat) (w : World) (hr : RdT w lo hi x.A x.ws) (hhi : hi ≤ w.heap.size) (hok : ∀ s ∈ x.ws, s.size ≤ maxLen) (hn : x.ws.length ≤ 2000000) :
    Calls Tryz.prog 41 #[x.val] w fun e w' => e = .returned (.bool (fmB x.p)) ∧ Up w w' := by
  obtain ⟨b1, hb1⟩ : ∃ b, b = phB x.ws := ⟨_, rfl⟩
  obtain ⟨b2, hb2⟩ : ∃ b, b = spanB x.fr x.to_ := ⟨_, rfl⟩
  have hub := Up.alloc w (.cells #[.slice x.A x.ws.length x.c, .int .i64 x.fr, .int .i64 x.to_] 51)
  have C1 := l10Phrase_any x.A x.ws x.c lo hi _ (hr.up hub hhi) hok hn
  have C2 := fun wx => l13Span_any x.fr x.to_ wx
  rw [← hb1] at C1
  simp only [← hb2] at C2
  have c1 := Lib.hid C1
  have c2 := Lib.hid C2
  have HE := Lib.hid (show fmB x.p = (decide (1 ≤ x.ws.length) && (b1 && b2)) by rw [hb1, hb2]; rfl)
  clear hb1 hb2 C1 C2 hok
  by_cases h1 : 1 ≤ x.ws.length
  · have hd : decide ((1 : Int) ≤ (x.ws.length : Int)) = true := by simp; omega
    cases b1 <;> cases b2 <;> go_enter Tryz.func41, Tryz.ntmps41
    all_goals (go_wp2_with first | (go_at_call 59; refine c1.out.mono ?_; rintro e w' ⟨rfl, rfl⟩) | (go_at_call 88; refine (c2.out _).mono ?_; rintro e w' ⟨rfl, hup⟩))
    all_goals go_ret
    all_goals exact ⟨ret_bool (by rw [HE.out, decide_eq_true h1]; rfl), by first | exact hub.trans (by assumption) | exact hub⟩
  · have hd : decide ((1 : Int) ≤ (x.ws.length : Int)) = false := by simp; omega
    go_enter Tryz.func41, Tryz.ntmps41
    go_wp2
    go_ret
    exact ⟨ret_bool (by rw [HE.out, decide_eq_false h1]; rfl), hub⟩
