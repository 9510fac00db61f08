/- One formula, by the program. -/
import Derived.Test.YtehoaoeahfmfpaaGreatDoorFormL
namespace Go.Proofs.YtehoaoeahfmfpaaGreatDoor
open Go.RowKit Go.Sort

theorem fmB_alt (x : Fm) : fmB x.p = (phB x.ws && (decide (0 < x.ws.length) && (dayB x.fr && (dayB x.to_ && decide (x.fr ≤ x.to_))))) := by
  unfold fmB spanB Fm.p
  have : decide (1 ≤ x.ws.length) = decide (0 < x.ws.length) := rfl
  simp only [this]
  cases phB x.ws <;> cases decide (0 < x.ws.length) <;> rfl

set_option maxRecDepth 20000 in
set_option maxHeartbeats 4000000 in
theorem isFormula_any (x : Fm) (lo hi : Nat) (w : World) (hr : RdT w lo hi x.A x.ws) (hhi : hi ≤ w.heap.size) (hok : ∀ s ∈ x.ws, s.size ≤ maxLen) (hn : x.ws.length ≤ 2000000) :
    Calls Tryz.prog 46 #[x.val] w fun e w' => e = .returned (.bool (fmB x.p)) ∧ Up w w' := by
  obtain ⟨b1, hb1⟩ : ∃ b, b = phB x.ws := ⟨_, rfl⟩
  obtain ⟨b2, hb2⟩ : ∃ b, b = dayB x.fr := ⟨_, rfl⟩
  obtain ⟨b3, hb3⟩ : ∃ b, b = dayB x.to_ := ⟨_, rfl⟩
  have hub := Up.alloc w (.cells #[.slice x.A x.ws.length x.c, .int .i64 x.fr, .int .i64 x.to_] 51)
  have C1 := isPhrase_any x.A x.ws x.c lo hi _ (hr.up hub hhi) (Nat.le_trans hhi hub.size) hok hn
  have C2 := fun wx => isDay_any x.fr wx
  have C3 := fun wx => isDay_any x.to_ wx
  rw [← hb1] at C1
  simp only [← hb2] at C2
  simp only [← hb3] at C3
  have c1 := Lib.hid C1
  have c2 := Lib.hid C2
  have c3 := Lib.hid C3
  have HE := Lib.hid (show fmB x.p = (b1 && (decide (0 < x.ws.length) && (b2 && (b3 && decide (x.fr ≤ x.to_))))) by rw [fmB_alt, hb1, hb2, hb3])
  clear hb1 hb2 hb3 C1 C2 C3 hok
  obtain ⟨b4, hd⟩ : ∃ b, b = decide (0 < x.ws.length) := ⟨_, rfl⟩
  rw [← hd] at HE
  have hd' : decide ((0 : Int) < (x.ws.length : Int)) = b4 := by rw [hd, decide_eq_decide]; omega
  clear hd
  cases b1 <;> cases b2 <;> cases b3 <;> cases b4 <;> go_enter Tryz.func46, Tryz.ntmps46
  all_goals (go_wp2_with first | (go_at_call 67; refine c1.out.mono ?_; rintro e w1 ⟨rfl, hup⟩; have hq0 := hup.cell (a := ⟨w.heap.size, 0, none⟩) (v := .slice x.A x.ws.length x.c) (by go_simp); have hq1 := hup.cell (a := ⟨w.heap.size, 1, none⟩) (v := .int .i64 x.fr) (by go_simp); have hq2 := hup.cell (a := ⟨w.heap.size, 2, none⟩) (v := .int .i64 x.to_) (by go_simp)) | (go_at_call 68; (with_reducible refine (c3.out _).mono ?_); rintro e w' ⟨rfl, rfl⟩) | (go_at_call 68; (with_reducible refine (c2.out _).mono ?_); rintro e w' ⟨rfl, rfl⟩))
  all_goals go_ret
  all_goals exact ⟨ret_bool (by rw [HE.out]; first | rfl | (simp; done) | (simp; assumption) | (simp_all; done) | (simp; omega)), hub.trans (by assumption)⟩
