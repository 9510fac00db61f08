/- The walk of the law FnExactIsLog: whatever the list, it returns true and changes nothing that was there. -/
import Derived.Test.YtngananoidplmaaDoorLog
namespace Go.Proofs.YtngananoidplmaaDoor
open Go.RowKit Go.Sort

theorem dec_len (d : Dec) : d.cells.length = 4 := rfl
theorem szDL_len {l : List Dec} {left : Int} (h : ¬ szDL l left < 0) : (l.length : Int) ≤ left := by
  unfold szDL at h
  split at h
  · exact absurd (by omega) h
  · omega

/-- toDecisionS as the laws use it: a fresh list that reads as the argument -/
theorem toDecS (A : Option Addr) (l : List Dec) (c lo hi : Nat) (w : World) (hr : RdD w lo hi A l) (hhi : hi ≤ w.heap.size) (hn : l.length ≤ 2000000) :
    Calls Tryd.prog 13 #[.slice A l.length c] w fun e w' => ∃ A' c', e = .returned (.slice A' l.length c') ∧ l.length ≤ c' ∧ c' ≤ maxLen ∧ RdD w' w.heap.size w'.heap.size A' l ∧ w'.ownsRow w.heap.size 43 4 (.slice A' l.length c') l.length (l.flatMap Dec.cells) ∧ Up w w' :=
  (toDecisionS_any A l c lo hi w hr hhi hn).mono fun e w' ⟨v, he, hown, hup⟩ => by
    obtain ⟨A', c', rfl, h1, h2, -, -⟩ := own_form hown
    exact ⟨A', c', he, h1, h2, Rd.own dec_len hown, hown, hup⟩

set_option maxHeartbeats 1000000 in
theorem fnExactIsLog_walk (A : Option Addr) (l : List Dec) (c : Nat) (w : World) (hr : RdD w 0 w.heap.size A l) (hok : ∀ d ∈ l, d.ok) (hn : l.length ≤ maxLen) :
    Calls Tryd.prog 3 #[.slice A l.length c] w fun e w' => e = .returned (.bool true) ∧ Up w w' := by
  have hsz := szDecisionS_any A l c 0 w.heap.size 1048576 w hr (Nat.le_refl _) hok (by omega) (by omega) hn
  by_cases hz : szDL l 1048576 < 0
  · have hd : decide (szDL l 1048576 < 0) = true := by simpa using hz
    have HS := Lib.hid hsz
    clear hsz
    go_enter Tryd.func3, Tryd.ntmps3
    go_wp2_with (go_at_call 11; refine HS.out.mono ?_; rintro e w1 ⟨rfl, hu1⟩)
    go_ret
    exact ⟨rfl, hu1⟩
  · have hl := szDL_len hz
    have hl' : l.length ≤ 2000000 := by omega
    have hd : decide (szDL l 1048576 < 0) = false := by simpa using hz
    have HS := Lib.hid hsz
    clear hsz
    go_enter Tryd.func3, Tryd.ntmps3
    go_wp2_with fail
    refine HS.out.mono ?_
    rintro e w1 ⟨rfl, hu1⟩
    go_wp2_with fail
    refine (toDecS A l c 0 w.heap.size _ (hr.up hu1 (Nat.le_refl _)) hu1.size hl').mono ?_
    rintro e w2 ⟨A2, c2, rfl, hc2, hm2, hr2, ho2, hu2⟩
    go_wp2_with fail
    refine (specIsLog_any A2 l c2 _ _ _ hr2 (Nat.le_refl _) hok hl' hc2 hm2).mono ?_
    rintro e w3 ⟨rfl, hu3⟩
    go_wp2_with fail
    refine (toDecS A l c 0 w.heap.size _ (hr.up (hu1.trans (hu2.trans hu3)) (Nat.le_refl _)) (hu1.trans (hu2.trans hu3)).size hl').mono ?_
    rintro e w4 ⟨A4, c4, rfl, hc4, hm4, hr4, ho4, hu4⟩
    go_wp2_with fail
    refine (implIsLog_any A4 l c4 _ _ _ hr4 (Nat.le_refl _) hok hl' hc4 hm4).mono ?_
    rintro e w5 ⟨rfl, hu5⟩
    have hne : (logB l != logB l) = false := by simp
    go_wp2_with fail
    have hu05 := hu1.trans (hu2.trans (hu3.trans (hu4.trans hu5)))
    refine (toDecS A l c 0 w.heap.size _ (hr.up hu05 (Nat.le_refl _)) hu05.size hl').mono ?_
    rintro e w6 ⟨A6, c6, rfl, hc6, hm6, hr6, ho6, hu6⟩
    go_wp2_with fail
    refine (eqDecisionS_any A4 A6 l l c4 c6 _ _ _ _ _ (hr4.up (hu5.trans hu6) (Nat.le_refl _)) (hu5.trans hu6).size hr6 (Nat.le_refl _) hl' hl').mono ?_
    rintro e w7 ⟨rfl, hu7⟩
    have he : eqDs l l = true := by simp [eqDs]
    go_wp2
    go_ret
    exact ⟨rfl, hu05.trans (hu6.trans hu7)⟩
end Go.Proofs.YtngananoidplmaaDoor
