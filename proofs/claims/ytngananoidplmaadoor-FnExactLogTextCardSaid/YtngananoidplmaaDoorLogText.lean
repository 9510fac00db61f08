/- The walk of the law FnExactLogText. -/
import Derived.Test.YtngananoidplmaaDoorLogJ
import Derived.Test.YtngananoidplmaaDoorIsLog
namespace Go.Proofs.YtngananoidplmaaDoor
open Go.RowKit Go.Sort

set_option maxRecDepth 100000 in
set_option maxHeartbeats 4000000 in
theorem fnExactLogText_walk (A0 : Option Addr) (l0 : List Dec) (c0 : Nat) (w : World) (hr0 : RdD w 0 w.heap.size A0 l0) (hok0 : ∀ d ∈ l0, d.ok) (hn0 : l0.length ≤ maxLen) (ht : TabU w) :
    Calls Tryd.prog 10 #[.slice A0 l0.length c0] w fun e w' => e = .returned (.bool true) ∧ Up w w' := by
  obtain ⟨left0, eL0⟩ : ∃ z, z = szDL l0 1048576 := ⟨_, rfl⟩
  have HS0 := fun (wx : World) (hx : RdD wx 0 w.heap.size A0 l0) (hz : w.heap.size ≤ wx.heap.size) => szDecisionS_any A0 l0 c0 0 w.heap.size 1048576 wx hx hz hok0 (by omega) (by omega) hn0
  simp only [← eL0] at HS0
  have hle0 : left0 ≤ 1048576 := by have := szDL_le l0 1048576 (by omega); omega
  have H0 := Lib.hid HS0
  have EL0 := Lib.hid eL0
  clear HS0 eL0
  by_cases hz0 : left0 < 0
  · have hdz0 : decide (left0 < 0) = true := by simpa using hz0
    go_enter Tryd.func10, Tryd.ntmps10
    go_wp2_with fail
    refine (H0.out _ hr0 (Nat.le_refl _)).mono ?_
    rintro e w1 ⟨rfl, u1⟩
    have z1 := u1.size
    have hU1 := u1
    go_wp2
    go_ret
    exact ⟨rfl, hU1⟩
  · have hdz0 : decide (left0 < 0) = false := by simpa using hz0
    have hl0 : l0.length ≤ 2000000 := by have h := EL0.out; have := szDL_len (l := l0) (left := 1048576) (by omega); omega
    go_enter Tryd.func10, Tryd.ntmps10
    go_wp2_with fail
    refine (H0.out _ hr0 (Nat.le_refl _)).mono ?_
    rintro e w1 ⟨rfl, u1⟩
    have z1 := u1.size
    have hU1 := u1
    go_wp2_with fail
    refine (toDecS A0 l0 c0 0 w.heap.size _ (hr0.up u1 (by omega)) (by omega) hl0).mono ?_
    rintro e w2 ⟨As0_2, cs0_2, rfl, hcs0_2, hms0_2, rrs0_2, oos0_2, u2⟩
    have z2 := u2.size
    have hU2 := hU1.trans u2
    have bs0_2 := In.own oos0_2
    go_wp2_with fail
    refine (specLogText_any As0_2 l0 cs0_2 _ _ _ rrs0_2 (by omega) hok0 hl0 hcs0_2 hms0_2).mono ?_
    rintro e w3 ⟨rfl, u3⟩
    have z3 := u3.size
    have hU3 := hU2.trans u3
    go_wp2_with fail
    refine (toDecS A0 l0 c0 0 w.heap.size _ (hr0.up (u1.trans (u2.trans u3)) (by omega)) (by omega) hl0).mono ?_
    rintro e w4 ⟨Ax0_4, cx0_4, rfl, hcx0_4, hmx0_4, rrx0_4, oox0_4, u4⟩
    have z4 := u4.size
    have hU4 := hU3.trans u4
    have bx0_4 := In.own oox0_4
    go_wp2_with fail
    refine (implLogText_any Ax0_4 l0 cx0_4 _ _ _ rrx0_4 (by omega) hok0 hl0 hcx0_4 hmx0_4 (ht.up hU4)).mono ?_
    rintro e w5 ⟨rfl, u5⟩
    have z5 := u5.size
    have hU5 := hU4.trans u5
    go_wp2_with fail
    refine (toDecS A0 l0 c0 0 w.heap.size _ (hr0.up (u1.trans (u2.trans (u3.trans (u4.trans u5)))) (by omega)) (by omega) hl0).mono ?_
    rintro e w6 ⟨Ay0_6, cy0_6, rfl, hcy0_6, hmy0_6, rry0_6, ooy0_6, u6⟩
    have z6 := u6.size
    have hU6 := hU5.trans u6
    have by0_6 := In.own ooy0_6
    have heq6 : eqDs l0 l0 = true := eqDs_self _
    go_wp2_with fail
    refine (eqDecisionS_any Ax0_4 Ay0_6 l0 l0 cx0_4 cy0_6 _ _ _ _ _ (rrx0_4.up (u5.trans u6) (by omega)) (by omega) rry0_6 (by omega) hl0 hl0).mono ?_
    rintro e w7 ⟨rfl, u7⟩
    have z7 := u7.size
    have hU7 := hU6.trans u7
    go_wp2
    go_ret
    exact ⟨rfl, hU7⟩
end Go.Proofs.YtngananoidplmaaDoor
