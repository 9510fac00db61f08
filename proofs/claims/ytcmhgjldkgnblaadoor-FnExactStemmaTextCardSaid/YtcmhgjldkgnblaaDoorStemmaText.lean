/- The walk of the law FnExactStemmaText. -/
import Derived.Test.YtcmhgjldkgnblaaDoorStextI
import Derived.Test.YtcmhgjldkgnblaaDoorIntLaw
import Derived.Test.YtcmhgjldkgnblaaDoorCopLaw
namespace Go.Proofs.YtcmhgjldkgnblaaDoor
open Go.RowKit Go.Sort

set_option maxRecDepth 100000 in
set_option maxHeartbeats 4000000 in
theorem fnExactStemmaText_walk (A0 : Option Addr) (l0 : List Cp) (c0 : Nat) (A1 : Option Addr) (l1 : List Int) (c1 : Nat) (w : World) (hr0 : RdC w 0 w.heap.size A0 l0) (hok0 : ∀ d ∈ l0, d.ok) (hn0 : l0.length ≤ maxLen) (hr1 : RdI w 0 w.heap.size A1 l1) (_hok1 : ∀ d ∈ l1, okI d) (hn1 : l1.length ≤ maxLen) :
    Calls Tryd.prog 8 #[.slice A0 l0.length c0, .slice A1 l1.length c1] w fun e w' => e = .returned (.bool true) ∧ Up w w' := by
  have hsm1 : l1.length ≤ 9223372036854775807 := by unfold maxLen at hn1; omega
  by_cases hlen1 : 1048576 < (l1.length : Int)
  · go_enter Tryd.func8, Tryd.ntmps8
    go_wp2
    go_ret
    exact ⟨rfl, Up.refl _⟩
  · skip
    have hl1 : l1.length ≤ 2000000 := by omega
    obtain ⟨left0, eL0⟩ : ∃ z, z = szCL l0 1048576 := ⟨_, rfl⟩
    have HS0 := fun (wx : World) (hx : RdC wx 0 w.heap.size A0 l0) (hz : w.heap.size ≤ wx.heap.size) => szCopyS_any A0 l0 c0 0 w.heap.size 1048576 wx hx hz hok0 (by omega) (by omega) hn0
    simp only [← eL0] at HS0
    have hle0 : left0 ≤ 1048576 := by have := szCL_le l0 1048576 (by omega); omega
    have H0 := Lib.hid HS0
    have EL0 := Lib.hid eL0
    clear HS0 eL0
    by_cases hz0 : left0 < 0
    · have hdz0 : decide (left0 < 0) = true := by simpa using hz0
      go_enter Tryd.func8, Tryd.ntmps8
      go_wp2_with fail
      refine (H0.out _ hr0 (Nat.le_refl _)).mono ?_
      rintro e w1 ⟨rfl, u1⟩
      have z1 := u1.size
      have hU1 := u1
      go_wp2
      go_ret
      exact ⟨rfl, hU1⟩
    · have hdz0 : decide (left0 < 0) = false := by simpa using hz0
      have hall0 := szCL_all (l := l0) (left := 1048576) (by omega) (by omega) (by have h := EL0.out; omega)
      have hl0 := hall0.1
      have HRS0 := Lib.hid hall0.2.1
      have htot0 := hall0.2.2
      have HOK0 := Lib.hid hok0
      clear hall0
      go_enter Tryd.func8, Tryd.ntmps8
      go_wp2_with fail
      refine (H0.out _ hr0 (Nat.le_refl _)).mono ?_
      rintro e w1 ⟨rfl, u1⟩
      have z1 := u1.size
      have hU1 := u1
      go_wp2_with fail
      refine (toCopS A0 l0 c0 0 w.heap.size _ (hr0.up u1 (by omega)) (by omega) hl0 HRS0.out).mono ?_
      rintro e w2 ⟨As0_2, cs0_2, Ls0_2, rfl, -, pps0_2, hcs0_2, hms0_2, -, rrs0_2, oos0_2, u2⟩
      have z2 := u2.size
      have hU2 := hU1.trans u2
      have Ps0_2 := Lib.hid pps0_2
      have Fs0_2 : Fit Ls0_2 cs0_2 := Fit.of pps0_2 HOK0.out HRS0.out hl0 hcs0_2 hms0_2
      have LLs0_2 : Ls0_2.length ≤ 2000000 := Fs0_2.2.2.1
      have FFs0_2 := Lib.hid Fs0_2
      clear pps0_2 Fs0_2
      go_wp2_with fail
      refine (toIntS A1 l1 c1 0 w.heap.size _ (hr1.up (u1.trans u2) (by omega)) (by omega) hl1).mono ?_
      rintro e w3 ⟨As1_3, cs1_3, rfl, hcs1_3, hms1_3, rrs1_3, oos1_3, u3⟩
      have z3 := u3.size
      have hU3 := hU2.trans u3
      have bs1_3 := In.own oos1_3
      have hq3 := specText_any As0_2 Ls0_2 cs0_2 As1_3 l1 cs1_3 _ _ _ _ w3 (rrs0_2.up u3 (by omega)) (by omega) FFs0_2.out rrs1_3 (by omega) hl1
      rw [Ps0_2.out] at hq3
      have HQ3 := Lib.hid hq3
      clear hq3
      go_wp2_with fail
      refine (HQ3.out).mono ?_
      rintro e w4 ⟨rfl, u4⟩
      have z4 := u4.size
      have hU4 := hU3.trans u4
      go_wp2_with fail
      refine (toCopS A0 l0 c0 0 w.heap.size _ (hr0.up (u1.trans (u2.trans (u3.trans u4))) (by omega)) (by omega) hl0 HRS0.out).mono ?_
      rintro e w5 ⟨Ax0_5, cx0_5, Lx0_5, rfl, -, ppx0_5, hcx0_5, hmx0_5, -, rrx0_5, oox0_5, u5⟩
      have z5 := u5.size
      have hU5 := hU4.trans u5
      have Px0_5 := Lib.hid ppx0_5
      have Fx0_5 : Fit Lx0_5 cx0_5 := Fit.of ppx0_5 HOK0.out HRS0.out hl0 hcx0_5 hmx0_5
      have LLx0_5 : Lx0_5.length ≤ 2000000 := Fx0_5.2.2.1
      have FFx0_5 := Lib.hid Fx0_5
      clear ppx0_5 Fx0_5
      go_wp2_with fail
      refine (toIntS A1 l1 c1 0 w.heap.size _ (hr1.up (u1.trans (u2.trans (u3.trans (u4.trans u5)))) (by omega)) (by omega) hl1).mono ?_
      rintro e w6 ⟨Ax1_6, cx1_6, rfl, hcx1_6, hmx1_6, rrx1_6, oox1_6, u6⟩
      have z6 := u6.size
      have hU6 := hU5.trans u6
      have bx1_6 := In.own oox1_6
      have hq6 := implText_any Ax0_5 Lx0_5 cx0_5 Ax1_6 l1 cx1_6 _ _ _ _ w6 (rrx0_5.up u6 (by omega)) (by omega) FFx0_5.out rrx1_6 (by omega) hl1
      rw [Px0_5.out] at hq6
      have HQ6 := Lib.hid hq6
      clear hq6
      go_wp2_with fail
      refine (HQ6.out).mono ?_
      rintro e w7 ⟨rfl, u7⟩
      have z7 := u7.size
      have hU7 := hU6.trans u7
      go_wp2_with fail
      refine (toCopS A0 l0 c0 0 w.heap.size _ (hr0.up (u1.trans (u2.trans (u3.trans (u4.trans (u5.trans (u6.trans u7)))))) (by omega)) (by omega) hl0 HRS0.out).mono ?_
      rintro e w8 ⟨Ay0_8, cy0_8, Ly0_8, rfl, -, ppy0_8, hcy0_8, hmy0_8, -, rry0_8, ooy0_8, u8⟩
      have z8 := u8.size
      have hU8 := hU7.trans u8
      have Py0_8 := Lib.hid ppy0_8
      have Fy0_8 : Fit Ly0_8 cy0_8 := Fit.of ppy0_8 HOK0.out HRS0.out hl0 hcy0_8 hmy0_8
      have LLy0_8 : Ly0_8.length ≤ 2000000 := Fy0_8.2.2.1
      have FFy0_8 := Lib.hid Fy0_8
      clear ppy0_8 Fy0_8
      have heq8 : eqCs Lx0_5 Ly0_8 = true := eqCs_self (Px0_5.out.trans Py0_8.out.symm)
      go_wp2_with fail
      refine (eqCopyS_any Ax0_5 Ay0_8 Lx0_5 Ly0_8 cx0_5 cy0_8 _ _ _ _ _ (rrx0_5.up (u6.trans (u7.trans u8)) (by omega)) (by omega) rry0_8 (by omega) (by omega) FFx0_5.out.2.1).mono ?_
      rintro e w9 ⟨rfl, u9⟩
      have z9 := u9.size
      have hU9 := hU8.trans u9
      go_wp2_with fail
      refine (toIntS A1 l1 c1 0 w.heap.size _ (hr1.up (u1.trans (u2.trans (u3.trans (u4.trans (u5.trans (u6.trans (u7.trans (u8.trans u9)))))))) (by omega)) (by omega) hl1).mono ?_
      rintro e w10 ⟨Ay1_10, cy1_10, rfl, hcy1_10, hmy1_10, rry1_10, ooy1_10, u10⟩
      have z10 := u10.size
      have hU10 := hU9.trans u10
      have by1_10 := In.own ooy1_10
      have heq10 : eqIs l1 l1 = true := eqIs_self _
      go_wp2_with fail
      refine (eqInt64S_any Ax1_6 Ay1_10 l1 l1 cx1_6 cy1_10 _ _ _ _ _ (rrx1_6.up (u7.trans (u8.trans (u9.trans u10))) (by omega)) (by omega) rry1_10 (by omega) hl1).mono ?_
      rintro e w11 ⟨rfl, u11⟩
      have z11 := u11.size
      have hU11 := hU10.trans u11
      go_wp2
      go_ret
      exact ⟨rfl, hU11⟩
end Go.Proofs.YtcmhgjldkgnblaaDoor
