/- The walk of the law FnExactStemmaCost. -/
import Derived.Test.YtcmhgjldkgnblaaDoorCost2
import Derived.Test.YtcmhgjldkgnblaaDoorIntLaw
import Derived.Test.YtcmhgjldkgnblaaDoorCopLaw
namespace Go.Proofs.YtcmhgjldkgnblaaDoor
open Go.RowKit Go.Sort

set_option maxRecDepth 100000 in
set_option maxHeartbeats 4000000 in
theorem fnExactStemmaCost_walk (A0 : Option Addr) (l0 : List Int) (c0 : Nat) (A1 : Option Addr) (l1 : List Cp) (c1 : Nat) (A2 : Option Addr) (l2 : List Int) (c2 : Nat) (w : World) (hr0 : RdI w 0 w.heap.size A0 l0) (_hok0 : ∀ d ∈ l0, okI d) (hn0 : l0.length ≤ maxLen) (hr1 : RdC w 0 w.heap.size A1 l1) (hok1 : ∀ d ∈ l1, d.ok) (hn1 : l1.length ≤ maxLen) (hr2 : RdI w 0 w.heap.size A2 l2) (_hok2 : ∀ d ∈ l2, okI d) (hn2 : l2.length ≤ maxLen) :
    Calls Tryd.prog 5 #[.slice A0 l0.length c0, .slice A1 l1.length c1, .slice A2 l2.length c2] w fun e w' => e = .returned (.bool true) ∧ Up w w' := by
  have hsm0 : l0.length ≤ 9223372036854775807 := by unfold maxLen at hn0; omega
  by_cases hlen0 : 1048576 < (l0.length : Int)
  · go_enter Tryd.func5, Tryd.ntmps5
    go_wp2
    go_ret
    exact ⟨rfl, Up.refl _⟩
  · skip
    have hsm2 : l2.length ≤ 9223372036854775807 := by unfold maxLen at hn2; omega
    by_cases hlen2 : 1048576 < (l2.length : Int)
    · go_enter Tryd.func5, Tryd.ntmps5
      go_wp2
      go_ret
      exact ⟨rfl, Up.refl _⟩
    · skip
      have hl0 : l0.length ≤ 2000000 := by omega
      have hl2 : l2.length ≤ 2000000 := by omega
      obtain ⟨left0, eL0⟩ : ∃ z, z = szCL l1 1048576 := ⟨_, rfl⟩
      have HS0 := fun (wx : World) (hx : RdC wx 0 w.heap.size A1 l1) (hz : w.heap.size ≤ wx.heap.size) => szCopyS_any A1 l1 c1 0 w.heap.size 1048576 wx hx hz hok1 (by omega) (by omega) hn1
      simp only [← eL0] at HS0
      have hle0 : left0 ≤ 1048576 := by have := szCL_le l1 1048576 (by omega); omega
      have H0 := Lib.hid HS0
      have EL0 := Lib.hid eL0
      clear HS0 eL0
      by_cases hz0 : left0 < 0
      · have hdz0 : decide (left0 < 0) = true := by simpa using hz0
        go_enter Tryd.func5, Tryd.ntmps5
        go_wp2_with fail
        refine (H0.out _ hr1 (Nat.le_refl _)).mono ?_
        rintro e w1 ⟨rfl, u1⟩
        have z1 := u1.size
        have hU1 := u1
        go_wp2
        go_ret
        exact ⟨rfl, hU1⟩
      · have hdz0 : decide (left0 < 0) = false := by simpa using hz0
        have hall1 := szCL_all (l := l1) (left := 1048576) (by omega) (by omega) (by have h := EL0.out; omega)
        have hl1 := hall1.1
        have HRS1 := Lib.hid hall1.2.1
        have htot1 := hall1.2.2
        have HOK1 := Lib.hid hok1
        clear hall1
        go_enter Tryd.func5, Tryd.ntmps5
        go_wp2_with fail
        refine (H0.out _ hr1 (Nat.le_refl _)).mono ?_
        rintro e w1 ⟨rfl, u1⟩
        have z1 := u1.size
        have hU1 := u1
        go_wp2_with fail
        refine (toIntS A0 l0 c0 0 w.heap.size _ (hr0.up u1 (by omega)) (by omega) hl0).mono ?_
        rintro e w2 ⟨As0_2, cs0_2, rfl, hcs0_2, hms0_2, rrs0_2, oos0_2, u2⟩
        have z2 := u2.size
        have hU2 := hU1.trans u2
        have bs0_2 := In.own oos0_2
        go_wp2_with fail
        refine (toCopS A1 l1 c1 0 w.heap.size _ (hr1.up (u1.trans u2) (by omega)) (by omega) hl1 HRS1.out).mono ?_
        rintro e w3 ⟨As1_3, cs1_3, Ls1_3, rfl, -, pps1_3, hcs1_3, hms1_3, -, rrs1_3, oos1_3, u3⟩
        have z3 := u3.size
        have hU3 := hU2.trans u3
        have Ps1_3 := Lib.hid pps1_3
        have Fs1_3 : Fit Ls1_3 cs1_3 := Fit.of pps1_3 HOK1.out HRS1.out hl1 hcs1_3 hms1_3
        have LLs1_3 : Ls1_3.length ≤ 2000000 := Fs1_3.2.2.1
        have FFs1_3 := Lib.hid Fs1_3
        clear pps1_3 Fs1_3
        go_wp2_with fail
        refine (toIntS A2 l2 c2 0 w.heap.size _ (hr2.up (u1.trans (u2.trans u3)) (by omega)) (by omega) hl2).mono ?_
        rintro e w4 ⟨As2_4, cs2_4, rfl, hcs2_4, hms2_4, rrs2_4, oos2_4, u4⟩
        have z4 := u4.size
        have hU4 := hU3.trans u4
        have bs2_4 := In.own oos2_4
        have hq4 := specStemmaCost_any As0_2 l0 cs0_2 As1_3 Ls1_3 cs1_3 As2_4 l2 cs2_4 _ _ _ _ _ _ w4 (rrs0_2.up (u3.trans u4) (by omega)) (by omega) hl0 (rrs1_3.up u4 (by omega)) (by omega) FFs1_3.out rrs2_4 (by omega) hl2
        rw [Ps1_3.out] at hq4
        have HQ4 := Lib.hid hq4
        clear hq4
        go_wp2_with fail
        refine (HQ4.out).mono ?_
        rintro e w5 ⟨rfl, u5⟩
        have z5 := u5.size
        have hU5 := hU4.trans u5
        go_wp2_with fail
        refine (toIntS A0 l0 c0 0 w.heap.size _ (hr0.up (u1.trans (u2.trans (u3.trans (u4.trans u5)))) (by omega)) (by omega) hl0).mono ?_
        rintro e w6 ⟨Ax0_6, cx0_6, rfl, hcx0_6, hmx0_6, rrx0_6, oox0_6, u6⟩
        have z6 := u6.size
        have hU6 := hU5.trans u6
        have bx0_6 := In.own oox0_6
        go_wp2_with fail
        refine (toCopS A1 l1 c1 0 w.heap.size _ (hr1.up (u1.trans (u2.trans (u3.trans (u4.trans (u5.trans u6))))) (by omega)) (by omega) hl1 HRS1.out).mono ?_
        rintro e w7 ⟨Ax1_7, cx1_7, Lx1_7, rfl, -, ppx1_7, hcx1_7, hmx1_7, -, rrx1_7, oox1_7, u7⟩
        have z7 := u7.size
        have hU7 := hU6.trans u7
        have Px1_7 := Lib.hid ppx1_7
        have Fx1_7 : Fit Lx1_7 cx1_7 := Fit.of ppx1_7 HOK1.out HRS1.out hl1 hcx1_7 hmx1_7
        have LLx1_7 : Lx1_7.length ≤ 2000000 := Fx1_7.2.2.1
        have FFx1_7 := Lib.hid Fx1_7
        clear ppx1_7 Fx1_7
        go_wp2_with fail
        refine (toIntS A2 l2 c2 0 w.heap.size _ (hr2.up (u1.trans (u2.trans (u3.trans (u4.trans (u5.trans (u6.trans u7)))))) (by omega)) (by omega) hl2).mono ?_
        rintro e w8 ⟨Ax2_8, cx2_8, rfl, hcx2_8, hmx2_8, rrx2_8, oox2_8, u8⟩
        have z8 := u8.size
        have hU8 := hU7.trans u8
        have bx2_8 := In.own oox2_8
        have hq8 := implStemmaCost_any Ax0_6 l0 cx0_6 Ax1_7 Lx1_7 cx1_7 Ax2_8 l2 cx2_8 _ _ _ _ _ _ w8 (rrx0_6.up (u7.trans u8) (by omega)) (by omega) hl0 (rrx1_7.up u8 (by omega)) (by omega) FFx1_7.out rrx2_8 (by omega) hl2
        rw [Px1_7.out] at hq8
        have HQ8 := Lib.hid hq8
        clear hq8
        go_wp2_with fail
        refine (HQ8.out).mono ?_
        rintro e w9 ⟨rfl, u9⟩
        have z9 := u9.size
        have hU9 := hU8.trans u9
        go_wp2_with fail
        refine (toIntS A0 l0 c0 0 w.heap.size _ (hr0.up (u1.trans (u2.trans (u3.trans (u4.trans (u5.trans (u6.trans (u7.trans (u8.trans u9)))))))) (by omega)) (by omega) hl0).mono ?_
        rintro e w10 ⟨Ay0_10, cy0_10, rfl, hcy0_10, hmy0_10, rry0_10, ooy0_10, u10⟩
        have z10 := u10.size
        have hU10 := hU9.trans u10
        have by0_10 := In.own ooy0_10
        have heq10 : eqIs l0 l0 = true := eqIs_self _
        go_wp2_with fail
        refine (eqInt64S_any Ax0_6 Ay0_10 l0 l0 cx0_6 cy0_10 _ _ _ _ _ (rrx0_6.up (u7.trans (u8.trans (u9.trans u10))) (by omega)) (by omega) rry0_10 (by omega) hl0).mono ?_
        rintro e w11 ⟨rfl, u11⟩
        have z11 := u11.size
        have hU11 := hU10.trans u11
        go_wp2_with fail
        refine (toCopS A1 l1 c1 0 w.heap.size _ (hr1.up (u1.trans (u2.trans (u3.trans (u4.trans (u5.trans (u6.trans (u7.trans (u8.trans (u9.trans (u10.trans u11)))))))))) (by omega)) (by omega) hl1 HRS1.out).mono ?_
        rintro e w12 ⟨Ay1_12, cy1_12, Ly1_12, rfl, -, ppy1_12, hcy1_12, hmy1_12, -, rry1_12, ooy1_12, u12⟩
        have z12 := u12.size
        have hU12 := hU11.trans u12
        have Py1_12 := Lib.hid ppy1_12
        have Fy1_12 : Fit Ly1_12 cy1_12 := Fit.of ppy1_12 HOK1.out HRS1.out hl1 hcy1_12 hmy1_12
        have LLy1_12 : Ly1_12.length ≤ 2000000 := Fy1_12.2.2.1
        have FFy1_12 := Lib.hid Fy1_12
        clear ppy1_12 Fy1_12
        have heq12 : eqCs Lx1_7 Ly1_12 = true := eqCs_self (Px1_7.out.trans Py1_12.out.symm)
        go_wp2_with fail
        refine (eqCopyS_any Ax1_7 Ay1_12 Lx1_7 Ly1_12 cx1_7 cy1_12 _ _ _ _ _ (rrx1_7.up (u8.trans (u9.trans (u10.trans (u11.trans u12)))) (by omega)) (by omega) rry1_12 (by omega) (by omega) FFx1_7.out.2.1).mono ?_
        rintro e w13 ⟨rfl, u13⟩
        have z13 := u13.size
        have hU13 := hU12.trans u13
        go_wp2_with fail
        refine (toIntS A2 l2 c2 0 w.heap.size _ (hr2.up (u1.trans (u2.trans (u3.trans (u4.trans (u5.trans (u6.trans (u7.trans (u8.trans (u9.trans (u10.trans (u11.trans (u12.trans u13)))))))))))) (by omega)) (by omega) hl2).mono ?_
        rintro e w14 ⟨Ay2_14, cy2_14, rfl, hcy2_14, hmy2_14, rry2_14, ooy2_14, u14⟩
        have z14 := u14.size
        have hU14 := hU13.trans u14
        have by2_14 := In.own ooy2_14
        have heq14 : eqIs l2 l2 = true := eqIs_self _
        go_wp2_with fail
        refine (eqInt64S_any Ax2_8 Ay2_14 l2 l2 cx2_8 cy2_14 _ _ _ _ _ (rrx2_8.up (u9.trans (u10.trans (u11.trans (u12.trans (u13.trans u14))))) (by omega)) (by omega) rry2_14 (by omega) hl2).mono ?_
        rintro e w15 ⟨rfl, u15⟩
        have z15 := u15.size
        have hU15 := hU14.trans u15
        go_wp2
        go_ret
        exact ⟨rfl, hU15⟩
end Go.Proofs.YtcmhgjldkgnblaaDoor
