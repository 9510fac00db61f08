/- The walk of the law FnExactBorrowedPassage. -/
import Derived.Test.YtcmhgjldkgnblaaGreatDoorBorrow
import Derived.Test.YtcmhgjldkgnblaaGreatDoorLawF
namespace Go.Proofs.YtcmhgjldkgnblaaGreatDoor
open Go.RowKit Go.Sort

set_option maxRecDepth 100000 in
set_option maxHeartbeats 4000000 in
theorem fnExactBorrowedPassage_walk (A0 : Option Addr) (l0 : List ByteArray) (c0 : Nat) (A1 : Option Addr) (l1 : List ByteArray) (c1 : Nat) (n2 : Int) (w : World) (hr0 : RdT w 0 w.heap.size A0 l0) (hok0 : ∀ d ∈ l0, d.size ≤ maxLen) (hn0 : l0.length ≤ maxLen) (hr1 : RdT w 0 w.heap.size A1 l1) (hok1 : ∀ d ∈ l1, d.size ≤ maxLen) (hn1 : l1.length ≤ maxLen) (_hw2 : True) :
    Calls Tryz.prog 3 #[.slice A0 l0.length c0, .slice A1 l1.length c1, .int .i64 n2] w fun e w' => e = .returned (.bool true) ∧ Up w w' := by
  obtain ⟨left0, eL0⟩ : ∃ z, z = szSL l0 1048576 := ⟨_, rfl⟩
  have HS0 := fun (wx : World) (hx : RdT wx 0 w.heap.size A0 l0) (hz : w.heap.size ≤ wx.heap.size) => szStrU A0 l0 c0 0 w.heap.size 1048576 wx hx hz hok0 (by omega) (by omega) hn0
  simp only [← eL0] at HS0
  have H0 := Lib.hid HS0
  have EL0 := Lib.hid eL0
  clear HS0 eL0
  by_cases hz0 : left0 < 0
  · have hdz0 : decide (left0 < 0) = true := by simpa using hz0
    go_enter Tryz.func3, Tryz.ntmps3
    go_wp2_with fail
    refine (H0.out _ hr0 (Nat.le_refl _)).mono ?_
    rintro e w1 ⟨rfl, u1⟩
    have z1 := u1.size
    have hU1 := u1
    go_wp2
    go_ret
    exact ⟨rfl, hU1⟩
  have hdz0 : decide (left0 < 0) = false := by simpa using hz0
  have hq0 := (szSL_le l0 1048576 (by omega)).1
  have hl0 := szSL_len (l := l0) (left := 1048576) (by omega) (by rw [← EL0.out]; exact hz0)
  rw [← EL0.out] at hq0
  have HOK0 := Lib.hid hok0
  obtain ⟨left1, eL1⟩ : ∃ z, z = szSL l1 left0 := ⟨_, rfl⟩
  have HS1 := fun (wx : World) (hx : RdT wx 0 w.heap.size A1 l1) (hz : w.heap.size ≤ wx.heap.size) => szStrU A1 l1 c1 0 w.heap.size left0 wx hx hz hok1 (by omega) (by omega) hn1
  simp only [← eL1] at HS1
  have H1 := Lib.hid HS1
  have EL1 := Lib.hid eL1
  clear HS1 eL1
  by_cases hz1 : left1 < 0
  · have hdz1 : decide (left1 < 0) = true := by simpa using hz1
    go_enter Tryz.func3, Tryz.ntmps3
    go_wp2_with fail
    refine (H0.out _ hr0 (Nat.le_refl _)).mono ?_
    rintro e w1 ⟨rfl, u1⟩
    have z1 := u1.size
    have hU1 := u1
    go_wp2_with fail
    refine (H1.out _ (hr1.up hU1 (Nat.le_refl _)) hU1.size).mono ?_
    rintro e w2 ⟨rfl, u2⟩
    have z2 := u2.size
    have hU2 := hU1.trans u2
    go_wp2
    go_ret
    exact ⟨rfl, hU2⟩
  have hdz1 : decide (left1 < 0) = false := by simpa using hz1
  have hq1 := (szSL_le l1 left0 (by omega)).1
  have hl1 := szSL_len (l := l1) (left := left0) (by omega) (by rw [← EL1.out]; exact hz1)
  rw [← EL1.out] at hq1
  have HOK1 := Lib.hid hok1
  go_enter Tryz.func3, Tryz.ntmps3
  go_wp2_with fail
  refine (H0.out _ hr0 (Nat.le_refl _)).mono ?_
  rintro e w1 ⟨rfl, u1⟩
  have z1 := u1.size
  have hU1 := u1
  go_wp2_with fail
  refine (H1.out _ (hr1.up hU1 (Nat.le_refl _)) hU1.size).mono ?_
  rintro e w2 ⟨rfl, u2⟩
  have z2 := u2.size
  have hU2 := hU1.trans u2
  go_wp2_with fail
  refine (toStrU A0 l0 c0 0 w.heap.size _ (hr0.up (u1.trans u2) (by omega)) (by omega) (by omega)).mono ?_
  rintro e w3 ⟨As0_3, cs0_3, rfl, hcs0_3, hms0_3, rs0_3, os0_3, u3⟩
  have z3 := u3.size
  have hU3 := hU2.trans u3
  have bs0_3 := In.own os0_3
  go_wp2_with fail
  refine (toStrU A1 l1 c1 0 w.heap.size _ (hr1.up (u1.trans (u2.trans u3)) (by omega)) (by omega) (by omega)).mono ?_
  rintro e w4 ⟨As1_4, cs1_4, rfl, hcs1_4, hms1_4, rs1_4, os1_4, u4⟩
  have z4 := u4.size
  have hU4 := hU3.trans u4
  have bs1_4 := In.own os1_4
  go_wp2_with fail
  refine (specBorrowed_any As0_3 As1_4 l0 l1 cs0_3 cs1_4 _ _ _ _ n2 w4 (rs0_3.up u4 (by omega)) (by omega) rs1_4 (by omega) HOK0.out HOK1.out (by omega) (by omega)).mono ?_
  rintro e w5 ⟨rfl, u5⟩
  have z5 := u5.size
  have hU5 := hU4.trans u5
  go_wp2_with fail
  refine (toStrU A0 l0 c0 0 w.heap.size _ (hr0.up (u1.trans (u2.trans (u3.trans (u4.trans u5)))) (by omega)) (by omega) (by omega)).mono ?_
  rintro e w6 ⟨Ax0_6, cx0_6, rfl, hcx0_6, hmx0_6, rx0_6, ox0_6, u6⟩
  have z6 := u6.size
  have hU6 := hU5.trans u6
  have bx0_6 := In.own ox0_6
  go_wp2_with fail
  refine (toStrU A1 l1 c1 0 w.heap.size _ (hr1.up (u1.trans (u2.trans (u3.trans (u4.trans (u5.trans u6))))) (by omega)) (by omega) (by omega)).mono ?_
  rintro e w7 ⟨Ax1_7, cx1_7, rfl, hcx1_7, hmx1_7, rx1_7, ox1_7, u7⟩
  have z7 := u7.size
  have hU7 := hU6.trans u7
  have bx1_7 := In.own ox1_7
  go_wp2_with fail
  refine (implBorrowed_any Ax0_6 Ax1_7 l0 l1 cx0_6 cx1_7 _ _ _ _ n2 w7 (rx0_6.up u7 (by omega)) (by omega) rx1_7 (by omega) HOK0.out HOK1.out (by omega) (by omega) hcx0_6 hcx1_7).mono ?_
  rintro e w8 ⟨rfl, u8⟩
  have z8 := u8.size
  have hU8 := hU7.trans u8
  go_wp2_with fail
  refine (toStrU A0 l0 c0 0 w.heap.size _ (hr0.up (u1.trans (u2.trans (u3.trans (u4.trans (u5.trans (u6.trans (u7.trans u8))))))) (by omega)) (by omega) (by omega)).mono ?_
  rintro e w9 ⟨Ay0_9, cy0_9, rfl, hcy0_9, hmy0_9, ry0_9, oy0_9, u9⟩
  have z9 := u9.size
  have hU9 := hU8.trans u9
  have by0_9 := In.own oy0_9
  have heq9 : eqSs l0 l0 = true := eqSs_self _
  go_wp2_with fail
  refine (eqStringS_any Ax0_6 Ay0_9 l0 l0 cx0_6 cy0_9 _ _ _ _ _ (rx0_6.up (u7.trans (u8.trans u9)) (by omega)) (by omega) ry0_9 (by omega) (by omega)).mono ?_
  rintro e w10 ⟨rfl, u10⟩
  have z10 := u10.size
  have hU10 := hU9.trans u10
  go_wp2_with fail
  refine (toStrU A1 l1 c1 0 w.heap.size _ (hr1.up (u1.trans (u2.trans (u3.trans (u4.trans (u5.trans (u6.trans (u7.trans (u8.trans (u9.trans u10))))))))) (by omega)) (by omega) (by omega)).mono ?_
  rintro e w11 ⟨Ay1_11, cy1_11, rfl, hcy1_11, hmy1_11, ry1_11, oy1_11, u11⟩
  have z11 := u11.size
  have hU11 := hU10.trans u11
  have by1_11 := In.own oy1_11
  have heq11 : eqSs l1 l1 = true := eqSs_self _
  go_wp2_with fail
  refine (eqStringS_any Ax1_7 Ay1_11 l1 l1 cx1_7 cy1_11 _ _ _ _ _ (rx1_7.up (u8.trans (u9.trans (u10.trans u11))) (by omega)) (by omega) ry1_11 (by omega) (by omega)).mono ?_
  rintro e w12 ⟨rfl, u12⟩
  have z12 := u12.size
  have hU12 := hU11.trans u12
  go_wp2
  go_ret
  exact ⟨rfl, hU12⟩
end Go.Proofs.YtcmhgjldkgnblaaGreatDoor
