/- The walk of the law FnExactMayDerive. -/
import Derived.Test.YtdjhenjgccenhaaDoorDer
import Derived.Test.YtdjhenjgccenhaaDoorIntLaw
namespace Go.Proofs.YtdjhenjgccenhaaDoor
open Go.RowKit Go.Sort

set_option maxRecDepth 100000 in
set_option maxHeartbeats 4000000 in
theorem fnExactMayDerive_walk (A0 : Option Addr) (l0 : List Int) (c0 : Nat) (A1 : Option Addr) (l1 : List Cp) (c1 : Nat) (n2 : Int) (n3 : Int) (w : World) (hr0 : RdI w 0 w.heap.size A0 l0) (_hok0 : ∀ d ∈ l0, okI d) (hn0 : l0.length ≤ maxLen) (hr1 : RdC w 0 w.heap.size A1 l1) (hok1 : ∀ d ∈ l1, d.ok) (hn1 : l1.length ≤ maxLen) (_hw2 : True) (_hw3 : True) :
    Calls Tryd.prog 6 #[.slice A0 l0.length c0, .slice A1 l1.length c1, .int .i64 n2, .int .i64 n3] w fun e w' => e = .returned (.bool true) ∧ Up w w' := by
  have hsm0 : l0.length ≤ 9223372036854775807 := by unfold maxLen at hn0; omega
  by_cases hlen0 : 1048576 < (l0.length : Int)
  · go_enter Tryd.func6, Tryd.ntmps6
    go_wp2
    go_ret
    exact ⟨rfl, Up.refl _⟩
  · skip
    have hl0 : l0.length ≤ 2000000 := by omega
    obtain ⟨left0, eL0⟩ : ∃ z, z = szCL l1 1048576 := ⟨_, rfl⟩
    have HS0 := fun (wx : World) (hx : RdC wx 0 w.heap.size A1 l1) (hz : w.heap.size ≤ wx.heap.size) => szCopyS_any A1 l1 c1 0 w.heap.size 1048576 wx hx hz hok1 (by omega) (by omega) hn1
    simp only [← eL0] at HS0
    have hle0 : left0 ≤ 1048576 := by have := szCL_le l1 1048576 (by omega); omega
    have H0 := Lib.hid HS0
    have EL0 := Lib.hid eL0
    clear HS0 eL0
    by_cases hz0 : left0 < 0
    · have hdz0 : decide (left0 < 0) = true := by simpa using hz0
      go_enter Tryd.func6, Tryd.ntmps6
      go_wp2_with fail
      refine (H0.out _ hr1 (Nat.le_refl _)).mono ?_
      rintro e w1 ⟨rfl, u1⟩
      have z1 := u1.size
      have hU1 := u1
      go_wp2
      go_ret
      exact ⟨rfl, hU1⟩
    · have hdz0 : decide (left0 < 0) = false := by simpa using hz0
      have hall1 := szCL_all (l := l1) (left := 1048576) (by omega) (by omega) (by have h := EL0.out; omega)
      have hl1 := hall1.1
      have HRS1 := Lib.hid hall1.2.1
      have htot1 := hall1.2.2
      have HOK1 := Lib.hid hok1
      clear hall1
      go_enter Tryd.func6, Tryd.ntmps6
      go_wp2_with fail
      refine (H0.out _ hr1 (Nat.le_refl _)).mono ?_
      rintro e w1 ⟨rfl, u1⟩
      have z1 := u1.size
      have hU1 := u1
      go_wp2_with fail
      refine (toIntS A0 l0 c0 0 w.heap.size _ (hr0.up u1 (by omega)) (by omega) hl0).mono ?_
      rintro e w2 ⟨As0_2, cs0_2, rfl, hcs0_2, hms0_2, rrs0_2, oos0_2, u2⟩
      have z2 := u2.size
      have hU2 := hU1.trans u2
      have bs0_2 := In.own oos0_2
      go_wp2_with fail
      refine (toCopS A1 l1 c1 0 w.heap.size _ (hr1.up (u1.trans u2) (by omega)) (by omega) hl1 HRS1.out).mono ?_
      rintro e w3 ⟨As1_3, cs1_3, Ls1_3, rfl, -, pps1_3, hcs1_3, hms1_3, -, rrs1_3, oos1_3, u3⟩
      have z3 := u3.size
      have hU3 := hU2.trans u3
      have Ps1_3 := Lib.hid pps1_3
      have Fs1_3 : Fit Ls1_3 cs1_3 := Fit.of pps1_3 HOK1.out HRS1.out hl1 hcs1_3 hms1_3
      have LLs1_3 : Ls1_3.length ≤ 2000000 := Fs1_3.2.2.1
      have FFs1_3 := Lib.hid Fs1_3
      clear pps1_3 Fs1_3
      have hq3 := specMayDerive_any As0_2 l0 cs0_2 As1_3 Ls1_3 cs1_3 _ _ _ _ n2 n3 w3 (rrs0_2.up u3 (by omega)) (by omega) hl0 rrs1_3 (by omega) FFs1_3.out
      rw [Ps1_3.out] at hq3
      have HQ3 := Lib.hid hq3
      clear hq3
      go_wp2_with fail
      refine (HQ3.out).mono ?_
      rintro e w4 ⟨rfl, u4⟩
      have z4 := u4.size
      have hU4 := hU3.trans u4
      go_wp2_with fail
      refine (toIntS A0 l0 c0 0 w.heap.size _ (hr0.up (u1.trans (u2.trans (u3.trans u4))) (by omega)) (by omega) hl0).mono ?_
      rintro e w5 ⟨Ax0_5, cx0_5, rfl, hcx0_5, hmx0_5, rrx0_5, oox0_5, u5⟩
      have z5 := u5.size
      have hU5 := hU4.trans u5
      have bx0_5 := In.own oox0_5
      go_wp2_with fail
      refine (toCopS A1 l1 c1 0 w.heap.size _ (hr1.up (u1.trans (u2.trans (u3.trans (u4.trans u5)))) (by omega)) (by omega) hl1 HRS1.out).mono ?_
      rintro e w6 ⟨Ax1_6, cx1_6, Lx1_6, rfl, -, ppx1_6, hcx1_6, hmx1_6, -, rrx1_6, oox1_6, u6⟩
      have z6 := u6.size
      have hU6 := hU5.trans u6
      have Px1_6 := Lib.hid ppx1_6
      have Fx1_6 : Fit Lx1_6 cx1_6 := Fit.of ppx1_6 HOK1.out HRS1.out hl1 hcx1_6 hmx1_6
      have LLx1_6 : Lx1_6.length ≤ 2000000 := Fx1_6.2.2.1
      have FFx1_6 := Lib.hid Fx1_6
      clear ppx1_6 Fx1_6
      have hq6 := implMayDerive_any Ax0_5 l0 cx0_5 Ax1_6 Lx1_6 cx1_6 _ _ _ _ n2 n3 w6 (rrx0_5.up u6 (by omega)) (by omega) hl0 rrx1_6 (by omega) FFx1_6.out
      rw [Px1_6.out] at hq6
      have HQ6 := Lib.hid hq6
      clear hq6
      go_wp2_with fail
      refine (HQ6.out).mono ?_
      rintro e w7 ⟨rfl, u7⟩
      have z7 := u7.size
      have hU7 := hU6.trans u7
      go_wp2_with fail
      refine (toIntS A0 l0 c0 0 w.heap.size _ (hr0.up (u1.trans (u2.trans (u3.trans (u4.trans (u5.trans (u6.trans u7)))))) (by omega)) (by omega) hl0).mono ?_
      rintro e w8 ⟨Ay0_8, cy0_8, rfl, hcy0_8, hmy0_8, rry0_8, ooy0_8, u8⟩
      have z8 := u8.size
      have hU8 := hU7.trans u8
      have by0_8 := In.own ooy0_8
      have heq8 : eqIs l0 l0 = true := eqIs_self _
      go_wp2_with fail
      refine (eqInt64S_any Ax0_5 Ay0_8 l0 l0 cx0_5 cy0_8 _ _ _ _ _ (rrx0_5.up (u6.trans (u7.trans u8)) (by omega)) (by omega) rry0_8 (by omega) hl0).mono ?_
      rintro e w9 ⟨rfl, u9⟩
      have z9 := u9.size
      have hU9 := hU8.trans u9
      go_wp2_with fail
      refine (toCopS A1 l1 c1 0 w.heap.size _ (hr1.up (u1.trans (u2.trans (u3.trans (u4.trans (u5.trans (u6.trans (u7.trans (u8.trans u9)))))))) (by omega)) (by omega) hl1 HRS1.out).mono ?_
      rintro e w10 ⟨Ay1_10, cy1_10, Ly1_10, rfl, -, ppy1_10, hcy1_10, hmy1_10, -, rry1_10, ooy1_10, u10⟩
      have z10 := u10.size
      have hU10 := hU9.trans u10
      have Py1_10 := Lib.hid ppy1_10
      have Fy1_10 : Fit Ly1_10 cy1_10 := Fit.of ppy1_10 HOK1.out HRS1.out hl1 hcy1_10 hmy1_10
      have LLy1_10 : Ly1_10.length ≤ 2000000 := Fy1_10.2.2.1
      have FFy1_10 := Lib.hid Fy1_10
      clear ppy1_10 Fy1_10
      have heq10 : eqCs Lx1_6 Ly1_10 = true := eqCs_self (Px1_6.out.trans Py1_10.out.symm)
      go_wp2_with fail
      refine (eqCopyS_any Ax1_6 Ay1_10 Lx1_6 Ly1_10 cx1_6 cy1_10 _ _ _ _ _ (rrx1_6.up (u7.trans (u8.trans (u9.trans u10))) (by omega)) (by omega) rry1_10 (by omega) (by omega) FFx1_6.out.2.1).mono ?_
      rintro e w11 ⟨rfl, u11⟩
      have z11 := u11.size
      have hU11 := hU10.trans u11
      go_wp2
      go_ret
      exact ⟨rfl, hU11⟩
end Go.Proofs.YtdjhenjgccenhaaDoor
