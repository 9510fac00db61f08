/- The walk of the law FnExactCountDifferences. -/
import Derived.Test.YtdjhenjgccenhaaDoorCntD
import Derived.Test.YtdjhenjgccenhaaDoorCopLaw
namespace Go.Proofs.YtdjhenjgccenhaaDoor
open Go.RowKit Go.Sort

set_option maxRecDepth 100000 in
set_option maxHeartbeats 4000000 in
theorem fnExactCountDifferences_walk (A0 : Option Addr) (l0 : List Cp) (c0 : Nat) (n1 : Int) (n2 : Int) (w : World) (hr0 : RdC w 0 w.heap.size A0 l0) (hok0 : ∀ d ∈ l0, d.ok) (hn0 : l0.length ≤ maxLen) (_hw1 : True) (_hw2 : True) :
    Calls Tryd.prog 4 #[.slice A0 l0.length c0, .int .i64 n1, .int .i64 n2] w fun e w' => e = .returned (.bool true) ∧ Up w w' := by
  obtain ⟨left0, eL0⟩ : ∃ z, z = szCL l0 1048576 := ⟨_, rfl⟩
  have HS0 := fun (wx : World) (hx : RdC wx 0 w.heap.size A0 l0) (hz : w.heap.size ≤ wx.heap.size) => szCopyS_any A0 l0 c0 0 w.heap.size 1048576 wx hx hz hok0 (by omega) (by omega) hn0
  simp only [← eL0] at HS0
  have hle0 : left0 ≤ 1048576 := by have := szCL_le l0 1048576 (by omega); omega
  have H0 := Lib.hid HS0
  have EL0 := Lib.hid eL0
  clear HS0 eL0
  by_cases hz0 : left0 < 0
  · have hdz0 : decide (left0 < 0) = true := by simpa using hz0
    go_enter Tryd.func4, Tryd.ntmps4
    go_wp2_with fail
    refine (H0.out _ hr0 (Nat.le_refl _)).mono ?_
    rintro e w1 ⟨rfl, u1⟩
    have z1 := u1.size
    have hU1 := u1
    go_wp2
    go_ret
    exact ⟨rfl, hU1⟩
  · have hdz0 : decide (left0 < 0) = false := by simpa using hz0
    have hall0 := szCL_all (l := l0) (left := 1048576) (by omega) (by omega) (by have h := EL0.out; omega)
    have hl0 := hall0.1
    have HRS0 := Lib.hid hall0.2.1
    have htot0 := hall0.2.2
    have HOK0 := Lib.hid hok0
    clear hall0
    go_enter Tryd.func4, Tryd.ntmps4
    go_wp2_with fail
    refine (H0.out _ hr0 (Nat.le_refl _)).mono ?_
    rintro e w1 ⟨rfl, u1⟩
    have z1 := u1.size
    have hU1 := u1
    go_wp2_with fail
    refine (toCopS A0 l0 c0 0 w.heap.size _ (hr0.up u1 (by omega)) (by omega) hl0 HRS0.out).mono ?_
    rintro e w2 ⟨As0_2, cs0_2, Ls0_2, rfl, -, pps0_2, hcs0_2, hms0_2, -, rrs0_2, oos0_2, u2⟩
    have z2 := u2.size
    have hU2 := hU1.trans u2
    have Ps0_2 := Lib.hid pps0_2
    have Fs0_2 : Fit Ls0_2 cs0_2 := Fit.of pps0_2 HOK0.out HRS0.out hl0 hcs0_2 hms0_2
    have LLs0_2 : Ls0_2.length ≤ 2000000 := Fs0_2.2.2.1
    have FFs0_2 := Lib.hid Fs0_2
    clear pps0_2 Fs0_2
    have hq2 := specCountDiff_any As0_2 Ls0_2 cs0_2 _ _ n1 n2 w2 rrs0_2 (by omega) FFs0_2.out
    rw [Ps0_2.out] at hq2
    have HQ2 := Lib.hid hq2
    clear hq2
    go_wp2_with fail
    refine (HQ2.out).mono ?_
    rintro e w3 ⟨rfl, u3⟩
    have z3 := u3.size
    have hU3 := hU2.trans u3
    go_wp2_with fail
    refine (toCopS A0 l0 c0 0 w.heap.size _ (hr0.up (u1.trans (u2.trans u3)) (by omega)) (by omega) hl0 HRS0.out).mono ?_
    rintro e w4 ⟨Ax0_4, cx0_4, Lx0_4, rfl, -, ppx0_4, hcx0_4, hmx0_4, -, rrx0_4, oox0_4, u4⟩
    have z4 := u4.size
    have hU4 := hU3.trans u4
    have Px0_4 := Lib.hid ppx0_4
    have Fx0_4 : Fit Lx0_4 cx0_4 := Fit.of ppx0_4 HOK0.out HRS0.out hl0 hcx0_4 hmx0_4
    have LLx0_4 : Lx0_4.length ≤ 2000000 := Fx0_4.2.2.1
    have FFx0_4 := Lib.hid Fx0_4
    clear ppx0_4 Fx0_4
    have hq4 := implCountDiff_any Ax0_4 Lx0_4 cx0_4 _ _ n1 n2 w4 rrx0_4 (by omega) FFx0_4.out
    rw [Px0_4.out] at hq4
    have HQ4 := Lib.hid hq4
    clear hq4
    go_wp2_with fail
    refine (HQ4.out).mono ?_
    rintro e w5 ⟨rfl, u5⟩
    have z5 := u5.size
    have hU5 := hU4.trans u5
    go_wp2_with fail
    refine (toCopS A0 l0 c0 0 w.heap.size _ (hr0.up (u1.trans (u2.trans (u3.trans (u4.trans u5)))) (by omega)) (by omega) hl0 HRS0.out).mono ?_
    rintro e w6 ⟨Ay0_6, cy0_6, Ly0_6, rfl, -, ppy0_6, hcy0_6, hmy0_6, -, rry0_6, ooy0_6, u6⟩
    have z6 := u6.size
    have hU6 := hU5.trans u6
    have Py0_6 := Lib.hid ppy0_6
    have Fy0_6 : Fit Ly0_6 cy0_6 := Fit.of ppy0_6 HOK0.out HRS0.out hl0 hcy0_6 hmy0_6
    have LLy0_6 : Ly0_6.length ≤ 2000000 := Fy0_6.2.2.1
    have FFy0_6 := Lib.hid Fy0_6
    clear ppy0_6 Fy0_6
    have heq6 : eqCs Lx0_4 Ly0_6 = true := eqCs_self (Px0_4.out.trans Py0_6.out.symm)
    go_wp2_with fail
    refine (eqCopyS_any Ax0_4 Ay0_6 Lx0_4 Ly0_6 cx0_4 cy0_6 _ _ _ _ _ (rrx0_4.up (u5.trans u6) (by omega)) (by omega) rry0_6 (by omega) (by omega) FFx0_4.out.2.1).mono ?_
    rintro e w7 ⟨rfl, u7⟩
    have z7 := u7.size
    have hU7 := hU6.trans u7
    go_wp2
    go_ret
    exact ⟨rfl, hU7⟩
end Go.Proofs.YtdjhenjgccenhaaDoor
