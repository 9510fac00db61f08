/- The walk of the law FnExactMajorityText. -/
import Derived.Test.YtdjhenjgccenhaaDoorMajI
import Derived.Test.YtdjhenjgccenhaaDoorMarkC
namespace Go.Proofs.YtdjhenjgccenhaaDoor
open Go.RowKit Go.Sort

set_option maxRecDepth 100000 in
set_option maxHeartbeats 4000000 in
theorem fnExactMajorityText_walk (A0 : Option Addr) (l0 : List Cp) (c0 : Nat) (w : World) (hr0 : RdC w 0 w.heap.size A0 l0) (hok0 : ∀ d ∈ l0, d.ok) (hn0 : l0.length ≤ maxLen) :
    Calls Tryd.prog 5 #[.slice A0 l0.length c0] w fun e w' => e = .returned (.bool true) ∧ Up w w' := by
  obtain ⟨left0, eL0⟩ : ∃ z, z = szCL l0 1048576 := ⟨_, rfl⟩
  have HS0 := fun (wx : World) (hx : RdC wx 0 w.heap.size A0 l0) (hz : w.heap.size ≤ wx.heap.size) => szCopyS_any A0 l0 c0 0 w.heap.size 1048576 wx hx hz hok0 (by omega) (by omega) hn0
  simp only [← eL0] at HS0
  have hle0 : left0 ≤ 1048576 := by have := szCL_le l0 1048576 (by omega); omega
  have H0 := Lib.hid HS0
  have EL0 := Lib.hid eL0
  clear HS0 eL0
  by_cases hz0 : left0 < 0
  · have hdz0 : decide (left0 < 0) = true := by simpa using hz0
    go_enter Tryd.func5, Tryd.ntmps5
    go_wp2_with fail
    refine (H0.out _ hr0 (Nat.le_refl _)).mono ?_
    rintro e w1 ⟨rfl, u1⟩
    have z1 := u1.size
    have hU1 := u1
    go_wp2
    go_ret
    exact ⟨rfl, hU1⟩
  · have hdz0 : decide (left0 < 0) = false := by simpa using hz0
    have hall0 := szCL_all (l := l0) (left := 1048576) (by omega) (by omega) (by have h := EL0.out; omega)
    have hl0 := hall0.1
    have HRS0 := Lib.hid hall0.2.1
    have htot0 := hall0.2.2
    have HOK0 := Lib.hid hok0
    clear hall0
    go_enter Tryd.func5, Tryd.ntmps5
    go_wp2_with fail
    refine (H0.out _ hr0 (Nat.le_refl _)).mono ?_
    rintro e w1 ⟨rfl, u1⟩
    have z1 := u1.size
    have hU1 := u1
    go_wp2_with fail
    refine (toCopS A0 l0 c0 0 w.heap.size _ (hr0.up u1 (by omega)) (by omega) hl0 HRS0.out).mono ?_
    rintro e w2 ⟨As0_2, cs0_2, Ls0_2, rfl, -, pps0_2, hcs0_2, hms0_2, -, rrs0_2, oos0_2, u2⟩
    have z2 := u2.size
    have hU2 := hU1.trans u2
    have Ps0_2 := Lib.hid pps0_2
    have Fs0_2 : Fit Ls0_2 cs0_2 := Fit.of pps0_2 HOK0.out HRS0.out hl0 hcs0_2 hms0_2
    have LLs0_2 : Ls0_2.length ≤ 2000000 := Fs0_2.2.2.1
    have FFs0_2 := Lib.hid Fs0_2
    clear pps0_2 Fs0_2
    have BCs0_2 := Lib.hid (OwnC.bnd oos0_2)
    have hq2 := specMajority_any As0_2 Ls0_2 cs0_2 _ _ w2 rrs0_2 (by omega) FFs0_2.out
    rw [Ps0_2.out] at hq2
    have HQ2 := Lib.hid hq2
    clear hq2
    go_wp2_with fail
    refine (HQ2.out).mono ?_
    rintro e w3 ⟨vw, rfl, ovw, u3⟩
    have z3 := u3.size
    have hU3 := hU2.trans u3
    obtain ⟨Aw, cw, rfl, hcw, hmw, -, -⟩ := own_form ovw
    have rw := Rd.own int_len ovw
    have bw := In.own ovw
    go_wp2_with fail
    refine (toCopS A0 l0 c0 0 w.heap.size _ (hr0.up (u1.trans (u2.trans u3)) (by omega)) (by omega) hl0 HRS0.out).mono ?_
    rintro e w4 ⟨Ax0_4, cx0_4, Lx0_4, rfl, -, ppx0_4, hcx0_4, hmx0_4, -, rrx0_4, oox0_4, u4⟩
    have z4 := u4.size
    have hU4 := hU3.trans u4
    have Px0_4 := Lib.hid ppx0_4
    have Fx0_4 : Fit Lx0_4 cx0_4 := Fit.of ppx0_4 HOK0.out HRS0.out hl0 hcx0_4 hmx0_4
    have LLx0_4 : Lx0_4.length ≤ 2000000 := Fx0_4.2.2.1
    have FFx0_4 := Lib.hid Fx0_4
    clear ppx0_4 Fx0_4
    have BCx0_4 := Lib.hid (OwnC.bnd oox0_4)
    have hq4 := implMajority_any Ax0_4 Lx0_4 cx0_4 _ _ w4 rrx0_4 (by omega) FFx0_4.out
    rw [Px0_4.out] at hq4
    have HQ4 := Lib.hid hq4
    clear hq4
    go_wp2_with fail
    refine (HQ4.out).mono ?_
    rintro e w5 ⟨vg, rfl, ovg, u5⟩
    have z5 := u5.size
    have hU5 := hU4.trans u5
    obtain ⟨Ag, cg, rfl, hcg, hmg, -, -⟩ := own_form ovg
    have rg := Rd.own int_len ovg
    have bg := In.own ovg
    have hlv : ((mjL (l0.map Cp.p))).length ≤ 2000000 := by have := mj_len (l0.map Cp.p); omega
    have heq5 : eqIs (mjL (l0.map Cp.p)) (mjL (l0.map Cp.p)) = true := eqIs_self _
    go_wp2_with fail
    refine (eqInt64S_any Ag Aw (mjL (l0.map Cp.p)) (mjL (l0.map Cp.p)) cg cw _ _ _ _ _ rg (by omega) (rw.up (u4.trans u5) (by omega)) (by omega) hlv).mono ?_
    rintro e w6 ⟨rfl, u6⟩
    have z6 := u6.size
    have hU6 := hU5.trans u6
    go_wp2_with fail
    refine (toCopS A0 l0 c0 0 w.heap.size _ (hr0.up (u1.trans (u2.trans (u3.trans (u4.trans (u5.trans u6))))) (by omega)) (by omega) hl0 HRS0.out).mono ?_
    rintro e w7 ⟨Ay0_7, cy0_7, Ly0_7, rfl, -, ppy0_7, hcy0_7, hmy0_7, -, rry0_7, ooy0_7, u7⟩
    have z7 := u7.size
    have hU7 := hU6.trans u7
    have Py0_7 := Lib.hid ppy0_7
    have Fy0_7 : Fit Ly0_7 cy0_7 := Fit.of ppy0_7 HOK0.out HRS0.out hl0 hcy0_7 hmy0_7
    have LLy0_7 : Ly0_7.length ≤ 2000000 := Fy0_7.2.2.1
    have FFy0_7 := Lib.hid Fy0_7
    clear ppy0_7 Fy0_7
    have BCy0_7 := Lib.hid (OwnC.bnd ooy0_7)
    have heq7 : eqCs Lx0_4 Ly0_7 = true := eqCs_self (Px0_4.out.trans Py0_7.out.symm)
    go_wp2_with fail
    refine (eqCopyS_any Ax0_4 Ay0_7 Lx0_4 Ly0_7 cx0_4 cy0_7 _ _ _ _ _ (rrx0_4.up (u5.trans (u6.trans u7)) (by omega)) (by omega) rry0_7 (by omega) (by omega) FFx0_4.out.2.1).mono ?_
    rintro e w8 ⟨rfl, u8⟩
    have z8 := u8.size
    have hU8 := hU7.trans u8
    have hwt := wt_tot Px0_4.out
    go_wp2_with fail
    refine (markCopyS_any Ax0_4 Lx0_4 cx0_4 _ _ _ 1 _ (oox0_4.up (u5.trans (u6.trans (u7.trans u8)))) BCx0_4.out (by omega) FFx0_4.out.2.1 (by omega) (by omega)).mono ?_
    rintro e w9 ⟨zk, rfl, hzk, m9⟩
    have hdk : decide (zk < 0) = false := by rw [decide_eq_false_iff_not]; omega
    have hr0_9 := Mk.rdc m9 (hr0.up (u1.trans (u2.trans (u3.trans (u4.trans (u5.trans (u6.trans (u7.trans u8))))))) (by omega)) (by omega) (by omega)
    have rw_9 := Mk.rd m9 (rw.up (u4.trans (u5.trans (u6.trans (u7.trans u8)))) (by omega)) (by omega) (by omega)
    have ow_9 := Mk.own m9 (own_up ovw (u4.trans (u5.trans (u6.trans (u7.trans u8))))) bw (by omega)
    have rg_9 := Mk.rd m9 (rg.up (u6.trans (u7.trans u8)) (by omega)) (by omega) (by omega)
    have og_9 := Mk.own m9 (own_up ovg (u6.trans (u7.trans u8))) bg (by omega)
    have z9 := m9.size
    have hU9 := hU8.mk m9 (by omega)
    have heq9 : eqIs (mjL (l0.map Cp.p)) (mjL (l0.map Cp.p)) = true := eqIs_self _
    go_wp2_with fail
    refine (eqInt64S_any Ag Aw (mjL (l0.map Cp.p)) (mjL (l0.map Cp.p)) cg cw _ _ _ _ _ rg_9 (by omega) rw_9 (by omega) hlv).mono ?_
    rintro e w10 ⟨rfl, u10⟩
    have z10 := u10.size
    have hU10 := hU9.trans u10
    go_wp2_with fail
    refine (markInt64S_any Ag ((mjL (l0.map Cp.p))).length cg _ _ 1 _ (own_up og_9 u10) (by omega) (by omega) (by omega)).mono ?_
    rintro e w11 ⟨rfl, ow11, m11⟩
    have hr0_11 := RdC.grown (hr0_9.up u10 (by omega)) m11 (by omega) bg (by omega)
    have rw_11 := Rd.grown (rw_9.up u10 (by omega)) m11 (by omega) bg (by omega)
    have ow_11 := own_grown (own_up ow_9 u10) m11 bg bw (by omega)
    have z11 := m11.size
    have hU11 := hU10.marked m11 bg (by omega)
    have rk := Rd.own (l := mkI 1 ((mjL (l0.map Cp.p))).length) int_len (by rw [mkI_len]; exact ow11)
    go_wp2_with fail
    refine (heldInt64S_any Ag ((mjL (l0.map Cp.p))).length cg _ _ 1 _ rk (by omega) (by omega) (by omega)).mono ?_
    rintro e w' ⟨rfl, rfl⟩
    go_wp2_with fail
    refine (toCopS A0 l0 c0 0 w.heap.size _ hr0_11 (by omega) hl0 HRS0.out).mono ?_
    rintro e w12 ⟨Ah0_12, ch0_12, Lh0_12, rfl, -, pph0_12, hch0_12, hmh0_12, -, rrh0_12, ooh0_12, u12⟩
    have z12 := u12.size
    have hU12 := hU11.trans u12
    have Ph0_12 := Lib.hid pph0_12
    have Fh0_12 : Fit Lh0_12 ch0_12 := Fit.of pph0_12 HOK0.out HRS0.out hl0 hch0_12 hmh0_12
    have LLh0_12 : Lh0_12.length ≤ 2000000 := Fh0_12.2.2.1
    have FFh0_12 := Lib.hid Fh0_12
    clear pph0_12 Fh0_12
    have BCh0_12 := Lib.hid (OwnC.bnd ooh0_12)
    have hq12 := implMajority_any Ah0_12 Lh0_12 ch0_12 _ _ w12 rrh0_12 (by omega) FFh0_12.out
    rw [Ph0_12.out] at hq12
    have HQ12 := Lib.hid hq12
    clear hq12
    go_wp2_with fail
    refine (HQ12.out).mono ?_
    rintro e w13 ⟨vh, rfl, ovh, u13⟩
    have z13 := u13.size
    have hU13 := hU12.trans u13
    obtain ⟨Ah, ch, rfl, hch, hmh, -, -⟩ := own_form ovh
    have rh := Rd.own int_len ovh
    have bh := In.own ovh
    have heq13 : eqIs (mjL (l0.map Cp.p)) (mjL (l0.map Cp.p)) = true := eqIs_self _
    go_wp2_with fail
    refine (eqInt64S_any Ah Aw (mjL (l0.map Cp.p)) (mjL (l0.map Cp.p)) ch cw _ _ _ _ _ rh (by omega) (rw_11.up (u12.trans u13) (by omega)) (by omega) hlv).mono ?_
    rintro e w14 ⟨rfl, u14⟩
    have z14 := u14.size
    have hU14 := hU13.trans u14
    go_wp2_with fail
    refine (heldInt64S_any Ag ((mjL (l0.map Cp.p))).length cg _ _ 1 _ (rk.up (u12.trans (u13.trans u14)) (by omega)) (by omega) (by omega) (by omega)).mono ?_
    rintro e w' ⟨rfl, rfl⟩
    go_wp2
    go_ret
    exact ⟨rfl, hU14⟩
end Go.Proofs.YtdjhenjgccenhaaDoor
