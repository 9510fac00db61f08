/- The walk of the law FnExactLearnFormula. -/
import Derived.Test.YtehoaoeahfmfpaaGreatDoorHeldF
namespace Go.Proofs.YtehoaoeahfmfpaaGreatDoor
open Go.RowKit Go.Sort

set_option maxRecDepth 100000 in
set_option maxHeartbeats 4000000 in
theorem fnExactLearnFormula_walk (A0 : Option Addr) (l0 : List Fm) (c0 : Nat) (A1 : Option Addr) (l1 : List ByteArray) (c1 : Nat) (n2 : Int) (w : World) (hr0 : RdF w 0 w.heap.size A0 l0) (hok0 : ∀ d ∈ l0, d.ok) (hn0 : l0.length ≤ maxLen) (hr1 : RdT w 0 w.heap.size A1 l1) (hok1 : ∀ d ∈ l1, d.size ≤ maxLen) (hn1 : l1.length ≤ maxLen) (_hw2 : True) :
    Calls Tryz.prog 3 #[.slice A0 l0.length c0, .slice A1 l1.length c1, .int .i64 n2] w fun e w' => e = .returned (.bool true) ∧ Up w w' := by
  obtain ⟨left0, eL0⟩ : ∃ z, z = szFL l0 1048576 := ⟨_, rfl⟩
  have HS0 := fun (wx : World) (hx : RdF wx 0 w.heap.size A0 l0) (hz : w.heap.size ≤ wx.heap.size) => szFormulaS_any A0 l0 c0 0 w.heap.size 1048576 wx hx hz hok0 (by omega) (by omega) hn0
  simp only [← eL0] at HS0
  have H0 := Lib.hid HS0
  have EL0 := Lib.hid eL0
  clear HS0 eL0
  by_cases hz0 : left0 < 0
  · have hdz0 : decide (left0 < 0) = true := by simpa using hz0
    go_enter Tryz.func3, Tryz.ntmps3
    go_wp2_with fail
    refine (H0.out _ hr0 (Nat.le_refl _)).mono ?_
    rintro e w1 ⟨rfl, u1⟩
    have z1 := u1.size
    have hU1 := u1
    go_wp2
    go_ret
    exact ⟨rfl, hU1⟩
  have hdz0 : decide (left0 < 0) = false := by simpa using hz0
  have htot0 := szFL_len (l := l0) (z := 1048576) (by omega) (by rw [← EL0.out]; exact hz0)
  have hq0 := htot0.1
  rw [← EL0.out] at hq0
  have hl0 := htot0.2.1
  have hwt0 := szFL_tot (l := l0) (z := 1048576) (by rw [← EL0.out]; exact hz0)
  have HWS0 : Hid (∀ x ∈ l0, x.ws.length ≤ 2000000) := Lib.hid (fun x hx => by have := htot0.2.2 x hx; omega)
  clear htot0
  have HOK0 := Lib.hid hok0
  obtain ⟨left1, eL1⟩ : ∃ z, z = szSL l1 left0 := ⟨_, rfl⟩
  have HS1 := fun (wx : World) (hx : RdT wx 0 w.heap.size A1 l1) (hz : w.heap.size ≤ wx.heap.size) => szStrU A1 l1 c1 0 w.heap.size left0 wx hx hz hok1 (by omega) (by omega) hn1
  simp only [← eL1] at HS1
  have H1 := Lib.hid HS1
  have EL1 := Lib.hid eL1
  clear HS1 eL1
  by_cases hz1 : left1 < 0
  · have hdz1 : decide (left1 < 0) = true := by simpa using hz1
    go_enter Tryz.func3, Tryz.ntmps3
    go_wp2_with fail
    refine (H0.out _ hr0 (Nat.le_refl _)).mono ?_
    rintro e w1 ⟨rfl, u1⟩
    have z1 := u1.size
    have hU1 := u1
    go_wp2_with fail
    refine (H1.out _ (hr1.up hU1 (Nat.le_refl _)) hU1.size).mono ?_
    rintro e w2 ⟨rfl, u2⟩
    have z2 := u2.size
    have hU2 := hU1.trans u2
    go_wp2
    go_ret
    exact ⟨rfl, hU2⟩
  have hdz1 : decide (left1 < 0) = false := by simpa using hz1
  have hq1 := (szSL_le l1 left0 (by omega)).1
  have hl1 := szSL_len (l := l1) (left := left0) (by omega) (by rw [← EL1.out]; exact hz1)
  rw [← EL1.out] at hq1
  have HOK1 := Lib.hid hok1
  go_enter Tryz.func3, Tryz.ntmps3
  go_wp2_with fail
  refine (H0.out _ hr0 (Nat.le_refl _)).mono ?_
  rintro e w1 ⟨rfl, u1⟩
  have z1 := u1.size
  have hU1 := u1
  go_wp2_with fail
  refine (H1.out _ (hr1.up hU1 (Nat.le_refl _)) hU1.size).mono ?_
  rintro e w2 ⟨rfl, u2⟩
  have z2 := u2.size
  have hU2 := hU1.trans u2
  go_wp2_with fail
  refine (toForS A0 l0 c0 0 w.heap.size _ (hr0.up (u1.trans u2) (by omega)) (by omega) (by omega) HWS0.out).mono ?_
  rintro e w3 ⟨As0_3, cs0_3, Ls0_3, rfl, hls0_3, hps0_3, hcs0_3, hms0_3, hys0_3, rs0_3, os0_3, u3⟩
  have z3 := u3.size
  have hU3 := hU2.trans u3
  have hl2s0_3 : Ls0_3.length ≤ 2000000 := by omega
  have Ps0_3 := Lib.hid hps0_3
  have OKs0_3 := Lib.hid (same_ok hps0_3 hys0_3 HOK0.out)
  have Ws0_3 := Lib.hid (same_ws (q := fun r => r.length ≤ 2000000) hps0_3 HWS0.out)
  have Bs0_3 := Lib.hid (OwnF.bnd os0_3)
  clear hls0_3 hps0_3 hys0_3
  go_wp2_with fail
  refine (toStrU A1 l1 c1 0 w.heap.size _ (hr1.up (u1.trans (u2.trans u3)) (by omega)) (by omega) (by omega)).mono ?_
  rintro e w4 ⟨As1_4, cs1_4, rfl, hcs1_4, hms1_4, rs1_4, os1_4, u4⟩
  have z4 := u4.size
  have hU4 := hU3.trans u4
  have bs1_4 := In.own os1_4
  have hz : As1_4 = none → cs1_4 = 0 := by
    obtain ⟨A', c', e, -, -, h⟩ := own_formz os1_4
    simp only [Value.slice.injEq] at e
    rw [e.1, e.2.2]; exact h
  have hq := specLearn_any As0_3 As1_4 Ls0_3 l1 cs0_3 cs1_4 _ _ _ _ n2 w4 (rs0_3.up u4 (by omega)) (by omega) rs1_4 (by omega) OKs0_3.out Ws0_3.out (by omega) HOK1.out (by omega) hz
  rw [Ps0_3.out] at hq
  have HQ4 := Lib.hid hq
  clear hq
  go_wp2_with fail
  refine (HQ4.out).mono ?_
  rintro e w5 ⟨vw, Lw, rfl, ovw, hpw, u5⟩
  have z5 := u5.size
  have hU5 := hU4.trans u5
  obtain ⟨Aw, cw, rfl, -⟩ := own_form ovw.list
  have rw := ovw.rdf
  have bw := ovw.bnd
  have fw := lf_list hpw
  have HPw := Lib.hid hpw
  have HFw := Lib.hid fw.2.1
  have lw := fw.1
  have tw := fw.2.2
  clear hpw fw
  go_wp2_with fail
  refine (toForS A0 l0 c0 0 w.heap.size _ (hr0.up (u1.trans (u2.trans (u3.trans (u4.trans u5)))) (by omega)) (by omega) (by omega) HWS0.out).mono ?_
  rintro e w6 ⟨Ax0_6, cx0_6, Lx0_6, rfl, hlx0_6, hpx0_6, hcx0_6, hmx0_6, hyx0_6, rx0_6, ox0_6, u6⟩
  have z6 := u6.size
  have hU6 := hU5.trans u6
  have hl2x0_6 : Lx0_6.length ≤ 2000000 := by omega
  have Px0_6 := Lib.hid hpx0_6
  have OKx0_6 := Lib.hid (same_ok hpx0_6 hyx0_6 HOK0.out)
  have Wx0_6 := Lib.hid (same_ws (q := fun r => r.length ≤ 2000000) hpx0_6 HWS0.out)
  have Bx0_6 := Lib.hid (OwnF.bnd ox0_6)
  clear hlx0_6 hpx0_6 hyx0_6
  go_wp2_with fail
  refine (toStrU A1 l1 c1 0 w.heap.size _ (hr1.up (u1.trans (u2.trans (u3.trans (u4.trans (u5.trans u6))))) (by omega)) (by omega) (by omega)).mono ?_
  rintro e w7 ⟨Ax1_7, cx1_7, rfl, hcx1_7, hmx1_7, rx1_7, ox1_7, u7⟩
  have z7 := u7.size
  have hU7 := hU6.trans u7
  have bx1_7 := In.own ox1_7
  have hq := implLearn_any Ax0_6 Ax1_7 Lx0_6 l1 cx0_6 cx1_7 _ _ _ _ n2 w7 (rx0_6.up u7 (by omega)) (by omega) rx1_7 (by omega) OKx0_6.out Wx0_6.out (by omega) HOK1.out (by omega)
  rw [Px0_6.out] at hq
  have HQ7 := Lib.hid hq
  clear hq
  go_wp2_with fail
  refine (HQ7.out).mono ?_
  rintro e w8 ⟨vg, Lg, rfl, ovg, hpg, u8⟩
  have z8 := u8.size
  have hU8 := hU7.trans u8
  obtain ⟨Ag, cg, rfl, -⟩ := own_form ovg.list
  have rg := ovg.rdf
  have bg := ovg.bnd
  have fg := lf_list hpg
  have HPg := Lib.hid hpg
  have HFg := Lib.hid fg.2.1
  have lg := fg.1
  have tg := fg.2.2
  clear hpg fg
  have heq8 : eqFs Lg Lw = true := eqFs_self (HPg.out.trans HPw.out.symm)
  go_wp2_with fail
  refine (eqFormulaS_any Ag Aw Lg Lw cg cw _ _ _ _ _ rg (by omega) (rw.up (u6.trans (u7.trans u8)) (by omega)) (by omega) (by omega) HFg.out).mono ?_
  rintro e w9 ⟨rfl, u9⟩
  have z9 := u9.size
  have hU9 := hU8.trans u9
  go_wp2_with fail
  refine (toForS A0 l0 c0 0 w.heap.size _ (hr0.up (u1.trans (u2.trans (u3.trans (u4.trans (u5.trans (u6.trans (u7.trans (u8.trans u9)))))))) (by omega)) (by omega) (by omega) HWS0.out).mono ?_
  rintro e w10 ⟨Ay0_10, cy0_10, Ly0_10, rfl, hly0_10, hpy0_10, hcy0_10, hmy0_10, hyy0_10, ry0_10, oy0_10, u10⟩
  have z10 := u10.size
  have hU10 := hU9.trans u10
  have hl2y0_10 : Ly0_10.length ≤ 2000000 := by omega
  have Py0_10 := Lib.hid hpy0_10
  have OKy0_10 := Lib.hid (same_ok hpy0_10 hyy0_10 HOK0.out)
  have Wy0_10 := Lib.hid (same_ws (q := fun r => r.length ≤ 2000000) hpy0_10 HWS0.out)
  have By0_10 := Lib.hid (OwnF.bnd oy0_10)
  clear hly0_10 hpy0_10 hyy0_10
  have heq10 : eqFs Lx0_6 Ly0_10 = true := eqFs_self (Px0_6.out.trans Py0_10.out.symm)
  go_wp2_with fail
  refine (eqFormulaS_any Ax0_6 Ay0_10 Lx0_6 Ly0_10 cx0_6 cy0_10 _ _ _ _ _ (rx0_6.up (u7.trans (u8.trans (u9.trans u10))) (by omega)) (by omega) ry0_10 (by omega) (by omega) Wx0_6.out).mono ?_
  rintro e w11 ⟨rfl, u11⟩
  have z11 := u11.size
  have hU11 := hU10.trans u11
  go_wp2_with fail
  refine (toStrU A1 l1 c1 0 w.heap.size _ (hr1.up (u1.trans (u2.trans (u3.trans (u4.trans (u5.trans (u6.trans (u7.trans (u8.trans (u9.trans (u10.trans u11)))))))))) (by omega)) (by omega) (by omega)).mono ?_
  rintro e w12 ⟨Ay1_12, cy1_12, rfl, hcy1_12, hmy1_12, ry1_12, oy1_12, u12⟩
  have z12 := u12.size
  have hU12 := hU11.trans u12
  have by1_12 := In.own oy1_12
  have heq12 : eqSs l1 l1 = true := eqSs_self _
  go_wp2_with fail
  refine (eqStringS_any Ax1_7 Ay1_12 l1 l1 cx1_7 cy1_12 _ _ _ _ _ (rx1_7.up (u8.trans (u9.trans (u10.trans (u11.trans u12)))) (by omega)) (by omega) ry1_12 (by omega) (by omega)).mono ?_
  rintro e w13 ⟨rfl, u13⟩
  have z13 := u13.size
  have hU13 := hU12.trans u13
  have hwL13 : wtF Lx0_6 Lx0_6.length ≤ 2097152 := by rw [wtF_same Px0_6.out]; omega
  go_wp2_with fail
  refine (markFormulaS_any Ax0_6 Lx0_6 cx0_6 _ _ _ 1 _ (OwnF.up ox0_6 (u7.trans (u8.trans (u9.trans (u10.trans (u11.trans (u12.trans u13))))))) Bx0_6.out (by omega) Wx0_6.out (by omega) (by omega)).mono ?_
  rintro e w14 ⟨rfl, -, m14⟩
  have z14 := m14.size
  have hU14 := hU13.mk m14 (by omega)
  go_wp2_with fail
  refine (markStrM_any Ax1_7 l1.length cx1_7 _ _ (1 + (wtF Lx0_6 Lx0_6.length : Int)) _ (m14.own (own_up ox1_7 (u8.trans (u9.trans (u10.trans (u11.trans (u12.trans u13)))))) bx1_7 (by omega)) _ _ bx1_7 (by omega) (by omega) (by omega)).mono ?_
  rintro e w15 ⟨rfl, m15⟩
  have z15 := m15.size
  have hU15 := hU14.mk m15 (by omega)
  have hdk : decide (((1 + (wtF Lx0_6 Lx0_6.length : Int)) + (l1.length : Int)) < 0) = false := by rw [decide_eq_false_iff_not]; omega
  have heq15 : eqFs Lg Lw = true := eqFs_self (HPg.out.trans HPw.out.symm)
  go_wp2_with fail
  refine (eqFormulaS_any Ag Aw Lg Lw cg cw _ _ _ _ _ (Mk.rdf m15 (Mk.rdf m14 (rg.up (u9.trans (u10.trans (u11.trans (u12.trans u13)))) (by omega)) (by omega) (by omega)) (by omega) (by omega)) (by omega) (Mk.rdf m15 (Mk.rdf m14 (rw.up (u6.trans (u7.trans (u8.trans (u9.trans (u10.trans (u11.trans (u12.trans u13))))))) (by omega)) (by omega) (by omega)) (by omega) (by omega)) (by omega) (by omega) HFg.out).mono ?_
  rintro e w16 ⟨rfl, u16⟩
  have z16 := u16.size
  have hU16 := hU15.trans u16
  go_wp2_with fail
  refine (markFormG_any Ag Lg cg _ _ _ 1 _ ((Mk.stg m15 (Mk.stg m14 (ovg.up (u9.trans (u10.trans (u11.trans (u12.trans u13))))) bg (by omega)) bg (by omega)).up u16) bg (by omega) HFg.out (by omega) (by omega)).mono ?_
  rintro e w17 ⟨rfl, ok17, m17⟩
  have z17 := m17.size
  have hU17 := hU16.mk m17 (by omega)
  have rk : RdF w17 _ w17.heap.size Ag (mkFm 1 Lg) := StG.rdf (c := cg) (by rw [mkFm_len]; exact ok17)
  have hwg : (wtF Lg Lg.length : Int) ≤ 1400 := by omega
  have hd1 : decide ((1 : Int) + (wtF Lg Lg.length : Int) < 0) = false := by rw [decide_eq_false_iff_not]; omega
  go_wp2_with fail
  refine (heldFormS_any Ag Lg cg _ _ 1 _ rk (Nat.le_refl _) (by omega) HFg.out (by omega) (by omega)).mono ?_
  rintro e w175 ⟨rfl, u175⟩
  have z175 := u175.size
  have hU175 := hU17.trans u175
  go_wp2_with fail
  refine (toForS A0 l0 c0 0 w.heap.size _ ((Mk.rdf m17 ((Mk.rdf m15 (Mk.rdf m14 (hr0.up (u1.trans (u2.trans (u3.trans (u4.trans (u5.trans (u6.trans (u7.trans (u8.trans (u9.trans (u10.trans (u11.trans (u12.trans u13)))))))))))) (by omega)) (by omega) (by omega)) (by omega) (by omega)).up u16 (by omega)) (by omega) (by omega)).up u175 (by omega)) (by omega) (by omega) HWS0.out).mono ?_
  rintro e w18 ⟨Ah0_18, ch0_18, Lh0_18, rfl, hlh0_18, hph0_18, hch0_18, hmh0_18, hyh0_18, rh0_18, oh0_18, u18⟩
  have z18 := u18.size
  have hU18 := hU175.trans u18
  have hl2h0_18 : Lh0_18.length ≤ 2000000 := by omega
  have Ph0_18 := Lib.hid hph0_18
  have OKh0_18 := Lib.hid (same_ok hph0_18 hyh0_18 HOK0.out)
  have Wh0_18 := Lib.hid (same_ws (q := fun r => r.length ≤ 2000000) hph0_18 HWS0.out)
  have Bh0_18 := Lib.hid (OwnF.bnd oh0_18)
  clear hlh0_18 hph0_18 hyh0_18
  go_wp2_with fail
  refine (toStrU A1 l1 c1 0 w.heap.size _ ((m17.rd ((m15.rd (m14.rd (hr1.up (u1.trans (u2.trans (u3.trans (u4.trans (u5.trans (u6.trans (u7.trans (u8.trans (u9.trans (u10.trans (u11.trans (u12.trans u13)))))))))))) (by omega)) (by omega) (by omega)) (by omega) (by omega)).up u16 (by omega)) (by omega) (by omega)).up (u175.trans u18) (by omega)) (by omega) (by omega)).mono ?_
  rintro e w19 ⟨Ah1_19, ch1_19, rfl, hch1_19, hmh1_19, rh1_19, oh1_19, u19⟩
  have z19 := u19.size
  have hU19 := hU18.trans u19
  have bh1_19 := In.own oh1_19
  have hq := implLearn_any Ah0_18 Ah1_19 Lh0_18 l1 ch0_18 ch1_19 _ _ _ _ n2 w19 (rh0_18.up u19 (by omega)) (by omega) rh1_19 (by omega) OKh0_18.out Wh0_18.out (by omega) HOK1.out (by omega)
  rw [Ph0_18.out] at hq
  have HQ19 := Lib.hid hq
  clear hq
  go_wp2_with fail
  refine (HQ19.out).mono ?_
  rintro e w20 ⟨vh, Lh, rfl, ovh, hph, u20⟩
  have z20 := u20.size
  have hU20 := hU19.trans u20
  obtain ⟨Ah, ch, rfl, -⟩ := own_form ovh.list
  have rh := ovh.rdf
  have bh := ovh.bnd
  have fh := lf_list hph
  have HPh := Lib.hid hph
  have HFh := Lib.hid fh.2.1
  have lh := fh.1
  have th := fh.2.2
  clear hph fh
  have heq20 : eqFs Lh Lw = true := eqFs_self (HPh.out.trans HPw.out.symm)
  go_wp2_with fail
  refine (eqFormulaS_any Ah Aw Lh Lw ch cw _ _ _ _ _ rh (by omega) ((Mk.rdf m17 ((Mk.rdf m15 (Mk.rdf m14 (rw.up (u6.trans (u7.trans (u8.trans (u9.trans (u10.trans (u11.trans (u12.trans u13))))))) (by omega)) (by omega) (by omega)) (by omega) (by omega)).up u16 (by omega)) (by omega) (by omega)).up (u175.trans (u18.trans (u19.trans u20))) (by omega)) (by omega) (by omega) HFh.out).mono ?_
  rintro e w21 ⟨rfl, u21⟩
  have z21 := u21.size
  have hU21 := hU20.trans u21
  go_wp2_with fail
  refine (heldFormS_any Ag Lg cg _ _ 1 _ (rk.up (u175.trans (u18.trans (u19.trans (u20.trans u21)))) (Nat.le_refl _)) (by omega) (by omega) HFg.out (by omega) (by omega)).mono ?_
  rintro e w22 ⟨rfl, u22⟩
  have hU22 := hU21.trans u22
  go_wp2
  go_ret
  exact ⟨rfl, hU22⟩
end Go.Proofs.YtehoaoeahfmfpaaGreatDoor
