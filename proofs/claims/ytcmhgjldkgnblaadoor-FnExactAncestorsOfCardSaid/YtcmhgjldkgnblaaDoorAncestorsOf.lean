/- The walk of the law FnExactAncestorsOf. -/
import Derived.Test.YtcmhgjldkgnblaaDoorAnc
import Derived.Test.YtcmhgjldkgnblaaDoorMarkC
namespace Go.Proofs.YtcmhgjldkgnblaaDoor
open Go.RowKit Go.Sort

set_option maxRecDepth 100000 in
set_option maxHeartbeats 4000000 in
theorem fnExactAncestorsOf_walk (A0 : Option Addr) (l0 : List Cp) (c0 : Nat) (A1 : Option Addr) (l1 : List Int) (c1 : Nat) (n2 : Int) (w : World) (hr0 : RdC w 0 w.heap.size A0 l0) (hok0 : ∀ d ∈ l0, d.ok) (hn0 : l0.length ≤ maxLen) (hr1 : RdI w 0 w.heap.size A1 l1) (_hok1 : ∀ d ∈ l1, okI d) (hn1 : l1.length ≤ maxLen) (_hw2 : True) :
    Calls Tryd.prog 6 #[.slice A0 l0.length c0, .slice A1 l1.length c1, .int .i64 n2] w fun e w' => e = .returned (.bool true) ∧ Up w w' := by
  have hsm1 : l1.length ≤ 9223372036854775807 := by unfold maxLen at hn1; omega
  by_cases hlen1 : 1048576 < (l1.length : Int)
  · go_enter Tryd.func6, Tryd.ntmps6
    go_wp2
    go_ret
    exact ⟨rfl, Up.refl _⟩
  · skip
    have hl1 : l1.length ≤ 2000000 := by omega
    obtain ⟨left0, eL0⟩ : ∃ z, z = szCL l0 1048576 := ⟨_, rfl⟩
    have HS0 := fun (wx : World) (hx : RdC wx 0 w.heap.size A0 l0) (hz : w.heap.size ≤ wx.heap.size) => szCopyS_any A0 l0 c0 0 w.heap.size 1048576 wx hx hz hok0 (by omega) (by omega) hn0
    simp only [← eL0] at HS0
    have hle0 : left0 ≤ 1048576 := by have := szCL_le l0 1048576 (by omega); omega
    have H0 := Lib.hid HS0
    have EL0 := Lib.hid eL0
    clear HS0 eL0
    by_cases hz0 : left0 < 0
    · have hdz0 : decide (left0 < 0) = true := by simpa using hz0
      go_enter Tryd.func6, Tryd.ntmps6
      go_wp2_with fail
      refine (H0.out _ hr0 (Nat.le_refl _)).mono ?_
      rintro e w1 ⟨rfl, u1⟩
      have z1 := u1.size
      have hU1 := u1
      go_wp2
      go_ret
      exact ⟨rfl, hU1⟩
    · have hdz0 : decide (left0 < 0) = false := by simpa using hz0
      have hall0 := szCL_all (l := l0) (left := 1048576) (by omega) (by omega) (by have h := EL0.out; omega)
      have hl0 := hall0.1
      have HRS0 := Lib.hid hall0.2.1
      have htot0 := hall0.2.2
      have HOK0 := Lib.hid hok0
      clear hall0
      go_enter Tryd.func6, Tryd.ntmps6
      go_wp2_with fail
      refine (H0.out _ hr0 (Nat.le_refl _)).mono ?_
      rintro e w1 ⟨rfl, u1⟩
      have z1 := u1.size
      have hU1 := u1
      go_wp2_with fail
      refine (toCopS A0 l0 c0 0 w.heap.size _ (hr0.up u1 (by omega)) (by omega) hl0 HRS0.out).mono ?_
      rintro e w2 ⟨As0_2, cs0_2, Ls0_2, rfl, -, pps0_2, hcs0_2, hms0_2, -, rrs0_2, oos0_2, u2⟩
      have z2 := u2.size
      have hU2 := hU1.trans u2
      have Ps0_2 := Lib.hid pps0_2
      have Fs0_2 : Fit Ls0_2 cs0_2 := Fit.of pps0_2 HOK0.out HRS0.out hl0 hcs0_2 hms0_2
      have LLs0_2 : Ls0_2.length ≤ 2000000 := Fs0_2.2.2.1
      have FFs0_2 := Lib.hid Fs0_2
      clear pps0_2 Fs0_2
      have BCs0_2 := Lib.hid (OwnC.bnd oos0_2)
      go_wp2_with fail
      refine (toIntS A1 l1 c1 0 w.heap.size _ (hr1.up (u1.trans u2) (by omega)) (by omega) hl1).mono ?_
      rintro e w3 ⟨As1_3, cs1_3, rfl, hcs1_3, hms1_3, rrs1_3, oos1_3, u3⟩
      have z3 := u3.size
      have hU3 := hU2.trans u3
      have bs1_3 := In.own oos1_3
      have hq3 := specAncestors_any As0_2 Ls0_2 cs0_2 As1_3 l1 cs1_3 _ _ _ _ n2 w3 (rrs0_2.up u3 (by omega)) (by omega) FFs0_2.out rrs1_3 (by omega) hl1
      rw [Ps0_2.out] at hq3
      have HQ3 := Lib.hid hq3
      clear hq3
      go_wp2_with fail
      refine (HQ3.out).mono ?_
      rintro e w4 ⟨vw, rfl, ovw, u4⟩
      have z4 := u4.size
      have hU4 := hU3.trans u4
      obtain ⟨Aw, cw, rfl, hcw, hmw, -, -⟩ := own_form ovw
      have rw := Rd.own int_len ovw
      have bw := In.own ovw
      go_wp2_with fail
      refine (toCopS A0 l0 c0 0 w.heap.size _ (hr0.up (u1.trans (u2.trans (u3.trans u4))) (by omega)) (by omega) hl0 HRS0.out).mono ?_
      rintro e w5 ⟨Ax0_5, cx0_5, Lx0_5, rfl, -, ppx0_5, hcx0_5, hmx0_5, -, rrx0_5, oox0_5, u5⟩
      have z5 := u5.size
      have hU5 := hU4.trans u5
      have Px0_5 := Lib.hid ppx0_5
      have Fx0_5 : Fit Lx0_5 cx0_5 := Fit.of ppx0_5 HOK0.out HRS0.out hl0 hcx0_5 hmx0_5
      have LLx0_5 : Lx0_5.length ≤ 2000000 := Fx0_5.2.2.1
      have FFx0_5 := Lib.hid Fx0_5
      clear ppx0_5 Fx0_5
      have BCx0_5 := Lib.hid (OwnC.bnd oox0_5)
      go_wp2_with fail
      refine (toIntS A1 l1 c1 0 w.heap.size _ (hr1.up (u1.trans (u2.trans (u3.trans (u4.trans u5)))) (by omega)) (by omega) hl1).mono ?_
      rintro e w6 ⟨Ax1_6, cx1_6, rfl, hcx1_6, hmx1_6, rrx1_6, oox1_6, u6⟩
      have z6 := u6.size
      have hU6 := hU5.trans u6
      have bx1_6 := In.own oox1_6
      have hq6 := implAncestors_any Ax0_5 Lx0_5 cx0_5 Ax1_6 l1 cx1_6 _ _ _ _ n2 w6 (rrx0_5.up u6 (by omega)) (by omega) FFx0_5.out rrx1_6 (by omega) hl1
      rw [Px0_5.out] at hq6
      have HQ6 := Lib.hid hq6
      clear hq6
      go_wp2_with fail
      refine (HQ6.out).mono ?_
      rintro e w7 ⟨vg, rfl, ovg, u7⟩
      have z7 := u7.size
      have hU7 := hU6.trans u7
      obtain ⟨Ag, cg, rfl, hcg, hmg, -, -⟩ := own_form ovg
      have rg := Rd.own int_len ovg
      have bg := In.own ovg
      have hlv : ((aoL (l0.map Cp.p) l1 n2)).length ≤ 2000000 := by have := ao_len (l0.map Cp.p) l1 n2; omega
      have heq7 : eqIs (aoL (l0.map Cp.p) l1 n2) (aoL (l0.map Cp.p) l1 n2) = true := eqIs_self _
      go_wp2_with fail
      refine (eqInt64S_any Ag Aw (aoL (l0.map Cp.p) l1 n2) (aoL (l0.map Cp.p) l1 n2) cg cw _ _ _ _ _ rg (by omega) (rw.up (u5.trans (u6.trans u7)) (by omega)) (by omega) hlv).mono ?_
      rintro e w8 ⟨rfl, u8⟩
      have z8 := u8.size
      have hU8 := hU7.trans u8
      go_wp2_with fail
      refine (toCopS A0 l0 c0 0 w.heap.size _ (hr0.up (u1.trans (u2.trans (u3.trans (u4.trans (u5.trans (u6.trans (u7.trans u8))))))) (by omega)) (by omega) hl0 HRS0.out).mono ?_
      rintro e w9 ⟨Ay0_9, cy0_9, Ly0_9, rfl, -, ppy0_9, hcy0_9, hmy0_9, -, rry0_9, ooy0_9, u9⟩
      have z9 := u9.size
      have hU9 := hU8.trans u9
      have Py0_9 := Lib.hid ppy0_9
      have Fy0_9 : Fit Ly0_9 cy0_9 := Fit.of ppy0_9 HOK0.out HRS0.out hl0 hcy0_9 hmy0_9
      have LLy0_9 : Ly0_9.length ≤ 2000000 := Fy0_9.2.2.1
      have FFy0_9 := Lib.hid Fy0_9
      clear ppy0_9 Fy0_9
      have BCy0_9 := Lib.hid (OwnC.bnd ooy0_9)
      have heq9 : eqCs Lx0_5 Ly0_9 = true := eqCs_self (Px0_5.out.trans Py0_9.out.symm)
      go_wp2_with fail
      refine (eqCopyS_any Ax0_5 Ay0_9 Lx0_5 Ly0_9 cx0_5 cy0_9 _ _ _ _ _ (rrx0_5.up (u6.trans (u7.trans (u8.trans u9))) (by omega)) (by omega) rry0_9 (by omega) (by omega) FFx0_5.out.2.1).mono ?_
      rintro e w10 ⟨rfl, u10⟩
      have z10 := u10.size
      have hU10 := hU9.trans u10
      go_wp2_with fail
      refine (toIntS A1 l1 c1 0 w.heap.size _ (hr1.up (u1.trans (u2.trans (u3.trans (u4.trans (u5.trans (u6.trans (u7.trans (u8.trans (u9.trans u10))))))))) (by omega)) (by omega) hl1).mono ?_
      rintro e w11 ⟨Ay1_11, cy1_11, rfl, hcy1_11, hmy1_11, rry1_11, ooy1_11, u11⟩
      have z11 := u11.size
      have hU11 := hU10.trans u11
      have by1_11 := In.own ooy1_11
      have heq11 : eqIs l1 l1 = true := eqIs_self _
      go_wp2_with fail
      refine (eqInt64S_any Ax1_6 Ay1_11 l1 l1 cx1_6 cy1_11 _ _ _ _ _ (rrx1_6.up (u7.trans (u8.trans (u9.trans (u10.trans u11)))) (by omega)) (by omega) rry1_11 (by omega) hl1).mono ?_
      rintro e w12 ⟨rfl, u12⟩
      have z12 := u12.size
      have hU12 := hU11.trans u12
      have hwt := wt_tot Px0_5.out
      go_wp2_with fail
      refine (markCopyS_any Ax0_5 Lx0_5 cx0_5 _ _ _ 1 _ (oox0_5.up (u6.trans (u7.trans (u8.trans (u9.trans (u10.trans (u11.trans u12))))))) BCx0_5.out (by omega) FFx0_5.out.2.1 (by omega) (by omega)).mono ?_
      rintro e w13 ⟨zk13, rfl, hzk13, hzl13, m13⟩
      have hr0_13 := Mk.rdc m13 (hr0.up (u1.trans (u2.trans (u3.trans (u4.trans (u5.trans (u6.trans (u7.trans (u8.trans (u9.trans (u10.trans (u11.trans u12))))))))))) (by omega)) (by omega) (by omega)
      have hr1_13 := Mk.rd m13 (hr1.up (u1.trans (u2.trans (u3.trans (u4.trans (u5.trans (u6.trans (u7.trans (u8.trans (u9.trans (u10.trans (u11.trans u12))))))))))) (by omega)) (by omega) (by omega)
      have rw_13 := Mk.rd m13 (rw.up (u5.trans (u6.trans (u7.trans (u8.trans (u9.trans (u10.trans (u11.trans u12))))))) (by omega)) (by omega) (by omega)
      have ow_13 := Mk.own m13 (own_up ovw (u5.trans (u6.trans (u7.trans (u8.trans (u9.trans (u10.trans (u11.trans u12)))))))) bw (by omega)
      have ox1_6_13 := Mk.own m13 (own_up oox1_6 (u7.trans (u8.trans (u9.trans (u10.trans (u11.trans u12)))))) bx1_6 (by omega)
      have rg_13 := Mk.rd m13 (rg.up (u8.trans (u9.trans (u10.trans (u11.trans u12)))) (by omega)) (by omega) (by omega)
      have og_13 := Mk.own m13 (own_up ovg (u8.trans (u9.trans (u10.trans (u11.trans u12))))) bg (by omega)
      have z13 := m13.size
      have hU13 := hU12.mk m13 (by omega)
      go_wp2_with fail
      refine (markIntW_any Ax1_6 l1.length cx1_6 _ _ zk13 _ ox1_6_13 (by omega) (by omega) (by omega)).mono ?_
      rintro e w14 ⟨rfl, ow14, m14⟩
      have hr0_14 := RdC.grown hr0_13 m14 (by omega) bx1_6 (by omega)
      have hr1_14 := Rd.grown hr1_13 m14 (by omega) bx1_6 (by omega)
      have rw_14 := Rd.grown rw_13 m14 (by omega) bx1_6 (by omega)
      have ow_14 := own_grown ow_13 m14 bx1_6 bw (by omega)
      have rg_14 := Rd.grown rg_13 m14 (by omega) bx1_6 (by omega)
      have og_14 := own_grown og_13 m14 bx1_6 bg (by omega)
      have z14 := m14.size
      have hU14 := hU13.marked m14 bx1_6 (by omega)
      have hdk : decide ((zk13 + (l1.length : Int)) < 0) = false := by rw [decide_eq_false_iff_not]; omega
      have heq14 : eqIs (aoL (l0.map Cp.p) l1 n2) (aoL (l0.map Cp.p) l1 n2) = true := eqIs_self _
      go_wp2_with fail
      refine (eqInt64S_any Ag Aw (aoL (l0.map Cp.p) l1 n2) (aoL (l0.map Cp.p) l1 n2) cg cw _ _ _ _ _ rg_14 (by omega) rw_14 (by omega) hlv).mono ?_
      rintro e w15 ⟨rfl, u15⟩
      have z15 := u15.size
      have hU15 := hU14.trans u15
      go_wp2_with fail
      refine (markInt64S_any Ag ((aoL (l0.map Cp.p) l1 n2)).length cg _ _ 1 _ (own_up og_14 u15) (by omega) (by omega) (by omega)).mono ?_
      rintro e w16 ⟨rfl, ow16, m16⟩
      have hr0_16 := RdC.grown (hr0_14.up u15 (by omega)) m16 (by omega) bg (by omega)
      have hr1_16 := Rd.grown (hr1_14.up u15 (by omega)) m16 (by omega) bg (by omega)
      have rw_16 := Rd.grown (rw_14.up u15 (by omega)) m16 (by omega) bg (by omega)
      have ow_16 := own_grown (own_up ow_14 u15) m16 bg bw (by omega)
      have z16 := m16.size
      have hU16 := hU15.marked m16 bg (by omega)
      have rk := Rd.own (l := mkI 1 ((aoL (l0.map Cp.p) l1 n2)).length) int_len (by rw [mkI_len]; exact ow16)
      go_wp2_with fail
      refine (heldInt64S_any Ag ((aoL (l0.map Cp.p) l1 n2)).length cg _ _ 1 _ rk (by omega) (by omega) (by omega)).mono ?_
      rintro e w' ⟨rfl, rfl⟩
      go_wp2_with fail
      refine (toCopS A0 l0 c0 0 w.heap.size _ hr0_16 (by omega) hl0 HRS0.out).mono ?_
      rintro e w17 ⟨Ah0_17, ch0_17, Lh0_17, rfl, -, pph0_17, hch0_17, hmh0_17, -, rrh0_17, ooh0_17, u17⟩
      have z17 := u17.size
      have hU17 := hU16.trans u17
      have Ph0_17 := Lib.hid pph0_17
      have Fh0_17 : Fit Lh0_17 ch0_17 := Fit.of pph0_17 HOK0.out HRS0.out hl0 hch0_17 hmh0_17
      have LLh0_17 : Lh0_17.length ≤ 2000000 := Fh0_17.2.2.1
      have FFh0_17 := Lib.hid Fh0_17
      clear pph0_17 Fh0_17
      have BCh0_17 := Lib.hid (OwnC.bnd ooh0_17)
      go_wp2_with fail
      refine (toIntS A1 l1 c1 0 w.heap.size _ (hr1_16.up u17 (by omega)) (by omega) hl1).mono ?_
      rintro e w18 ⟨Ah1_18, ch1_18, rfl, hch1_18, hmh1_18, rrh1_18, ooh1_18, u18⟩
      have z18 := u18.size
      have hU18 := hU17.trans u18
      have bh1_18 := In.own ooh1_18
      have hq18 := implAncestors_any Ah0_17 Lh0_17 ch0_17 Ah1_18 l1 ch1_18 _ _ _ _ n2 w18 (rrh0_17.up u18 (by omega)) (by omega) FFh0_17.out rrh1_18 (by omega) hl1
      rw [Ph0_17.out] at hq18
      have HQ18 := Lib.hid hq18
      clear hq18
      go_wp2_with fail
      refine (HQ18.out).mono ?_
      rintro e w19 ⟨vh, rfl, ovh, u19⟩
      have z19 := u19.size
      have hU19 := hU18.trans u19
      obtain ⟨Ah, ch, rfl, hch, hmh, -, -⟩ := own_form ovh
      have rh := Rd.own int_len ovh
      have bh := In.own ovh
      have heq19 : eqIs (aoL (l0.map Cp.p) l1 n2) (aoL (l0.map Cp.p) l1 n2) = true := eqIs_self _
      go_wp2_with fail
      refine (eqInt64S_any Ah Aw (aoL (l0.map Cp.p) l1 n2) (aoL (l0.map Cp.p) l1 n2) ch cw _ _ _ _ _ rh (by omega) (rw_16.up (u17.trans (u18.trans u19)) (by omega)) (by omega) hlv).mono ?_
      rintro e w20 ⟨rfl, u20⟩
      have z20 := u20.size
      have hU20 := hU19.trans u20
      go_wp2_with fail
      refine (heldInt64S_any Ag ((aoL (l0.map Cp.p) l1 n2)).length cg _ _ 1 _ (rk.up (u17.trans (u18.trans (u19.trans u20))) (by omega)) (by omega) (by omega) (by omega)).mono ?_
      rintro e w' ⟨rfl, rfl⟩
      go_wp2
      go_ret
      exact ⟨rfl, hU20⟩
end Go.Proofs.YtcmhgjldkgnblaaDoor
