/- The walk of the law FnExactBestStemma. -/
import Derived.Test.YtcmhgjldkgnblaaDoorBestI
import Derived.Test.YtcmhgjldkgnblaaDoorMarkC
namespace Go.Proofs.YtcmhgjldkgnblaaDoor
open Go.RowKit Go.Sort

set_option maxRecDepth 100000 in
set_option maxHeartbeats 4000000 in
theorem fnExactBestStemma_walk (A0 : Option Addr) (l0 : List Int) (c0 : Nat) (A1 : Option Addr) (l1 : List Cp) (c1 : Nat) (w : World) (hr0 : RdI w 0 w.heap.size A0 l0) (_hok0 : ∀ d ∈ l0, okI d) (hn0 : l0.length ≤ maxLen) (hr1 : RdC w 0 w.heap.size A1 l1) (hok1 : ∀ d ∈ l1, d.ok) (hn1 : l1.length ≤ maxLen) :
    Calls Tryd.prog 7 #[.slice A0 l0.length c0, .slice A1 l1.length c1] w fun e w' => e = .returned (.bool true) ∧ Up w w' := by
  have hsm0 : l0.length ≤ 9223372036854775807 := by unfold maxLen at hn0; omega
  by_cases hlen0 : 1048576 < (l0.length : Int)
  · go_enter Tryd.func7, Tryd.ntmps7
    go_wp2
    go_ret
    exact ⟨rfl, Up.refl _⟩
  · skip
    have hl0 : l0.length ≤ 2000000 := by omega
    obtain ⟨left0, eL0⟩ : ∃ z, z = szCL l1 1048576 := ⟨_, rfl⟩
    have HS0 := fun (wx : World) (hx : RdC wx 0 w.heap.size A1 l1) (hz : w.heap.size ≤ wx.heap.size) => szCopyS_any A1 l1 c1 0 w.heap.size 1048576 wx hx hz hok1 (by omega) (by omega) hn1
    simp only [← eL0] at HS0
    have hle0 : left0 ≤ 1048576 := by have := szCL_le l1 1048576 (by omega); omega
    have H0 := Lib.hid HS0
    have EL0 := Lib.hid eL0
    clear HS0 eL0
    by_cases hz0 : left0 < 0
    · have hdz0 : decide (left0 < 0) = true := by simpa using hz0
      go_enter Tryd.func7, Tryd.ntmps7
      go_wp2_with fail
      refine (H0.out _ hr1 (Nat.le_refl _)).mono ?_
      rintro e w1 ⟨rfl, u1⟩
      have z1 := u1.size
      have hU1 := u1
      go_wp2
      go_ret
      exact ⟨rfl, hU1⟩
    · have hdz0 : decide (left0 < 0) = false := by simpa using hz0
      have hall1 := szCL_all (l := l1) (left := 1048576) (by omega) (by omega) (by have h := EL0.out; omega)
      have hl1 := hall1.1
      have HRS1 := Lib.hid hall1.2.1
      have htot1 := hall1.2.2
      have HOK1 := Lib.hid hok1
      clear hall1
      go_enter Tryd.func7, Tryd.ntmps7
      go_wp2_with fail
      refine (H0.out _ hr1 (Nat.le_refl _)).mono ?_
      rintro e w1 ⟨rfl, u1⟩
      have z1 := u1.size
      have hU1 := u1
      go_wp2_with fail
      refine (toIntS A0 l0 c0 0 w.heap.size _ (hr0.up u1 (by omega)) (by omega) hl0).mono ?_
      rintro e w2 ⟨As0_2, cs0_2, rfl, hcs0_2, hms0_2, rrs0_2, oos0_2, u2⟩
      have z2 := u2.size
      have hU2 := hU1.trans u2
      have bs0_2 := In.own oos0_2
      go_wp2_with fail
      refine (toCopS A1 l1 c1 0 w.heap.size _ (hr1.up (u1.trans u2) (by omega)) (by omega) hl1 HRS1.out).mono ?_
      rintro e w3 ⟨As1_3, cs1_3, Ls1_3, rfl, -, pps1_3, hcs1_3, hms1_3, -, rrs1_3, oos1_3, u3⟩
      have z3 := u3.size
      have hU3 := hU2.trans u3
      have Ps1_3 := Lib.hid pps1_3
      have Fs1_3 : Fit Ls1_3 cs1_3 := Fit.of pps1_3 HOK1.out HRS1.out hl1 hcs1_3 hms1_3
      have LLs1_3 : Ls1_3.length ≤ 2000000 := Fs1_3.2.2.1
      have FFs1_3 := Lib.hid Fs1_3
      clear pps1_3 Fs1_3
      have BCs1_3 := Lib.hid (OwnC.bnd oos1_3)
      have hq3 := specBest_any As0_2 l0 cs0_2 As1_3 Ls1_3 cs1_3 _ _ _ _ w3 (rrs0_2.up u3 (by omega)) (by omega) hl0 rrs1_3 (by omega) FFs1_3.out
      rw [Ps1_3.out] at hq3
      have HQ3 := Lib.hid hq3
      clear hq3
      go_wp2_with fail
      refine (HQ3.out).mono ?_
      rintro e w4 ⟨vw, rfl, ovw, u4⟩
      have z4 := u4.size
      have hU4 := hU3.trans u4
      obtain ⟨Aw, cw, rfl, hcw, hmw, -, -⟩ := own_form ovw
      have rw := Rd.own int_len ovw
      have bw := In.own ovw
      go_wp2_with fail
      refine (toIntS A0 l0 c0 0 w.heap.size _ (hr0.up (u1.trans (u2.trans (u3.trans u4))) (by omega)) (by omega) hl0).mono ?_
      rintro e w5 ⟨Ax0_5, cx0_5, rfl, hcx0_5, hmx0_5, rrx0_5, oox0_5, u5⟩
      have z5 := u5.size
      have hU5 := hU4.trans u5
      have bx0_5 := In.own oox0_5
      go_wp2_with fail
      refine (toCopS A1 l1 c1 0 w.heap.size _ (hr1.up (u1.trans (u2.trans (u3.trans (u4.trans u5)))) (by omega)) (by omega) hl1 HRS1.out).mono ?_
      rintro e w6 ⟨Ax1_6, cx1_6, Lx1_6, rfl, -, ppx1_6, hcx1_6, hmx1_6, -, rrx1_6, oox1_6, u6⟩
      have z6 := u6.size
      have hU6 := hU5.trans u6
      have Px1_6 := Lib.hid ppx1_6
      have Fx1_6 : Fit Lx1_6 cx1_6 := Fit.of ppx1_6 HOK1.out HRS1.out hl1 hcx1_6 hmx1_6
      have LLx1_6 : Lx1_6.length ≤ 2000000 := Fx1_6.2.2.1
      have FFx1_6 := Lib.hid Fx1_6
      clear ppx1_6 Fx1_6
      have BCx1_6 := Lib.hid (OwnC.bnd oox1_6)
      have hq6 := implBest_any Ax0_5 l0 cx0_5 Ax1_6 Lx1_6 cx1_6 _ _ _ _ w6 (rrx0_5.up u6 (by omega)) (by omega) hl0 rrx1_6 (by omega) FFx1_6.out
      rw [Px1_6.out] at hq6
      have HQ6 := Lib.hid hq6
      clear hq6
      go_wp2_with fail
      refine (HQ6.out).mono ?_
      rintro e w7 ⟨vg, rfl, ovg, u7⟩
      have z7 := u7.size
      have hU7 := hU6.trans u7
      obtain ⟨Ag, cg, rfl, hcg, hmg, -, -⟩ := own_form ovg
      have rg := Rd.own int_len ovg
      have bg := In.own ovg
      have hlv : ((bcL l0 (l1.map Cp.p))).length ≤ 2000000 := by have := bc_len l0 (l1.map Cp.p); rw [List.length_map] at this; omega
      have heq7 : eqIs (bcL l0 (l1.map Cp.p)) (bcL l0 (l1.map Cp.p)) = true := eqIs_self _
      go_wp2_with fail
      refine (eqInt64S_any Ag Aw (bcL l0 (l1.map Cp.p)) (bcL l0 (l1.map Cp.p)) cg cw _ _ _ _ _ rg (by omega) (rw.up (u5.trans (u6.trans u7)) (by omega)) (by omega) hlv).mono ?_
      rintro e w8 ⟨rfl, u8⟩
      have z8 := u8.size
      have hU8 := hU7.trans u8
      go_wp2_with fail
      refine (toIntS A0 l0 c0 0 w.heap.size _ (hr0.up (u1.trans (u2.trans (u3.trans (u4.trans (u5.trans (u6.trans (u7.trans u8))))))) (by omega)) (by omega) hl0).mono ?_
      rintro e w9 ⟨Ay0_9, cy0_9, rfl, hcy0_9, hmy0_9, rry0_9, ooy0_9, u9⟩
      have z9 := u9.size
      have hU9 := hU8.trans u9
      have by0_9 := In.own ooy0_9
      have heq9 : eqIs l0 l0 = true := eqIs_self _
      go_wp2_with fail
      refine (eqInt64S_any Ax0_5 Ay0_9 l0 l0 cx0_5 cy0_9 _ _ _ _ _ (rrx0_5.up (u6.trans (u7.trans (u8.trans u9))) (by omega)) (by omega) rry0_9 (by omega) hl0).mono ?_
      rintro e w10 ⟨rfl, u10⟩
      have z10 := u10.size
      have hU10 := hU9.trans u10
      go_wp2_with fail
      refine (toCopS A1 l1 c1 0 w.heap.size _ (hr1.up (u1.trans (u2.trans (u3.trans (u4.trans (u5.trans (u6.trans (u7.trans (u8.trans (u9.trans u10))))))))) (by omega)) (by omega) hl1 HRS1.out).mono ?_
      rintro e w11 ⟨Ay1_11, cy1_11, Ly1_11, rfl, -, ppy1_11, hcy1_11, hmy1_11, -, rry1_11, ooy1_11, u11⟩
      have z11 := u11.size
      have hU11 := hU10.trans u11
      have Py1_11 := Lib.hid ppy1_11
      have Fy1_11 : Fit Ly1_11 cy1_11 := Fit.of ppy1_11 HOK1.out HRS1.out hl1 hcy1_11 hmy1_11
      have LLy1_11 : Ly1_11.length ≤ 2000000 := Fy1_11.2.2.1
      have FFy1_11 := Lib.hid Fy1_11
      clear ppy1_11 Fy1_11
      have BCy1_11 := Lib.hid (OwnC.bnd ooy1_11)
      have heq11 : eqCs Lx1_6 Ly1_11 = true := eqCs_self (Px1_6.out.trans Py1_11.out.symm)
      go_wp2_with fail
      refine (eqCopyS_any Ax1_6 Ay1_11 Lx1_6 Ly1_11 cx1_6 cy1_11 _ _ _ _ _ (rrx1_6.up (u7.trans (u8.trans (u9.trans (u10.trans u11)))) (by omega)) (by omega) rry1_11 (by omega) (by omega) FFx1_6.out.2.1).mono ?_
      rintro e w12 ⟨rfl, u12⟩
      have z12 := u12.size
      have hU12 := hU11.trans u12
      go_wp2_with fail
      refine (markIntW_any Ax0_5 l0.length cx0_5 _ _ 1 _ (own_up oox0_5 (u6.trans (u7.trans (u8.trans (u9.trans (u10.trans (u11.trans u12))))))) (by omega) (by omega) (by omega)).mono ?_
      rintro e w13 ⟨rfl, ow13, m13⟩
      have hr0_13 := Rd.grown (hr0.up (u1.trans (u2.trans (u3.trans (u4.trans (u5.trans (u6.trans (u7.trans (u8.trans (u9.trans (u10.trans (u11.trans u12))))))))))) (by omega)) m13 (by omega) bx0_5 (by omega)
      have hr1_13 := RdC.grown (hr1.up (u1.trans (u2.trans (u3.trans (u4.trans (u5.trans (u6.trans (u7.trans (u8.trans (u9.trans (u10.trans (u11.trans u12))))))))))) (by omega)) m13 (by omega) bx0_5 (by omega)
      have rw_13 := Rd.grown (rw.up (u5.trans (u6.trans (u7.trans (u8.trans (u9.trans (u10.trans (u11.trans u12))))))) (by omega)) m13 (by omega) bx0_5 (by omega)
      have ow_13 := own_grown (own_up ovw (u5.trans (u6.trans (u7.trans (u8.trans (u9.trans (u10.trans (u11.trans u12)))))))) m13 bx0_5 bw (by omega)
      have ox1_6_13 := OwnC.grown (oox1_6.up (u7.trans (u8.trans (u9.trans (u10.trans (u11.trans u12)))))) m13 bx0_5 BCx1_6.out (by omega)
      have rg_13 := Rd.grown (rg.up (u8.trans (u9.trans (u10.trans (u11.trans u12)))) (by omega)) m13 (by omega) bx0_5 (by omega)
      have og_13 := own_grown (own_up ovg (u8.trans (u9.trans (u10.trans (u11.trans u12))))) m13 bx0_5 bg (by omega)
      have z13 := m13.size
      have hU13 := hU12.marked m13 bx0_5 (by omega)
      have hwt := wt_tot Px1_6.out
      go_wp2_with fail
      refine (markCopyS_any Ax1_6 Lx1_6 cx1_6 _ _ _ (1 + (l0.length : Int)) _ ox1_6_13 BCx1_6.out (by omega) FFx1_6.out.2.1 (by omega) (by omega)).mono ?_
      rintro e w14 ⟨zk14, rfl, hzk14, hzl14, m14⟩
      have hr0_14 := Mk.rd m14 hr0_13 (by omega) (by omega)
      have hr1_14 := Mk.rdc m14 hr1_13 (by omega) (by omega)
      have rw_14 := Mk.rd m14 rw_13 (by omega) (by omega)
      have ow_14 := Mk.own m14 ow_13 bw (by omega)
      have rg_14 := Mk.rd m14 rg_13 (by omega) (by omega)
      have og_14 := Mk.own m14 og_13 bg (by omega)
      have z14 := m14.size
      have hU14 := hU13.mk m14 (by omega)
      have hdk : decide (zk14 < 0) = false := by rw [decide_eq_false_iff_not]; omega
      have heq14 : eqIs (bcL l0 (l1.map Cp.p)) (bcL l0 (l1.map Cp.p)) = true := eqIs_self _
      go_wp2_with fail
      refine (eqInt64S_any Ag Aw (bcL l0 (l1.map Cp.p)) (bcL l0 (l1.map Cp.p)) cg cw _ _ _ _ _ rg_14 (by omega) rw_14 (by omega) hlv).mono ?_
      rintro e w15 ⟨rfl, u15⟩
      have z15 := u15.size
      have hU15 := hU14.trans u15
      go_wp2_with fail
      refine (markInt64S_any Ag ((bcL l0 (l1.map Cp.p))).length cg _ _ 1 _ (own_up og_14 u15) (by omega) (by omega) (by omega)).mono ?_
      rintro e w16 ⟨rfl, ow16, m16⟩
      have hr0_16 := Rd.grown (hr0_14.up u15 (by omega)) m16 (by omega) bg (by omega)
      have hr1_16 := RdC.grown (hr1_14.up u15 (by omega)) m16 (by omega) bg (by omega)
      have rw_16 := Rd.grown (rw_14.up u15 (by omega)) m16 (by omega) bg (by omega)
      have ow_16 := own_grown (own_up ow_14 u15) m16 bg bw (by omega)
      have z16 := m16.size
      have hU16 := hU15.marked m16 bg (by omega)
      have rk := Rd.own (l := mkI 1 ((bcL l0 (l1.map Cp.p))).length) int_len (by rw [mkI_len]; exact ow16)
      go_wp2_with fail
      refine (heldInt64S_any Ag ((bcL l0 (l1.map Cp.p))).length cg _ _ 1 _ rk (by omega) (by omega) (by omega)).mono ?_
      rintro e w' ⟨rfl, rfl⟩
      go_wp2_with fail
      refine (toIntS A0 l0 c0 0 w.heap.size _ hr0_16 (by omega) hl0).mono ?_
      rintro e w17 ⟨Ah0_17, ch0_17, rfl, hch0_17, hmh0_17, rrh0_17, ooh0_17, u17⟩
      have z17 := u17.size
      have hU17 := hU16.trans u17
      have bh0_17 := In.own ooh0_17
      go_wp2_with fail
      refine (toCopS A1 l1 c1 0 w.heap.size _ (hr1_16.up u17 (by omega)) (by omega) hl1 HRS1.out).mono ?_
      rintro e w18 ⟨Ah1_18, ch1_18, Lh1_18, rfl, -, pph1_18, hch1_18, hmh1_18, -, rrh1_18, ooh1_18, u18⟩
      have z18 := u18.size
      have hU18 := hU17.trans u18
      have Ph1_18 := Lib.hid pph1_18
      have Fh1_18 : Fit Lh1_18 ch1_18 := Fit.of pph1_18 HOK1.out HRS1.out hl1 hch1_18 hmh1_18
      have LLh1_18 : Lh1_18.length ≤ 2000000 := Fh1_18.2.2.1
      have FFh1_18 := Lib.hid Fh1_18
      clear pph1_18 Fh1_18
      have BCh1_18 := Lib.hid (OwnC.bnd ooh1_18)
      have hq18 := implBest_any Ah0_17 l0 ch0_17 Ah1_18 Lh1_18 ch1_18 _ _ _ _ w18 (rrh0_17.up u18 (by omega)) (by omega) hl0 rrh1_18 (by omega) FFh1_18.out
      rw [Ph1_18.out] at hq18
      have HQ18 := Lib.hid hq18
      clear hq18
      go_wp2_with fail
      refine (HQ18.out).mono ?_
      rintro e w19 ⟨vh, rfl, ovh, u19⟩
      have z19 := u19.size
      have hU19 := hU18.trans u19
      obtain ⟨Ah, ch, rfl, hch, hmh, -, -⟩ := own_form ovh
      have rh := Rd.own int_len ovh
      have bh := In.own ovh
      have heq19 : eqIs (bcL l0 (l1.map Cp.p)) (bcL l0 (l1.map Cp.p)) = true := eqIs_self _
      go_wp2_with fail
      refine (eqInt64S_any Ah Aw (bcL l0 (l1.map Cp.p)) (bcL l0 (l1.map Cp.p)) ch cw _ _ _ _ _ rh (by omega) (rw_16.up (u17.trans (u18.trans u19)) (by omega)) (by omega) hlv).mono ?_
      rintro e w20 ⟨rfl, u20⟩
      have z20 := u20.size
      have hU20 := hU19.trans u20
      go_wp2_with fail
      refine (heldInt64S_any Ag ((bcL l0 (l1.map Cp.p))).length cg _ _ 1 _ (rk.up (u17.trans (u18.trans (u19.trans u20))) (by omega)) (by omega) (by omega) (by omega)).mono ?_
      rintro e w' ⟨rfl, rfl⟩
      go_wp2
      go_ret
      exact ⟨rfl, hU20⟩
end Go.Proofs.YtcmhgjldkgnblaaDoor
