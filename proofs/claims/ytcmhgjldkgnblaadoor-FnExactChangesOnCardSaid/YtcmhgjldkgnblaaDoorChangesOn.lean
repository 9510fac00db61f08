/- The walk of the law FnExactChangesOn. -/
import Derived.Test.YtcmhgjldkgnblaaDoorChg
import Derived.Test.YtcmhgjldkgnblaaDoorMarkC
namespace Go.Proofs.YtcmhgjldkgnblaaDoor
open Go.RowKit Go.Sort

set_option maxRecDepth 100000 in
set_option maxHeartbeats 4000000 in
theorem fnExactChangesOn_walk (A0 : Option Addr) (l0 : List Int) (c0 : Nat) (A1 : Option Addr) (l1 : List Cp) (c1 : Nat) (A2 : Option Addr) (l2 : List Int) (c2 : Nat) (n3 : Int) (w : World) (hr0 : RdI w 0 w.heap.size A0 l0) (_hok0 : ∀ d ∈ l0, okI d) (hn0 : l0.length ≤ maxLen) (hr1 : RdC w 0 w.heap.size A1 l1) (hok1 : ∀ d ∈ l1, d.ok) (hn1 : l1.length ≤ maxLen) (hr2 : RdI w 0 w.heap.size A2 l2) (_hok2 : ∀ d ∈ l2, okI d) (hn2 : l2.length ≤ maxLen) (_hw3 : True) :
    Calls Tryd.prog 9 #[.slice A0 l0.length c0, .slice A1 l1.length c1, .slice A2 l2.length c2, .int .i64 n3] w fun e w' => e = .returned (.bool true) ∧ Up w w' := by
  have hsm0 : l0.length ≤ 9223372036854775807 := by unfold maxLen at hn0; omega
  by_cases hlen0 : 1048576 < (l0.length : Int)
  · go_enter Tryd.func9, Tryd.ntmps9
    go_wp2
    go_ret
    exact ⟨rfl, Up.refl _⟩
  · skip
    have hsm2 : l2.length ≤ 9223372036854775807 := by unfold maxLen at hn2; omega
    by_cases hlen2 : 1048576 < (l2.length : Int)
    · go_enter Tryd.func9, Tryd.ntmps9
      go_wp2
      go_ret
      exact ⟨rfl, Up.refl _⟩
    · skip
      have hl0 : l0.length ≤ 2000000 := by omega
      have hl2 : l2.length ≤ 2000000 := by omega
      obtain ⟨left0, eL0⟩ : ∃ z, z = szCL l1 1048576 := ⟨_, rfl⟩
      have HS0 := fun (wx : World) (hx : RdC wx 0 w.heap.size A1 l1) (hz : w.heap.size ≤ wx.heap.size) => szCopyS_any A1 l1 c1 0 w.heap.size 1048576 wx hx hz hok1 (by omega) (by omega) hn1
      simp only [← eL0] at HS0
      have hle0 : left0 ≤ 1048576 := by have := szCL_le l1 1048576 (by omega); omega
      have H0 := Lib.hid HS0
      have EL0 := Lib.hid eL0
      clear HS0 eL0
      by_cases hz0 : left0 < 0
      · have hdz0 : decide (left0 < 0) = true := by simpa using hz0
        go_enter Tryd.func9, Tryd.ntmps9
        go_wp2_with fail
        refine (H0.out _ hr1 (Nat.le_refl _)).mono ?_
        rintro e w1 ⟨rfl, u1⟩
        have z1 := u1.size
        have hU1 := u1
        go_wp2
        go_ret
        exact ⟨rfl, hU1⟩
      · have hdz0 : decide (left0 < 0) = false := by simpa using hz0
        have hall1 := szCL_all (l := l1) (left := 1048576) (by omega) (by omega) (by have h := EL0.out; omega)
        have hl1 := hall1.1
        have HRS1 := Lib.hid hall1.2.1
        have htot1 := hall1.2.2
        have HOK1 := Lib.hid hok1
        clear hall1
        go_enter Tryd.func9, Tryd.ntmps9
        go_wp2_with fail
        refine (H0.out _ hr1 (Nat.le_refl _)).mono ?_
        rintro e w1 ⟨rfl, u1⟩
        have z1 := u1.size
        have hU1 := u1
        go_wp2_with fail
        refine (toIntS A0 l0 c0 0 w.heap.size _ (hr0.up u1 (by omega)) (by omega) hl0).mono ?_
        rintro e w2 ⟨As0_2, cs0_2, rfl, hcs0_2, hms0_2, rrs0_2, oos0_2, u2⟩
        have z2 := u2.size
        have hU2 := hU1.trans u2
        have bs0_2 := In.own oos0_2
        go_wp2_with fail
        refine (toCopS A1 l1 c1 0 w.heap.size _ (hr1.up (u1.trans u2) (by omega)) (by omega) hl1 HRS1.out).mono ?_
        rintro e w3 ⟨As1_3, cs1_3, Ls1_3, rfl, -, pps1_3, hcs1_3, hms1_3, -, rrs1_3, oos1_3, u3⟩
        have z3 := u3.size
        have hU3 := hU2.trans u3
        have Ps1_3 := Lib.hid pps1_3
        have Fs1_3 : Fit Ls1_3 cs1_3 := Fit.of pps1_3 HOK1.out HRS1.out hl1 hcs1_3 hms1_3
        have LLs1_3 : Ls1_3.length ≤ 2000000 := Fs1_3.2.2.1
        have FFs1_3 := Lib.hid Fs1_3
        clear pps1_3 Fs1_3
        have BCs1_3 := Lib.hid (OwnC.bnd oos1_3)
        go_wp2_with fail
        refine (toIntS A2 l2 c2 0 w.heap.size _ (hr2.up (u1.trans (u2.trans u3)) (by omega)) (by omega) hl2).mono ?_
        rintro e w4 ⟨As2_4, cs2_4, rfl, hcs2_4, hms2_4, rrs2_4, oos2_4, u4⟩
        have z4 := u4.size
        have hU4 := hU3.trans u4
        have bs2_4 := In.own oos2_4
        have hq4 := specChanges_any As0_2 l0 cs0_2 As1_3 Ls1_3 cs1_3 As2_4 l2 cs2_4 _ _ _ _ _ _ n3 w4 (rrs0_2.up (u3.trans u4) (by omega)) (by omega) hl0 hcs0_2 hms0_2 (rrs1_3.up u4 (by omega)) (by omega) FFs1_3.out (OwnC.caps (oos1_3.up u4)) rrs2_4 (by omega) hl2
        rw [Ps1_3.out] at hq4
        have HQ4 := Lib.hid hq4
        clear hq4
        go_wp2_with fail
        refine (HQ4.out).mono ?_
        rintro e w5 ⟨vw, rfl, ovw, u5⟩
        have z5 := u5.size
        have hU5 := hU4.trans u5
        obtain ⟨Aw, cw, rfl, hcw, hmw, -, -⟩ := own_form ovw
        have rw := Rd.own int_len ovw
        have bw := In.own ovw
        go_wp2_with fail
        refine (toIntS A0 l0 c0 0 w.heap.size _ (hr0.up (u1.trans (u2.trans (u3.trans (u4.trans u5)))) (by omega)) (by omega) hl0).mono ?_
        rintro e w6 ⟨Ax0_6, cx0_6, rfl, hcx0_6, hmx0_6, rrx0_6, oox0_6, u6⟩
        have z6 := u6.size
        have hU6 := hU5.trans u6
        have bx0_6 := In.own oox0_6
        go_wp2_with fail
        refine (toCopS A1 l1 c1 0 w.heap.size _ (hr1.up (u1.trans (u2.trans (u3.trans (u4.trans (u5.trans u6))))) (by omega)) (by omega) hl1 HRS1.out).mono ?_
        rintro e w7 ⟨Ax1_7, cx1_7, Lx1_7, rfl, -, ppx1_7, hcx1_7, hmx1_7, -, rrx1_7, oox1_7, u7⟩
        have z7 := u7.size
        have hU7 := hU6.trans u7
        have Px1_7 := Lib.hid ppx1_7
        have Fx1_7 : Fit Lx1_7 cx1_7 := Fit.of ppx1_7 HOK1.out HRS1.out hl1 hcx1_7 hmx1_7
        have LLx1_7 : Lx1_7.length ≤ 2000000 := Fx1_7.2.2.1
        have FFx1_7 := Lib.hid Fx1_7
        clear ppx1_7 Fx1_7
        have BCx1_7 := Lib.hid (OwnC.bnd oox1_7)
        go_wp2_with fail
        refine (toIntS A2 l2 c2 0 w.heap.size _ (hr2.up (u1.trans (u2.trans (u3.trans (u4.trans (u5.trans (u6.trans u7)))))) (by omega)) (by omega) hl2).mono ?_
        rintro e w8 ⟨Ax2_8, cx2_8, rfl, hcx2_8, hmx2_8, rrx2_8, oox2_8, u8⟩
        have z8 := u8.size
        have hU8 := hU7.trans u8
        have bx2_8 := In.own oox2_8
        have hq8 := implChanges_any Ax0_6 l0 cx0_6 Ax1_7 Lx1_7 cx1_7 Ax2_8 l2 cx2_8 _ _ _ _ _ _ n3 w8 (rrx0_6.up (u7.trans u8) (by omega)) (by omega) hl0 (rrx1_7.up u8 (by omega)) (by omega) FFx1_7.out rrx2_8 (by omega) hl2
        rw [Px1_7.out] at hq8
        have HQ8 := Lib.hid hq8
        clear hq8
        go_wp2_with fail
        refine (HQ8.out).mono ?_
        rintro e w9 ⟨vg, rfl, ovg, u9⟩
        have z9 := u9.size
        have hU9 := hU8.trans u9
        obtain ⟨Ag, cg, rfl, hcg, hmg, -, -⟩ := own_form ovg
        have rg := Rd.own int_len ovg
        have bg := In.own ovg
        have hlv : ((cgL l0 (l1.map Cp.p) l2 n3)).length ≤ 2000000 := by have := cg_len l0 (l1.map Cp.p) l2 n3; omega
        have heq9 : eqIs (cgL l0 (l1.map Cp.p) l2 n3) (cgL l0 (l1.map Cp.p) l2 n3) = true := eqIs_self _
        go_wp2_with fail
        refine (eqInt64S_any Ag Aw (cgL l0 (l1.map Cp.p) l2 n3) (cgL l0 (l1.map Cp.p) l2 n3) cg cw _ _ _ _ _ rg (by omega) (rw.up (u6.trans (u7.trans (u8.trans u9))) (by omega)) (by omega) hlv).mono ?_
        rintro e w10 ⟨rfl, u10⟩
        have z10 := u10.size
        have hU10 := hU9.trans u10
        go_wp2_with fail
        refine (toIntS A0 l0 c0 0 w.heap.size _ (hr0.up (u1.trans (u2.trans (u3.trans (u4.trans (u5.trans (u6.trans (u7.trans (u8.trans (u9.trans u10))))))))) (by omega)) (by omega) hl0).mono ?_
        rintro e w11 ⟨Ay0_11, cy0_11, rfl, hcy0_11, hmy0_11, rry0_11, ooy0_11, u11⟩
        have z11 := u11.size
        have hU11 := hU10.trans u11
        have by0_11 := In.own ooy0_11
        have heq11 : eqIs l0 l0 = true := eqIs_self _
        go_wp2_with fail
        refine (eqInt64S_any Ax0_6 Ay0_11 l0 l0 cx0_6 cy0_11 _ _ _ _ _ (rrx0_6.up (u7.trans (u8.trans (u9.trans (u10.trans u11)))) (by omega)) (by omega) rry0_11 (by omega) hl0).mono ?_
        rintro e w12 ⟨rfl, u12⟩
        have z12 := u12.size
        have hU12 := hU11.trans u12
        go_wp2_with fail
        refine (toCopS A1 l1 c1 0 w.heap.size _ (hr1.up (u1.trans (u2.trans (u3.trans (u4.trans (u5.trans (u6.trans (u7.trans (u8.trans (u9.trans (u10.trans (u11.trans u12))))))))))) (by omega)) (by omega) hl1 HRS1.out).mono ?_
        rintro e w13 ⟨Ay1_13, cy1_13, Ly1_13, rfl, -, ppy1_13, hcy1_13, hmy1_13, -, rry1_13, ooy1_13, u13⟩
        have z13 := u13.size
        have hU13 := hU12.trans u13
        have Py1_13 := Lib.hid ppy1_13
        have Fy1_13 : Fit Ly1_13 cy1_13 := Fit.of ppy1_13 HOK1.out HRS1.out hl1 hcy1_13 hmy1_13
        have LLy1_13 : Ly1_13.length ≤ 2000000 := Fy1_13.2.2.1
        have FFy1_13 := Lib.hid Fy1_13
        clear ppy1_13 Fy1_13
        have BCy1_13 := Lib.hid (OwnC.bnd ooy1_13)
        have heq13 : eqCs Lx1_7 Ly1_13 = true := eqCs_self (Px1_7.out.trans Py1_13.out.symm)
        go_wp2_with fail
        refine (eqCopyS_any Ax1_7 Ay1_13 Lx1_7 Ly1_13 cx1_7 cy1_13 _ _ _ _ _ (rrx1_7.up (u8.trans (u9.trans (u10.trans (u11.trans (u12.trans u13))))) (by omega)) (by omega) rry1_13 (by omega) (by omega) FFx1_7.out.2.1).mono ?_
        rintro e w14 ⟨rfl, u14⟩
        have z14 := u14.size
        have hU14 := hU13.trans u14
        go_wp2_with fail
        refine (toIntS A2 l2 c2 0 w.heap.size _ (hr2.up (u1.trans (u2.trans (u3.trans (u4.trans (u5.trans (u6.trans (u7.trans (u8.trans (u9.trans (u10.trans (u11.trans (u12.trans (u13.trans u14))))))))))))) (by omega)) (by omega) hl2).mono ?_
        rintro e w15 ⟨Ay2_15, cy2_15, rfl, hcy2_15, hmy2_15, rry2_15, ooy2_15, u15⟩
        have z15 := u15.size
        have hU15 := hU14.trans u15
        have by2_15 := In.own ooy2_15
        have heq15 : eqIs l2 l2 = true := eqIs_self _
        go_wp2_with fail
        refine (eqInt64S_any Ax2_8 Ay2_15 l2 l2 cx2_8 cy2_15 _ _ _ _ _ (rrx2_8.up (u9.trans (u10.trans (u11.trans (u12.trans (u13.trans (u14.trans u15)))))) (by omega)) (by omega) rry2_15 (by omega) hl2).mono ?_
        rintro e w16 ⟨rfl, u16⟩
        have z16 := u16.size
        have hU16 := hU15.trans u16
        go_wp2_with fail
        refine (markIntW_any Ax0_6 l0.length cx0_6 _ _ 1 _ (own_up oox0_6 (u7.trans (u8.trans (u9.trans (u10.trans (u11.trans (u12.trans (u13.trans (u14.trans (u15.trans u16)))))))))) (by omega) (by omega) (by omega)).mono ?_
        rintro e w17 ⟨rfl, ow17, m17⟩
        have hr0_17 := Rd.grown (hr0.up (u1.trans (u2.trans (u3.trans (u4.trans (u5.trans (u6.trans (u7.trans (u8.trans (u9.trans (u10.trans (u11.trans (u12.trans (u13.trans (u14.trans (u15.trans u16))))))))))))))) (by omega)) m17 (by omega) bx0_6 (by omega)
        have hr1_17 := RdC.grown (hr1.up (u1.trans (u2.trans (u3.trans (u4.trans (u5.trans (u6.trans (u7.trans (u8.trans (u9.trans (u10.trans (u11.trans (u12.trans (u13.trans (u14.trans (u15.trans u16))))))))))))))) (by omega)) m17 (by omega) bx0_6 (by omega)
        have hr2_17 := Rd.grown (hr2.up (u1.trans (u2.trans (u3.trans (u4.trans (u5.trans (u6.trans (u7.trans (u8.trans (u9.trans (u10.trans (u11.trans (u12.trans (u13.trans (u14.trans (u15.trans u16))))))))))))))) (by omega)) m17 (by omega) bx0_6 (by omega)
        have rw_17 := Rd.grown (rw.up (u6.trans (u7.trans (u8.trans (u9.trans (u10.trans (u11.trans (u12.trans (u13.trans (u14.trans (u15.trans u16)))))))))) (by omega)) m17 (by omega) bx0_6 (by omega)
        have ow_17 := own_grown (own_up ovw (u6.trans (u7.trans (u8.trans (u9.trans (u10.trans (u11.trans (u12.trans (u13.trans (u14.trans (u15.trans u16))))))))))) m17 bx0_6 bw (by omega)
        have ox1_7_17 := OwnC.grown (oox1_7.up (u8.trans (u9.trans (u10.trans (u11.trans (u12.trans (u13.trans (u14.trans (u15.trans u16))))))))) m17 bx0_6 BCx1_7.out (by omega)
        have ox2_8_17 := own_grown (own_up oox2_8 (u9.trans (u10.trans (u11.trans (u12.trans (u13.trans (u14.trans (u15.trans u16)))))))) m17 bx0_6 bx2_8 (by omega)
        have rg_17 := Rd.grown (rg.up (u10.trans (u11.trans (u12.trans (u13.trans (u14.trans (u15.trans u16)))))) (by omega)) m17 (by omega) bx0_6 (by omega)
        have og_17 := own_grown (own_up ovg (u10.trans (u11.trans (u12.trans (u13.trans (u14.trans (u15.trans u16))))))) m17 bx0_6 bg (by omega)
        have z17 := m17.size
        have hU17 := hU16.marked m17 bx0_6 (by omega)
        have hwt := wt_tot Px1_7.out
        go_wp2_with fail
        refine (markCopyS_any Ax1_7 Lx1_7 cx1_7 _ _ _ (1 + (l0.length : Int)) _ ox1_7_17 BCx1_7.out (by omega) FFx1_7.out.2.1 (by omega) (by omega)).mono ?_
        rintro e w18 ⟨zk18, rfl, hzk18, hzl18, m18⟩
        have hr0_18 := Mk.rd m18 hr0_17 (by omega) (by omega)
        have hr1_18 := Mk.rdc m18 hr1_17 (by omega) (by omega)
        have hr2_18 := Mk.rd m18 hr2_17 (by omega) (by omega)
        have rw_18 := Mk.rd m18 rw_17 (by omega) (by omega)
        have ow_18 := Mk.own m18 ow_17 bw (by omega)
        have ox2_8_18 := Mk.own m18 ox2_8_17 bx2_8 (by omega)
        have rg_18 := Mk.rd m18 rg_17 (by omega) (by omega)
        have og_18 := Mk.own m18 og_17 bg (by omega)
        have z18 := m18.size
        have hU18 := hU17.mk m18 (by omega)
        go_wp2_with fail
        refine (markIntW_any Ax2_8 l2.length cx2_8 _ _ zk18 _ ox2_8_18 (by omega) (by omega) (by omega)).mono ?_
        rintro e w19 ⟨rfl, ow19, m19⟩
        have hr0_19 := Rd.grown hr0_18 m19 (by omega) bx2_8 (by omega)
        have hr1_19 := RdC.grown hr1_18 m19 (by omega) bx2_8 (by omega)
        have hr2_19 := Rd.grown hr2_18 m19 (by omega) bx2_8 (by omega)
        have rw_19 := Rd.grown rw_18 m19 (by omega) bx2_8 (by omega)
        have ow_19 := own_grown ow_18 m19 bx2_8 bw (by omega)
        have rg_19 := Rd.grown rg_18 m19 (by omega) bx2_8 (by omega)
        have og_19 := own_grown og_18 m19 bx2_8 bg (by omega)
        have z19 := m19.size
        have hU19 := hU18.marked m19 bx2_8 (by omega)
        have hdk : decide ((zk18 + (l2.length : Int)) < 0) = false := by rw [decide_eq_false_iff_not]; omega
        have heq19 : eqIs (cgL l0 (l1.map Cp.p) l2 n3) (cgL l0 (l1.map Cp.p) l2 n3) = true := eqIs_self _
        go_wp2_with fail
        refine (eqInt64S_any Ag Aw (cgL l0 (l1.map Cp.p) l2 n3) (cgL l0 (l1.map Cp.p) l2 n3) cg cw _ _ _ _ _ rg_19 (by omega) rw_19 (by omega) hlv).mono ?_
        rintro e w20 ⟨rfl, u20⟩
        have z20 := u20.size
        have hU20 := hU19.trans u20
        go_wp2_with fail
        refine (markInt64S_any Ag ((cgL l0 (l1.map Cp.p) l2 n3)).length cg _ _ 1 _ (own_up og_19 u20) (by omega) (by omega) (by omega)).mono ?_
        rintro e w21 ⟨rfl, ow21, m21⟩
        have hr0_21 := Rd.grown (hr0_19.up u20 (by omega)) m21 (by omega) bg (by omega)
        have hr1_21 := RdC.grown (hr1_19.up u20 (by omega)) m21 (by omega) bg (by omega)
        have hr2_21 := Rd.grown (hr2_19.up u20 (by omega)) m21 (by omega) bg (by omega)
        have rw_21 := Rd.grown (rw_19.up u20 (by omega)) m21 (by omega) bg (by omega)
        have ow_21 := own_grown (own_up ow_19 u20) m21 bg bw (by omega)
        have z21 := m21.size
        have hU21 := hU20.marked m21 bg (by omega)
        have rk := Rd.own (l := mkI 1 ((cgL l0 (l1.map Cp.p) l2 n3)).length) int_len (by rw [mkI_len]; exact ow21)
        go_wp2_with fail
        refine (heldInt64S_any Ag ((cgL l0 (l1.map Cp.p) l2 n3)).length cg _ _ 1 _ rk (by omega) (by omega) (by omega)).mono ?_
        rintro e w' ⟨rfl, rfl⟩
        go_wp2_with fail
        refine (toIntS A0 l0 c0 0 w.heap.size _ hr0_21 (by omega) hl0).mono ?_
        rintro e w22 ⟨Ah0_22, ch0_22, rfl, hch0_22, hmh0_22, rrh0_22, ooh0_22, u22⟩
        have z22 := u22.size
        have hU22 := hU21.trans u22
        have bh0_22 := In.own ooh0_22
        go_wp2_with fail
        refine (toCopS A1 l1 c1 0 w.heap.size _ (hr1_21.up u22 (by omega)) (by omega) hl1 HRS1.out).mono ?_
        rintro e w23 ⟨Ah1_23, ch1_23, Lh1_23, rfl, -, pph1_23, hch1_23, hmh1_23, -, rrh1_23, ooh1_23, u23⟩
        have z23 := u23.size
        have hU23 := hU22.trans u23
        have Ph1_23 := Lib.hid pph1_23
        have Fh1_23 : Fit Lh1_23 ch1_23 := Fit.of pph1_23 HOK1.out HRS1.out hl1 hch1_23 hmh1_23
        have LLh1_23 : Lh1_23.length ≤ 2000000 := Fh1_23.2.2.1
        have FFh1_23 := Lib.hid Fh1_23
        clear pph1_23 Fh1_23
        have BCh1_23 := Lib.hid (OwnC.bnd ooh1_23)
        go_wp2_with fail
        refine (toIntS A2 l2 c2 0 w.heap.size _ (hr2_21.up (u22.trans u23) (by omega)) (by omega) hl2).mono ?_
        rintro e w24 ⟨Ah2_24, ch2_24, rfl, hch2_24, hmh2_24, rrh2_24, ooh2_24, u24⟩
        have z24 := u24.size
        have hU24 := hU23.trans u24
        have bh2_24 := In.own ooh2_24
        have hq24 := implChanges_any Ah0_22 l0 ch0_22 Ah1_23 Lh1_23 ch1_23 Ah2_24 l2 ch2_24 _ _ _ _ _ _ n3 w24 (rrh0_22.up (u23.trans u24) (by omega)) (by omega) hl0 (rrh1_23.up u24 (by omega)) (by omega) FFh1_23.out rrh2_24 (by omega) hl2
        rw [Ph1_23.out] at hq24
        have HQ24 := Lib.hid hq24
        clear hq24
        go_wp2_with fail
        refine (HQ24.out).mono ?_
        rintro e w25 ⟨vh, rfl, ovh, u25⟩
        have z25 := u25.size
        have hU25 := hU24.trans u25
        obtain ⟨Ah, ch, rfl, hch, hmh, -, -⟩ := own_form ovh
        have rh := Rd.own int_len ovh
        have bh := In.own ovh
        have heq25 : eqIs (cgL l0 (l1.map Cp.p) l2 n3) (cgL l0 (l1.map Cp.p) l2 n3) = true := eqIs_self _
        go_wp2_with fail
        refine (eqInt64S_any Ah Aw (cgL l0 (l1.map Cp.p) l2 n3) (cgL l0 (l1.map Cp.p) l2 n3) ch cw _ _ _ _ _ rh (by omega) (rw_21.up (u22.trans (u23.trans (u24.trans u25))) (by omega)) (by omega) hlv).mono ?_
        rintro e w26 ⟨rfl, u26⟩
        have z26 := u26.size
        have hU26 := hU25.trans u26
        go_wp2_with fail
        refine (heldInt64S_any Ag ((cgL l0 (l1.map Cp.p) l2 n3)).length cg _ _ 1 _ (rk.up (u22.trans (u23.trans (u24.trans (u25.trans u26)))) (by omega)) (by omega) (by omega) (by omega)).mono ?_
        rintro e w' ⟨rfl, rfl⟩
        go_wp2
        go_ret
        exact ⟨rfl, hU26⟩
end Go.Proofs.YtcmhgjldkgnblaaDoor
