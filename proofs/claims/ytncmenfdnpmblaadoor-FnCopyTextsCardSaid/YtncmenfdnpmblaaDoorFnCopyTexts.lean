/- FnCopyTexts, walked. -/
import Derived.Test.YtncmenfdnpmblaaDoorDrawK4
import Derived.Test.YtncmenfdnpmblaaDoorFnCopTM
import Derived.Test.YtncmenfdnpmblaaDoorRspec
import Derived.Test.YtncmenfdnpmblaaDoorLikeI
import Derived.Test.YtncmenfdnpmblaaDoorBig
namespace Go.Proofs.YtncmenfdnpmblaaDoor
open Go.RowKit Go.Sort

theorem OwnL.open {w w' : World} {vl : Value} {L : List Cp} (h : OwnL w w' vl L) : ∃ C cc, vl = .slice C L.length cc ∧ RdC w' w.heap.size w'.heap.size C L ∧ Fit L cc ∧ L.length ≤ 9 := by
  obtain ⟨vo, o, hK⟩ := h
  obtain ⟨A, c, C, cc, -, rfl, -, RL, hf, -, -, hl⟩ := hK.open
  exact ⟨C, cc, rfl, RL, hf, hl⟩
theorem box_cp (w : World) (n : ByteArray) (A : Option Addr) (k c : Nat) : Box (w.alloc (.cells #[.string n, .slice A k c] 49)) w.heap.size (.string n) (.slice A k c) := ⟨by go_simp, by go_simp, by go_simp, by go_simp⟩

set_option maxRecDepth 100000 in
set_option maxHeartbeats 8000000 in
theorem fnCopyTexts_walk (A0 : Option Addr) (l0 : List UInt8) (c0 : Nat) (w : World) (hr0 : RdY w 0 w.heap.size A0 l0) (_hok0 : True) (hn0 : l0.length ≤ maxLen) :
    Calls Tryd.prog 5 #[.slice A0 l0.length c0] w fun e w' => e = .returned (.bool true) ∧ Up w w' := by
  by_cases hbig : (4096 : Int) < (l0.length : Int)
  · have hb : decide ((4096 : Int) < (l0.length : Int)) = true := by simpa using hbig
    go_enter Tryd.func5, Tryd.ntmps5
    go_wp2_with fail
    refine (big_any A0 l0.length c0 w hn0).mono ?_
    rintro e w' ⟨rfl, rfl⟩
    go_wp2
    go_ret
    exact ⟨rfl, Up.refl _⟩
  · have hb : decide ((4096 : Int) < (l0.length : Int)) = false := by simpa using hbig
    have hl0 : l0.length ≤ 2000000 := by omega
    have hr0' := Lib.hid hr0
    clear hbig
    go_enter Tryd.func5, Tryd.ntmps5
    go_wp2_with fail
    refine (big_any A0 l0.length c0 w hn0).mono ?_
    rintro e w' ⟨rfl, rfl⟩
    go_wp2_with fail
    refine (drawCopyText_any A0 l0 c0 0 w.heap.size w hr0 (Nat.le_refl _) hl0).mono ?_
    rintro e w1 ⟨x, rfl, ⟨-, hnm, hrs⟩, hown, u1⟩
    obtain ⟨xn, xA, xc, xr⟩ := x
    simp only at hnm hrs
    have RX : RdI w1 w.heap.size w1.heap.size xA xr := Rd.own int_len hown
    have hcs : (ctV (xn, xr)).size ≤ 46 := by
      have h1 := ctV_size (xn, xr)
      have h2 : ((xn, xr) : PC).1.size = xn.size := rfl
      have h3 : ((xn, xr) : PC).2.length = xr.length := rfl
      omega
    have ub := Up.alloc w1 (.cells #[.string xn, .slice xA xr.length xc] 49)
    have BX := box_cp w1 xn xA xr.length xc
    have HTI := Lib.hid (fun (wx : World) (hu : Up w1 wx) => implCopyText_any ⟨xn, xA, xc, xr⟩ _ _ wx (RX.up hu (Nat.le_refl _)) hu.size (by show xn.size ≤ maxLen; unfold maxLen; omega) (by show xr.length ≤ 2000000; omega))
    have HTS := Lib.hid (fun (wx : World) (hu : Up w1 wx) => specCopyText_any ⟨xn, xA, xc, xr⟩ _ _ wx (RX.up hu (Nat.le_refl _)) hu.size (by show xn.size ≤ maxLen; unfold maxLen; omega) (by show xr.length ≤ 2000000; omega))
    have HFD := Lib.hid (fun h => ct_found (p := (xn, xr)) h)
    have HX := Lib.hid RX
    have HCS := Lib.hid hcs
    clear hown hr0 RX hcs
    go_wp2_with fail
    obtain ⟨wa, hwa⟩ : ∃ z, z = w1.alloc (.cells #[.string xn, .slice xA xr.length xc] 49) := ⟨_, rfl⟩
    rw [← hwa] at ub BX ⊢
    clear hwa
    obtain ⟨gx, hgx⟩ : ∃ g, g = w1.heap.size := ⟨_, rfl⟩
    rw [← hgx] at BX ⊢
    clear hgx
    obtain ⟨b0, b1, -, -⟩ := id BX
    refine (HTI.out wa ub).mono ?_
    rintro e w2 ⟨rfl, u2⟩
    clear b0 b1
    obtain ⟨b0, b1, -, -⟩ := BX.up u2
    go_wp2_with fail
    refine (HTS.out w2 (ub.trans u2)).mono ?_
    rintro e w3 ⟨rfl, u3⟩
    clear b0 b1
    have a3 := u2.trans u3
    have U3 := u1.trans (ub.trans a3)
    simp only [Cp.p]
    clear HTI HTS u2 u3
    go_wp2_with fail
    refine (drawReadCopy_any A0 l0 c0 0 w.heap.size w3 (hr0'.out.up U3 (Nat.le_refl _)) U3.size hl0).mono ?_
    rintro e w4 ⟨s, rfl, hs, u4⟩
    have a4 := a3.trans u4
    have U4 := U3.trans u4
    have HRI := Lib.hid (fun (wx : World) => implReadCopy_any s wx (by omega))
    have HRS := Lib.hid (fun (wx : World) => specReadCopy_any s wx (by omega))
    have HRF := Lib.hid (fun h => rc_found (s := s) h)
    have hpl := rcP_len' s
    generalize hP : rcP s = P at *
    obtain ⟨pn, pr⟩ := P
    have HP := Lib.hid hP
    have hps : pn.size ≤ 1000 := by
      have h := rcP_nm s
      rw [hP] at h
      exact Nat.le_trans h hs
    have hpr : pr.length ≤ 1000 := Nat.le_trans hpl hs
    clear hP hpl a3 u4 U3
    go_wp2_with fail
    refine (HRI.out w4).mono ?_
    rintro e w5 ⟨y1, rfl, hp1, -, ho1, u5⟩
    obtain ⟨n1, A1, c1, r1⟩ := y1
    simp only [Cp.p, Prod.mk.injEq] at hp1
    obtain ⟨rfl, rfl⟩ := hp1
    have R1 : RdI w5 w4.heap.size w5.heap.size A1 r1 := Rd.own int_len ho1
    have ub5 := Up.alloc w5 (.cells #[.string n1, .slice A1 r1.length c1] 49)
    have B1 := box_cp w5 n1 A1 r1.length c1
    clear ho1
    go_wp2_with fail
    obtain ⟨wb, hwb⟩ : ∃ z, z = w5.alloc (.cells #[.string n1, .slice A1 r1.length c1] 49) := ⟨_, rfl⟩
    rw [← hwb] at ub5 B1 ⊢
    clear hwb
    obtain ⟨g1, hg1⟩ : ∃ g, g = w5.heap.size := ⟨_, rfl⟩
    rw [← hg1] at B1 ⊢
    clear hg1
    have ab := a4.trans (u5.trans ub5)
    have Ub := U4.trans (u5.trans ub5)
    refine (HRS.out wb).mono ?_
    rintro e w6 ⟨y0, rfl, hp0, -, ho0, u6⟩
    obtain ⟨n0, A2, c2, r0⟩ := y0
    simp only [Cp.p, Prod.mk.injEq] at hp0
    obtain ⟨rfl, rfl⟩ := hp0
    have R0 : RdI w6 wb.heap.size w6.heap.size A2 r0 := Rd.own int_len ho0
    have ub6 := Up.alloc w6 (.cells #[.string n0, .slice A2 r0.length c2] 49)
    have B0 := box_cp w6 n0 A2 r0.length c2
    clear ho0 HRI HRS
    go_wp2_with fail
    obtain ⟨wc, hwc⟩ : ∃ z, z = w6.alloc (.cells #[.string n0, .slice A2 r0.length c2] 49) := ⟨_, rfl⟩
    rw [← hwc] at ub6 B0 ⊢
    clear hwc
    obtain ⟨g0, hg0⟩ : ∃ g, g = w6.heap.size := ⟨_, rfl⟩
    rw [← hg0] at B0 ⊢
    clear hg0
    have abc := u6.trans ub6
    have Uc := Ub.trans abc
    have ac := ab.trans abc
    refine (drawCountD_any A0 l0 c0 0 w.heap.size wc (hr0'.out.up Uc (Nat.le_refl _)) Uc.size hl0).mono ?_
    rintro e w7 ⟨vl, L, i, k, rfl, hL, ⟨hi1, hi2, hk1, hk2⟩, u7⟩
    obtain ⟨C, cc, rfl, RL, hf, hl9⟩ := hL.open
    have HDI := Lib.hid (fun (wx : World) (hu : Up w7 wx) (a b : Int) => implCountDiff_any C L cc _ _ a b wx (RL.up hu (Nat.le_refl _)) hu.size hf)
    have HDS := Lib.hid (fun (wx : World) (hu : Up w7 wx) (a b : Int) => specCountDiff_any C L cc _ _ a b wx (RL.up hu (Nat.le_refl _)) hu.size hf)
    clear hL RL hf
    go_wp2_with fail
    refine (HDI.out w7 (Up.refl _) i k).mono ?_
    rintro e w8 ⟨rfl, u8⟩
    go_wp2_with fail
    refine (HDS.out w8 u8 i k).mono ?_
    rintro e w9 ⟨rfl, u9⟩
    have d9 := u8.trans u9
    have c9 := u7.trans d9
    have U9 := Uc.trans c9
    clear HDS u8 u9 u7
    go_wp2_with fail
    refine (drawMajority_any A0 l0 c0 0 w.heap.size w9 (hr0'.out.up U9 (Nat.le_refl _)) U9.size hl0).mono ?_
    rintro e w10 ⟨vm, M, rfl, hM, u10⟩
    obtain ⟨CM, cm, rfl, RM, hfm, hm9⟩ := hM.open
    have HMI := Lib.hid (fun (wx : World) (hu : Up w10 wx) => implMajority_any CM M cm _ _ wx (RM.up hu (Nat.le_refl _)) hu.size hfm)
    have HMS := Lib.hid (fun (wx : World) (hu : Up w10 wx) => specMajority_any CM M cm _ _ wx (RM.up hu (Nat.le_refl _)) hu.size hfm)
    have har := fun (wx : World) (hu : Up w10 wx) => implAre CM M cm _ _ wx (RM.up hu (Nat.le_refl _)) hu.size hfm
    simp only [← mj_ar] at har
    have HAR := Lib.hid har
    clear hM RM hfm har
    go_wp2_with fail
    refine (HMI.out w10 (Up.refl _)).mono ?_
    rintro e w11 ⟨m1, rfl, om1, u11⟩
    obtain ⟨M1, q1, rfl, RM1, hq1, hqm1, -⟩ := own_open int_len om1
    go_wp2_with fail
    refine (HMS.out w11 u11).mono ?_
    rintro e W ⟨m2, rfl, om2, uW⟩
    obtain ⟨M2, q2, rfl, RM2, hq2, hqm2, -⟩ := own_open int_len om2
    have hmm : (mjL (M.map Cp.p)).length ≤ maxLen := Nat.le_trans hq1 hqm1
    have RM1a := RM1.up uW (Nat.le_refl _)
    have HM1 := uW.size
    have eW := u11.trans uW
    have fW := u10.trans eW
    have dW := d9.trans fW
    have cW := c9.trans fW
    have bW := abc.trans cW
    have aW := ab.trans bW
    have UW := Uc.trans cW
    have Z1 := B1.up bW
    have Z0 := B0.up cW
    have R1W := R1.up (ub5.trans bW) (Nat.le_refl _)
    have H1W := (ub5.trans bW).size
    have R0W := R0.up (ub6.trans cW) (Nat.le_refl _)
    have H0W := (ub6.trans cW).size
    have HZ1 := Lib.hid Z1
    have HZ0 := Lib.hid Z0
    have HBX := Lib.hid (BX.up aW)
    have XW := HX.out.up (ub.trans aW) (Nat.le_refl _)
    have HXW := (ub.trans aW).size
    clear om1 om2 HMI HMS u10 u11 uW RM1 B1 B0 R1 R0 BX HX ub ub5 ub6 abc ac ab Uc Ub a4 c9 d9 cW bW aW fW u5 u6 U4 U9
    have hr1m : r0.length ≤ maxLen := by unfold maxLen; omega
    generalize mjE (M.map Cp.p) = me at *
    generalize mjL (M.map Cp.p) = ML at *
    obtain ⟨f0, f1, -, -⟩ := Z1
    obtain ⟨h0, h1, -, -⟩ := Z0
    have hcs := HCS.out
    go_wp2_with fail
    refine (likeInts_any A1 A2 r0 c1 c2 _ _ _ _ W R1W H1W R0W H0W hr1m).mono ?_
    rintro e v1 ⟨rfl, q1u⟩
    clear f0 f1 h0 h1
    go_wp2_with fail
    refine (likeInts_any M1 M2 ML q1 q2 _ _ _ _ v1 (RM1a.up q1u HM1) (Nat.le_trans HM1 q1u.size) (RM2.up q1u (Nat.le_refl _)) q1u.size hmm).mono ?_
    rintro e v2 ⟨rfl, q2u⟩
    have q12 := q1u.trans q2u
    go_wp2_with fail
    refine (HAR.out v2 (eW.trans q12)).mono ?_
    rintro e v3 ⟨rfl, q3u⟩
    have V3 := Lib.hid (q12.trans q3u)
    clear HAR RM1a RM2 HM1 q1u q2u q3u q12 R0W H0W eW
    go_upto_if 146 with fail
    go_cut [25, 26] (fun _ _ wx => ∃ Z : World, Z = wx ∧ Up W Z)
    case first =>
      by_cases hone : rcC s = 0
      · have hb1 : (rcC s == 0) = true := by simpa using hone
        obtain ⟨e1, e2⟩ := HRF.out hone
        have hct := implCopyText_any ⟨n0, A1, c1, r0⟩ _ _ v3 (R1W.up V3.out H1W) (Nat.le_trans H1W V3.out.size) (by show n0.size ≤ maxLen; unfold maxLen; omega) (by show r0.length ≤ 2000000; omega)
        simp only [Cp.p] at hct
        rw [e1, e2] at hct
        have HCT := Lib.hid hct
        obtain ⟨f0, f1, -, -⟩ := HZ1.out.up V3.out
        generalize rcC s = sc at *
        clear hct hone e1 e2 HFD HDI HRF
        go_wp2_with fail
        refine HCT.out.mono ?_
        rintro e v4 ⟨rfl, q4u⟩
        have V4 := V3.out.trans q4u
        clear f0 f1
        go_wp2_with fail
        go_meet
        exact ⟨_, rfl, V4⟩
      · have hb1 : (rcC s == 0) = false := by simpa using hone
        generalize rcC s = sc at *
        clear hone HFD HDI HRF
        go_wp2_with fail
        go_meet
        exact ⟨_, rfl, V3.out⟩
    case rest =>
    obtain ⟨Z, hZ, uZ⟩ := hcut
    subst hZ
    have VZ := Lib.hid uZ
    clear uZ V3 HRF R1W H1W HZ1 HZ0
    go_upto_if 160 with fail
    go_cut [27, 28] (fun _ _ wx => ∃ Y : World, Y = wx ∧ Up W Y)
    case first =>
      by_cases hth : cdB true (L.map Cp.p) [i, k] = 0
      · have hb1 : (cdB true (L.map Cp.p) [i, k] == 0) = true := by simpa using hth
        have hcd := HDI.out Z (dW.trans VZ.out) k i
        rw [cdB_two, hth, cdA_sym hth] at hcd
        have HCD := Lib.hid hcd
        have hself := fun (e : i = k) => show cdA (L.map Cp.p) i k = 0 by rw [e]; exact cdA_self _ _
        have HSELF := Lib.hid hself
        clear hcd hth hself HFD HDI
        generalize cdB true (L.map Cp.p) [i, k] = cb at *
        generalize cdA (L.map Cp.p) i k = ca at *
        go_wp2_with fail
        refine HCD.out.mono ?_
        rintro e v4 ⟨rfl, q4u⟩
        have V4 := VZ.out.trans q4u
        by_cases hik : i = k
        · have h5 : (i == k) = true := by simpa using hik
          have h6 : (ca != 0) = false := by rw [HSELF.out hik]; rfl
          clear hik HSELF HCD
          go_wp2_with fail
          go_meet
          exact ⟨_, rfl, V4⟩
        · have h5 : (i == k) = false := by simpa using hik
          clear hik HSELF HCD
          go_wp2_with fail
          go_meet
          exact ⟨_, rfl, V4⟩
      · have hb1 : (cdB true (L.map Cp.p) [i, k] == 0) = false := by simpa using hth
        generalize cdB true (L.map Cp.p) [i, k] = cb at *
        clear hth HFD HDI
        go_wp2_with fail
        go_meet
        exact ⟨_, rfl, VZ.out⟩
    case rest =>
    obtain ⟨Y, hY, uY⟩ := hcut
    subst hY
    have UY := UW.trans uY
    have XY := XW.up uY HXW
    have HXY := Nat.le_trans HXW uY.size
    have BY := HBX.out.up uY
    clear VZ HDI XW HXW HBX
    by_cases hbad : ctC (xn, xr) = 0
    · have hb1 : (ctC (xn, xr) != 0) = false := by simpa using hbad
      obtain ⟨e1, e2⟩ := HFD.out hbad
      have hri := implReadCopy_any (ctV (xn, xr)) Y (by omega)
      rw [e1, e2] at hri
      have HRI := Lib.hid hri
      clear hri hbad e1 e2 HFD
      generalize ctC (xn, xr) = tc at *
      generalize ctV (xn, xr) = tv at *
      go_wp2_with fail
      refine HRI.out.mono ?_
      rintro e v5 ⟨y3, rfl, hp3, -, ho3, u5⟩
      obtain ⟨n3, A3, c3, r3⟩ := y3
      simp only [Cp.p, Prod.mk.injEq] at hp3
      obtain ⟨hn3, hr3⟩ := hp3
      subst hn3 hr3
      have R3 : RdI v5 Y.heap.size v5.heap.size A3 r3 := Rd.own int_len ho3
      have ub5 := Up.alloc v5 (.cells #[.string n3, .slice A3 r3.length c3] 49)
      have B3 := box_cp v5 n3 A3 r3.length c3
      have BX5 := BY.up (u5.trans ub5)
      have hr3m : r3.length ≤ maxLen := by unfold maxLen; omega
      obtain ⟨f0, f1, -, -⟩ := B3
      obtain ⟨h0, h1, -, -⟩ := BX5
      have HL := Lib.hid (likeInts_any A3 xA r3 c3 xc _ _ _ _ _ (R3.up ub5 (Nat.le_refl _)) ub5.size (XY.up (u5.trans ub5) HXY) (Nat.le_trans HXY (u5.trans ub5).size) hr3m)
      have U5 := UY.trans (u5.trans ub5)
      clear ho3 R3 HRI XY HXY BY
      go_wp2_with fail
      refine HL.out.mono ?_
      rintro e v6 ⟨rfl, u6⟩
      go_wp2
      go_ret
      exact ⟨rfl, U5.trans u6⟩
    · have hb1 : (ctC (xn, xr) != 0) = true := by simpa using hbad
      generalize ctC (xn, xr) = tc at *
      clear hbad HFD
      go_wp2
      go_ret
      exact ⟨rfl, UY⟩
end Go.Proofs.YtncmenfdnpmblaaDoor
