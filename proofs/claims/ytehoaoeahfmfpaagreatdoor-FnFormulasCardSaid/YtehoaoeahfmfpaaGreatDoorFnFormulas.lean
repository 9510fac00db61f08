/- FnFormulas, walked. -/
import Derived.Test.YtehoaoeahfmfpaaGreatDoorDrawFm
import Derived.Test.YtehoaoeahfmfpaaGreatDoorSpDay
import Derived.Test.YtehoaoeahfmfpaaGreatDoorLikeI
import Derived.Test.YtehoaoeahfmfpaaGreatDoorBig
namespace Go.Proofs.YtehoaoeahfmfpaaGreatDoor
open Go.RowKit Go.Sort

theorem OwnFP.open {w w' : World} {v vp : Value} {L : List Fm} {l : List ByteArray} (h : OwnFP w w' v L vp l) : ∃ A c B cb, v = .slice A L.length c ∧ vp = .slice B l.length cb ∧ RdF w' w.heap.size w'.heap.size A L ∧ RdT w' w.heap.size w'.heap.size B l ∧ (∀ x ∈ L, x.ok) ∧ (∀ x ∈ L, x.ws.length ≤ 2000000) ∧ L.length ≤ 21 ∧ (∀ s ∈ l, s.size ≤ maxLen) ∧ l.length ≤ 64 ∧ l.length ≤ cb := by
  obtain ⟨hst, hsz, hLn, op, hl, hln⟩ := h
  obtain ⟨A, c, rfl, -⟩ := own_form hst.list
  obtain ⟨B, cb, rfl, hcb, -, -⟩ := own_formz op
  exact ⟨A, c, B, cb, rfl, rfl, hst.rdf, Rd.own strC_len op, hsz.oks hst, fun x hx => by have := (hsz x hx).2; omega, hLn, fun s hs => by have := hl s hs; unfold maxLen; omega, hln, hcb⟩
/-- a formula that occurs is found -/
theorem fi_find {P : List ByteArray} {L : List Fm} {z : Int} (h : fiC P (L.map Fm.p) = 0) (hz : z ∈ fiL P (L.map Fm.p)) : ∃ (j : Nat) (x : Fm), z = (j : Int) ∧ j < L.length ∧ L[j]? = some x ∧ ffC P x.p = 0 ∧ 0 < (ffL P x.p).length := by
  have hf : fiB P (L.map Fm.p) = true := by
    rcases h1 : fiB P (L.map Fm.p) with _ | _
    · rw [(fi_1 h1).1] at h; cases h
    · rfl
  rw [(fi_0 hf).2] at hz
  obtain ⟨j, rfl, hj, ho⟩ := occ_mem hz
  rw [List.length_map] at hj
  have hx := List.getElem?_eq_getElem hj
  rw [occB_at hx, decide_eq_true_eq] at ho
  unfold fiB at hf
  rw [Bool.and_eq_true] at hf
  have hfm := afP_fm' hf.1 _ (List.mem_of_getElem? hx)
  have hb : ffB P (L[j]).p = true := by unfold ffB; rw [hf.2, hfm]; rfl
  exact ⟨j, L[j], rfl, hj, hx, by unfold ffC; rw [if_pos hb], by unfold ffL; rw [if_pos hb]; exact ho⟩
theorem len_zero (n : Nat) : (n == 0) = ((n : Int) == 0) := by
  rw [Bool.eq_iff_iff]; simp

set_option maxRecDepth 100000 in
set_option maxHeartbeats 8000000 in
theorem fnFormulas_walk (A0 : Option Addr) (l0 : List UInt8) (c0 : Nat) (w : World) (hr0 : RdY w 0 w.heap.size A0 l0) (_hok0 : True) (hn0 : l0.length ≤ maxLen) :
    Calls Tryz.prog 5 #[.slice A0 l0.length c0] w fun e w' => e = .returned (.bool true) ∧ Up w w' := by
  by_cases hbig : (4096 : Int) < (l0.length : Int)
  · have hb : decide ((4096 : Int) < (l0.length : Int)) = true := by simpa using hbig
    go_enter Tryz.func5, Tryz.ntmps5
    go_wp2_with fail
    refine (big_any A0 l0.length c0 w hn0).mono ?_
    rintro e w' ⟨rfl, rfl⟩
    go_wp2
    go_ret
    exact ⟨rfl, Up.refl _⟩
  · have hb : decide ((4096 : Int) < (l0.length : Int)) = false := by simpa using hbig
    have hl0 : l0.length ≤ 2000000 := by omega
    have hr0' := Lib.hid hr0
    clear hbig
    go_enter Tryz.func5, Tryz.ntmps5
    go_wp2_with fail
    refine (big_any A0 l0.length c0 w hn0).mono ?_
    rintro e w' ⟨rfl, rfl⟩
    go_wp2_with fail
    refine (drawStrange_any A0 l0 c0 0 w.heap.size w hr0 (Nat.le_refl _) hl0).mono ?_
    rintro e w1 ⟨v, L, vp, P, n, rfl, hK, ⟨hn1, hn2⟩, u1⟩
    obtain ⟨A, c, B, cb, rfl, rfl, RL, RP, hok, hws, hL, hP, hPl, hcb⟩ := hK.open
    have hLn : L.length ≤ 2000000 := by omega
    have hPn : P.length ≤ 2000000 := by omega
    have HSI := Lib.hid (fun (wx : World) (hu : Up w1 wx) => implStrangeFormulas_any A B L P c cb _ _ _ _ n wx (RL.up hu (Nat.le_refl _)) hu.size (RP.up hu (Nat.le_refl _)) hu.size hok hws hLn hP hPn hcb)
    have HSS := Lib.hid (fun (wx : World) (hu : Up w1 wx) => specStrangeFormulas_any A B L P c cb _ _ _ _ n wx (RL.up hu (Nat.le_refl _)) hu.size (RP.up hu (Nat.le_refl _)) hu.size hok hws hLn hP hPn hcb)
    have HPI := Lib.hid (fun (wx : World) (hu : Up w1 wx) => implPhraseDays_any A B L P c cb _ _ _ _ wx (RL.up hu (Nat.le_refl _)) hu.size (RP.up hu (Nat.le_refl _)) hu.size hok hws hLn hP hPn hcb)
    have hai := fun (wx : World) (hu : Up w1 wx) => implAreFormulas_any A L c _ _ wx (RL.up hu (Nat.le_refl _)) hu.size hok hws hLn
    have has := fun (wx : World) (hu : Up w1 wx) => specAreFormulas_any A L c _ _ wx (RL.up hu (Nat.le_refl _)) hu.size hok hws hLn
    obtain ⟨ab, hab⟩ : ∃ b, b = afB L := ⟨_, rfl⟩
    rw [← hab] at hai has
    have HAI := Lib.hid hai
    have HAS := Lib.hid has
    have HDAY := Lib.hid (fun h => pd_day (P := P) (ps := L.map Fm.p) (n := n) h)
    have hsl := sg_len P (L.map Fm.p) n
    rw [List.length_map] at hsl
    clear hK hr0 RL RP hok hws hP hai has hab
    go_wp2_with fail
    refine (HSI.out w1 (Up.refl _)).mono ?_
    rintro e w2 ⟨e1, rfl, oe1, u2⟩
    obtain ⟨E1, p1, rfl, RE1, -, -, -⟩ := own_open int_len oe1
    go_wp2_with fail
    refine (HSS.out w2 u2).mono ?_
    rintro e w3 ⟨e2, rfl, oe2, u3⟩
    obtain ⟨E2, p2, rfl, RE2, -, -, -⟩ := own_open int_len oe2
    have x3 := u2.trans u3
    have U3 := u1.trans x3
    have RE1a := RE1.up u3 (Nat.le_refl _)
    have HE1 := u3.size
    clear oe1 oe2 HSI HSS u2 u3 RE1
    go_wp2_with fail
    refine (drawPhraseDays_any A0 l0 c0 0 w.heap.size w3 (hr0'.out.up U3 (Nat.le_refl _)) U3.size hl0).mono ?_
    rintro e w4 ⟨v4, M, vq, Q, rfl, hK2, u4⟩
    obtain ⟨AM, cm, BQ, cq, rfl, rfl, RM, RQ, hokM, hwsM, hM, hQ, hQl, hcq⟩ := hK2.open
    have hMn : M.length ≤ 2000000 := by omega
    have hQn : Q.length ≤ 2000000 := by omega
    have HPD := Lib.hid (fun (wx : World) (hu : Up w4 wx) => implPhraseDays_any AM BQ M Q cm cq _ _ _ _ wx (RM.up hu (Nat.le_refl _)) hu.size (RQ.up hu (Nat.le_refl _)) hu.size hokM hwsM hMn hQ hQn hcq)
    have HPS := Lib.hid (fun (wx : World) (hu : Up w4 wx) => specPhraseDays_any AM BQ M Q cm cq _ _ _ _ wx (RM.up hu (Nat.le_refl _)) hu.size (RQ.up hu (Nat.le_refl _)) hu.size hokM hwsM hMn hQ hQn hcq)
    have HFI := Lib.hid (fun (wx : World) (hu : Up w4 wx) => implFormulasIn_any AM BQ M Q cm cq _ _ _ _ wx (RM.up hu (Nat.le_refl _)) hu.size (RQ.up hu (Nat.le_refl _)) hu.size hokM hwsM hMn hQ hQn hcq)
    have HFS := Lib.hid (fun (wx : World) (hu : Up w4 wx) => specFormulasIn_any AM BQ M Q cm cq _ _ _ _ wx (RM.up hu (Nat.le_refl _)) hu.size (RQ.up hu (Nat.le_refl _)) hu.size hokM hwsM hMn hQ hQn hcq)
    have HFF := Lib.hid (fun (wx : World) (hu : Up w4 wx) (x : Fm) (hx : x ∈ M) => implFindFormula_any BQ Q cq _ _ _ _ x wx (RQ.up hu (Nat.le_refl _)) hu.size hcq ((RM.2 x hx).up hu (Nat.le_refl _)) hu.size hQ (hokM x hx).1 hQn (hwsM x hx))
    have HFIND := Lib.hid (fun (h : fiC Q (M.map Fm.p) = 0) z (hz : z ∈ fiL Q (M.map Fm.p)) => fi_find h hz)
    have HRM := Lib.hid RM
    have hil := fi_len Q (M.map Fm.p)
    rw [List.length_map] at hil
    clear hK2 RM RQ hokM hwsM hQ
    go_wp2_with fail
    refine (HPD.out w4 (Up.refl _)).mono ?_
    rintro e w5 ⟨s1, rfl, os1, u5⟩
    obtain ⟨S1, t1, rfl, RS1, hs1, hsm1, -⟩ := own_open spC_len os1
    go_wp2_with fail
    refine (HPS.out w5 u5).mono ?_
    rintro e w6 ⟨s2, rfl, os2, u6⟩
    obtain ⟨S2, t2, rfl, RS2, -, -, -⟩ := own_open spC_len os2
    have x6 := u5.trans u6
    have RS1a := RS1.up u6 (Nat.le_refl _)
    have HS1 := u6.size
    clear os1 os2 HPD HPS RS1
    go_wp2_with fail
    refine (HFI.out w6 x6).mono ?_
    rintro e w7 ⟨i1, rfl, oi1, u7⟩
    obtain ⟨I1, r1, rfl, RI1, -, -, -⟩ := own_open int_len oi1
    go_wp2_with fail
    refine (HFS.out w7 (x6.trans u7)).mono ?_
    rintro e w8 ⟨i2, rfl, oi2, u8⟩
    obtain ⟨I2, r2, rfl, RI2, -, -, -⟩ := own_open int_len oi2
    have x78 := u7.trans u8
    have x8 := x6.trans x78
    have U8 := U3.trans (u4.trans x8)
    have RI1a := RI1.up u8 (Nat.le_refl _)
    have HI1 := u8.size
    clear oi1 oi2 HFI HFS RI1 u5 u6
    go_wp2_with fail
    refine (drawFindFormula_any A0 l0 c0 0 w.heap.size w8 (hr0'.out.up U8 (Nat.le_refl _)) U8.size hl0).mono ?_
    rintro e w9 ⟨vr, R, y, rfl, ⟨or_, hR, hRl, oy, hy, hyl⟩, u9⟩
    obtain ⟨AR, cr, rfl, hcr, -, -⟩ := own_formz or_
    obtain ⟨yA, yc, yws, yfr, yto⟩ := y
    simp only at oy hy hyl
    have RR : RdT w9 w8.heap.size w9.heap.size AR R := Rd.own strC_len or_
    have RY : RdT w9 w8.heap.size w9.heap.size yA yws := Rd.own strC_len oy
    have hRz : ∀ s ∈ R, s.size ≤ maxLen := fun s hs => by have := hR s hs; unfold maxLen; omega
    have hyz : ∀ s ∈ yws, s.size ≤ maxLen := fun s hs => by have := hy s hs; unfold maxLen; omega
    have hRn : R.length ≤ 2000000 := by omega
    have hyn : yws.length ≤ 2000000 := by omega
    have ub := Up.alloc w9 (.cells #[.slice yA yws.length yc, .int .i64 yfr, .int .i64 yto] 51)
    have bx := box_fmD w9 (.slice yA yws.length yc) yfr yto
    have HF1 := Lib.hid (fun (wx : World) (hu : Up w9 wx) => implFindFormula_any AR R cr _ _ _ _ ⟨yA, yc, yws, yfr, yto⟩ wx (RR.up hu (Nat.le_refl _)) hu.size hcr (RY.up hu (Nat.le_refl _)) hu.size hRz hyz hRn hyn)
    have HF2 := Lib.hid (fun (wx : World) (hu : Up w9 wx) => specFindFormula_any AR R cr _ _ _ _ ⟨yA, yc, yws, yfr, yto⟩ wx (RR.up hu (Nat.le_refl _)) hu.size hcr (RY.up hu (Nat.le_refl _)) hu.size hRz hyz hRn hyn)
    have hfl := ff_len R (Fm.p ⟨yA, yc, yws, yfr, yto⟩)
    clear or_ oy RR RY hRz hyz hR hy
    go_wp2_with fail
    obtain ⟨wa, hwa⟩ : ∃ z, z = w9.alloc (.cells #[.slice yA yws.length yc, .int .i64 yfr, .int .i64 yto] 51) := ⟨_, rfl⟩
    obtain ⟨gy, hgy⟩ : ∃ z, z = w9.heap.size := ⟨_, rfl⟩
    rw [← hwa] at ub bx ⊢
    rw [← hgy] at bx ⊢
    obtain ⟨b0, b1, b2⟩ := id bx
    clear hwa hgy
    refine (HF1.out wa ub).mono ?_
    rintro e w10 ⟨f1, rfl, of1, u10⟩
    obtain ⟨F1, q1, rfl, RF1, -, -, -⟩ := own_open int_len of1
    clear b0 b1 b2
    have d0 := u10.cell bx.1
    have d1 := u10.cell bx.2.1
    have d2 := u10.cell bx.2.2
    go_wp2_with fail
    refine (HF2.out w10 (ub.trans u10)).mono ?_
    rintro e W ⟨f2, rfl, of2, uW⟩
    obtain ⟨F2, q2, rfl, RF2, -, -, -⟩ := own_open int_len of2
    clear d0 d1 d2 bx of1 of2 HF1 HF2
    -- all at W
    have y9 := u9.trans (ub.trans (u10.trans uW))
    have y8 := x8.trans y9
    have y3 := u4.trans y8
    have y1 := x3.trans y3
    have UW := u1.trans y1
    have hm1 : (sgL P (L.map Fm.p) n).length ≤ maxLen := by unfold maxLen; omega
    have hm2 : (fiL Q (M.map Fm.p)).length ≤ maxLen := by unfold maxLen; omega
    have hm3 : (ffL R (Fm.p ⟨yA, yc, yws, yfr, yto⟩)).length ≤ maxLen := by unfold maxLen; omega
    have hm4 : (pdS Q (M.map Fm.p)).length ≤ 2000000 := by
      unfold pdS; split
      · rename_i hf; have := (pd_set hf).2; omega
      · simp
    have A1 := RE1a.up y3 HE1
    have B1 := Nat.le_trans HE1 y3.size
    have A2 := RE2.up y3 (Nat.le_refl _)
    have B2 := y3.size
    have A3 := RS1a.up (x78.trans y9) HS1
    have B3 := Nat.le_trans HS1 (x78.trans y9).size
    have A4 := RS2.up (x78.trans y9) (Nat.le_refl _)
    have B4 := (x78.trans y9).size
    have A5 := RI1a.up y9 HI1
    have B5 := Nat.le_trans HI1 y9.size
    have A6 := RI2.up y9 (Nat.le_refl _)
    have B6 := y9.size
    have A7 := RF1.up uW (Nat.le_refl _)
    have B7 := uW.size
    clear RE1a RE2 RS1a RS2 RI1a RI2 RF1 HE1 HS1 HI1 u9 ub u10 uW x78 x8 u4 x3 U3 U8 u7 u8 x6
    generalize ffL R (Fm.p ⟨yA, yc, yws, yfr, yto⟩) = FL at *
    generalize ffC R (Fm.p ⟨yA, yc, yws, yfr, yto⟩) = fc at *
    generalize pdS Q (M.map Fm.p) = PS at *
    go_wp2_with fail
    refine (likeInts_any E1 E2 _ p1 p2 _ _ _ _ W A1 B1 A2 B2 hm1).mono ?_
    rintro e v1 ⟨rfl, k1⟩
    go_wp2_with fail
    refine (likeSpans_any S1 S2 PS t1 t2 _ _ _ _ v1 (A3.up k1 B3) (Nat.le_trans B3 k1.size) (A4.up k1 B4) (Nat.le_trans B4 k1.size) hm4).mono ?_
    rintro e v2 ⟨rfl, k2⟩
    have k12 := k1.trans k2
    go_wp2_with fail
    refine (likeInts_any I1 I2 _ r1 r2 _ _ _ _ v2 (A5.up k12 B5) (Nat.le_trans B5 k12.size) (A6.up k12 B6) (Nat.le_trans B6 k12.size) hm2).mono ?_
    rintro e v3 ⟨rfl, k3⟩
    have k13 := k12.trans k3
    go_wp2_with fail
    refine (likeInts_any F1 F2 FL q1 q2 _ _ _ _ v3 (A7.up k13 B7) (Nat.le_trans B7 k13.size) (RF2.up k13 (Nat.le_refl _)) k13.size hm3).mono ?_
    rintro e v4 ⟨rfl, k4⟩
    have k14 := k13.trans k4
    go_wp2_with fail
    refine (HAI.out v4 (y1.trans k14)).mono ?_
    rintro e v5 ⟨rfl, k5⟩
    have k15 := k14.trans k5
    go_wp2_with fail
    refine (HAS.out v5 (y1.trans k15)).mono ?_
    rintro e V ⟨rfl, k6⟩
    have kV := k15.trans k6
    have RX := A1.up kV B1
    have HX := Nat.le_trans B1 kV.size
    have RIN := A5.up kV B5
    have HIN := Nat.le_trans B5 kV.size
    have yV1 := y1.trans kV
    have yV4 := y8.trans kV
    have UV := UW.trans kV
    clear A1 A2 A3 A4 A5 A6 A7 RF2 B1 B2 B3 B4 B5 B6 B7 k1 k2 k3 k4 k5 k6 k12 k13 k14 k15 y1 y3 y8 y9 UW HAI HAS kV
    generalize hIL : fiL Q (M.map Fm.p) = IL at *
    generalize hIC : fiC Q (M.map Fm.p) = ic at *
    have HIL := Lib.hid hIL
    clear hIL hIC
    go_wp2_with fail
    go_loopw [26, 27, 28] (fun x _ _ wr => ∃ q : Nat, q ≤ IL.length ∧ x = .int .i64 q ∧ Up V wr) (fun x _ _ _ => IL.length - (intOf x).toNat)
    case atStart => exact ⟨0, Nat.zero_le _, rfl, Up.refl _⟩
    case round =>
      obtain ⟨q, hq, rfl, hup⟩ := hrel
      by_cases hgo : ic = 0 ∧ q < IL.length
      case pos =>
        obtain ⟨hz0, hql⟩ := hgo
        have hzb : (ic == 0) = true := by simpa using hz0
        obtain ⟨b, off, z, rfl, -, -, hz, q0⟩ := (RIN.up hup HIN).int hql
        obtain ⟨j, x, rfl, hj, hx, hc0, hc1⟩ := HFIND.out hz0 z (List.mem_of_getElem? hz)
        have hcall := HFF.out wr (yV4.trans hup) x (List.mem_of_getElem? hx)
        rw [hc0] at hcall
        obtain ⟨b', off', x', rfl, -, -, hx', -, m0, m1, m2⟩ := (HRM.out.up (yV4.trans hup) (Nat.le_refl _)).at_ hj
        rw [hx] at hx'
        cases hx'
        have hjI : (j : Int) < (M.length : Int) := by omega
        have hne : ((ffL Q x.p).length : Int) ≠ 0 := by omega
        have hneb : (((ffL Q x.p).length : Int) == 0) = false := by rw [beq_eq_false_iff_ne]; exact hne
        generalize ffL Q x.p = XL at *
        have HC := Lib.hid hcall
        clear hcall hz hx hc0 hc1 hz0 hne
        go_wp2_with fail
        refine HC.out.mono ?_
        rintro e w20 ⟨v20, rfl, o20, u20⟩
        obtain ⟨A20, c20, rfl, -, -, -⟩ := own_formz o20
        clear o20 q0 m0 m1 m2
        go_wp2
        go_roundw
        case rel => exact ⟨q + 1, by omega, by go_num, hup.trans u20⟩
        case measure => simp [intOf]; omega
      case neg =>
        obtain ⟨wq, rfl⟩ : ∃ x, x = wr := ⟨_, rfl⟩
        have UQ := UV.trans hup
        have yQ := yV1.trans hup
        have hzz : (ic == 0) = false ∨ ((ic == 0) = true ∧ ¬ q < IL.length) := by
          by_cases h : ic = 0
          · exact .inr ⟨by simpa using h, fun h2 => hgo ⟨h, h2⟩⟩
          · exact .inl (by simpa using h)
        have HZZ := Lib.hid hzz
        clear hzz hgo HFIND HFF HRM RIN HIN HIL
        by_cases hsc : sgC P (L.map Fm.p) n = 0
        case neg =>
          have hsb : (sgC P (L.map Fm.p) n != 0) = true := by simpa using hsc
          generalize sgC P (L.map Fm.p) n = sc at *
          clear hsc
          rcases HZZ.out with hzb | ⟨hzb, hql⟩
          · go_wp2
            go_ret
            exact ⟨rfl, UQ⟩
          · go_wp2
            go_ret
            exact ⟨rfl, UQ⟩
        case pos =>
          have hsb : (sgC P (L.map Fm.p) n != 0) = false := by simpa using hsc
          obtain ⟨h1, h2, h3, h4, h5⟩ := HDAY.out hsc
          have hpd := HPI.out wq yQ
          rw [h1] at hpd
          rw [len_zero] at h5
          have HD := Lib.hid (And.intro h2 (And.intro h3 (And.intro h4 h5)))
          have HPD := Lib.hid hpd
          clear h1 h2 h3 h4 h5 hpd hsc HDAY HPI
          generalize sgC P (L.map Fm.p) n = sc at *
          generalize sgL P (L.map Fm.p) n = SL at *
          generalize pdS P (L.map Fm.p) = DL at *
          rcases HZZ.out with hzb | ⟨hzb, hql⟩
          all_goals
            go_wp2_with fail
            refine HPD.out.mono ?_
            rintro e w30 ⟨d1, rfl, od1, u30⟩
            obtain ⟨D1, z1, rfl, RD, -, -, -⟩ := own_open spC_len od1
            have hday := hasDay_yes D1 DL z1 _ _ n w30 RD (Nat.le_refl _) HD.out.2.2.1 HD.out.2.1 HD.out.1
            rw [HD.out.2.2.2] at hday
            have HDY := Lib.hid hday
            have U30 := UQ.trans u30
            clear od1 RD hday
            go_wp2_with fail
            refine HDY.out.mono ?_
            rintro e w31 ⟨rfl, u31⟩
            go_wp2
            go_ret
            exact ⟨rfl, U30.trans u31⟩
end Go.Proofs.YtehoaoeahfmfpaaGreatDoor
