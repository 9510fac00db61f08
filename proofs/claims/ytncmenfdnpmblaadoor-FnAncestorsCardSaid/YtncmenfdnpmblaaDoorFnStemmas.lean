/- FnStemmas, walked. -/
import Derived.Test.YtncmenfdnpmblaaDoorDrawS
import Derived.Test.YtncmenfdnpmblaaDoorFnAncL
import Derived.Test.YtncmenfdnpmblaaDoorLikeI
import Derived.Test.YtncmenfdnpmblaaDoorBig
import Derived.Test.YtncmenfdnpmblaaDoorBestI
import Derived.Test.YtncmenfdnpmblaaDoorStextI
namespace Go.Proofs.YtncmenfdnpmblaaDoor
open Go.RowKit Go.Sort

/-- an owned original, list and row of parents, read in any later world -/
theorem OwnS.open {w w' : World} {vo vl vp : Value} {o : List Int} {L : List Cp} {ps : List Int} (h : OwnS w w' vo o vl L vp ps) : ∃ A c C cc D cd, vo = .slice A o.length c ∧ vl = .slice C L.length cc ∧ vp = .slice D ps.length cd ∧ RdI w' w.heap.size w'.heap.size A o ∧ RdC w' w.heap.size w'.heap.size C L ∧ RdI w' w.heap.size w'.heap.size D ps ∧ Fit L cc ∧ Fine L ∧ o.length ≤ 20 ∧ L.length ≤ 9 ∧ ps.length ≤ 10 ∧ o.length ≤ c ∧ c ≤ maxLen := by
  obtain ⟨⟨T, hF, ho, hl⟩, op, hp⟩ := h
  obtain ⟨A, c, rfl, g1, g2, -⟩ := own_formz T.orig
  obtain ⟨C, cc, rfl, h1, h2, -⟩ := own_formz T.list
  obtain ⟨D, cd, rfl, -, -, -⟩ := own_formz op
  exact ⟨A, c, C, cc, D, cd, rfl, rfl, rfl, Rd.own int_len T.orig, T.rdc, Rd.own int_len op, fit_of hF hl h1 h2, hF, ho, hl, hp, g1, g2⟩
theorem sx_is (P : List PC) (ps : List Int) : isB P ps = (sxC P ps == 0) := by
  unfold sxC; cases isB P ps <;> rfl

set_option maxRecDepth 100000 in
set_option maxHeartbeats 8000000 in
theorem fnStemmas_walk (A0 : Option Addr) (l0 : List UInt8) (c0 : Nat) (w : World) (hr0 : RdY w 0 w.heap.size A0 l0) (_hok0 : True) (hn0 : l0.length ≤ maxLen) :
    Calls Tryd.prog 4 #[.slice A0 l0.length c0] w fun e w' => e = .returned (.bool true) ∧ Up w w' := by
  by_cases hbig : (4096 : Int) < (l0.length : Int)
  · have hb : decide ((4096 : Int) < (l0.length : Int)) = true := by simpa using hbig
    go_enter Tryd.func4, Tryd.ntmps4
    go_wp2_with fail
    refine (big_any A0 l0.length c0 w hn0).mono ?_
    rintro e w' ⟨rfl, rfl⟩
    go_wp2
    go_ret
    exact ⟨rfl, Up.refl _⟩
  · have hb : decide ((4096 : Int) < (l0.length : Int)) = false := by simpa using hbig
    have hl0 : l0.length ≤ 2000000 := by omega
    have hr0' := Lib.hid hr0
    clear hbig
    go_enter Tryd.func4, Tryd.ntmps4
    go_wp2_with fail
    refine (big_any A0 l0.length c0 w hn0).mono ?_
    rintro e w' ⟨rfl, rfl⟩
    go_wp2_with fail
    refine (drawStemmaCost_any A0 l0 c0 0 w.heap.size w hr0 (Nat.le_refl _) hl0).mono ?_
    rintro e w1 ⟨vo, o, vl, L, vp, ps, rfl, hK, u1⟩
    obtain ⟨A, c, C, cc, D, cd, rfl, rfl, rfl, RO, RL, RP, hf, -, ho, hl, hp, -, -⟩ := hK.open
    have hoo : o.length ≤ 2000000 := by omega
    have hpp : ps.length ≤ 2000000 := by omega
    have HCI := Lib.hid (fun (wx : World) (hu : Up w1 wx) => implStemmaCost_any A o c C L cc D ps cd _ _ _ _ _ _ wx (RO.up hu (Nat.le_refl _)) hu.size hoo (RL.up hu (Nat.le_refl _)) hu.size hf (RP.up hu (Nat.le_refl _)) hu.size hpp)
    have HCS := Lib.hid (fun (wx : World) (hu : Up w1 wx) => specStemmaCost_any A o c C L cc D ps cd _ _ _ _ _ _ wx (RO.up hu (Nat.le_refl _)) hu.size hoo (RL.up hu (Nat.le_refl _)) hu.size hf (RP.up hu (Nat.le_refl _)) hu.size hpp)
    have HBI := Lib.hid (fun (wx : World) (hu : Up w1 wx) => implBest_any A o c C L cc _ _ _ _ wx (RO.up hu (Nat.le_refl _)) hu.size hoo (RL.up hu (Nat.le_refl _)) hu.size hf)
    have HBS := Lib.hid (fun (wx : World) (hu : Up w1 wx) => specBest_any A o c C L cc _ _ _ _ wx (RO.up hu (Nat.le_refl _)) hu.size hoo (RL.up hu (Nat.le_refl _)) hu.size hf)
    have HC2 := Lib.hid (fun (wx : World) (hu : Up w1 wx) (E : Option Addr) (qs : List Int) (ce l1 h1 : Nat) (hq : RdI wx l1 h1 E qs) (hh : h1 ≤ wx.heap.size) (hn : qs.length ≤ 2000000) => implStemmaCost_any A o c C L cc E qs ce _ _ _ _ l1 h1 wx (RO.up hu (Nat.le_refl _)) hu.size hoo (RL.up hu (Nat.le_refl _)) hu.size hf hq hh hn)
    have HI2 := Lib.hid (fun (wx : World) (hu : Up w1 wx) (E : Option Addr) (qs : List Int) (ce l1 h1 : Nat) (hq : RdI wx l1 h1 E qs) (hh : h1 ≤ wx.heap.size) (hn : qs.length ≤ 2000000) => implIsStemma_any C L cc E qs ce _ _ l1 h1 wx (RL.up hu (Nat.le_refl _)) hu.size hf hq hh hn)
    have hbl := bc_len o (L.map Cp.p)
    rw [List.length_map] at hbl
    clear hK hr0 RO RL RP hf
    go_wp2_with fail
    refine (HCI.out w1 (Up.refl _)).mono ?_
    rintro e w2 ⟨rfl, u2⟩
    go_wp2_with fail
    refine (HCS.out w2 u2).mono ?_
    rintro e w3 ⟨rfl, u3⟩
    have x3 := u2.trans u3
    clear HCI HCS u2 u3
    go_wp2_with fail
    refine (HBI.out w3 x3).mono ?_
    rintro e w4 ⟨e1, rfl, oe1, u4⟩
    have x4 := x3.trans u4
    obtain ⟨E1, p1, rfl, RE1, hp1, hpm1, -⟩ := own_open int_len oe1
    go_wp2_with fail
    refine (HBS.out w4 x4).mono ?_
    rintro e w5 ⟨e2, rfl, oe2, u5⟩
    have x5 := x4.trans u5
    obtain ⟨E2, p2, rfl, RE2, hp2, hpm2, -⟩ := own_open int_len oe2
    have RE1' := RE1.up u5 (Nat.le_refl _)
    have HE1 := u5.size
    have U5 := u1.trans x5
    clear oe1 oe2 HBI HBS x3 x4 u4 u5 RE1
    go_wp2_with fail
    refine (drawStemmaText_any A0 l0 c0 0 w.heap.size w5 (hr0'.out.up U5 (Nat.le_refl _)) U5.size hl0).mono ?_
    rintro e w6 ⟨vb, ob, vm, M, vq, qs, rfl, hK2, u6⟩
    obtain ⟨AB, cb, CM, cm, DQ, cq, rfl, rfl, rfl, -, RM, RQ, hfm, -, -, hlm, hq, -, -⟩ := hK2.open
    have hqq : qs.length ≤ 2000000 := by omega
    have HTI := Lib.hid (fun (wx : World) (hu : Up w6 wx) => implText_any CM M cm DQ qs cq _ _ _ _ wx (RM.up hu (Nat.le_refl _)) hu.size hfm (RQ.up hu (Nat.le_refl _)) hu.size hqq)
    have HTS := Lib.hid (fun (wx : World) (hu : Up w6 wx) => specText_any CM M cm DQ qs cq _ _ _ _ wx (RM.up hu (Nat.le_refl _)) hu.size hfm (RQ.up hu (Nat.le_refl _)) hu.size hqq)
    have hIS := fun (wx : World) (hu : Up w6 wx) => implIsStemma_any CM M cm DQ qs cq _ _ _ _ wx (RM.up hu (Nat.le_refl _)) hu.size hfm (RQ.up hu (Nat.le_refl _)) hu.size hqq
    simp only [sx_is] at hIS
    have HIS := Lib.hid hIS
    clear hIS hK2 RM RQ hfm
    go_wp2_with fail
    refine (HTI.out w6 (Up.refl _)).mono ?_
    rintro e w7 ⟨rfl, u7⟩
    go_wp2_with fail
    refine (HTS.out w7 u7).mono ?_
    rintro e w8 ⟨rfl, u8⟩
    have y8 := u7.trans u8
    have z8 := u6.trans y8
    have RE1a := RE1'.up z8 HE1
    have RE2a := RE2.up z8 (Nat.le_refl _)
    have HE1a := Nat.le_trans HE1 z8.size
    have HE2a := z8.size
    have X8 := x5.trans z8
    have hm1 : (bcL o (L.map Cp.p)).length ≤ maxLen := Nat.le_trans hp1 hpm1
    have HLAW := Lib.hid (fun h => bs_law (o := o) (P := L.map Cp.p) h)
    have HLEAST := Lib.hid (fun h => bs_least (o := o) (P := L.map Cp.p) (ps := ps) h)
    have hbl9 : (bcL o (L.map Cp.p)).length ≤ 2000000 := by omega
    clear HTI HTS u7 u8 u6 U5 RE1' RE2 HE1 x5 z8
    generalize sxC (M.map Cp.p) qs = tc at *
    generalize sxV (M.map Cp.p) qs = tv at *
    generalize bcL o (L.map Cp.p) = BL at *
    clear hbl
    go_wp2_with fail
    refine (likeInts_any E1 E2 BL p1 p2 _ _ _ _ w8 RE1a HE1a RE2a HE2a hm1).mono ?_
    rintro e w9 ⟨rfl, u9⟩
    go_wp2_with fail
    refine (HIS.out w9 (y8.trans u9)).mono ?_
    rintro e w10 ⟨rfl, u10⟩
    have x10 := X8.trans (u9.trans u10)
    have RE10 := RE1a.up (u9.trans u10) HE1a
    have HE10 := Nat.le_trans HE1a (u9.trans u10).size
    have U10 := u1.trans x10
    clear HIS RE1a RE2a HE1a HE2a u9 u10 X8 y8
    by_cases hbc : bcC o (L.map Cp.p) = 0
    · obtain ⟨hI, hc0, hcv⟩ := HLAW.out hbc
      have hbb : (bcC o (L.map Cp.p) == 0) = true := by simpa using hbc
      have hc2 := HC2.out w10 x10 E1 BL p1 _ _ RE10 HE10 hbl9
      rw [hc0, hcv] at hc2
      have HCC := Lib.hid hc2
      have hi2 := fun (wx : World) (hu : Up w10 wx) => HI2.out wx (x10.trans hu) E1 BL p1 _ _ (RE10.up hu HE10) (Nat.le_trans HE10 hu.size) hbl9
      rw [hI] at hi2
      have HII := Lib.hid hi2
      have HL2 := Lib.hid (fun h => (HLEAST.out h).2)
      clear hI hc0 hcv hc2 hi2 HLAW HLEAST HC2 HI2
      rw [hbc]
      generalize bcC o (L.map Cp.p) = bc at *
      generalize bcV o (L.map Cp.p) = bv at *
      clear hbc
      go_wp2_with fail
      refine HCC.out.mono ?_
      rintro e w11 ⟨rfl, u11⟩
      go_wp2_with fail
      refine (HII.out w11 u11).mono ?_
      rintro e w12 ⟨rfl, u12⟩
      have U12 := U10.trans (u11.trans u12)
      by_cases hsc : scC o (L.map Cp.p) ps = 0
      · have hle := HL2.out hsc
        have hsb : (scC o (L.map Cp.p) ps != 0) = false := by simpa using hsc
        generalize scC o (L.map Cp.p) ps = sc at *
        generalize scV o (L.map Cp.p) ps = sv at *
        have hdl : decide (bv ≤ sv) = true := by simpa using hle
        clear hsc HL2 HCC HII
        go_wp2
        go_ret
        exact ⟨rfl, U12⟩
      · have hsb : (scC o (L.map Cp.p) ps != 0) = true := by simpa using hsc
        generalize scC o (L.map Cp.p) ps = sc at *
        generalize scV o (L.map Cp.p) ps = sv at *
        clear hsc HL2 HCC HII
        go_wp2
        go_ret
        exact ⟨rfl, U12⟩
    · have hbb : (bcC o (L.map Cp.p) == 0) = false := by simpa using hbc
      have hsc : ¬ scC o (L.map Cp.p) ps = 0 := fun h => hbc (HLEAST.out h).1
      have hsb : (scC o (L.map Cp.p) ps != 0) = true := by simpa using hsc
      generalize bcC o (L.map Cp.p) = bc at *
      generalize bcV o (L.map Cp.p) = bv at *
      generalize scC o (L.map Cp.p) ps = sc at *
      generalize scV o (L.map Cp.p) ps = sv at *
      clear hbc hsc HLAW HLEAST HC2 HI2
      go_wp2
      go_ret
      exact ⟨rfl, U10⟩
end Go.Proofs.YtncmenfdnpmblaaDoor
