/- FnAncestors, walked. -/
import Derived.Test.YtncmenfdnpmblaaDoorFnStemmas
import Derived.Test.YtncmenfdnpmblaaDoorHasI
namespace Go.Proofs.YtncmenfdnpmblaaDoor
open Go.RowKit Go.Sort

theorem hasB_mem {l : List Int} {z : Int} (h : z ∈ l) : hasB l z = true := by simp [hasB, h]

set_option maxRecDepth 100000 in
set_option maxHeartbeats 8000000 in
theorem fnAncestors_walk (A0 : Option Addr) (l0 : List UInt8) (c0 : Nat) (w : World) (hr0 : RdY w 0 w.heap.size A0 l0) (_hok0 : True) (hn0 : l0.length ≤ maxLen) :
    Calls Tryd.prog 3 #[.slice A0 l0.length c0] w fun e w' => e = .returned (.bool true) ∧ Up w w' := by
  by_cases hbig : (4096 : Int) < (l0.length : Int)
  · have hb : decide ((4096 : Int) < (l0.length : Int)) = true := by simpa using hbig
    go_enter Tryd.func3, Tryd.ntmps3
    go_wp2_with fail
    refine (big_any A0 l0.length c0 w hn0).mono ?_
    rintro e w' ⟨rfl, rfl⟩
    go_wp2
    go_ret
    exact ⟨rfl, Up.refl _⟩
  · have hb : decide ((4096 : Int) < (l0.length : Int)) = false := by simpa using hbig
    have hl0 : l0.length ≤ 2000000 := by omega
    have hr0' := Lib.hid hr0
    clear hbig
    go_enter Tryd.func3, Tryd.ntmps3
    go_wp2_with fail
    refine (big_any A0 l0.length c0 w hn0).mono ?_
    rintro e w' ⟨rfl, rfl⟩
    go_wp2_with fail
    refine (drawCommonA_any A0 l0 c0 0 w.heap.size w hr0 (Nat.le_refl _) hl0).mono ?_
    rintro e w1 ⟨vo, o, vl, L, vp, ps, i, k, rfl, hK, ⟨hi1, hi2, hk1, hk2⟩, u1⟩
    obtain ⟨A, c, C, cc, D, cd, rfl, rfl, rfl, -, RL, RP, hf, -, -, hl, hp, -, -⟩ := hK.open
    have hpp : ps.length ≤ 2000000 := by omega
    have HAI := Lib.hid (fun (wx : World) (hu : Up w1 wx) (a b : Int) => implCommonA_any C L cc D ps cd _ _ _ _ a b wx (RL.up hu (Nat.le_refl _)) hu.size hf (RP.up hu (Nat.le_refl _)) hu.size hpp)
    have HAS := Lib.hid (fun (wx : World) (hu : Up w1 wx) (a b : Int) => specCommonA_any C L cc D ps cd _ _ _ _ a b wx (RL.up hu (Nat.le_refl _)) hu.size hf (RP.up hu (Nat.le_refl _)) hu.size hpp)
    have HNI := Lib.hid (fun (wx : World) (hu : Up w1 wx) (a : Int) => implAncestors_any C L cc D ps cd _ _ _ _ a wx (RL.up hu (Nat.le_refl _)) hu.size hf (RP.up hu (Nat.le_refl _)) hu.size hpp)
    have HNS := Lib.hid (fun (wx : World) (hu : Up w1 wx) (a : Int) => specAncestors_any C L cc D ps cd _ _ _ _ a wx (RL.up hu (Nat.le_refl _)) hu.size hf (RP.up hu (Nat.le_refl _)) hu.size hpp)
    have HDI := Lib.hid (fun (wx : World) (hu : Up w1 wx) => implDepth_any C L cc D ps cd _ _ _ _ wx (RL.up hu (Nat.le_refl _)) hu.size hf (RP.up hu (Nat.le_refl _)) hu.size hpp)
    have HDS := Lib.hid (fun (wx : World) (hu : Up w1 wx) => specDepth_any C L cc D ps cd _ _ _ _ wx (RL.up hu (Nat.le_refl _)) hu.size hf (RP.up hu (Nat.le_refl _)) hu.size hpp)
    have HLT := Lib.hid (fun h => ao_lt (P := L.map Cp.p) (ps := ps) (i := i) h)
    have HCA := Lib.hid (fun h => ca_law (P := L.map Cp.p) (ps := ps) (i := i) (k := k) h)
    have hal := fun a => ao_len (L.map Cp.p) ps a
    clear hK hr0 RL RP hf
    go_wp2_with fail
    refine (HAI.out w1 (Up.refl _) i k).mono ?_
    rintro e w2 ⟨rfl, u2⟩
    go_wp2_with fail
    refine (HAS.out w2 u2 i k).mono ?_
    rintro e w3 ⟨rfl, u3⟩
    have x3 := u2.trans u3
    clear u2 u3 HAS
    go_wp2_with fail
    refine (HNI.out w3 x3 i).mono ?_
    rintro e w4 ⟨e1, rfl, oe1, u4⟩
    have x4 := x3.trans u4
    obtain ⟨E1, p1, rfl, RE1, hp1, hpm1, -⟩ := own_open int_len oe1
    go_wp2_with fail
    refine (HNS.out w4 x4 i).mono ?_
    rintro e w5 ⟨e2, rfl, oe2, u5⟩
    have x5 := x4.trans u5
    obtain ⟨E2, p2, rfl, RE2, hp2, hpm2, -⟩ := own_open int_len oe2
    clear oe1 oe2 x3 x4 u4 HNS
    go_wp2_with fail
    refine (HDI.out w5 x5).mono ?_
    rintro e w6 ⟨rfl, u6⟩
    go_wp2_with fail
    refine (HDS.out w6 (x5.trans u6)).mono ?_
    rintro e w7 ⟨rfl, u7⟩
    have u57 := u6.trans u7
    have x7 := x5.trans u57
    have U7 := u1.trans x7
    have RE1a := RE1.up (u5.trans u57) (Nat.le_refl _)
    have HE1 := (u5.trans u57).size
    have RE2a := RE2.up u57 (Nat.le_refl _)
    have HE2 := u57.size
    clear HDI HDS u6 u7 u57 RE1 RE2 u5 x5
    go_wp2_with fail
    refine (drawChangesOn_any A0 l0 c0 0 w.heap.size w7 (hr0'.out.up U7 (Nat.le_refl _)) U7.size hl0).mono ?_
    rintro e w8 ⟨vb, ob, vm, M, vq, qs, m, rfl, hK2, ⟨hm1, hm2⟩, u8⟩
    obtain ⟨AB, cb, CM, cm, DQ, cq, rfl, rfl, rfl, ROB, RM, RQ, hfm, hFM, hob, hlm, hq, hc1, hc2⟩ := hK2.open
    have hqq : qs.length ≤ 2000000 := by omega
    have hobb : ob.length ≤ 2000000 := by omega
    have HGI := Lib.hid (fun (wx : World) (hu : Up w8 wx) (a : Int) => implChanges_any AB ob cb CM M cm DQ qs cq _ _ _ _ _ _ a wx (ROB.up hu (Nat.le_refl _)) hu.size hobb (RM.up hu (Nat.le_refl _)) hu.size hfm (RQ.up hu (Nat.le_refl _)) hu.size hqq)
    have HGS := Lib.hid (fun (wx : World) (hu : Up w8 wx) (a : Int) => specChanges_any AB ob cb CM M cm DQ qs cq _ _ _ _ _ _ a wx (ROB.up hu (Nat.le_refl _)) hu.size hobb hc1 hc2 (RM.up hu (Nat.le_refl _)) hu.size hfm (fun d hd => (hFM d hd).1) (RQ.up hu (Nat.le_refl _)) hu.size hqq)
    have HSC := Lib.hid (fun (wx : World) (hu : Up w8 wx) => implStemmaCost_any AB ob cb CM M cm DQ qs cq _ _ _ _ _ _ wx (ROB.up hu (Nat.le_refl _)) hu.size hobb (RM.up hu (Nat.le_refl _)) hu.size hfm (RQ.up hu (Nat.le_refl _)) hu.size hqq)
    have hgl := fun a => cg_len ob (M.map Cp.p) qs a
    have hcs := fun a => cs_le ob (M.map Cp.p) qs a
    clear hK2 ROB RM RQ hfm hFM hc1 hc2
    go_wp2_with fail
    refine (HGI.out w8 (Up.refl _) m).mono ?_
    rintro e w9 ⟨g1, rfl, og1, u9⟩
    obtain ⟨G1, s1, rfl, RG1, hs1, hsm1, -⟩ := own_open int_len og1
    go_wp2_with fail
    refine (HGS.out w9 u9 m).mono ?_
    rintro e W ⟨g2, rfl, og2, uW⟩
    obtain ⟨G2, s2, rfl, RG2, hs2, hsm2, -⟩ := own_open int_len og2
    have x8 := u9.trans uW
    have x78 := u8.trans x8
    have xW := x7.trans x78
    have RA := RE1a.up x78 HE1
    have HA := Nat.le_trans HE1 x78.size
    have RB := RE2a.up x78 HE2
    have HB := Nat.le_trans HE2 x78.size
    have RC := RG1.up uW (Nat.le_refl _)
    have HC := uW.size
    have hma : (aoL (L.map Cp.p) ps i).length ≤ maxLen := Nat.le_trans hp1 hpm1
    have hmc : (cgL ob (M.map Cp.p) qs m).length ≤ maxLen := Nat.le_trans hs1 hsm1
    have hal2 := hal i
    clear og1 og2 HGS u9 uW RE1a RE2a HE1 HE2 RG1 x7 x78 u8 U7
    go_wp2_with fail
    refine (likeInts_any E1 E2 (aoL (L.map Cp.p) ps i) p1 p2 _ _ _ _ W RA HA RB HB hma).mono ?_
    rintro e w10 ⟨rfl, u10⟩
    go_wp2_with fail
    refine (likeInts_any G1 G2 (cgL ob (M.map Cp.p) qs m) s1 s2 _ _ _ _ w10 (RC.up u10 HC) (Nat.le_trans HC u10.size) (RG2.up u10 (Nat.le_refl _)) u10.size hmc).mono ?_
    rintro e w11 ⟨rfl, u11⟩
    have H11 := Lib.hid (u10.trans u11)
    clear RB HB RC HC RG2 u10 u11
    go_upto_region 15 with fail
    go_cut [158] (fun v wx => ∃ Z : World, Z = wx ∧ v = .bool false ∧ Up W Z)
    case first =>
      by_cases h : aoC (L.map Cp.p) ps i = 0
      · have hb1 : (aoC (L.map Cp.p) ps i == 0) = true := by simpa using h
        have hlt := HLT.out h
        have hd : decide (sdV (L.map Cp.p) ps ≤ ((aoL (L.map Cp.p) ps i).length : Int)) = false := by simpa using hlt
        clear h hlt HLT HCA
        generalize aoC (L.map Cp.p) ps i = ac at *
        generalize aoL (L.map Cp.p) ps i = al at *
        generalize sdV (L.map Cp.p) ps = sd at *
        go_wp2_with fail
        go_meet
        exact ⟨_, rfl, rfl, H11.out⟩
      · have hb1 : (aoC (L.map Cp.p) ps i == 0) = false := by simpa using h
        clear h HLT HCA
        generalize aoC (L.map Cp.p) ps i = ac at *
        go_wp2_with fail
        go_meet
        exact ⟨_, rfl, rfl, H11.out⟩
    case rest =>
    obtain ⟨Z, hZ, rfl, uZ⟩ := hcut
    subst hZ
    have HZ := Lib.hid uZ
    clear H11 HLT uZ
    go_upto_if 160 with fail
    go_cut [27, 28, 29, 30, 31, 32] (fun _ _ _ _ _ _ wx => ∃ Y : World, Y = wx ∧ Up W Y)
    case first =>
      by_cases hcg : cgC ob (M.map Cp.p) qs m = 0
      · have hcb : (cgC ob (M.map Cp.p) qs m == 0) = true := by simpa using hcg
        have HALL := Lib.hid (fun (y : Nat) (hy : y < M.length) => cg_all hcg y (by rw [List.length_map]; exact hy))
        have hsc := cg_sc hcg
        rw [List.length_map] at hsc
        have hcost := fun (wx : World) (hu : Up W wx) => HSC.out wx (x8.trans hu)
        rw [hsc.1, hsc.2] at hcost
        have HCOST := Lib.hid hcost
        clear hsc hcost hcg HSC HCA
        generalize cgC ob (M.map Cp.p) qs m = cg at *
        go_wp2_with fail
        simp only [hcb]
        go_loopw [27, 28, 29, 30] (fun t y _ _ wr => ∃ j : Nat, j ≤ M.length ∧ y = .int .i64 j ∧ t = .int .i64 ((csN ob (M.map Cp.p) qs j : Nat) : Int) ∧ Up W wr) (fun _ y _ _ _ => M.length - (intOf y).toNat)
        case atStart => exact ⟨0, Nat.zero_le _, rfl, rfl, HZ.out⟩
        case round =>
          obtain ⟨j, hj, rfl, rfl, hup⟩ := hrel
          by_cases hjl : j < M.length
          · have hc0 := HALL.out j hjl
            have hsum := cg_sum hc0
            have hcall := HGI.out wr (x8.trans hup) (j : Int)
            have hle := hcs j
            have hle2 : csN ob (M.map Cp.p) qs j ≤ 200 := Nat.le_trans hle (Nat.le_trans (Nat.mul_le_mul hob (show j ≤ 10 by omega)) (by decide))
            have hlen := hgl (j : Int)
            rw [hc0] at hcall
            have HS := Lib.hid hsum
            generalize cgL ob (M.map Cp.p) qs (j : Int) = CL at *
            generalize csN ob (M.map Cp.p) qs j = t at *
            have HCALL := Lib.hid hcall
            clear hcall hsum hc0 hle
            go_wp2_with fail
            refine HCALL.out.mono ?_
            rintro e w20 ⟨v20, rfl, o20, u20⟩
            obtain ⟨A20, c20, rfl, -, -, -⟩ := own_formz o20
            clear o20
            go_wp2
            go_roundw
            case rel =>
              first
                | exact ⟨j + 1, by omega, (show Value.int .i64 ((j : Int) + 1) = .int .i64 ((j + 1 : Nat) : Int) by go_num), (show Value.int .i64 ((t : Int) + (CL.length : Int)) = .int .i64 ((csN ob (M.map Cp.p) qs (j + 1) : Nat) : Int) by rw [HS.out]; go_num), hup.trans u20⟩
                | exact ⟨_, _, _, _, _, _, _, _, _, _, _, _, _, _, _, _, _, _, _, _, ⟨j + 1, by omega, (show Value.int .i64 ((j : Int) + 1) = .int .i64 ((j + 1 : Nat) : Int) by go_num), (show Value.int .i64 ((t : Int) + (CL.length : Int)) = .int .i64 ((csN ob (M.map Cp.p) qs (j + 1) : Nat) : Int) by rw [HS.out]; go_num), hup.trans u20⟩, rfl⟩
                | exact ⟨_, _, _, _, _, _, _, _, _, _, _, _, _, _, _, _, _, _, _, _, _, ⟨j + 1, by omega, (show Value.int .i64 ((j : Int) + 1) = .int .i64 ((j + 1 : Nat) : Int) by go_num), (show Value.int .i64 ((t : Int) + (CL.length : Int)) = .int .i64 ((csN ob (M.map Cp.p) qs (j + 1) : Nat) : Int) by rw [HS.out]; go_num), hup.trans u20⟩, rfl⟩
                | exact ⟨_, _, _, _, _, _, _, _, _, _, _, _, _, _, _, _, _, _, _, _, _, _, ⟨j + 1, by omega, (show Value.int .i64 ((j : Int) + 1) = .int .i64 ((j + 1 : Nat) : Int) by go_num), (show Value.int .i64 ((t : Int) + (CL.length : Int)) = .int .i64 ((csN ob (M.map Cp.p) qs (j + 1) : Nat) : Int) by rw [HS.out]; go_num), hup.trans u20⟩, rfl⟩
                | exact ⟨_, _, _, _, _, _, _, _, _, _, _, _, _, _, _, _, _, _, _, _, _, _, _, ⟨j + 1, by omega, (show Value.int .i64 ((j : Int) + 1) = .int .i64 ((j + 1 : Nat) : Int) by go_num), (show Value.int .i64 ((t : Int) + (CL.length : Int)) = .int .i64 ((csN ob (M.map Cp.p) qs (j + 1) : Nat) : Int) by rw [HS.out]; go_num), hup.trans u20⟩, rfl⟩
                | exact ⟨_, _, _, _, _, _, _, _, _, _, _, _, _, _, _, _, _, _, _, _, _, _, _, _, ⟨j + 1, by omega, (show Value.int .i64 ((j : Int) + 1) = .int .i64 ((j + 1 : Nat) : Int) by go_num), (show Value.int .i64 ((t : Int) + (CL.length : Int)) = .int .i64 ((csN ob (M.map Cp.p) qs (j + 1) : Nat) : Int) by rw [HS.out]; go_num), hup.trans u20⟩, rfl⟩
                | exact ⟨_, _, _, _, _, _, _, _, _, _, _, _, _, _, _, _, _, _, _, _, _, _, _, _, _, ⟨j + 1, by omega, (show Value.int .i64 ((j : Int) + 1) = .int .i64 ((j + 1 : Nat) : Int) by go_num), (show Value.int .i64 ((t : Int) + (CL.length : Int)) = .int .i64 ((csN ob (M.map Cp.p) qs (j + 1) : Nat) : Int) by rw [HS.out]; go_num), hup.trans u20⟩, rfl⟩
            case measure => simp [intOf]; omega
          · obtain rfl : j = M.length := by omega
            have hle := hcs M.length
            have hle2 : csN ob (M.map Cp.p) qs M.length ≤ 200 := Nat.le_trans hle (Nat.le_trans (Nat.mul_le_mul hob (show M.length ≤ 10 by omega)) (by decide))
            have hcall := HCOST.out wr hup
            generalize csN ob (M.map Cp.p) qs M.length = t at *
            have HCALL := Lib.hid hcall
            clear hcall hle
            go_wp2_with fail
            refine HCALL.out.mono ?_
            rintro e w20 ⟨rfl, u20⟩
            have U20 := hup.trans u20
            go_wp2_with fail
            go_meet
            exact ⟨_, rfl, U20⟩
      · have hcb : (cgC ob (M.map Cp.p) qs m == 0) = false := by simpa using hcg
        clear hcg HCA
        generalize cgC ob (M.map Cp.p) qs m = cg at *
        go_wp2_with fail
        go_meet
        exact ⟨_, rfl, HZ.out⟩
    case rest =>
    obtain ⟨Y, hY, uY⟩ := hcut
    subst hY
    have xY := xW.trans uY
    have UY := u1.trans xY
    clear HZ HGI HSC hgl hcs
    by_cases hca : caC (L.map Cp.p) ps i k = 0
    · have hcb : (caC (L.map Cp.p) ps i k != 0) = false := by simpa using hca
      obtain ⟨h1, h2, h3, h4, h5⟩ := HCA.out hca
      have hbk := fun (wx : World) (hu : Up Y wx) => HAI.out wx (xY.trans hu) k i
      rw [h1, h2] at hbk
      have HBK := Lib.hid hbk
      have hot := fun (wx : World) (hu : Up Y wx) => HNI.out wx (xY.trans hu) k
      rw [h4] at hot
      have HOT := Lib.hid hot
      have RAY := RA.up uY HA
      have HAY := Nat.le_trans HA uY.size
      have hlk := hal k
      have H5 := Lib.hid h5
      clear HCA HAI HNI hbk hot h1 h2 h3 h4 h5 RA HA hca
      generalize caC (L.map Cp.p) ps i k = cav at *
      generalize caV (L.map Cp.p) ps i k = x at *
      generalize aoL (L.map Cp.p) ps i = AL at *
      generalize aoL (L.map Cp.p) ps k = AK at *
      have hAL : AL.length ≤ 2000000 := by omega
      have hAK : AK.length ≤ 2000000 := by omega
      go_wp2_with fail
      refine (HBK.out Y (Up.refl _)).mono ?_
      rintro e w20 ⟨rfl, u20⟩
      go_wp2_with fail
      refine (HOT.out w20 u20).mono ?_
      rintro e w21 ⟨v21, rfl, o21, u21⟩
      obtain ⟨A21, c21, rfl, R21, -, -, -⟩ := own_open int_len o21
      have y21 := u20.trans u21
      have U21 := UY.trans y21
      have RA2 := RAY.up y21 HAY
      have HA2 := Nat.le_trans HAY y21.size
      clear o21 RAY HAY HBK HOT
      by_cases hx : x = -1
      · have hxb : (x == -1) = true := by simpa using hx
        clear hx
        go_wp2
        go_ret
        exact ⟨rfl, U21⟩
      · have hxb : (x == -1) = false := by simpa using hx
        obtain ⟨h6, h7⟩ := H5.out.resolve_left hx
        clear hx H5
        by_cases hxi : x = i
        · have hxib : (x == i) = true := by simpa using hxi
          clear hxi h6
          by_cases hxk : x = k
          · have hxkb : (x == k) = true := by simpa using hxk
            clear hxk h7
            go_wp2
            go_ret
            exact ⟨rfl, U21⟩
          · have hxkb : (x == k) = false := by simpa using hxk
            have hh := hasInt_any A21 AK c21 _ _ x w21 R21 (Nat.le_refl _) hAK
            rw [hasB_mem (h7.resolve_left hxk)] at hh
            have HH := Lib.hid hh
            clear hh hxk h7
            go_wp2_with fail
            refine HH.out.mono ?_
            rintro e w22 ⟨rfl, u22⟩
            go_wp2
            go_ret
            exact ⟨rfl, U21.trans u22⟩
        · have hxib : (x == i) = false := by simpa using hxi
          have hh := hasInt_any E1 AL p1 _ _ x w21 RA2 HA2 hAL
          rw [hasB_mem (h6.resolve_left hxi)] at hh
          have HH := Lib.hid hh
          clear hh hxi h6
          by_cases hxk : x = k
          · have hxkb : (x == k) = true := by simpa using hxk
            clear hxk h7
            go_wp2_with fail
            refine HH.out.mono ?_
            rintro e w22 ⟨rfl, u22⟩
            go_wp2
            go_ret
            exact ⟨rfl, U21.trans u22⟩
          · have hxkb : (x == k) = false := by simpa using hxk
            have hh2 := fun (wx : World) (hu : Up w21 wx) => hasInt_any A21 AK c21 _ _ x wx (R21.up hu (Nat.le_refl _)) hu.size hAK
            rw [hasB_mem (h7.resolve_left hxk)] at hh2
            have HH2 := Lib.hid hh2
            clear hh2 hxk h7
            go_wp2_with fail
            refine HH.out.mono ?_
            rintro e w22 ⟨rfl, u22⟩
            go_wp2_with fail
            refine (HH2.out w22 u22).mono ?_
            rintro e w23 ⟨rfl, u23⟩
            go_wp2
            go_ret
            exact ⟨rfl, U21.trans (u22.trans u23)⟩
    · have hcb : (caC (L.map Cp.p) ps i k != 0) = true := by simpa using hca
      clear hca HCA HAI HNI RA HA
      generalize caC (L.map Cp.p) ps i k = cav at *
      go_wp2
      go_ret
      exact ⟨rfl, UY⟩
end Go.Proofs.YtncmenfdnpmblaaDoor
