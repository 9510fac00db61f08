/- FnCopies, walked. -/
import Derived.Test.YtdjhenjgccenhaaDoorDrawK
import Derived.Test.YtdjhenjgccenhaaDoorFnCopL
import Derived.Test.YtdjhenjgccenhaaDoorLikeI
import Derived.Test.YtdjhenjgccenhaaDoorBig
import Derived.Test.YtdjhenjgccenhaaDoorDer
namespace Go.Proofs.YtdjhenjgccenhaaDoor
open Go.RowKit Go.Sort

theorem fit_of {L : List Cp} {c : Nat} (hF : Fine L) (hl : L.length ≤ 9) (hc : L.length ≤ c) (hcm : c ≤ maxLen) : Fit L c :=
  ⟨fun d hd => by have := (hF d hd).2.1; unfold maxLen; omega, fun d hd => by have := (hF d hd).2.2; omega, by omega, hc, hcm⟩
/-- an owned original and list, read in any later world -/
theorem OwnK.open {w w' : World} {vo vl : Value} {o : List Int} {L : List Cp} (h : OwnK w w' vo o vl L) : ∃ A c C cc, vo = .slice A o.length c ∧ vl = .slice C L.length cc ∧ RdI w' w.heap.size w'.heap.size A o ∧ RdC w' w.heap.size w'.heap.size C L ∧ Fit L cc ∧ Fine L ∧ o.length ≤ 20 ∧ L.length ≤ 9 := by
  obtain ⟨T, hF, ho, hl⟩ := h
  obtain ⟨A, c, rfl, -, -, -⟩ := own_formz T.orig
  obtain ⟨C, cc, rfl, h1, h2, -⟩ := own_formz T.list
  exact ⟨A, c, C, cc, rfl, rfl, Rd.own int_len T.orig, T.rdc, fit_of hF hl h1 h2, hF, ho, hl⟩

/-- whether one of the first j copies is one from which a copy may have been made -/
def fdJ (o : List Int) (P : List PC) (z : Int) (j : Nat) : Bool := (List.range j).any fun q => (mdC o P z q == 0) && mdA o P z q
theorem fdJ_succ (o : List Int) (P : List PC) (z : Int) (j : Nat) : fdJ o P z (j + 1) = (fdJ o P z j || ((mdC o P z j == 0) && mdA o P z j)) := by simp [fdJ, List.range_succ]
theorem fdJ_yes {o : List Int} {P : List PC} {z : Int} (hC : ucC o P = 0) (hz : z ∈ ucL o P) : fdJ o P z P.length = true := by
  obtain ⟨i, y, rfl, hy, h1, h2⟩ := uc_der hC hz
  unfold fdJ
  rw [List.any_eq_true]
  exact ⟨y, List.mem_range.2 hy, by rw [h1, h2]; rfl⟩
theorem uc_no {o : List Int} {P : List PC} (h : ¬ ucC o P = 0) : ucL o P = [] := by unfold ucL; rw [if_neg h]
/-- whether one of the first j errors is no error of a text -/
def rtJ (a o : List Int) (e : List Int) (j : Nat) : Bool := (e.take j).any (hitB a o)
theorem rtJ_succ {a o e : List Int} {j : Nat} {z : Int} (h : e[j]? = some z) : rtJ a o e (j + 1) = (rtJ a o e j || hitB a o z) := by
  unfold rtJ
  rw [List.take_succ_eq_append_getElem (List.getElem?_eq_some_iff.1 h).1, List.any_append, (List.getElem?_eq_some_iff.1 h).2]
  simp

set_option maxRecDepth 100000 in
set_option maxHeartbeats 8000000 in
theorem fnCopies_walk (A0 : Option Addr) (l0 : List UInt8) (c0 : Nat) (w : World) (hr0 : RdY w 0 w.heap.size A0 l0) (_hok0 : True) (hn0 : l0.length ≤ maxLen) :
    Calls Tryd.prog 11 #[.slice A0 l0.length c0] w fun e w' => e = .returned (.bool true) ∧ Up w w' := by
  by_cases hbig : (4096 : Int) < (l0.length : Int)
  · have hb : decide ((4096 : Int) < (l0.length : Int)) = true := by simpa using hbig
    go_enter Tryd.func11, Tryd.ntmps11
    go_wp2_with fail
    refine (big_any A0 l0.length c0 w hn0).mono ?_
    rintro e w' ⟨rfl, rfl⟩
    go_wp2
    go_ret
    exact ⟨rfl, Up.refl _⟩
  · have hb : decide ((4096 : Int) < (l0.length : Int)) = false := by simpa using hbig
    have hl0 : l0.length ≤ 2000000 := by omega
    have hr0' := Lib.hid hr0
    clear hbig
    go_enter Tryd.func11, Tryd.ntmps11
    go_wp2_with fail
    refine (big_any A0 l0.length c0 w hn0).mono ?_
    rintro e w' ⟨rfl, rfl⟩
    go_wp2_with fail
    refine (drawMayDerive_any A0 l0 c0 0 w.heap.size w hr0 (Nat.le_refl _) hl0).mono ?_
    rintro e w1 ⟨vo, o, vl, L, i, k, rfl, hK, ⟨hi1, hi2, hk1, hk2⟩, u1⟩
    obtain ⟨A, c, C, cc, rfl, rfl, RO, RL, hf, hF, ho, hl⟩ := hK.open
    clear hK hr0
    have hoo : o.length ≤ 2000000 := by omega
    go_wp2_with fail
    refine (implMayDerive_any A o c C L cc _ _ _ _ i k w1 RO (Nat.le_refl _) hoo RL (Nat.le_refl _) hf).mono ?_
    rintro e w2 ⟨rfl, u2⟩
    go_wp2_with fail
    refine (specMayDerive_any A o c C L cc _ _ _ _ i k w2 (RO.up u2 (Nat.le_refl _)) u2.size hoo (RL.up u2 (Nat.le_refl _)) u2.size hf).mono ?_
    rintro e w3 ⟨rfl, u3⟩
    have x3 := u2.trans u3
    go_wp2_with fail
    refine (implErrorsOf_any A o c C L cc _ _ _ _ k w3 (RO.up x3 (Nat.le_refl _)) x3.size hoo (RL.up x3 (Nat.le_refl _)) x3.size hf).mono ?_
    rintro e w4 ⟨e1, rfl, oe1, u4⟩
    have x4 := x3.trans u4
    obtain ⟨E1, p1, rfl, RE1, hp1, hpm1, -⟩ := own_open int_len oe1
    go_wp2_with fail
    refine (specErrorsOf_any A o c C L cc _ _ _ _ k w4 (RO.up x4 (Nat.le_refl _)) x4.size hoo (RL.up x4 (Nat.le_refl _)) x4.size hf).mono ?_
    rintro e w5 ⟨e2, rfl, oe2, u5⟩
    have x5 := x4.trans u5
    obtain ⟨E2, p2, rfl, RE2, hp2, hpm2, -⟩ := own_open int_len oe2
    go_wp2_with fail
    refine (implCommon_any A o c C L cc _ _ _ _ i k w5 (RO.up x5 (Nat.le_refl _)) x5.size hoo (RL.up x5 (Nat.le_refl _)) x5.size hf).mono ?_
    rintro e w6 ⟨d1, rfl, od1, u6⟩
    have x6 := x5.trans u6
    obtain ⟨D1, q1, rfl, RD1, hq1, hqm1, -⟩ := own_open int_len od1
    go_wp2_with fail
    refine (specCommon_any A o c C L cc _ _ _ _ i k w6 (RO.up x6 (Nat.le_refl _)) x6.size hoo (RL.up x6 (Nat.le_refl _)) x6.size hf).mono ?_
    rintro e w7 ⟨d2, rfl, od2, u7⟩
    have x7 := x6.trans u7
    obtain ⟨D2, q2, rfl, RD2, hq2, hqm2, -⟩ := own_open int_len od2
    have U7 := u1.trans x7
    clear oe1 oe2 od1 od2
    go_wp2_with fail
    refine (drawUseless_any A0 l0 c0 0 w.heap.size w7 (hr0'.out.up U7 (Nat.le_refl _)) U7.size hl0).mono ?_
    rintro e w8 ⟨vb, ob, vm, M, rfl, hK2, u8⟩
    obtain ⟨AB, cb, CM, cm, rfl, rfl, ROB, RM, hfm, hFM, hob, hlm⟩ := hK2.open
    have hobb : ob.length ≤ 2000000 := by omega
    clear hK2
    go_wp2_with fail
    refine (implUseless_any AB ob cb CM M cm _ _ _ _ w8 ROB (Nat.le_refl _) hobb RM (Nat.le_refl _) hfm).mono ?_
    rintro e w9 ⟨g1, rfl, og1, u9⟩
    obtain ⟨G1, s1, rfl, RG1, hs1, hsm1, -⟩ := own_open int_len og1
    go_wp2_with fail
    refine (specUseless_any AB ob cb CM M cm _ _ _ _ w9 (ROB.up u9 (Nat.le_refl _)) u9.size hobb (RM.up u9 (Nat.le_refl _)) u9.size hfm).mono ?_
    rintro e W ⟨g2, rfl, og2, uW⟩
    obtain ⟨G2, s2, rfl, RG2, hs2, hsm2, -⟩ := own_open int_len og2
    clear og1 og2
    -- all facts at W
    have y9 := u9.trans uW
    have y7 := u8.trans y9
    have y6 := u7.trans y7
    have y5 := u6.trans y6
    have y4 := u5.trans y5
    have y1 := x4.trans y4
    have UW := u1.trans y1
    replace RO := RO.up y1 (Nat.le_refl _)
    replace RL := RL.up y1 (Nat.le_refl _)
    have HO := y1.size
    replace RE1 := RE1.up y4 (Nat.le_refl _)
    have HE1 := y4.size
    replace RE2 := RE2.up y5 (Nat.le_refl _)
    have HE2 := y5.size
    replace RD1 := RD1.up y6 (Nat.le_refl _)
    have HD1 := y6.size
    replace RD2 := RD2.up y7 (Nat.le_refl _)
    have HD2 := y7.size
    replace ROB := ROB.up y9 (Nat.le_refl _)
    replace RM := RM.up y9 (Nat.le_refl _)
    have HB := y9.size
    replace RG1 := RG1.up uW (Nat.le_refl _)
    have HG1 := uW.size
    have hel := eo_len o (L.map Cp.p) k
    have hdl := co_len o (L.map Cp.p) i k
    have hgl := uc_len ob (M.map Cp.p)
    have hm1 : (eoL o (L.map Cp.p) k).length ≤ maxLen := Nat.le_trans hp1 hpm1
    have hm2 : (coL o (L.map Cp.p) i k).length ≤ maxLen := Nat.le_trans hq1 hqm1
    have hm3 : (ucL ob (M.map Cp.p)).length ≤ maxLen := Nat.le_trans hs1 hsm1
    clear u2 u3 u4 u5 u6 u7 u8 u9 uW x3 x4 x5 x6 x7 y1 y4 y5 y6 y7 y9 u1 U7
    go_wp2_with fail
    refine (likeInts_any E1 E2 (eoL o (L.map Cp.p) k) p1 p2 _ _ _ _ W RE1 HE1 RE2 HE2 hm1).mono ?_
    rintro e w10 ⟨rfl, u10⟩
    go_wp2_with fail
    refine (likeInts_any D1 D2 (coL o (L.map Cp.p) i k) q1 q2 _ _ _ _ w10 (RD1.up u10 HD1) (Nat.le_trans HD1 u10.size) (RD2.up u10 HD2) (Nat.le_trans HD2 u10.size) hm2).mono ?_
    rintro e w11 ⟨rfl, u11⟩
    have v11 := u10.trans u11
    go_wp2_with fail
    refine (likeInts_any G1 G2 (ucL ob (M.map Cp.p)) s1 s2 _ _ _ _ w11 (RG1.up v11 HG1) (Nat.le_trans HG1 v11.size) (RG2.up v11 (Nat.le_refl _)) v11.size hm3).mono ?_
    rintro e w12 ⟨rfl, u12⟩
    have v12 := v11.trans u12
    clear RE2 RD2 RG2 HE2 HD2
    have UV := UW.trans v12
    replace RO := RO.up v12 HO
    replace RL := RL.up v12 HO
    replace HO := Nat.le_trans HO v12.size
    replace RE1 := RE1.up v12 HE1
    replace HE1 := Nat.le_trans HE1 v12.size
    replace RD1 := RD1.up v12 HD1
    replace HD1 := Nat.le_trans HD1 v12.size
    replace ROB := ROB.up v12 HB
    replace RM := RM.up v12 HB
    replace HB := Nat.le_trans HB v12.size
    replace RG1 := RG1.up v12 HG1
    replace HG1 := Nat.le_trans HG1 v12.size
    clear u10 u11 u12 v11 v12 UW
    have HFD := Lib.hid (show ucC ob (M.map Cp.p) = 0 → ∀ z ∈ ucL ob (M.map Cp.p), fdJ ob (M.map Cp.p) z M.length = true from fun h z hz => by have := fdJ_yes h hz; rw [List.length_map] at this; exact this)
    have HNO := Lib.hid (show ¬ ucC ob (M.map Cp.p) = 0 → (ucL ob (M.map Cp.p)).length = 0 from fun h => by rw [uc_no h]; rfl)
    have HRG := Lib.hid (show ∀ z ∈ ucL ob (M.map Cp.p), 0 ≤ z ∧ z < 100 from fun z hz => by
      unfold ucL at hz
      split at hz
      · obtain ⟨q, hq, -, rfl⟩ := pl_mem_iff.1 hz
        rw [List.length_map] at hq; omega
      · simp at hz)
    rw [List.length_map] at hgl
    generalize ucL ob (M.map Cp.p) = UL at *
    generalize ucC ob (M.map Cp.p) = zu at *
    go_wp2_with fail
    go_loopw [25] (fun x wr => ∃ q : Nat, q ≤ UL.length ∧ x = .int .i64 q ∧ Up w12 wr) (fun x _ => UL.length - (intOf x).toNat)
    case atStart => exact ⟨0, Nat.zero_le _, rfl, Up.refl _⟩
    case round =>
      obtain ⟨q, hq, rfl, hup⟩ := hrel
      by_cases hgo : zu = 0 ∧ q < UL.length
      case pos =>
        obtain ⟨hz0, hql⟩ := hgo
        have hzb : (zu == 0) = true := by simpa using hz0
        have HZ0 := Lib.hid hz0
        clear hz0
        obtain ⟨b, off, z, rfl, -, -, hz, q0⟩ := (RG1.up hup HG1).int hql
        have hzr := HRG.out z (List.mem_of_getElem? hz)
        have HFZ := Lib.hid (HFD.out HZ0.out z (List.mem_of_getElem? hz))
        obtain ⟨wo, rfl⟩ : ∃ x, x = wr := ⟨_, rfl⟩
        have HM := Lib.hid (fun (wx : World) (hu : Up wo wx) (y : Int) => implMayDerive_any AB ob cb CM M cm _ _ _ _ z y wx (ROB.up (hup.trans hu) HB) (Nat.le_trans HB (hup.trans hu).size) hobb (RM.up (hup.trans hu) HB) (Nat.le_trans HB (hup.trans hu).size) hfm)
        have Q0 := Lib.hid q0
        clear hz q0
        go_wp2_with fail
        go_loopw [26, 27] (fun fd y wr => ∃ j : Nat, j ≤ M.length ∧ y = .int .i64 j ∧ fd = .bool (fdJ ob (M.map Cp.p) z j) ∧ Up wo wr) (fun _ y _ => M.length - (intOf y).toNat)
        case atStart => exact ⟨0, Nat.zero_le _, rfl, rfl, Up.refl _⟩
        case round =>
          obtain ⟨j, hj, rfl, rfl, hup2⟩ := hrel
          have q1 := hup2.cell Q0.out
          by_cases hjl : j < M.length
          · have hs := fdJ_succ ob (M.map Cp.p) z j
            have hM := HM.out wr hup2 (j : Int)
            generalize mdC ob (M.map Cp.p) z (j : Int) = mc at *
            generalize mdA ob (M.map Cp.p) z (j : Int) = ma at *
            obtain ⟨B, hB⟩ : ∃ B, B = fdJ ob (M.map Cp.p) z j := ⟨_, rfl⟩
            rw [← hB] at hs ⊢
            have HM2 := Lib.hid hM
            have HS := Lib.hid hs
            clear hB hM hs
            go_wp2_with fail
            refine HM2.out.mono ?_
            rintro e w20 ⟨rfl, u20⟩
            have hup3 := hup2.trans u20
            clear q1
            have hBs : fdJ ob (M.map Cp.p) z (j + 1) = (B || ((mc == 0) && ma)) := HS.out
            have HBS := Lib.hid hBs
            clear hBs HS
            cases B
            · by_cases hmc : mc = 0
              · have hmb : (mc == 0) = true := by simpa using hmc
                clear hmc
                go_wp2
                go_roundw
                case rel => exact ⟨j + 1, by omega, by go_num, by rw [HBS.out, hmb]; simp, hup3⟩
                case measure => simp [intOf]; omega
              · have hmb : (mc == 0) = false := by simpa using hmc
                clear hmc
                go_wp2
                go_roundw
                case rel => exact ⟨j + 1, by omega, by go_num, by rw [HBS.out, hmb]; simp, hup3⟩
                case measure => simp [intOf]; omega
            · go_wp2
              go_roundw
              case rel => exact ⟨j + 1, by omega, by go_num, by rw [HBS.out]; simp, hup3⟩
              case measure => simp [intOf]; omega
          · obtain rfl : j = M.length := by omega
            rw [HFZ.out]
            have hup3 := hup.trans hup2
            clear q1
            go_wp2
            go_roundw
            case rel => exact ⟨q + 1, by omega, by go_num, hup3⟩
            case measure => simp [intOf]; omega
      case neg =>
        obtain ⟨wq, rfl⟩ : ∃ x, x = wr := ⟨_, rfl⟩
        have UQ := UV.trans hup
        have hzz : (zu == 0) = false ∨ ((zu == 0) = true ∧ ¬ q < UL.length) := by
          by_cases h : zu = 0
          · exact .inr ⟨by simpa using h, fun h2 => hgo ⟨h, h2⟩⟩
          · exact .inl (by simpa using h)
        have HZZ := Lib.hid hzz
        clear hzz hgo HFD HNO HRG ROB RM RG1 HB HG1
        by_cases hmd : mdC o (L.map Cp.p) i k = 0
        case neg =>
          have hmb : (mdC o (L.map Cp.p) i k == 0) = false := by simpa using hmd
          generalize mdC o (L.map Cp.p) i k = mc at *
          clear hmd
          rcases HZZ.out with hzb | ⟨hzb, hql⟩
          · go_wp2
            go_ret
            exact ⟨rfl, UQ⟩
          · go_wp2
            go_ret
            exact ⟨rfl, UQ⟩
        case pos =>
          have hcc : coC o (L.map Cp.p) i k = 0 := hmd
          obtain ⟨hA, hO, hix⟩ := cd_inv (show cdB (orB o (L.map Cp.p)) (L.map Cp.p) [i, k] = 0 from hmd)
          have hi1' := hix i (by simp)
          have hk1' := hix k (by simp)
          simp only [List.length_map] at hi1' hk1'
          obtain ⟨i, rfl⟩ := Int.eq_ofNat_of_zero_le hi1'.1
          obtain ⟨k, rfl⟩ := Int.eq_ofNat_of_zero_le hk1'.1
          have hil : i < L.length := by omega
          have hkl : k < L.length := by omega
          have hx := List.getElem?_eq_getElem hil
          have hy := List.getElem?_eq_getElem hkl
          have hox := (orB_inv hA hO (getp hx)).1
          have heo : eoC o (L.map Cp.p) k = 0 := by
            unfold eoC cdB
            rw [if_pos (by rw [hA, hO]; rfl), if_pos (by simp [ixB, inB]; omega)]
          have hE := eo_yes heo (getp hy)
          have hM := mdA_yes hmd (getp hx) (getp hy)
          obtain ⟨hs1, hs2⟩ := co_sym hcc
          have hback := fun (wx : World) (hu : Up wq wx) => implCommon_any A o c C L cc _ _ _ _ (k : Int) (i : Int) wx (RO.up (hup.trans hu) HO) (Nat.le_trans HO (hup.trans hu).size) hoo (RL.up (hup.trans hu) HO) (Nat.le_trans HO (hup.trans hu).size) hf
          simp only [hs1, hs2] at hback
          have HBK := Lib.hid hback
          obtain ⟨bL, oL, x, hCL, -, -, hx', hrx, cx0, cx1⟩ := (RL.up hup HO).at_ hil
          rw [hx'] at hx
          have exl : L[i] = x := (Option.some.inj hx).symm
          rw [exl] at hox hM
          generalize hyy : L[k] = y at *
          have hdeb : deB x.p.2 y.p.2 o = !rtJ x.rs o (eoL o (L.map Cp.p) k) (eoL o (L.map Cp.p) k).length := by
            unfold deB rtJ
            rw [List.take_of_length_le (Nat.le_refl _), hE]; rfl
          have hpl : ∀ z ∈ eoL o (L.map Cp.p) k, ∃ p : Nat, z = (p : Int) ∧ p < o.length := by
            intro z hz
            rw [hE] at hz
            obtain ⟨p, hp, -, rfl⟩ := pl_mem_iff.1 hz
            exact ⟨p, rfl, hp⟩
          rw [hdeb] at hM
          have HOK := Lib.hid hM
          have HPL := Lib.hid hpl
          have HOX := Lib.hid (show o.length = x.rs.length from hox)
          rw [hmd]
          subst hCL
          clear hM hpl hdeb hx hx' hy hyy exl hox heo hE hA hO hix hcc hmd hs1 hs2 hback
          generalize mdA o (L.map Cp.p) (i : Int) (k : Int) = okv at *
          generalize eoL o (L.map Cp.p) (k : Int) = EL at *
          generalize coL o (L.map Cp.p) (i : Int) (k : Int) = DL at *
          have HRX := Lib.hid hrx
          have CX1 := Lib.hid cx1
          have RE := RE1.up hup HE1
          have ROQ := RO.up hup HO
          have hilI : (i : Int) < (L.length : Int) := by omega
          have hEl20 : EL.length ≤ 20 := by omega
          clear hrx cx0 cx1 RE1 RO hel
          rcases HZZ.out with hzb | ⟨hzb, hql⟩
          all_goals
            go_wp2_with fail
            refine (HBK.out wq (Up.refl _)).mono ?_
            rintro e w30 ⟨v30, rfl, o30, u30⟩
            obtain ⟨B1, b1, rfl, RB1, hb1, hbm1, -⟩ := own_open int_len o30
            clear o30
            go_wp2_with fail
            refine (likeInts_any B1 D1 DL b1 q1 _ _ _ _ w30 RB1 (Nat.le_refl _) (RD1.up (hup.trans u30) HD1) (Nat.le_trans HD1 (hup.trans u30).size) hm2).mono ?_
            rintro e w31 ⟨rfl, u31⟩
            have u931 := u30.trans u31
            clear RB1 RD1
            go_wp2_with fail
            go_loopw [32, 33] (fun rt xx wr => ∃ j : Nat, j ≤ EL.length ∧ xx = .int .i64 j ∧ rt = .bool (rtJ x.rs o EL j) ∧ Up wq wr) (fun _ xx _ => EL.length - (intOf xx).toNat)
            case atStart => exact ⟨0, Nat.zero_le _, rfl, rfl, u931⟩
            case round =>
              obtain ⟨j, hj, rfl, rfl, hup9⟩ := hrel
              by_cases hjl : j < EL.length
              · obtain ⟨bE, oE, z, rfl, -, -, hz, qe⟩ := (RE.up hup9 (Nat.le_trans HE1 hup.size)).int hjl
                have hrs := rtJ_succ (a := x.rs) (o := o) hz
                obtain ⟨p, rfl, hpo⟩ := HPL.out z (List.mem_of_getElem? hz)
                have hpx : p < x.rs.length := by have := HOX.out; omega
                obtain ⟨bO, oO, ov, rfl, -, -, hov, qo⟩ := (ROQ.up hup9 (Nat.le_trans HO hup.size)).int hpo
                obtain ⟨bX, oX, xv, hxA, -, -, hxv, qx⟩ := (HRX.out.up hup9 (Nat.le_trans HO hup.size)).int hpx
                have hhit : hitB x.rs o (p : Int) = (xv == ov) := by
                  unfold hitB
                  have e1 : x.rs[(p : Int).toNat]? = some xv := hxv
                  have e2 : o[(p : Int).toNat]? = some ov := hov
                  rw [e1, e2]
                rw [hhit] at hrs
                have cx := CX1.out
                rw [hxA] at cx
                have QX0 := cell_regrown (hup9.cell cx)
                have QE := cell_regrown qe
                have QO := cell_regrown qo
                have QX := cell_regrown qx
                have HRS := Lib.hid hrs
                have hpI : (p : Int) < (x.rs.length : Int) := by omega
                have hpO : (p : Int) < (o.length : Int) := by omega
                obtain ⟨B, hB⟩ : ∃ B, B = rtJ x.rs o EL j := ⟨_, rfl⟩
                rw [← hB] at HRS ⊢
                clear hB hrs hz hov hxv hhit cx qe qo qx hxA
                cases B
                · go_wp2_with fail
                  refine wp_region_quiet_below (by kernel_rfl) (by kernel_rfl) ?_
                  repeat (first | go_big_quiet_step (fail) | quiet_step (fail))
                  refine wpQuiet_nil ?_
                  intro w40 hw40
                  obtain ⟨⟨dqa, osqa⟩, hw40⟩ := hw40
                  have hu40 := hup9.trans (show Up wr w40 by rw [hw40]; exact below_regrown _ _ _)
                  clear hw40 QX0 QE QO QX
                  go_wp2
                  go_roundw
                  case rel => exact ⟨j + 1, by omega, by go_num, by rw [HRS.out]; simp, hu40⟩
                  case measure => simp [intOf]; omega
                · go_wp2_with fail
                  refine wp_region_quiet_below (by kernel_rfl) (by kernel_rfl) ?_
                  repeat (first | go_big_quiet_step (fail) | quiet_step (fail))
                  refine wpQuiet_nil ?_
                  intro w40 hw40
                  obtain ⟨⟨dqa, osqa⟩, hw40⟩ := hw40
                  have hu40 := hup9.trans (show Up wr w40 by rw [hw40]; exact below_regrown _ _ _)
                  clear hw40 QX0 QE QO QX
                  go_wp2
                  go_roundw
                  case rel => exact ⟨j + 1, by omega, by go_num, by rw [HRS.out]; simp, hu40⟩
                  case measure => simp [intOf]; omega
              · obtain rfl : j = EL.length := by omega
                have UF := UQ.trans hup9
                have hok := HOK.out
                generalize rtJ x.rs o EL EL.length = B at *
                by_cases hik : i = k
                · have hokb : okv = false := by rw [hok]; simp [hik]
                  subst hokb
                  have HIK := Lib.hid hik
                  clear hok hik HOK
                  cases B
                  all_goals go_wp2
                  all_goals first
                    | (exfalso; have h1 := HIK.out; omega)
                    | (go_ret; exact ⟨rfl, UF⟩)
                    | (go_ret; refine ⟨?_, UF⟩; have h1 := HIK.out; simp [h1])
                · have hokb : okv = !B := by rw [hok]; simp [hik]
                  subst hokb
                  have HIK := Lib.hid hik
                  clear hok hik HOK
                  cases B
                  all_goals go_wp2
                  all_goals first
                    | (exfalso; have h1 := HIK.out; omega)
                    | (go_ret; exact ⟨rfl, UF⟩)
                    | (go_ret; refine ⟨?_, UF⟩; have h1 := HIK.out; simp; omega)
end Go.Proofs.YtdjhenjgccenhaaDoor
