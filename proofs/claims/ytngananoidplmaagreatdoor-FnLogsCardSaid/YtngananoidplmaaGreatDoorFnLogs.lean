/- FnLogs, walked. -/
import Derived.Test.YtngananoidplmaaGreatDoorDrawT
import Derived.Test.YtngananoidplmaaGreatDoorRecF
import Derived.Test.YtngananoidplmaaGreatDoorRecI
import Derived.Test.YtngananoidplmaaGreatDoorLikeD
import Derived.Test.YtngananoidplmaaGreatDoorBig
namespace Go.Proofs.YtngananoidplmaaGreatDoor
open Go.RowKit Go.Sort

theorem count_tx : ∀ (l : List Dec) (c : Nat), (∀ d ∈ l, decB d = true) → (txL l c).count 10 = l.length
  | [], _, _ => rfl
  | d :: l, c, h => by
    have h0 : ((lnD (ckD c d) d).data.toList).count 10 = 0 := List.count_eq_zero.2 fun hc => ln_no (h d (by simp)) _ 10 hc rfl
    rw [txL, List.count_append, List.count_append, h0, count_tx l _ (fun x hx => h x (by simp [hx]))]
    simp; omega
theorem count_succ {l : List UInt8} {k : Nat} {x : UInt8} (h : l[k]? = some x) : (l.take (k + 1)).count 10 = (l.take k).count 10 + if x = 10 then 1 else 0 := by
  rw [List.take_succ_eq_append_getElem (List.getElem?_eq_some_iff.1 h).1, List.count_append, (List.getElem?_eq_some_iff.1 h).2]
  by_cases hx : x = 10 <;> simp [hx]

set_option maxRecDepth 100000 in
set_option maxHeartbeats 8000000 in
theorem fnLogs_walk (A0 : Option Addr) (l0 : List UInt8) (c0 : Nat) (w : World) (hr0 : RdY w 0 w.heap.size A0 l0) (_hok0 : True) (hn0 : l0.length ≤ maxLen) (he : EnvP w) :
    Calls Tryz.prog 4 #[.slice A0 l0.length c0] w fun e w' => e = .returned (.bool true) ∧ Up w w' := by
  by_cases hbig : (4096 : Int) < (l0.length : Int)
  · have hb : decide ((4096 : Int) < (l0.length : Int)) = true := by simpa using hbig
    go_enter Tryz.func4, Tryz.ntmps4
    go_wp2_with fail
    refine (big_any A0 l0.length c0 w hn0).mono ?_
    rintro e w' ⟨rfl, rfl⟩
    go_wp2
    go_ret
    exact ⟨rfl, Up.refl _⟩
  · have hb : decide ((4096 : Int) < (l0.length : Int)) = false := by simpa using hbig
    have hl0 : l0.length ≤ 2000000 := by omega
    have HE := Lib.hid he
    have hr0' := Lib.hid hr0
    clear hbig he
    go_enter Tryz.func4, Tryz.ntmps4
    go_wp2_with fail
    refine (big_any A0 l0.length c0 w hn0).mono ?_
    rintro e w' ⟨rfl, rfl⟩
    go_wp2_with fail
    refine (drawLogText_any A0 l0 c0 0 w.heap.size w hr0 (Nat.le_refl _) hl0).mono ?_
    rintro e w1 ⟨v1, l1, rfl, ⟨o1, sh1, L1⟩, u1⟩
    obtain ⟨A1, c1, rfl, R1, hc1, hm1, hz1⟩ := own_open dec_len' o1
    have K1 : ∀ d ∈ l1, d.ok := fun d hd => (sh1 d hd).ok
    have N1 : l1.length ≤ 2000000 := by omega
    clear o1 sh1 hr0
    go_wp2_with fail
    refine (implLogText_any A1 l1 c1 _ _ w1 R1 (Nat.le_refl _) K1 N1 hc1 hm1 (HE.out.up u1).1).mono ?_
    rintro e w2 ⟨rfl, u2⟩
    go_wp2_with fail
    refine (specLogText_any A1 l1 c1 _ _ w2 (R1.up u2 (Nat.le_refl _)) u2.size K1 N1 hc1 hm1).mono ?_
    rintro e w3 ⟨rfl, u3⟩
    have U3 := u1.trans (u2.trans u3)
    go_wp2_with fail
    refine (drawRecoverLog_any A0 l0 c0 0 w.heap.size w3 (hr0'.out.up U3 (Nat.le_refl _)) U3.size hl0).mono ?_
    rintro e w4 ⟨s4, rfl, hs4, u4⟩
    have U4 := U3.trans u4
    go_wp2_with fail
    refine (implRecover_any s4 w4 (by omega) (HE.out.up U4)).mono ?_
    rintro e w5 ⟨x1, rfl, o5, u5⟩
    obtain ⟨X1, y1, rfl, RX1, hy1, hym1, -⟩ := own_open dec_len' o5
    clear o5
    go_wp2_with fail
    refine (specRecover_any s4 w5 (by omega)).mono ?_
    rintro e w6 ⟨x2, rfl, o6, u6⟩
    obtain ⟨X2, y2, rfl, RX2, hy2, hym2, -⟩ := own_open dec_len' o6
    clear o6
    have U6 := U4.trans (u5.trans u6)
    have t16 := u2.trans (u3.trans (u4.trans (u5.trans u6)))
    have RX1' := RX1.up u6 (Nat.le_refl _)
    have R16 := R1.up t16 (Nat.le_refl _)
    have H16 := t16.size
    have HX := u6.size
    have hlx : (rvL s4).length ≤ maxLen := Nat.le_trans hy1 hym1
    generalize rvL s4 = LX at *
    generalize rvC s4 = zc at *
    clear RX1 R1 u2 u3 u4 u5 u6 U3 U4 t16 u1
    go_wp2_with fail
    refine (likeDecisions_any X1 X2 LX y1 y2 _ _ _ _ w6 RX1' HX RX2 (Nat.le_refl _) hlx).mono ?_
    rintro e w7 ⟨rfl, u7⟩
    have U7 := U6.trans u7
    have R7 := R16.up u7 H16
    have H7 := Nat.le_trans H16 u7.size
    clear RX1' RX2 R16 HX hlx
    by_cases hlog : logB l1 = true
    case neg =>
      have hlt := lt_1 (l := l1) (by simpa using hlog)
      rw [hlt.1]
      clear hlt hlog
      go_wp2
      go_ret
      exact ⟨rfl, U7⟩
    case pos =>
      have hlt := lt_0 (l := l1) hlog
      rw [hlt.1]
      have htl : (ltV l1).data.toList = txL l1 0 := by rw [hlt.2]
      have HTL := Lib.hid htl
      have HLOG := Lib.hid hlog
      clear hlt htl hlog
      obtain ⟨t, ht⟩ : ∃ x, x = ltV l1 := ⟨_, rfl⟩
      rw [← ht] at HTL ⊢
      clear ht
      by_cases ht5 : t.size ≤ 5000
      case neg =>
        have hd : decide ((5000 : Int) < (t.size : Int)) = true := by simp; omega
        go_wp2
        go_ret
        exact ⟨rfl, U7⟩
      case pos =>
        have hd : decide ((5000 : Int) < (t.size : Int)) = false := by simp; omega
        go_wp2_with fail
        refine (roll_any A0 l0 c0 0 w.heap.size 2601 w7 (hr0'.out.up U7 (Nat.le_refl _)) U7.size hl0).mono ?_
        rintro e w8 ⟨rfl, h8, D8, u8⟩
        have hB := below_any A0 l0 c0 0 w7.heap.size (t.size + 1) w8 D8 h8 hl0 (by omega) (by omega)
        rw [show ((t.size + 1 : Nat) : Int) = (t.size : Int) + 1 by omega] at hB
        have HB := Lib.hid hB
        clear hB
        go_wp2_with fail
        refine HB.out.mono ?_
        rintro e w9 ⟨cut, rfl, hcut, m9⟩
        have U9 := (U7.trans u8).mk m9 (Nat.le_trans U7.size (Nat.le_refl _))
        have u9 := u8.mk m9 (Nat.le_refl _)
        have R9 := R7.up u9 H7
        have H9 := Nat.le_trans H7 u9.size
        clear D8 m9 u8 R7 H7 h8 HB u7 U7
        have hdec := logB_dec HLOG.out
        have hct : (txL l1 0).length = t.size := by rw [← HTL.out]; simp
        have hall := count_tx l1 0 hdec
        obtain ⟨T, hT⟩ : ∃ x, x = txL l1 0 := ⟨_, rfl⟩
        have hcl : (T.take cut).count 10 ≤ l1.length := by rw [← hall, hT]; exact (List.take_sublist _ _).count_le _
        have hrv := rv_cut HLOG.out
        rw [← hT] at hct HTL hall
        simp only [← hT] at hrv
        have hrA := hrv t.size (by rw [List.length_take]; omega)
        rw [List.take_of_length_le (Nat.le_of_eq hct), hall, List.take_length] at hrA
        have hrC := hrv cut (by rw [List.length_take]; omega)
        have eA : (⟨T.toArray⟩ : ByteArray) = t := by apply ba_ext; rw [HTL.out]
        have eC : (⟨(T.take cut).toArray⟩ : ByteArray) = t.extract 0 cut := by apply ba_ext; rw [Lib.extract_data, HTL.out]; simp
        rw [eA] at hrA
        rw [eC] at hrC
        have HA := Lib.hid hrA
        have HC := Lib.hid hrC
        have HCL := Lib.hid hcl
        have HCT := Lib.hid hct
        clear hT hrv hrA hrC eA eC hdec hall hcl hct
        go_wp2_with fail
        go_loop [14, 15] (fun ln i => ∃ k : Nat, k ≤ cut ∧ i = .int .i64 k ∧ ln = .int .i64 ((T.take k).count 10 : Nat)) (fun _ i => cut - (intOf i).toNat)
        case atStart => exact ⟨0, Nat.zero_le _, rfl, by simp⟩
        case round =>
          obtain ⟨k, hk, rfl, rfl⟩ := hrel
          by_cases hlt : k < cut
          · have hks : k < t.size := by omega
            have hc : T[k]? = some t[k] := by rw [← HTL.out, List.getElem?_eq_getElem (by simpa using hks)]; rfl
            have hcs := count_succ hc
            have hcl : (T.take k).count 10 ≤ 5000 := Nat.le_trans (List.count_le_length) (by rw [List.length_take]; omega)
            by_cases h10 : t[k] = 10
            · have hb : ((t[k].toNat : Int) == 10) = true := by rw [h10]; rfl
              rw [if_pos h10] at hcs
              have HCS := Lib.hid hcs
              clear hcs hc h10
              generalize (T.take k).count 10 = m at *
              go_wp2
              go_round
              case rel => exact ⟨k + 1, by omega, by go_num, by rw [HCS.out]; go_num⟩
              case measure => simp [intOf]; omega
            · have hb : ((t[k].toNat : Int) == 10) = false := by
                rw [beq_eq_false_iff_ne]; intro e; apply h10
                exact UInt8.toNat_inj.1 (by have : (10 : UInt8).toNat = 10 := rfl; omega)
              rw [if_neg h10] at hcs
              have HCS := Lib.hid hcs
              clear hcs hc h10
              go_wp2
              go_round
              case rel => exact ⟨k + 1, by omega, by go_num, by rw [HCS.out]; rfl⟩
              case measure => simp [intOf]; omega
          · obtain rfl : k = cut := by omega
            have hcut' : k ≤ t.size := by omega
            have hiA := implRecover_any t w9 (by omega) (HE.out.up U9)
            rw [HA.out.1, HA.out.2] at hiA
            have HIA := Lib.hid hiA
            have hsz := ext_len t 0 k hcut'
            have hiC := fun wx (h : EnvP wx) => implRecover_any (t.extract 0 k) wx (by omega) h
            simp only [HC.out.1, HC.out.2] at hiC
            have HIC := Lib.hid hiC
            have hm := HCL.out
            have htl : (l1.take ((T.take k).count 10)).length = (T.take k).count 10 := by rw [List.length_take]; omega
            have RT := R9.take ((T.take k).count 10)
            have R1 := run_str_to (P := Tryz.prog) (t := 9) Tryz.underlying9 t k hcut'
            generalize (T.take k).count 10 = m at *
            have HTM := Lib.hid htl
            clear hiA hiC htl hsz
            go_wp2_with fail
            refine HIA.out.mono ?_
            rintro e w10 ⟨x3, rfl, o10, u10⟩
            obtain ⟨X3, y3, rfl, RX3, hy3, hym3, -⟩ := own_open dec_len' o10
            clear o10
            go_wp2_with fail
            refine (HIC.out w10 (HE.out.up (U9.trans u10))).mono ?_
            rintro e w11 ⟨x4, rfl, o11, u11⟩
            obtain ⟨X4, y4, rfl, RX4, hy4, hym4, -⟩ := own_open dec_len' o11
            clear o11 R1
            have u911 := u10.trans u11
            have RX3' := RX3.up u11 (Nat.le_refl _)
            have R11 := R9.up u911 H9
            have H11 := Nat.le_trans H9 u911.size
            have RT11 := RT.up u911 H9
            have HX3 := u11.size
            have U11 := U9.trans u911
            have hm1' : l1.length ≤ maxLen := by unfold maxLen; omega
            have hL2 := fun wx (hu : Up w11 wx) => likeDecisions_any X4 A1 (l1.take m) y4 c1 _ _ _ _ wx (RX4.up hu (Nat.le_refl _)) hu.size (RT11.up hu H11) (Nat.le_trans H11 hu.size) (by rw [HTM.out]; unfold maxLen; omega)
            simp only [HTM.out] at hL2
            have HL2 := Lib.hid hL2
            rw [HTM.out]
            clear RX3 RX4 R9 RT u10 u11 u911 RT11 hL2
            go_wp2_with fail
            refine (likeDecisions_any X3 A1 l1 y3 c1 _ _ _ _ w11 RX3' HX3 R11 H11 hm1').mono ?_
            rintro e w12 ⟨rfl, u12⟩
            have hmc : m ≤ c1 := by omega
            go_wp2_with fail
            refine (HL2.out w12 u12).mono ?_
            rintro e w13 ⟨rfl, u13⟩
            have UF := U11.trans (u12.trans u13)
            go_wp2
            go_ret
            exact ⟨rfl, UF⟩
end Go.Proofs.YtngananoidplmaaGreatDoor
