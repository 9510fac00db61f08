/- FnDecisions, walked. -/
import Derived.Test.YtngananoidplmaaDoorDrawM
import Derived.Test.YtngananoidplmaaDoorFnDecL
import Derived.Test.YtngananoidplmaaDoorLikeD
import Derived.Test.YtngananoidplmaaDoorLikeS
import Derived.Test.YtngananoidplmaaDoorLikeI
import Derived.Test.YtngananoidplmaaDoorDecideI
import Derived.Test.YtngananoidplmaaDoorCount
namespace Go.Proofs.YtngananoidplmaaDoor
open Go.RowKit Go.Sort

/-- a slice of the call's own, written out -/
theorem own_open {α : Type} {f : α → List Value} {size : Nat} (hf : ∀ x, (f x).length = size) {w : World} {base : Nat} {e : TypeId} {v : Value} {l : List α} (h : w.ownsRow base e size v l.length (l.flatMap f)) :
    ∃ A c, v = .slice A l.length c ∧ Rd w base w.heap.size size f A l ∧ l.length ≤ c ∧ c ≤ maxLen ∧ (A = none → c = 0) := by
  obtain ⟨A, c, rfl, h1, h2, -, -⟩ := own_form h
  refine ⟨A, c, rfl, Rd.own hf h, h1, h2, fun ha => ?_⟩
  rcases h.2 with ⟨hv, -⟩ | ⟨g, cap, cur, hv, -⟩
  · simp only [Value.slice.injEq] at hv; exact hv.2.2
  · simp only [Value.slice.injEq] at hv; rw [ha] at hv; cases hv.1

theorem big_any (A : Option Addr) (n c : Nat) (w : World) (_hn : n ≤ maxLen) :
    Calls Tryd.prog 36 #[.slice A n c] w fun e w' => e = .returned (.bool (decide ((4096 : Int) < (n : Int)))) ∧ w = w' := by
  unfold maxLen at _hn
  go_enter Tryd.func36, Tryd.ntmps36
  go_wp2
  go_ret
  exact ⟨rfl, rfl⟩

set_option maxRecDepth 100000 in
set_option maxHeartbeats 8000000 in
theorem fnDecisions_walk (A0 : Option Addr) (l0 : List UInt8) (c0 : Nat) (w : World) (hr0 : RdY w 0 w.heap.size A0 l0) (_hok0 : True) (hn0 : l0.length ≤ maxLen) :
    Calls Tryd.prog 9 #[.slice A0 l0.length c0] w fun e w' => e = .returned (.bool true) ∧ Up w w' := by
  by_cases hbig : (4096 : Int) < (l0.length : Int)
  · have hb : decide ((4096 : Int) < (l0.length : Int)) = true := by simpa using hbig
    go_enter Tryd.func9, Tryd.ntmps9
    go_wp2_with fail
    refine (big_any A0 l0.length c0 w hn0).mono ?_
    rintro e w' ⟨rfl, rfl⟩
    go_wp2
    go_ret
    exact ⟨rfl, Up.refl _⟩
  · have hb : decide ((4096 : Int) < (l0.length : Int)) = false := by simpa using hbig
    have hl0 : l0.length ≤ 2000000 := by omega
    go_enter Tryd.func9, Tryd.ntmps9
    go_wp2_with fail
    refine (big_any A0 l0.length c0 w hn0).mono ?_
    rintro e w' ⟨rfl, rfl⟩
    have hr0' := Lib.hid hr0
    clear hbig
    go_wp2_with fail
    refine (drawDecideDeed_any A0 l0 c0 0 w.heap.size w hr0 (Nat.le_refl _) hl0).mono ?_
    rintro e w1 ⟨v1, l1, d1, rfl, ⟨o1, sh1, L1⟩, sd1, u1⟩
    obtain ⟨A1, c1, rfl, R1, hc1, hm1, hz1⟩ := own_open dec_len' o1
    have K1 : ∀ d ∈ l1, d.ok := fun d hd => (sh1 d hd).ok
    have KD : d1.ok := sd1.ok
    have N1 : l1.length ≤ 2000000 := by omega
    have ub := Up.alloc w1 (.cells #[.string d1.deed, .int .i64 d1.kind, .int .i64 d1.day, .string d1.by_] 43)
    have DB1 := DB.new w1 d1
    have U2 := u1.trans ub
    have R1' := R1.up ub (Nat.le_refl _)
    have H1' := ub.size
    obtain ⟨j0, j1, j2, j3, -, -, -, -⟩ := id DB1
    clear o1 sh1 sd1 hr0 R1
    go_wp2_with fail
    generalize w1.alloc (.cells #[.string d1.deed, .int .i64 d1.kind, .int .i64 d1.day, .string d1.by_] 43) = w2 at *
    refine (implDecide_any A1 l1 c1 _ _ d1 w2 R1' H1' K1 KD N1 hc1 hm1).mono ?_
    rintro e w3 ⟨x1, rfl, o3, u3⟩
    obtain ⟨X1, y1, rfl, RX1, hy1, hym1, -⟩ := own_open dec_len' o3
    obtain ⟨j0', j1', j2', j3', -, -, -, -⟩ := DB1.up u3
    clear o3 j0 j1 j2 j3
    go_wp2_with fail
    refine (specDecide_any A1 l1 c1 _ _ d1 w3 (R1'.up u3 H1') (Nat.le_trans H1' u3.size) K1 KD N1 hc1 hm1 hz1).mono ?_
    rintro e w4 ⟨x2, rfl, o4, u4⟩
    obtain ⟨X2, y2, rfl, RX2, hy2, hym2, -⟩ := own_open dec_len' o4
    have U4 := U2.trans (u3.trans u4)
    clear o4 j0' j1' j2' j3' R1'
    go_wp2_with fail
    refine (drawDayOf_any A0 l0 c0 0 w.heap.size w4 (hr0'.out.up U4 (Nat.le_refl _)) U4.size hl0).mono ?_
    rintro e w5 ⟨v2, l2, s2, rfl, ⟨o5, sh2, L2⟩, hs2, u5⟩
    obtain ⟨A2, c2, rfl, R2, hc2, hm2, -⟩ := own_open dec_len' o5
    have K2 : ∀ d ∈ l2, d.ok := fun d hd => (sh2 d hd).ok
    have N2 : l2.length ≤ 2000000 := by omega
    clear o5 sh2
    go_wp2_with fail
    refine (implDayOf_any A2 l2 c2 _ _ s2 w5 R2 (Nat.le_refl _) K2 N2 hc2 hm2).mono ?_
    rintro e w6 ⟨rfl, u6⟩
    go_wp2_with fail
    refine (specDayOf_any A2 l2 c2 _ _ s2 w6 (R2.up u6 (Nat.le_refl _)) u6.size K2 N2 hc2 hm2).mono ?_
    rintro e w7 ⟨rfl, u7⟩
    have x7 := u6.trans u7
    go_wp2_with fail
    refine (implStateOf_any A2 l2 c2 _ _ s2 w7 (R2.up x7 (Nat.le_refl _)) x7.size K2 N2 hc2 hm2).mono ?_
    rintro e w8 ⟨rfl, u8⟩
    have x8 := x7.trans u8
    go_wp2_with fail
    refine (specStateOf_any A2 l2 c2 _ _ s2 w8 (R2.up x8 (Nat.le_refl _)) x8.size K2 N2 hc2 hm2).mono ?_
    rintro e w9 ⟨rfl, u9⟩
    have x9 := x8.trans u9
    go_wp2_with fail
    refine (implOpen_any A2 l2 c2 _ _ w9 (R2.up x9 (Nat.le_refl _)) x9.size K2 N2 hc2 hm2).mono ?_
    rintro e w10 ⟨o1, rfl, oo1, u10⟩
    obtain ⟨O1, p1, rfl, RO1, hp1, hpm1, -⟩ := own_open str_len oo1
    have x10 := x9.trans u10
    clear oo1
    go_wp2_with fail
    refine (specOpen_any A2 l2 c2 _ _ w10 (R2.up x10 (Nat.le_refl _)) x10.size K2 N2 hc2 hm2).mono ?_
    rintro e w11 ⟨o2, rfl, oo2, u11⟩
    obtain ⟨O2, p2, rfl, RO2, hp2, hpm2, -⟩ := own_open str_len oo2
    have x11 := x10.trans u11
    have U11 := U4.trans (u5.trans x11)
    clear oo2
    go_wp2_with fail
    refine (drawCountBy_any A0 l0 c0 0 w.heap.size w11 (hr0'.out.up U11 (Nat.le_refl _)) U11.size hl0).mono ?_
    rintro e w12 ⟨v3, l3, s3, rfl, ⟨o12, sh3, L3⟩, hs3, u12⟩
    obtain ⟨A3, c3, rfl, R3, hc3, hm3, -⟩ := own_open dec_len' o12
    have K3 : ∀ d ∈ l3, d.ok := fun d hd => (sh3 d hd).ok
    have N3 : l3.length ≤ 2000000 := by omega
    clear o12 sh3
    go_wp2_with fail
    refine (implCountBy_any A3 l3 c3 _ _ s3 w12 R3 (Nat.le_refl _) K3 N3 hc3 hm3).mono ?_
    rintro e w13 ⟨q1, rfl, oc1, u13⟩
    obtain ⟨C1, k1, rfl, RC1, hk1, hkm1, -⟩ := own_open int_len oc1
    clear oc1
    go_wp2_with fail
    refine (specCountBy_any A3 l3 c3 _ _ s3 w13 (R3.up u13 (Nat.le_refl _)) u13.size K3 N3 hc3 hm3).mono ?_
    rintro e W ⟨q2, rfl, oc2, uW⟩
    obtain ⟨C2, k2, rfl, RC2, hk2, hkm2, -⟩ := own_open int_len oc2
    clear oc2
    -- all facts at the world W
    have t13 := u13.trans uW
    have t12 := u12.trans t13
    have t11 := u11.trans t12
    have t5 := x11.trans t12
    have t4 := u5.trans t5
    have t3 := u4.trans t4
    have UW := U11.trans t12
    have DB_ := DB1.up (u3.trans t3)
    replace RX1 := RX1.up t3 (Nat.le_refl _)
    have HX1 := t3.size
    replace RX2 := RX2.up t4 (Nat.le_refl _)
    have HX2 := t4.size
    have HLX : (ddL l1 d1).length ≤ maxLen := Nat.le_trans hy1 hym1
    replace RO1 := RO1.up t11 (Nat.le_refl _)
    have HO1 := t11.size
    replace RO2 := RO2.up t12 (Nat.le_refl _)
    have HO2 := t12.size
    have HLO : (osL l2).length ≤ maxLen := Nat.le_trans hp1 hpm1
    replace RC1 := RC1.up uW (Nat.le_refl _)
    have HC1 := uW.size
    have HC2 := Nat.le_refl W.heap.size
    have HLC : (cbL l3 s3).length ≤ maxLen := Nat.le_trans hk1 hkm1
    have R2W := R2.up t5 (Nat.le_refl _)
    have H2 := t5.size
    clear R2 R3 t13 t12 t11 t5 t4 t3 DB1 u3 u4 u5 u6 u7 u8 u9 u10 u11 u12 u13 uW x7 x8 x9 x10 x11 U2 U4 U11 ub u1
    have R2 := R2W
    have HI2 := Lib.hid (fun (wx : World) (hux : Up W wx) => implIsLog_any A2 l2 c2 _ _ wx (R2.up hux H2) (Nat.le_trans H2 hux.size) K2 N2 hc2 hm2)
    by_cases hb2 : logB l2 = true
    · have hE := (st_yes hb2 s2).2
      have hA := (st_yes hb2 s2).1
      have HL := os_state (s := s2) hb2
      have HD1 : stateOf l2 s2 = 1 → ¬ dyE l2 s2 = 0 := day_no
      have HD0 : stateOf l2 s2 = 0 → dyE l2 s2 = 0 := day_yes hb2
      rw [hE, hA]
      have HI3 := HI2.out
      simp only [hb2] at HI3
      have HI4 := Lib.hid HI3
      clear HI2 HI3 hE hA hb2
      generalize stateOf l2 s2 = zs at *
      generalize dyE l2 s2 = zd at *
      generalize dyA l2 s2 = za at *
      go_wp2_with fail
      refine (likeDecisions_any X1 X2 (ddL l1 d1) y1 y2 _ _ _ _ W RX1 HX1 RX2 HX2 HLX).mono ?_
      rintro e w14 ⟨rfl, u14⟩
      have v14 := u14
      go_wp2_with fail
      refine (likeTexts_any O1 O2 (osL l2) p1 p2 _ _ _ _ w14 (RO1.up v14 HO1) (Nat.le_trans HO1 v14.size) (RO2.up v14 HO2) (Nat.le_trans HO2 v14.size) HLO).mono ?_
      rintro e w15 ⟨rfl, u15⟩
      have v15 := v14.trans u15
      go_wp2_with fail
      refine (likeInts_any C1 C2 (cbL l3 s3) k1 k2 _ _ _ _ w15 (RC1.up v15 HC1) (Nat.le_trans HC1 v15.size) (RC2.up v15 HC2) (Nat.le_trans HC2 v15.size) HLC).mono ?_
      rintro e w16 ⟨rfl, u16⟩
      have v16 := v15.trans u16
      go_wp2_with fail
      refine (HI4.out w16 v16).mono ?_
      rintro e w17 ⟨rfl, u17⟩
      have v17 := v16.trans u17
      clear R2 RX2 RC1 RC2 HC1 HC2 HLC HLX
      have hol := osL_len l2
      have RO := RO1.up v17 HO1
      have HO := Nat.le_trans HO1 v17.size
      have HL' := Lib.hid HL
      have HD1' := Lib.hid HD1
      have HD0' := Lib.hid HD0
      clear HL HD1 HD0 RO1 RO2
      go_wp2_with fail
      go_loopw [29, 30] (fun o i wr => ∃ k : Nat, k ≤ (osL l2).length ∧ i = .int .i64 k ∧ o = .bool (((osL l2).take k).any fun x => x.toList == s2.toList) ∧ Up w17 wr) (fun _ i _ => (osL l2).length - (intOf i).toNat)
      case atStart => exact ⟨0, Nat.zero_le _, rfl, by simp, Up.refl _⟩
      case round =>
        obtain ⟨k, hk, rfl, rfl, hup⟩ := hrel
        obtain ⟨B, hB⟩ : ∃ B, B = ((osL l2).take k).any fun x => x.toList == s2.toList := ⟨_, rfl⟩
        rw [← hB]
        have HB := Lib.hid hB
        clear hB
        by_cases hlt : k < (osL l2).length
        · obtain ⟨b, off, s, rfl, -, -, hs, q0⟩ := (RO.up hup HO).str hlt
          have hst : ((osL l2).take (k + 1)).any (fun x => x.toList == s2.toList) = (B || (s.toList == s2.toList)) := by
            rw [List.take_succ_eq_append_getElem hlt, List.any_append, ← HB.out, (List.getElem?_eq_some_iff.1 hs).2]; simp
          have HST := Lib.hid hst
          clear hst hs
          cases B
          · go_wp2
            go_roundw
            case rel => exact ⟨k + 1, by omega, by go_num, by rw [HST.out]; rfl, hup⟩
            case measure => simp [intOf]; omega
          · go_wp2
            go_roundw
            case rel => exact ⟨k + 1, by omega, by go_num, by rw [HST.out]; rfl, hup⟩
            case measure => simp [intOf]; omega
        · have hBz : B = (zs == 1) := by rw [HB.out, List.take_of_length_le (by omega)]; exact HL'.out
          have vW := v17.trans hup
          clear HB HL' HO RO HI4 hup v17 u17 v16 u16 v15 u15 v14 u14 HLO
          by_cases h1 : zs = 1
          · have h1b : (zs == 1) = true := by simpa using h1
            have h0b : (zs == 0) = false := by rw [h1]; rfl
            have hdb : (zd == 0) = false := by have := HD1'.out h1; simpa using this
            rw [h1b] at hBz
            subst hBz
            clear h1 HD1' HD0'
            by_cases hdd : ddE l1 d1 = 0
            · have hddb : (ddE l1 d1 == 0) = true := by simpa using hdd
              obtain ⟨hL, hLog⟩ := dd_ok hdd
              obtain ⟨j0, j1, j2, j3, -, -, -, -⟩ := DB_.up vW
              have RX := RX1.up vW HX1
              have KX : ∀ d ∈ ddL l1 d1, d.ok := by
                rw [hL]; intro x hx
                rcases List.mem_append.1 hx with h | h
                · exact K1 x h
                · rw [List.mem_singleton.1 h]; exact KD
              have NX : (ddL l1 d1).length ≤ 2000000 := by rw [hL, List.length_append, List.length_singleton]; omega
              have hlen : (((ddL l1 d1).length : Nat) : Int) = (l1.length : Int) + 1 := by rw [hL, List.length_append, List.length_singleton]; omega
              have HS1 : stA (ddL l1 d1) d1.deed = d1.kind ∧ stE (ddL l1 d1) = 0 := by rw [hL, (st_yes hLog d1.deed).1, state_snoc]; exact ⟨rfl, (st_yes hLog d1.deed).2⟩
              have HLB : logB (ddL l1 d1) = true := by rw [hL]; exact hLog
              have HS := implStateOf_any X1 (ddL l1 d1) y1 _ _ d1.deed wr RX (Nat.le_trans HX1 (vW).size) KX NX hy1 hym1
              have HI := fun (wx : World) (hux : Up wr wx) => implIsLog_any X1 (ddL l1 d1) y1 _ _ wx (RX.up hux (Nat.le_trans HX1 (vW).size)) (Nat.le_trans (Nat.le_trans HX1 (vW).size) hux.size) KX NX hy1 hym1
              simp only [HS1.1, HS1.2] at HS
              simp only [HLB] at HI
              have HS' := Lib.hid HS
              have HI' := Lib.hid HI
              have hlen' := Lib.hid hlen
              clear HS HI hL hLog HS1 HLB KX NX RX hlen hdd
              go_wp2_with fail
              refine HS'.out.mono ?_
              rintro e w21 ⟨rfl, u21⟩
              have j1' := u21.cell j1
              have hkk : (d1.kind == d1.kind) = true := by simp
              go_wp2_with fail
              refine (HI'.out w21 u21).mono ?_
              rintro e w22 ⟨rfl, u22⟩
              have hfin := UW.trans ((vW).trans (u21.trans u22))
              have hlq : ((((ddL l1 d1).length : Nat) : Int) == (l1.length : Int) + 1) = true := by rw [hlen'.out]; simp
              have hl80 : l1.length ≤ 100 := L1
              clear hlen'
              go_wp2
              go_ret
              exact ⟨rfl, hfin⟩
            · have hddb : (ddE l1 d1 == 0) = false := by simpa using hdd
              have hfin := UW.trans vW
              clear hdd
              go_wp2
              go_ret
              exact ⟨rfl, hfin⟩
          · have h1b : (zs == 1) = false := by simpa using h1
            rw [h1b] at hBz
            subst hBz
            by_cases h0 : zs = 0
            · have h0b : (zs == 0) = true := by simpa using h0
              have hdb : (zd == 0) = true := by have := HD0'.out h0; simpa using this
              clear h1 h0 HD1' HD0'
              by_cases hdd : ddE l1 d1 = 0
              · have hddb : (ddE l1 d1 == 0) = true := by simpa using hdd
                obtain ⟨hL, hLog⟩ := dd_ok hdd
                obtain ⟨j0, j1, j2, j3, -, -, -, -⟩ := DB_.up vW
                have RX := RX1.up vW HX1
                have KX : ∀ d ∈ ddL l1 d1, d.ok := by
                  rw [hL]; intro x hx
                  rcases List.mem_append.1 hx with h | h
                  · exact K1 x h
                  · rw [List.mem_singleton.1 h]; exact KD
                have NX : (ddL l1 d1).length ≤ 2000000 := by rw [hL, List.length_append, List.length_singleton]; omega
                have hlen : (((ddL l1 d1).length : Nat) : Int) = (l1.length : Int) + 1 := by rw [hL, List.length_append, List.length_singleton]; omega
                have HS1 : stA (ddL l1 d1) d1.deed = d1.kind ∧ stE (ddL l1 d1) = 0 := by rw [hL, (st_yes hLog d1.deed).1, state_snoc]; exact ⟨rfl, (st_yes hLog d1.deed).2⟩
                have HLB : logB (ddL l1 d1) = true := by rw [hL]; exact hLog
                have HS := implStateOf_any X1 (ddL l1 d1) y1 _ _ d1.deed wr RX (Nat.le_trans HX1 (vW).size) KX NX hy1 hym1
                have HI := fun (wx : World) (hux : Up wr wx) => implIsLog_any X1 (ddL l1 d1) y1 _ _ wx (RX.up hux (Nat.le_trans HX1 (vW).size)) (Nat.le_trans (Nat.le_trans HX1 (vW).size) hux.size) KX NX hy1 hym1
                simp only [HS1.1, HS1.2] at HS
                simp only [HLB] at HI
                have HS' := Lib.hid HS
                have HI' := Lib.hid HI
                have hlen' := Lib.hid hlen
                clear HS HI hL hLog HS1 HLB KX NX RX hlen hdd
                go_wp2_with fail
                refine HS'.out.mono ?_
                rintro e w21 ⟨rfl, u21⟩
                have j1' := u21.cell j1
                have hkk : (d1.kind == d1.kind) = true := by simp
                go_wp2_with fail
                refine (HI'.out w21 u21).mono ?_
                rintro e w22 ⟨rfl, u22⟩
                have hfin := UW.trans ((vW).trans (u21.trans u22))
                have hlq : ((((ddL l1 d1).length : Nat) : Int) == (l1.length : Int) + 1) = true := by rw [hlen'.out]; simp
                have hl80 : l1.length ≤ 100 := L1
                clear hlen'
                go_wp2
                go_ret
                exact ⟨rfl, hfin⟩
              · have hddb : (ddE l1 d1 == 0) = false := by simpa using hdd
                have hfin := UW.trans vW
                clear hdd
                go_wp2
                go_ret
                exact ⟨rfl, hfin⟩
            · have h0b : (zs == 0) = false := by simpa using h0
              clear h1 h0 HD1' HD0'
              by_cases hdd : ddE l1 d1 = 0
              · have hddb : (ddE l1 d1 == 0) = true := by simpa using hdd
                obtain ⟨hL, hLog⟩ := dd_ok hdd
                obtain ⟨j0, j1, j2, j3, -, -, -, -⟩ := DB_.up vW
                have RX := RX1.up vW HX1
                have KX : ∀ d ∈ ddL l1 d1, d.ok := by
                  rw [hL]; intro x hx
                  rcases List.mem_append.1 hx with h | h
                  · exact K1 x h
                  · rw [List.mem_singleton.1 h]; exact KD
                have NX : (ddL l1 d1).length ≤ 2000000 := by rw [hL, List.length_append, List.length_singleton]; omega
                have hlen : (((ddL l1 d1).length : Nat) : Int) = (l1.length : Int) + 1 := by rw [hL, List.length_append, List.length_singleton]; omega
                have HS1 : stA (ddL l1 d1) d1.deed = d1.kind ∧ stE (ddL l1 d1) = 0 := by rw [hL, (st_yes hLog d1.deed).1, state_snoc]; exact ⟨rfl, (st_yes hLog d1.deed).2⟩
                have HLB : logB (ddL l1 d1) = true := by rw [hL]; exact hLog
                have HS := implStateOf_any X1 (ddL l1 d1) y1 _ _ d1.deed wr RX (Nat.le_trans HX1 (vW).size) KX NX hy1 hym1
                have HI := fun (wx : World) (hux : Up wr wx) => implIsLog_any X1 (ddL l1 d1) y1 _ _ wx (RX.up hux (Nat.le_trans HX1 (vW).size)) (Nat.le_trans (Nat.le_trans HX1 (vW).size) hux.size) KX NX hy1 hym1
                simp only [HS1.1, HS1.2] at HS
                simp only [HLB] at HI
                have HS' := Lib.hid HS
                have HI' := Lib.hid HI
                have hlen' := Lib.hid hlen
                clear HS HI hL hLog HS1 HLB KX NX RX hlen hdd
                go_wp2_with fail
                refine HS'.out.mono ?_
                rintro e w21 ⟨rfl, u21⟩
                have j1' := u21.cell j1
                have hkk : (d1.kind == d1.kind) = true := by simp
                go_wp2_with fail
                refine (HI'.out w21 u21).mono ?_
                rintro e w22 ⟨rfl, u22⟩
                have hfin := UW.trans ((vW).trans (u21.trans u22))
                have hlq : ((((ddL l1 d1).length : Nat) : Int) == (l1.length : Int) + 1) = true := by rw [hlen'.out]; simp
                have hl80 : l1.length ≤ 100 := L1
                clear hlen'
                go_wp2
                go_ret
                exact ⟨rfl, hfin⟩
              · have hddb : (ddE l1 d1 == 0) = false := by simpa using hdd
                have hfin := UW.trans vW
                clear hdd
                go_wp2
                go_ret
                exact ⟨rfl, hfin⟩
    · have hb2' : logB l2 = false := by simpa using hb2
      have hE := (st_no hb2' s2).2
      rw [hE]
      have HI3 := HI2.out
      simp only [hb2'] at HI3
      have HI4 := Lib.hid HI3
      clear HI2 HI3 hE hb2 hb2'
      generalize stA l2 s2 = zs at *
      generalize dyE l2 s2 = zd at *
      generalize dyA l2 s2 = za at *
      go_wp2_with fail
      refine (likeDecisions_any X1 X2 (ddL l1 d1) y1 y2 _ _ _ _ W RX1 HX1 RX2 HX2 HLX).mono ?_
      rintro e w14 ⟨rfl, u14⟩
      have v14 := u14
      go_wp2_with fail
      refine (likeTexts_any O1 O2 (osL l2) p1 p2 _ _ _ _ w14 (RO1.up v14 HO1) (Nat.le_trans HO1 v14.size) (RO2.up v14 HO2) (Nat.le_trans HO2 v14.size) HLO).mono ?_
      rintro e w15 ⟨rfl, u15⟩
      have v15 := v14.trans u15
      go_wp2_with fail
      refine (likeInts_any C1 C2 (cbL l3 s3) k1 k2 _ _ _ _ w15 (RC1.up v15 HC1) (Nat.le_trans HC1 v15.size) (RC2.up v15 HC2) (Nat.le_trans HC2 v15.size) HLC).mono ?_
      rintro e w16 ⟨rfl, u16⟩
      have v16 := v15.trans u16
      go_wp2_with fail
      refine (HI4.out w16 v16).mono ?_
      rintro e w17 ⟨rfl, u17⟩
      have v17 := v16.trans u17
      by_cases hdd : ddE l1 d1 = 0
      · have hddb : (ddE l1 d1 == 0) = true := by simpa using hdd
        obtain ⟨hL, hLog⟩ := dd_ok hdd
        obtain ⟨j0, j1, j2, j3, -, -, -, -⟩ := DB_.up v17
        have RX := RX1.up v17 HX1
        have KX : ∀ d ∈ ddL l1 d1, d.ok := by
          rw [hL]; intro x hx
          rcases List.mem_append.1 hx with h | h
          · exact K1 x h
          · rw [List.mem_singleton.1 h]; exact KD
        have NX : (ddL l1 d1).length ≤ 2000000 := by rw [hL, List.length_append, List.length_singleton]; omega
        have hlen : (((ddL l1 d1).length : Nat) : Int) = (l1.length : Int) + 1 := by rw [hL, List.length_append, List.length_singleton]; omega
        have HS1 : stA (ddL l1 d1) d1.deed = d1.kind ∧ stE (ddL l1 d1) = 0 := by rw [hL, (st_yes hLog d1.deed).1, state_snoc]; exact ⟨rfl, (st_yes hLog d1.deed).2⟩
        have HLB : logB (ddL l1 d1) = true := by rw [hL]; exact hLog
        have HS := implStateOf_any X1 (ddL l1 d1) y1 _ _ d1.deed w17 RX (Nat.le_trans HX1 (v17).size) KX NX hy1 hym1
        have HI := fun (wx : World) (hux : Up w17 wx) => implIsLog_any X1 (ddL l1 d1) y1 _ _ wx (RX.up hux (Nat.le_trans HX1 (v17).size)) (Nat.le_trans (Nat.le_trans HX1 (v17).size) hux.size) KX NX hy1 hym1
        simp only [HS1.1, HS1.2] at HS
        simp only [HLB] at HI
        have HS' := Lib.hid HS
        have HI' := Lib.hid HI
        have hlen' := Lib.hid hlen
        clear HS HI hL hLog HS1 HLB KX NX RX hlen hdd
        go_wp2_with fail
        refine HS'.out.mono ?_
        rintro e w21 ⟨rfl, u21⟩
        have j1' := u21.cell j1
        have hkk : (d1.kind == d1.kind) = true := by simp
        go_wp2_with fail
        refine (HI'.out w21 u21).mono ?_
        rintro e w22 ⟨rfl, u22⟩
        have hfin := UW.trans ((v17).trans (u21.trans u22))
        have hlq : ((((ddL l1 d1).length : Nat) : Int) == (l1.length : Int) + 1) = true := by rw [hlen'.out]; simp
        have hl80 : l1.length ≤ 100 := L1
        clear hlen'
        go_wp2
        go_ret
        exact ⟨rfl, hfin⟩
      · have hddb : (ddE l1 d1 == 0) = false := by simpa using hdd
        have hfin := UW.trans v17
        clear hdd
        go_wp2
        go_ret
        exact ⟨rfl, hfin⟩
end Go.Proofs.YtngananoidplmaaDoor
