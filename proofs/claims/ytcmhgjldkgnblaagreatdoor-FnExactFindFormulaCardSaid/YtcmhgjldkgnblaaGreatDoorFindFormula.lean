/- The walk of the law FnExactFindFormula. -/
import Derived.Test.YtcmhgjldkgnblaaGreatDoorFindF
import Derived.Test.YtcmhgjldkgnblaaGreatDoorMarkF
import Derived.Deep.RegionHeld3
namespace Go.Proofs.YtcmhgjldkgnblaaGreatDoor
open Go.RowKit Go.Sort

set_option maxRecDepth 100000 in
set_option maxHeartbeats 8000000 in
theorem fnExactFindFormula_walk (A0 : Option Addr) (l0 : List ByteArray) (c0 : Nat) (x1 : Fm) (w : World) (hr0 : RdT w 0 w.heap.size A0 l0) (hok0 : ∀ d ∈ l0, d.size ≤ maxLen) (hn0 : l0.length ≤ maxLen) (hr1 : RdT w 0 w.heap.size x1.A x1.ws) (hok1 : x1.ok) :
    Calls Tryz.prog 4 #[.slice A0 l0.length c0, x1.val] w fun e w' => e = .returned (.bool true) ∧ Up w w' := by
  obtain ⟨left0, eL0⟩ : ∃ z, z = szSL l0 1048576 := ⟨_, rfl⟩
  obtain ⟨left1, eL1⟩ : ∃ z, z = szSL x1.ws left0 := ⟨_, rfl⟩
  have HS0 := fun (wx : World) (hx : RdT wx 0 w.heap.size A0 l0) (hz : w.heap.size ≤ wx.heap.size) => szStrU A0 l0 c0 0 w.heap.size 1048576 wx hx hz hok0 (by omega) (by omega) hn0
  simp only [← eL0] at HS0
  have H0 := Lib.hid HS0
  have EL0 := Lib.hid eL0
  clear HS0 eL0
  have k1 : (w.alloc (.cells #[.slice x1.A x1.ws.length x1.c, .int .i64 x1.fr, .int .i64 x1.to_] 30)).cell? ⟨w.heap.size, 0, none⟩ = some (.slice x1.A x1.ws.length x1.c) := by go_simp
  have k2 : (w.alloc (.cells #[.slice x1.A x1.ws.length x1.c, .int .i64 x1.fr, .int .i64 x1.to_] 30)).cell? ⟨w.heap.size, 1, none⟩ = some (.int .i64 x1.fr) := by go_simp
  have k3 : (w.alloc (.cells #[.slice x1.A x1.ws.length x1.c, .int .i64 x1.fr, .int .i64 x1.to_] 30)).cell? ⟨w.heap.size, 2, none⟩ = some (.int .i64 x1.to_) := by go_simp
  have u1 := Up.alloc w (.cells #[.slice x1.A x1.ws.length x1.c, .int .i64 x1.fr, .int .i64 x1.to_] 30)
  have hwz : w.heap.size < (w.alloc (.cells #[.slice x1.A x1.ws.length x1.c, .int .i64 x1.fr, .int .i64 x1.to_] 30)).heap.size := by simp
  by_cases hz0 : left0 < 0
  · have hdz0 : decide (left0 < 0) = true := by simpa using hz0
    go_enter Tryz.func4, Tryz.ntmps4
    go_wp2_with fail
    have rA := hr0.up u1 (Nat.le_refl _)
    have rB := hr1.up u1 (Nat.le_refl _)
    generalize w.alloc (.cells #[.slice x1.A x1.ws.length x1.c, .int .i64 x1.fr, .int .i64 x1.to_] 30) = w1 at *
    have z1 := u1.size
    have hU1 := u1
    refine (H0.out _ rA (by omega)).mono ?_
    rintro e w2 ⟨rfl, u2⟩
    have z2 := u2.size
    have hU2 := hU1.trans u2
    replace rA := rA.up u2 (by omega)
    replace rB := rB.up u2 (by omega)
    replace k1 := u2.cell k1
    replace k2 := u2.cell k2
    replace k3 := u2.cell k3
    go_wp2
    go_ret
    exact ⟨rfl, hU2⟩
  have hdz0 : decide (left0 < 0) = false := by simpa using hz0
  have hq0 := (szSL_le l0 1048576 (by omega)).1
  have hl0 := szSL_len (l := l0) (left := 1048576) (by omega) (by rw [← EL0.out]; exact hz0)
  rw [← EL0.out] at hq0
  have HS1 := fun (wx : World) (hx : RdT wx 0 w.heap.size x1.A x1.ws) (hz : w.heap.size ≤ wx.heap.size) => szFormula_any x1 0 w.heap.size left0 wx hx hz hok1 (by omega) (by omega)
  simp only [← eL1] at HS1
  have H1 := Lib.hid HS1
  have EL1 := Lib.hid eL1
  clear HS1 eL1
  by_cases hz1 : left1 < 0
  · have hdz1 : decide (left1 < 0) = true := by simpa using hz1
    go_enter Tryz.func4, Tryz.ntmps4
    go_wp2_with fail
    have rA := hr0.up u1 (Nat.le_refl _)
    have rB := hr1.up u1 (Nat.le_refl _)
    generalize w.alloc (.cells #[.slice x1.A x1.ws.length x1.c, .int .i64 x1.fr, .int .i64 x1.to_] 30) = w1 at *
    have z1 := u1.size
    have hU1 := u1
    refine (H0.out _ rA (by omega)).mono ?_
    rintro e w2 ⟨rfl, u2⟩
    have z2 := u2.size
    have hU2 := hU1.trans u2
    replace rA := rA.up u2 (by omega)
    replace rB := rB.up u2 (by omega)
    replace k1 := u2.cell k1
    replace k2 := u2.cell k2
    replace k3 := u2.cell k3
    go_wp2_with fail
    refine (H1.out _ rB (by omega)).mono ?_
    rintro e w3 ⟨rfl, u3⟩
    have z3 := u3.size
    have hU3 := hU2.trans u3
    replace rA := rA.up u3 (by omega)
    replace rB := rB.up u3 (by omega)
    replace k1 := u3.cell k1
    replace k2 := u3.cell k2
    replace k3 := u3.cell k3
    go_wp2
    go_ret
    exact ⟨rfl, hU3⟩
  have hdz1 : decide (left1 < 0) = false := by simpa using hz1
  have hq1 := (szSL_le x1.ws left0 (by omega)).1
  have hl1 := szSL_len (l := x1.ws) (left := left0) (by omega) (by rw [← EL1.out]; exact hz1)
  rw [← EL1.out] at hq1
  have HOK0 := Lib.hid hok0
  have HOK1 := Lib.hid hok1.1
  clear hok1 hok0
  go_enter Tryz.func4, Tryz.ntmps4
  go_wp2_with fail
  have rA := hr0.up u1 (Nat.le_refl _)
  have rB := hr1.up u1 (Nat.le_refl _)
  generalize w.alloc (.cells #[.slice x1.A x1.ws.length x1.c, .int .i64 x1.fr, .int .i64 x1.to_] 30) = w1 at *
  have z1 := u1.size
  have hU1 := u1
  refine (H0.out _ rA (by omega)).mono ?_
  rintro e w2 ⟨rfl, u2⟩
  have z2 := u2.size
  have hU2 := hU1.trans u2
  replace rA := rA.up u2 (by omega)
  replace rB := rB.up u2 (by omega)
  replace k1 := u2.cell k1
  replace k2 := u2.cell k2
  replace k3 := u2.cell k3
  go_wp2_with fail
  refine (H1.out _ rB (by omega)).mono ?_
  rintro e w3 ⟨rfl, u3⟩
  have z3 := u3.size
  have hU3 := hU2.trans u3
  replace rA := rA.up u3 (by omega)
  replace rB := rB.up u3 (by omega)
  replace k1 := u3.cell k1
  replace k2 := u3.cell k2
  replace k3 := u3.cell k3
  have HT1 := Lib.hid (fun (wx : World) (hx : Up w3 wx) => toStrU A0 l0 c0 0 w.heap.size wx (rA.up hx (by omega)) (by have := hx.size; omega) (by omega))
  have HT2 := Lib.hid (fun (wx : World) (hx : Up w3 wx) => toFormula_any x1 0 w.heap.size wx (rB.up hx (by omega)) (by have := hx.size; omega) (by omega))
  have hd : Up w3 w3.drew := (Up.refl _).drew
  go_wp2_with fail
  go_region_held3 (fun w' => Up w3 w' ∧ w'.cell? ⟨w.heap.size, 0, none⟩ = some (.slice x1.A x1.ws.length x1.c) ∧ w'.cell? ⟨w.heap.size, 1, none⟩ = some (.int .i64 x1.fr) ∧ w'.cell? ⟨w.heap.size, 2, none⟩ = some (.int .i64 x1.to_))
    (first | exact ⟨Up.refl _, k1, k2, k3⟩ | exact ⟨hd, k1, k2, k3⟩ | exact ⟨by assumption, by assumption, by assumption, by assumption⟩)
    (first
      | (go_at_call 7
         with_reducible refine (HT1.out _ (by assumption)).mono ?_
         rintro e wa ⟨Aa, ca, rfl, hca, hma, ra, oa, ua⟩
         have hSa : Up w3 wa := Up.trans (by assumption) ua
         have hSad : Up w3 wa.drew := hSa.drew
         have ka1 := hSa.cell k1
         have ka2 := hSa.cell k2
         have ka3 := hSa.cell k3
         have hZa : Up wa wa := Up.refl _
         have hZad : Up wa wa.drew := (Up.refl _).drew
         have RA := Lib.hid ra
         have hua : w3.heap.size ≤ wa.heap.size := hSa.size
         clear ra oa)
      | (go_at_call 12
         with_reducible refine (HT2.out _ (by assumption)).mono ?_
         rintro e wb ⟨yb, rfl, hpb, hob, owb, ub⟩
         have hSb : Up w3 wb := Up.trans (by assumption) ub
         have hab : Up wa wb := Up.trans (by assumption) ub
         have kb1 := hSb.cell k1
         have kb2 := hSb.cell k2
         have kb3 := hSb.cell k3
         have hZb : Up wb wb := Up.refl _
         have hZbd : Up wb wb.drew := (Up.refl _).drew
         have hw1 : yb.ws = x1.ws := congrArg Prod.fst hpb
         have hlb : yb.ws.length ≤ 2000000 := by rw [hw1]; omega
         have RB := Lib.hid (Rd.own strC_len owb)
         have zzb := hab.size
         have HQ := fun (wx : World) (hx : Up wb wx) => specFindFormula_any Aa l0 ca _ _ _ _ yb wx (RA.out.up (hab.trans hx) (Nat.le_refl _)) (by have := hx.size; omega) hca (RB.out.up hx (Nat.le_refl _)) hx.size HOK0.out (by rw [hw1]; exact HOK1.out) (by omega) hlb
         simp only [hpb] at HQ
         have HQ2 := Lib.hid HQ
         clear HQ hpb owb hob hw1)
      | (go_at_call 11
         with_reducible refine (HQ2.out _ (by assumption)).mono ?_
         rintro e wc ⟨vw, rfl, ovw, uc⟩
         have hbc : Up wb wc := Up.trans (by assumption) uc
         have hSc := hSb.trans hbc
         have hbase : w3.heap.size ≤ wb.heap.size := hSb.size
         have kc1 := hSc.cell k1
         have kc2 := hSc.cell k2
         have kc3 := hSc.cell k3))
  have u4 : Up w3 wc := hSc
  have z4 := u4.size
  have hU4 := hU3.trans u4
  clear ka1 ka2 ka3 kb1 kb2 kb3 kc1 kc2 kc3
  replace rA := rA.up u4 (by omega)
  replace rB := rB.up u4 (by omega)
  replace k1 := u4.cell k1
  replace k2 := u4.cell k2
  replace k3 := u4.cell k3
  have ow := own_base (base' := w3.heap.size) ovw (by first | exact hbase | exact Nat.le_trans hbase (Up.size (by assumption)))
  clear ovw
  obtain ⟨Aw, cw, rfl, hcw, hmw, -, -⟩ := own_form ow
  have rw := Rd.own int_len ow
  have bw := In.own ow
  have hbw : w3.heap.size ≤ wc.heap.size := u4.size
  obtain ⟨w4, hw4⟩ : ∃ x, x = wc := ⟨_, rfl⟩
  subst hw4
  have hlv : (ffL l0 x1.p).length ≤ 2000000 := by have := ff_len l0 x1.p; omega
  go_wp2_with fail
  refine (toStrU A0 l0 c0 0 w.heap.size _ rA (by omega) (by omega)).mono ?_
  rintro e w5 ⟨AX, cX, rfl, hcX, hmX, rX, oX, u5⟩
  have z5 := u5.size
  have hU5 := hU4.trans u5
  replace rA := rA.up u5 (by omega)
  replace rB := rB.up u5 (by omega)
  replace k1 := u5.cell k1
  replace k2 := u5.cell k2
  replace k3 := u5.cell k3
  replace rw := rw.up u5 (by omega)
  replace ow := own_up ow u5
  have bX := In.own oX
  go_wp2_with fail
  refine (toFormula_any x1 0 w.heap.size _ rB (by omega) (by omega)).mono ?_
  rintro e w6 ⟨y, rfl, hpy, hyo, oY, u6⟩
  have z6 := u6.size
  have hU6 := hU5.trans u6
  replace rA := rA.up u6 (by omega)
  replace rB := rB.up u6 (by omega)
  replace k1 := u6.cell k1
  replace k2 := u6.cell k2
  replace k3 := u6.cell k3
  replace rw := rw.up u6 (by omega)
  replace ow := own_up ow u6
  replace rX := rX.up u6 (by omega)
  replace oX := own_up oX u6
  have bY := In.own oY
  have rY := Rd.own strC_len oY
  have hwy : y.ws = x1.ws := congrArg Prod.fst hpy
  have hly : y.ws.length ≤ 2000000 := by rw [hwy]; omega
  have hlyx : (y.ws.length : Int) ≤ 1048576 := by rw [hwy]; omega
  have HPY := Lib.hid hpy
  have HOKY : Hid (∀ s ∈ y.ws, s.size ≤ maxLen) := Lib.hid (by rw [hwy]; exact HOK1.out)
  clear hpy hwy
  have m1 : (w6.alloc (.cells #[.slice y.A y.ws.length y.c, .int .i64 y.fr, .int .i64 y.to_] 35)).cell? ⟨w6.heap.size, 0, none⟩ = some (.slice y.A y.ws.length y.c) := by go_simp
  have m2 : (w6.alloc (.cells #[.slice y.A y.ws.length y.c, .int .i64 y.fr, .int .i64 y.to_] 35)).cell? ⟨w6.heap.size, 1, none⟩ = some (.int .i64 y.fr) := by go_simp
  have m3 : (w6.alloc (.cells #[.slice y.A y.ws.length y.c, .int .i64 y.fr, .int .i64 y.to_] 35)).cell? ⟨w6.heap.size, 2, none⟩ = some (.int .i64 y.to_) := by go_simp
  have u7 := Up.alloc w6 (.cells #[.slice y.A y.ws.length y.c, .int .i64 y.fr, .int .i64 y.to_] 35)
  have hbx : w6.heap.size < (w6.alloc (.cells #[.slice y.A y.ws.length y.c, .int .i64 y.fr, .int .i64 y.to_] 35)).heap.size := by simp
  replace rA := rA.up u7 (by omega)
  replace rB := rB.up u7 (by omega)
  replace k1 := u7.cell k1
  replace k2 := u7.cell k2
  replace k3 := u7.cell k3
  replace rw := rw.up u7 (by omega)
  replace ow := own_up ow u7
  replace rX := rX.up u7 (by omega)
  replace oX := own_up oX u7
  replace oY := own_up oY u7
  replace rY := rY.up u7 (by omega)
  go_wp2_with fail
  generalize w6.alloc (.cells #[.slice y.A y.ws.length y.c, .int .i64 y.fr, .int .i64 y.to_] 35) = w7 at *
  have z7 := u7.size
  have hU7 := hU6.trans u7
  have HQ := implFindFormula_any AX l0 cX _ _ _ _ y w7 rX (by omega) hcX rY (by omega) HOK0.out HOKY.out (by omega) hly
  rw [HPY.out] at HQ
  have HQI := Lib.hid HQ
  clear HQ
  refine HQI.out.mono ?_
  rintro e w8 ⟨vg, rfl, og, u8⟩
  have z8 := u8.size
  have hU8 := hU7.trans u8
  clear HQI
  replace rA := rA.up u8 (by omega)
  replace rB := rB.up u8 (by omega)
  replace k1 := u8.cell k1
  replace k2 := u8.cell k2
  replace k3 := u8.cell k3
  replace rw := rw.up u8 (by omega)
  replace ow := own_up ow u8
  replace rX := rX.up u8 (by omega)
  replace oX := own_up oX u8
  replace oY := own_up oY u8
  replace rY := rY.up u8 (by omega)
  replace m1 := u8.cell m1
  replace m2 := u8.cell m2
  replace m3 := u8.cell m3
  obtain ⟨Ag, cg, rfl, hcg, hmg, -, -⟩ := own_form og
  have rg := Rd.own int_len og
  have bg := In.own og
  have heq8 : eqIs (ffL l0 x1.p) (ffL l0 x1.p) = true := eqIs_self _
  go_wp2_with fail
  refine (eqInt64S_any Ag Aw (ffL l0 x1.p) (ffL l0 x1.p) cg cw _ _ _ _ _ rg (by omega) rw (by omega) hlv).mono ?_
  rintro e w9 ⟨rfl, u9⟩
  have z9 := u9.size
  have hU9 := hU8.trans u9
  replace rA := rA.up u9 (by omega)
  replace rB := rB.up u9 (by omega)
  replace k1 := u9.cell k1
  replace k2 := u9.cell k2
  replace k3 := u9.cell k3
  replace rw := rw.up u9 (by omega)
  replace ow := own_up ow u9
  replace rX := rX.up u9 (by omega)
  replace oX := own_up oX u9
  replace oY := own_up oY u9
  replace rY := rY.up u9 (by omega)
  replace m1 := u9.cell m1
  replace m2 := u9.cell m2
  replace m3 := u9.cell m3
  replace rg := rg.up u9 (by omega)
  replace og := own_up og u9
  go_wp2_with fail
  refine (toStrU A0 l0 c0 0 w.heap.size _ rA (by omega) (by omega)).mono ?_
  rintro e w10 ⟨AZ, cZ, rfl, hcZ, hmZ, rZ, oZ, u10⟩
  have z10 := u10.size
  have hU10 := hU9.trans u10
  replace rA := rA.up u10 (by omega)
  replace rB := rB.up u10 (by omega)
  replace k1 := u10.cell k1
  replace k2 := u10.cell k2
  replace k3 := u10.cell k3
  replace rw := rw.up u10 (by omega)
  replace ow := own_up ow u10
  replace rX := rX.up u10 (by omega)
  replace oX := own_up oX u10
  replace oY := own_up oY u10
  replace rY := rY.up u10 (by omega)
  replace m1 := u10.cell m1
  replace m2 := u10.cell m2
  replace m3 := u10.cell m3
  replace rg := rg.up u10 (by omega)
  replace og := own_up og u10
  have heqs : eqSs l0 l0 = true := eqSs_self _
  go_wp2_with fail
  refine (eqStringS_any AX AZ l0 l0 cX cZ _ _ _ _ _ rX (by omega) rZ (by omega) (by omega)).mono ?_
  rintro e w11 ⟨rfl, u11⟩
  have z11 := u11.size
  have hU11 := hU10.trans u11
  replace rA := rA.up u11 (by omega)
  replace rB := rB.up u11 (by omega)
  replace k1 := u11.cell k1
  replace k2 := u11.cell k2
  replace k3 := u11.cell k3
  replace rw := rw.up u11 (by omega)
  replace ow := own_up ow u11
  replace rX := rX.up u11 (by omega)
  replace oX := own_up oX u11
  replace oY := own_up oY u11
  replace rY := rY.up u11 (by omega)
  replace m1 := u11.cell m1
  replace m2 := u11.cell m2
  replace m3 := u11.cell m3
  replace rg := rg.up u11 (by omega)
  replace og := own_up og u11
  have HT2 := Lib.hid (fun (wx : World) (hx : Up w11 wx) => toFormula_any x1 0 w.heap.size wx (rB.up hx (by omega)) (by have := hx.size; omega) (by omega))
  have hd : Up w11 w11.drew := (Up.refl _).drew
  go_wp2_with fail
  go_region_held3 (fun w' => Up w11 w' ∧ w'.cell? ⟨w.heap.size, 0, none⟩ = some (.slice x1.A x1.ws.length x1.c) ∧ w'.cell? ⟨w.heap.size, 1, none⟩ = some (.int .i64 x1.fr) ∧ w'.cell? ⟨w.heap.size, 2, none⟩ = some (.int .i64 x1.to_) ∧ w'.cell? ⟨w6.heap.size, 0, none⟩ = some (.slice y.A y.ws.length y.c) ∧ w'.cell? ⟨w6.heap.size, 1, none⟩ = some (.int .i64 y.fr) ∧ w'.cell? ⟨w6.heap.size, 2, none⟩ = some (.int .i64 y.to_))
    (first | exact ⟨Up.refl _, k1, k2, k3, m1, m2, m3⟩ | exact ⟨hd, k1, k2, k3, m1, m2, m3⟩ | exact ⟨by assumption, by assumption, by assumption, by assumption, by assumption, by assumption, by assumption⟩)
    (first
      | (go_at_call 12
         with_reducible refine (HT2.out _ (by assumption)).mono ?_
         rintro e wb ⟨yb, rfl, hpb, hob, owb, ub⟩
         have hSb : Up w11 wb := Up.trans (by assumption) ub
         have kb1 := hSb.cell k1
         have kb2 := hSb.cell k2
         have kb3 := hSb.cell k3
         have kb4 := hSb.cell m1
         have kb5 := hSb.cell m2
         have kb6 := hSb.cell m3
         have hZb : Up wb wb := Up.refl _
         have hZbd : Up wb wb.drew := (Up.refl _).drew
         have RB := Lib.hid (Rd.own strC_len owb)
         have HEF := Lib.hid (show eqF y yb = true from decide_eq_true (HPY.out.trans hpb.symm))
         have HQ := fun (wx : World) (hx : Up wb wx) => eqFormula_any y yb _ _ _ _ wx (rY.up (hSb.trans hx) (by omega)) (by have := (hSb.trans hx).size; omega) (RB.out.up hx (Nat.le_refl _)) hx.size hly
         simp only [HEF.out] at HQ
         have HQ2 := Lib.hid HQ
         clear HQ hpb owb hob)
      | (go_at_call 15
         with_reducible refine (HQ2.out _ (by assumption)).mono ?_
         rintro e wc ⟨rfl, uc⟩
         have hbc : Up wb wc := Up.trans (by assumption) uc
         have hSc := hSb.trans hbc
         have kc1 := hSc.cell k1
         have kc2 := hSc.cell k2
         have kc3 := hSc.cell k3
         have kc4 := hSc.cell m1
         have kc5 := hSc.cell m2
         have kc6 := hSc.cell m3))
  have u12 : Up w11 wc := hSc
  have z12 := u12.size
  have hU12 := hU11.trans u12
  clear kb1 kb2 kb3 kb4 kb5 kb6 kc1 kc2 kc3 kc4 kc5 kc6
  replace rA := rA.up u12 (by omega)
  replace rB := rB.up u12 (by omega)
  replace k1 := u12.cell k1
  replace k2 := u12.cell k2
  replace k3 := u12.cell k3
  replace rw := rw.up u12 (by omega)
  replace ow := own_up ow u12
  replace rX := rX.up u12 (by omega)
  replace oX := own_up oX u12
  replace oY := own_up oY u12
  replace rY := rY.up u12 (by omega)
  replace m1 := u12.cell m1
  replace m2 := u12.cell m2
  replace m3 := u12.cell m3
  replace rg := rg.up u12 (by omega)
  replace og := own_up og u12
  obtain ⟨w12, hw12⟩ : ∃ x, x = wc := ⟨_, rfl⟩
  subst hw12
  go_wp2_with fail
  refine (markStrM_any AX l0.length cX _ _ 1 _ oX _ _ bX (by omega) (by omega) (by omega)).mono ?_
  rintro e w13 ⟨rfl, m13⟩
  have z13 := m13.size
  have hU13 := hU12.mk m13 (by omega)
  clear rX
  clear oX
  replace rA := m13.rd rA (by omega) (by omega)
  replace rB := m13.rd rB (by omega) (by omega)
  replace k1 := m13.cell k1 (by first | (simp; done) | (simp; omega))
  replace k2 := m13.cell k2 (by first | (simp; done) | (simp; omega))
  replace k3 := m13.cell k3 (by first | (simp; done) | (simp; omega))
  replace rw := m13.rd rw (by omega) (by omega)
  replace ow := m13.own ow bw (by omega)
  replace oY := m13.own oY bY (by omega)
  replace rY := m13.rd rY (by omega) (by omega)
  replace m1 := m13.cell m1 (by first | (simp; done) | (simp; omega))
  replace m2 := m13.cell m2 (by first | (simp; done) | (simp; omega))
  replace m3 := m13.cell m3 (by first | (simp; done) | (simp; omega))
  replace rg := m13.rd rg (by omega) (by omega)
  replace og := m13.own og bg (by omega)
  go_wp2_with fail
  refine (markFormula_any y _ _ (1 + (l0.length : Int)) _ oY _ _ bY (by omega) (by omega) (by omega)).mono ?_
  rintro e w14 ⟨rfl, m14⟩
  have z14 := m14.size
  have hU14 := hU13.mk m14 (by omega)
  clear rY
  clear oY
  replace rA := m14.rd rA (by omega) (by omega)
  replace rB := m14.rd rB (by omega) (by omega)
  replace k1 := m14.cell k1 (by first | (simp; done) | (simp; omega))
  replace k2 := m14.cell k2 (by first | (simp; done) | (simp; omega))
  replace k3 := m14.cell k3 (by first | (simp; done) | (simp; omega))
  replace rw := m14.rd rw (by omega) (by omega)
  replace ow := m14.own ow bw (by omega)
  replace m1 := m14.cell m1 (by first | (simp; done) | (simp; omega))
  replace m2 := m14.cell m2 (by first | (simp; done) | (simp; omega))
  replace m3 := m14.cell m3 (by first | (simp; done) | (simp; omega))
  replace rg := m14.rd rg (by omega) (by omega)
  replace og := m14.own og bg (by omega)
  have hdk : decide (1 + (l0.length : Int) + (y.ws.length : Int) < 0) = false := by rw [decide_eq_false_iff_not]; omega
  have heq14 : eqIs (ffL l0 x1.p) (ffL l0 x1.p) = true := eqIs_self _
  go_wp2_with fail
  refine (eqInt64S_any Ag Aw (ffL l0 x1.p) (ffL l0 x1.p) cg cw _ _ _ _ _ rg (by omega) rw (by omega) hlv).mono ?_
  rintro e w15 ⟨rfl, u15⟩
  have z15 := u15.size
  have hU15 := hU14.trans u15
  replace rA := rA.up u15 (by omega)
  replace rB := rB.up u15 (by omega)
  replace k1 := u15.cell k1
  replace k2 := u15.cell k2
  replace k3 := u15.cell k3
  replace rw := rw.up u15 (by omega)
  replace ow := own_up ow u15
  replace m1 := u15.cell m1
  replace m2 := u15.cell m2
  replace m3 := u15.cell m3
  replace rg := rg.up u15 (by omega)
  replace og := own_up og u15
  go_wp2_with fail
  refine (markIntM_any Ag (ffL l0 x1.p).length cg _ _ 1 _ og _ _ bg hlv (by omega) (by omega)).mono ?_
  rintro e w16 ⟨rfl, ok16, m16⟩
  have z16 := m16.size
  have hU16 := hU15.mk m16 (by omega)
  clear rg
  clear og
  replace rA := m16.rd rA (by omega) (by omega)
  replace rB := m16.rd rB (by omega) (by omega)
  replace k1 := m16.cell k1 (by first | (simp; done) | (simp; omega))
  replace k2 := m16.cell k2 (by first | (simp; done) | (simp; omega))
  replace k3 := m16.cell k3 (by first | (simp; done) | (simp; omega))
  replace rw := m16.rd rw (by omega) (by omega)
  replace ow := m16.own ow bw (by omega)
  replace m1 := m16.cell m1 (by first | (simp; done) | (simp; omega))
  replace m2 := m16.cell m2 (by first | (simp; done) | (simp; omega))
  replace m3 := m16.cell m3 (by first | (simp; done) | (simp; omega))
  have rk := Rd.own (l := mkI 1 (ffL l0 x1.p).length) int_len (by rw [mkI_len]; exact ok16)
  go_wp2_with fail
  refine (heldInt64S_any Ag (ffL l0 x1.p).length cg _ _ 1 _ rk hlv (by omega) (by omega)).mono ?_
  rintro e w' ⟨rfl, rfl⟩
  have HT1 := Lib.hid (fun (wx : World) (hx : Up w16 wx) => toStrU A0 l0 c0 0 w.heap.size wx (rA.up hx (by omega)) (by have := hx.size; omega) (by omega))
  have HT2 := Lib.hid (fun (wx : World) (hx : Up w16 wx) => toFormula_any x1 0 w.heap.size wx (rB.up hx (by omega)) (by have := hx.size; omega) (by omega))
  have hd : Up w16 w16.drew := (Up.refl _).drew
  go_wp2_with fail
  go_region_held3 (fun w' => Up w16 w' ∧ w'.cell? ⟨w.heap.size, 0, none⟩ = some (.slice x1.A x1.ws.length x1.c) ∧ w'.cell? ⟨w.heap.size, 1, none⟩ = some (.int .i64 x1.fr) ∧ w'.cell? ⟨w.heap.size, 2, none⟩ = some (.int .i64 x1.to_))
    (first | exact ⟨Up.refl _, k1, k2, k3⟩ | exact ⟨hd, k1, k2, k3⟩ | exact ⟨by assumption, by assumption, by assumption, by assumption⟩)
    (first
      | (go_at_call 7
         with_reducible refine (HT1.out _ (by assumption)).mono ?_
         rintro e wa ⟨Aa, ca, rfl, hca, hma, ra, oa, ua⟩
         have hSa : Up w16 wa := Up.trans (by assumption) ua
         have hSad : Up w16 wa.drew := hSa.drew
         have ka1 := hSa.cell k1
         have ka2 := hSa.cell k2
         have ka3 := hSa.cell k3
         have hZa : Up wa wa := Up.refl _
         have hZad : Up wa wa.drew := (Up.refl _).drew
         have RA := Lib.hid ra
         have hua : w16.heap.size ≤ wa.heap.size := hSa.size
         clear ra oa)
      | (go_at_call 12
         with_reducible refine (HT2.out _ (by assumption)).mono ?_
         rintro e wb ⟨yb, rfl, hpb, hob, owb, ub⟩
         have hSb : Up w16 wb := Up.trans (by assumption) ub
         have hab : Up wa wb := Up.trans (by assumption) ub
         have kb1 := hSb.cell k1
         have kb2 := hSb.cell k2
         have kb3 := hSb.cell k3
         have hZb : Up wb wb := Up.refl _
         have hZbd : Up wb wb.drew := (Up.refl _).drew
         have hw1 : yb.ws = x1.ws := congrArg Prod.fst hpb
         have hlb : yb.ws.length ≤ 2000000 := by rw [hw1]; omega
         have RB := Lib.hid (Rd.own strC_len owb)
         have zzb := hab.size
         have HQ := fun (wx : World) (hx : Up wb wx) => implFindFormula_any Aa l0 ca _ _ _ _ yb wx (RA.out.up (hab.trans hx) (Nat.le_refl _)) (by have := hx.size; omega) hca (RB.out.up hx (Nat.le_refl _)) hx.size HOK0.out (by rw [hw1]; exact HOK1.out) (by omega) hlb
         simp only [hpb] at HQ
         have HQ2 := Lib.hid HQ
         clear HQ hpb owb hob hw1)
      | (go_at_call 13
         with_reducible refine (HQ2.out _ (by assumption)).mono ?_
         rintro e wc ⟨vh, rfl, ovh, uc⟩
         have hbc : Up wb wc := Up.trans (by assumption) uc
         have hSc := hSb.trans hbc
         have hbase : w16.heap.size ≤ wb.heap.size := hSb.size
         have kc1 := hSc.cell k1
         have kc2 := hSc.cell k2
         have kc3 := hSc.cell k3))
  have u17 : Up w16 wc := hSc
  have z17 := u17.size
  have hU17 := hU16.trans u17
  clear ka1 ka2 ka3 kb1 kb2 kb3 kc1 kc2 kc3
  replace rA := rA.up u17 (by omega)
  replace rB := rB.up u17 (by omega)
  replace k1 := u17.cell k1
  replace k2 := u17.cell k2
  replace k3 := u17.cell k3
  replace rw := rw.up u17 (by omega)
  replace ow := own_up ow u17
  replace m1 := u17.cell m1
  replace m2 := u17.cell m2
  replace m3 := u17.cell m3
  replace rk := rk.up u17 (by omega)
  have oh := own_base (base' := w16.heap.size) ovh (by first | exact hbase | exact Nat.le_trans hbase (Up.size (by assumption)))
  clear ovh
  obtain ⟨Ah, ch, rfl, hch, hmh, -, -⟩ := own_form oh
  have rh := Rd.own int_len oh
  have bh := In.own oh
  have hbh : w16.heap.size ≤ wc.heap.size := u17.size
  obtain ⟨w17, hw17⟩ : ∃ x, x = wc := ⟨_, rfl⟩
  subst hw17
  have heq17 : eqIs (ffL l0 x1.p) (ffL l0 x1.p) = true := eqIs_self _
  go_wp2_with fail
  refine (eqInt64S_any Ah Aw (ffL l0 x1.p) (ffL l0 x1.p) ch cw _ _ _ _ _ rh (by omega) rw (by omega) hlv).mono ?_
  rintro e w18 ⟨rfl, u18⟩
  have z18 := u18.size
  have hU18 := hU17.trans u18
  replace rA := rA.up u18 (by omega)
  replace rB := rB.up u18 (by omega)
  replace k1 := u18.cell k1
  replace k2 := u18.cell k2
  replace k3 := u18.cell k3
  replace rw := rw.up u18 (by omega)
  replace ow := own_up ow u18
  replace m1 := u18.cell m1
  replace m2 := u18.cell m2
  replace m3 := u18.cell m3
  replace rk := rk.up u18 (by omega)
  replace rh := rh.up u18 (by omega)
  replace oh := own_up oh u18
  go_wp2_with fail
  refine (heldInt64S_any Ag (ffL l0 x1.p).length cg _ _ 1 _ rk hlv (by omega) (by omega)).mono ?_
  rintro e w' ⟨rfl, rfl⟩
  go_wp2
  go_ret
  exact ⟨rfl, hU18⟩
end Go.Proofs.YtcmhgjldkgnblaaGreatDoor
