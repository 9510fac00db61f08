/- The walk of the law FnExactDecideDeed. -/
import Derived.Test.YtngananoidplmaaDoorDecideI
import Derived.Test.YtngananoidplmaaDoorIsLog
import Derived.Test.YtngananoidplmaaDoorMark
import Derived.Deep.RegionHeld3
namespace Go.Proofs.YtngananoidplmaaDoor
open Go.RowKit Go.Sort

theorem own_nilc {w : World} {base : Nat} {e : TypeId} {size n c : Nat} {A : Option Addr} {xs : List Value} (h : w.ownsRow base e size (.slice A n c) n xs) : A = none → c = 0 := by
  intro hA
  rcases h.2 with ⟨hv, -⟩ | ⟨g, cap, cur, hv, -⟩
  · cases hv; rfl
  · cases hv; cases hA
theorem ddL_len (l : List Dec) (d : Dec) : (ddL l d).length ≤ l.length + 1 := by
  unfold ddL; split <;> simp
set_option maxRecDepth 100000 in
set_option maxHeartbeats 4000000 in
theorem fnExactDecideDeed_walk (A0 : Option Addr) (l0 : List Dec) (c0 : Nat) (d1 : Dec) (w : World) (hr0 : RdD w 0 w.heap.size A0 l0) (hok0 : ∀ d ∈ l0, d.ok) (hn0 : l0.length ≤ maxLen) (hd1 : d1.ok) :
    Calls Tryd.prog 7 #[.slice A0 l0.length c0, d1.val] w fun e w' => e = .returned (.bool true) ∧ Up w w' := by
  have ub := Up.alloc w (.cells #[.string d1.deed, .int .i64 d1.kind, .int .i64 d1.day, .string d1.by_] 39)
  have hxb : Dx (w.alloc (.cells #[.string d1.deed, .int .i64 d1.kind, .int .i64 d1.day, .string d1.by_] 39)) w.heap.size d1 := ⟨by go_simp, by go_simp, by go_simp, by go_simp⟩
  have HXB := Lib.hid hxb
  clear hxb
  obtain ⟨left0, eL0⟩ : ∃ z, z = szDL l0 1048576 := ⟨_, rfl⟩
  have HS0 := fun (wx : World) (hx : RdD wx 0 w.heap.size A0 l0) (hz : w.heap.size ≤ wx.heap.size) => szDecisionS_any A0 l0 c0 0 w.heap.size 1048576 wx hx hz hok0 (by omega) (by omega) hn0
  simp only [← eL0] at HS0
  have hle0 : left0 ≤ 1048576 := by have := szDL_le l0 1048576 (by omega); omega
  have H0 := Lib.hid HS0
  have EL0 := Lib.hid eL0
  clear HS0 eL0
  by_cases hz0 : left0 < 0
  · have hdz0 : decide (left0 < 0) = true := by simpa using hz0
    go_enter Tryd.func7, Tryd.ntmps7
    go_wp2_with fail
    refine (H0.out _ (hr0.up ub (Nat.le_refl _)) ub.size).mono ?_
    rintro e w1 ⟨rfl, u1'⟩
    have u1 := ub.trans u1'
    have DX1 := Lib.hid (HXB.out.up u1')
    obtain ⟨e0, e1, e2, e3⟩ := DX1.out
    have z1 := u1.size
    have hU1 := u1
    go_wp2
    go_ret
    exact ⟨rfl, hU1⟩
  · have hdz0 : decide (left0 < 0) = false := by simpa using hz0
    have hl0 : l0.length ≤ 2000000 := by have h := EL0.out; have := szDL_len (l := l0) (left := 1048576) (by omega); omega
    have hl0' : l0.length ≤ 1048576 := by have h := EL0.out; have := szDL_len (l := l0) (left := 1048576) (by omega); omega
    obtain ⟨left1, eL1⟩ : ∃ z, z = szD d1 left0 := ⟨_, rfl⟩
    have HS1 := fun wx : World => szDecision_any d1 hd1 left0 wx (by omega) (by omega)
    simp only [← eL1] at HS1
    have hle1 : left1 ≤ 1048576 := by have := szD_le d1 left0 (by omega); omega
    have H1 := Lib.hid HS1
    have EL1 := Lib.hid eL1
    clear HS1 eL1
    by_cases hz1 : left1 < 0
    · have hdz1 : decide (left1 < 0) = true := by simpa using hz1
      go_enter Tryd.func7, Tryd.ntmps7
      go_wp2_with fail
      refine (H0.out _ (hr0.up ub (Nat.le_refl _)) ub.size).mono ?_
      rintro e w1 ⟨rfl, u1'⟩
      have u1 := ub.trans u1'
      have DX1 := Lib.hid (HXB.out.up u1')
      obtain ⟨e0, e1, e2, e3⟩ := DX1.out
      have z1 := u1.size
      have hU1 := u1
      go_wp2_with fail
      refine (H1.out _).mono ?_
      rintro e w2 ⟨rfl, u2⟩
      have z2 := u2.size
      have hU2 := hU1.trans u2
      go_wp2
      go_ret
      exact ⟨rfl, hU2⟩
    · have hdz1 : decide (left1 < 0) = false := by simpa using hz1
      go_enter Tryd.func7, Tryd.ntmps7
      go_wp2_with fail
      refine (H0.out _ (hr0.up ub (Nat.le_refl _)) ub.size).mono ?_
      rintro e w1 ⟨rfl, u1'⟩
      have u1 := ub.trans u1'
      have DX1 := Lib.hid (HXB.out.up u1')
      obtain ⟨e0, e1, e2, e3⟩ := DX1.out
      have z1 := u1.size
      have hU1 := u1
      go_wp2_with fail
      refine (H1.out _).mono ?_
      rintro e w2 ⟨rfl, u2⟩
      have z2 := u2.size
      have hU2 := hU1.trans u2
      clear e0 e1 e2 e3
      have HTs := Lib.hid (fun (wx : World) (hx : Up w2 wx) => toDecS A0 l0 c0 0 w.heap.size wx (hr0.up ((u1.trans u2).trans hx) (Nat.le_refl _)) (((u1.trans u2).trans hx).size) hl0)
      have hds : Up w2 w2.drew := (Up.refl _).drew
      obtain ⟨p0, p1, p2, p3⟩ := DX1.out.up u2
      go_wp2_with fail
      go_region_held3 (fun w' => Up w2 w' ∧ w'.cell? ⟨w.heap.size, 0, none⟩ = some (.string d1.deed) ∧ w'.cell? ⟨w.heap.size, 1, none⟩ = some (.int .i64 d1.kind) ∧ w'.cell? ⟨w.heap.size, 2, none⟩ = some (.int .i64 d1.day) ∧ w'.cell? ⟨w.heap.size, 3, none⟩ = some (.string d1.by_))
        (first | exact ⟨Up.refl _, p0, p1, p2, p3⟩ | exact ⟨hds, p0, p1, p2, p3⟩ | exact ⟨by assumption, by assumption, by assumption, by assumption, by assumption⟩)
        (first
          | (go_at_call 13
             with_reducible refine (HTs.out _ (by assumption)).mono ?_
             rintro e y3 ⟨Ass, css, rfl, hcss, hmss, rrss, ooss, v3⟩
             have hS3 : Up w2 y3 := Up.trans (by assumption) v3
             have q0 := hS3.cell p0
             have q1 := hS3.cell p1
             have q2 := hS3.cell p2
             have q3 := hS3.cell p3
             have RR := Lib.hid rrss
             have OO := Lib.hid ooss
             have HS3 := Lib.hid (fun (wx : World) (hx : Up y3 wx) => (specDecide_any Ass l0 css _ _ d1 wx (RR.out.up hx (Nat.le_refl _)) hx.size hok0 hd1 hl0 hcss hmss (own_nilc OO.out)).mono
               (fun e w' ⟨v, h1, h2, h3⟩ => (⟨v, h1, own_base h2 hx.size, hx.trans h3⟩ : ∃ v, e = Ending.returned (.tuple #[v, .int .i64 (ddE l0 d1)]) ∧ w'.ownsRow y3.heap.size 43 4 v (ddL l0 d1).length ((ddL l0 d1).flatMap Dec.cells) ∧ Up y3 w')))
             have hZ : Up y3 y3 := Up.refl _
             have hZd : Up y3 y3.drew := (Up.refl _).drew
             clear rrss ooss)
          | (go_at_call 28
             refine (toDecision_any d1 _).mono ?_
             rintro e y4 ⟨rfl, v4⟩
             have hS4 : Up w2 y4 := Up.trans (by assumption) v4
             have k0 := hS4.cell p0
             have k1 := hS4.cell p1
             have k2 := hS4.cell p2
             have k3 := hS4.cell p3
             (first | (have h34 : Up y3 y4 := Up.trans (by assumption) v4) | skip))
          | (go_at_call 27
             with_reducible refine (HS3.out _ (by assumption)).mono ?_
             rintro e w5 ⟨vw, rfl, ov', v5⟩
             have hS5 : Up w2 w5 := Up.trans hS3 v5
             have ovw := own_base ov' hS3.size
             have m0 := hS5.cell p0
             have m1 := hS5.cell p1
             have m2 := hS5.cell p2
             have m3 := hS5.cell p3))
      have u3 : Up w2 w2 := Up.refl _
      have u4 : Up w2 w2 := Up.refl _
      have u5 : Up w2 w5 := hS5
      have z5 := u5.size
      have hU5 := hU2.trans u5
      have DX5 : Dx w5 w.heap.size d1 := ⟨m0, m1, m2, m3⟩
      obtain ⟨Aw, cw, rfl, hcw, hmw, -, -⟩ := own_form ovw
      have rw := Rd.own dec_len ovw
      have bw := In.own ovw
      go_wp2_with fail
      refine (toDecS A0 l0 c0 0 w.heap.size _ (hr0.up (u1.trans (u2.trans (u3.trans (u4.trans u5)))) (by omega)) (by omega) hl0).mono ?_
      rintro e w6 ⟨Ax0_6, cx0_6, rfl, hcx0_6, hmx0_6, rrx0_6, oox0_6, u6⟩
      have z6 := u6.size
      have hU6 := hU5.trans u6
      clear q0 q1 q2 q3 k0 k1 k2 k3 m0 m1 m2 m3 p0 p1 p2 p3
      have hlt5 := DX5.lt
      obtain ⟨m0, m1, m2, m3⟩ := DX5.up u6
      have bx0_6 := In.own oox0_6
      go_wp2_with fail
      refine (toDecision_any d1 _).mono ?_
      rintro e w7 ⟨rfl, u7⟩
      have z7 := u7.size
      have hU7 := hU6.trans u7
      go_wp2_with fail
      refine (implDecide_any Ax0_6 l0 cx0_6 _ _ d1 _ (rrx0_6.up u7 (by omega)) (by omega) hok0 hd1 hl0 hcx0_6 hmx0_6).mono ?_
      rintro e w8 ⟨vg, rfl, ovg, u8⟩
      have z8 := u8.size
      have hU8 := hU7.trans u8
      obtain ⟨Ag, cg, rfl, hcg, hmg, -, -⟩ := own_form ovg
      have rg := Rd.own dec_len ovg
      have bg := In.own ovg
      have hlv : ((ddL l0 d1)).length ≤ 2000000 := by have := ddL_len l0 d1; omega
      have heq8 : eqDs (ddL l0 d1) (ddL l0 d1) = true := eqDs_self _
      go_wp2_with fail
      refine (eqDecisionS_any Ag Aw (ddL l0 d1) (ddL l0 d1) cg cw _ _ _ _ _ rg (by omega) (rw.up (u6.trans (u7.trans u8)) (by omega)) (by omega) hlv hlv).mono ?_
      rintro e w9 ⟨rfl, u9⟩
      have z9 := u9.size
      have hU9 := hU8.trans u9
      go_wp2_with fail
      refine (toDecS A0 l0 c0 0 w.heap.size _ (hr0.up (u1.trans (u2.trans (u3.trans (u4.trans (u5.trans (u6.trans (u7.trans (u8.trans u9)))))))) (by omega)) (by omega) hl0).mono ?_
      rintro e w10 ⟨Ay0_10, cy0_10, rfl, hcy0_10, hmy0_10, rry0_10, ooy0_10, u10⟩
      have z10 := u10.size
      have hU10 := hU9.trans u10
      have by0_10 := In.own ooy0_10
      have heq10 : eqDs l0 l0 = true := eqDs_self _
      go_wp2_with fail
      refine (eqDecisionS_any Ax0_6 Ay0_10 l0 l0 cx0_6 cy0_10 _ _ _ _ _ (rrx0_6.up (u7.trans (u8.trans (u9.trans u10))) (by omega)) (by omega) rry0_10 (by omega) hl0 hl0).mono ?_
      rintro e w11 ⟨rfl, u11⟩
      have z11 := u11.size
      have hU11 := hU10.trans u11
      go_wp2_with fail
      refine (markDecisionS_any Ax0_6 l0.length cx0_6 _ _ 1 _ (own_up oox0_6 (u7.trans (u8.trans (u9.trans (u10.trans u11))))) (by omega) (by omega) (by omega)).mono ?_
      rintro e w12 ⟨rfl, ow12, m12⟩
      have hr0_12 := Rd.grown (hr0.up (u1.trans (u2.trans (u3.trans (u4.trans (u5.trans (u6.trans (u7.trans (u8.trans (u9.trans (u10.trans u11)))))))))) (by omega)) m12 (by omega) bx0_6 (by omega)
      have rw_12 := Rd.grown (rw.up (u6.trans (u7.trans (u8.trans (u9.trans (u10.trans u11))))) (by omega)) m12 (by omega) bx0_6 (by omega)
      have ow_12 := own_grown (own_up ovw (u6.trans (u7.trans (u8.trans (u9.trans (u10.trans u11)))))) m12 bx0_6 bw (by omega)
      have rg_12 := Rd.grown (rg.up (u9.trans (u10.trans u11)) (by omega)) m12 (by omega) bx0_6 (by omega)
      have og_12 := own_grown (own_up ovg (u9.trans (u10.trans u11))) m12 bx0_6 bg (by omega)
      have z12 := m12.size
      have DX12 := (DX5.up (u6.trans (u7.trans (u8.trans (u9.trans (u10.trans u11)))))).grown m12 (fun e => by have := bx0_6 _ e.symm; omega)
      have hU12 := hU11.marked m12 bx0_6 (by omega)
      have heq12 : eqDs (ddL l0 d1) (ddL l0 d1) = true := eqDs_self _
      go_wp2_with fail
      refine (eqDecisionS_any Ag Aw (ddL l0 d1) (ddL l0 d1) cg cw _ _ _ _ _ rg_12 (by omega) rw_12 (by omega) hlv hlv).mono ?_
      rintro e w13 ⟨rfl, u13⟩
      have z13 := u13.size
      have hU13 := hU12.trans u13
      go_wp2_with fail
      refine (markDecisionS_any Ag ((ddL l0 d1)).length cg _ _ 1 _ (own_up og_12 u13) (by omega) (by omega) (by omega)).mono ?_
      rintro e w14 ⟨rfl, ow14, m14⟩
      have hr0_14 := Rd.grown (hr0_12.up u13 (by omega)) m14 (by omega) bg (by omega)
      have rw_14 := Rd.grown (rw_12.up u13 (by omega)) m14 (by omega) bg (by omega)
      have ow_14 := own_grown (own_up ow_12 u13) m14 bg bw (by omega)
      have z14 := m14.size
      have DX14 := (DX12.up u13).grown m14 (fun e => by have := bg _ e.symm; omega)
      have hU14 := hU13.marked m14 bg (by omega)
      have rk := Rd.own (l := mkD 1 ((ddL l0 d1)).length) dec_len (by rw [mkD_len]; exact ow14)
      go_wp2_with fail
      refine (heldDecisionS_any Ag ((ddL l0 d1)).length cg _ _ 1 _ rk (by omega) (by omega) (by omega) (by omega)).mono ?_
      rintro e w15 ⟨rfl, u15⟩
      have z15 := u15.size
      have hU15 := hU14.trans u15
      have HTh := Lib.hid (fun (wx : World) (hx : Up w15 wx) => toDecS A0 l0 c0 0 w.heap.size wx (hr0_14.up (u15.trans hx) (by omega)) (Nat.le_trans (by omega) (u15.trans hx).size) hl0)
      have hdh : Up w15 w15.drew := (Up.refl _).drew
      obtain ⟨p0, p1, p2, p3⟩ := DX14.up u15
      go_wp2_with fail
      go_region_held3 (fun w' => Up w15 w' ∧ w'.cell? ⟨w.heap.size, 0, none⟩ = some (.string d1.deed) ∧ w'.cell? ⟨w.heap.size, 1, none⟩ = some (.int .i64 d1.kind) ∧ w'.cell? ⟨w.heap.size, 2, none⟩ = some (.int .i64 d1.day) ∧ w'.cell? ⟨w.heap.size, 3, none⟩ = some (.string d1.by_))
        (first | exact ⟨Up.refl _, p0, p1, p2, p3⟩ | exact ⟨hdh, p0, p1, p2, p3⟩ | exact ⟨by assumption, by assumption, by assumption, by assumption, by assumption⟩)
        (first
          | (go_at_call 13
             with_reducible refine (HTh.out _ (by assumption)).mono ?_
             rintro e y3 ⟨Ash, csh, rfl, hcsh, hmsh, rrsh, oosh, v3⟩
             have hS3 : Up w15 y3 := Up.trans (by assumption) v3
             have q0 := hS3.cell p0
             have q1 := hS3.cell p1
             have q2 := hS3.cell p2
             have q3 := hS3.cell p3
             have RR := Lib.hid rrsh
             have OO := Lib.hid oosh
             have HS3 := Lib.hid (fun (wx : World) (hx : Up y3 wx) => (implDecide_any Ash l0 csh _ _ d1 wx (RR.out.up hx (Nat.le_refl _)) hx.size hok0 hd1 hl0 hcsh hmsh).mono
               (fun e w' ⟨v, h1, h2, h3⟩ => (⟨v, h1, own_base h2 hx.size, hx.trans h3⟩ : ∃ v, e = Ending.returned (.tuple #[v, .int .i64 (ddE l0 d1)]) ∧ w'.ownsRow y3.heap.size 43 4 v (ddL l0 d1).length ((ddL l0 d1).flatMap Dec.cells) ∧ Up y3 w')))
             have hZ : Up y3 y3 := Up.refl _
             have hZd : Up y3 y3.drew := (Up.refl _).drew
             clear rrsh oosh)
          | (go_at_call 28
             refine (toDecision_any d1 _).mono ?_
             rintro e y4 ⟨rfl, v4⟩
             have hS4 : Up w15 y4 := Up.trans (by assumption) v4
             have k0 := hS4.cell p0
             have k1 := hS4.cell p1
             have k2 := hS4.cell p2
             have k3 := hS4.cell p3
             (first | (have h34 : Up y3 y4 := Up.trans (by assumption) v4) | skip))
          | (go_at_call 29
             with_reducible refine (HS3.out _ (by assumption)).mono ?_
             rintro e w18 ⟨vh, rfl, ov', v5⟩
             have hS5 : Up w15 w18 := Up.trans hS3 v5
             have ovh := own_base ov' hS3.size
             have m0 := hS5.cell p0
             have m1 := hS5.cell p1
             have m2 := hS5.cell p2
             have m3 := hS5.cell p3))
      have u16 : Up w15 w15 := Up.refl _
      have u17 : Up w15 w15 := Up.refl _
      have u18 : Up w15 w18 := hS5
      have z18 := u18.size
      have hU18 := hU15.trans u18
      have DX18 : Dx w18 w.heap.size d1 := ⟨m0, m1, m2, m3⟩
      obtain ⟨Ah, ch, rfl, hch, hmh, -, -⟩ := own_form ovh
      have rh := Rd.own dec_len ovh
      have bh := In.own ovh
      have heq18 : eqDs (ddL l0 d1) (ddL l0 d1) = true := eqDs_self _
      go_wp2_with fail
      refine (eqDecisionS_any Ah Aw (ddL l0 d1) (ddL l0 d1) ch cw _ _ _ _ _ rh (by omega) (rw_14.up (u15.trans (u16.trans (u17.trans u18))) (by omega)) (by omega) hlv hlv).mono ?_
      rintro e w19 ⟨rfl, u19⟩
      have z19 := u19.size
      have hU19 := hU18.trans u19
      go_wp2_with fail
      refine (heldDecisionS_any Ag ((ddL l0 d1)).length cg _ _ 1 _ (rk.up (u15.trans (u16.trans (u17.trans (u18.trans u19)))) (by omega)) (by omega) (by omega) (by omega) (by omega)).mono ?_
      rintro e w20 ⟨rfl, u20⟩
      have z20 := u20.size
      have hU20 := hU19.trans u20
      go_wp2
      go_ret
      exact ⟨rfl, hU20⟩
end Go.Proofs.YtngananoidplmaaDoor
