/- The walk of the law FnExactOpenSuspicions. -/
import Derived.Test.YtngananoidplmaaDoorSusp
import Derived.Test.YtngananoidplmaaDoorMark
namespace Go.Proofs.YtngananoidplmaaDoor
open Go.RowKit Go.Sort

set_option maxRecDepth 100000 in
set_option maxHeartbeats 4000000 in
theorem fnExactOpenSuspicions_walk (A0 : Option Addr) (l0 : List Dec) (c0 : Nat) (w : World) (hr0 : RdD w 0 w.heap.size A0 l0) (hok0 : ∀ d ∈ l0, d.ok) (hn0 : l0.length ≤ maxLen) :
    Calls Tryd.prog 8 #[.slice A0 l0.length c0] w fun e w' => e = .returned (.bool true) ∧ Up w w' := by
  obtain ⟨left0, eL0⟩ : ∃ z, z = szDL l0 1048576 := ⟨_, rfl⟩
  have HS0 := fun (wx : World) (hx : RdD wx 0 w.heap.size A0 l0) (hz : w.heap.size ≤ wx.heap.size) => szDecisionS_any A0 l0 c0 0 w.heap.size 1048576 wx hx hz hok0 (by omega) (by omega) hn0
  simp only [← eL0] at HS0
  have hle0 : left0 ≤ 1048576 := by have := szDL_le l0 1048576 (by omega); omega
  have H0 := Lib.hid HS0
  have EL0 := Lib.hid eL0
  clear HS0 eL0
  by_cases hz0 : left0 < 0
  · have hdz0 : decide (left0 < 0) = true := by simpa using hz0
    go_enter Tryd.func8, Tryd.ntmps8
    go_wp2_with fail
    refine (H0.out _ hr0 (Nat.le_refl _)).mono ?_
    rintro e w1 ⟨rfl, u1⟩
    have z1 := u1.size
    have hU1 := u1
    go_wp2
    go_ret
    exact ⟨rfl, hU1⟩
  · have hdz0 : decide (left0 < 0) = false := by simpa using hz0
    have hl0 : l0.length ≤ 2000000 := by have h := EL0.out; have := szDL_len (l := l0) (left := 1048576) (by omega); omega
    go_enter Tryd.func8, Tryd.ntmps8
    go_wp2_with fail
    refine (H0.out _ hr0 (Nat.le_refl _)).mono ?_
    rintro e w1 ⟨rfl, u1⟩
    have z1 := u1.size
    have hU1 := u1
    go_wp2_with fail
    refine (toDecS A0 l0 c0 0 w.heap.size _ (hr0.up u1 (by omega)) (by omega) hl0).mono ?_
    rintro e w2 ⟨As0_2, cs0_2, rfl, hcs0_2, hms0_2, rrs0_2, oos0_2, u2⟩
    have z2 := u2.size
    have hU2 := hU1.trans u2
    have bs0_2 := In.own oos0_2
    go_wp2_with fail
    refine (specOpen_any As0_2 l0 cs0_2 _ _ _ rrs0_2 (by omega) hok0 hl0 hcs0_2 hms0_2).mono ?_
    rintro e w3 ⟨vw, rfl, ovw, u3⟩
    have z3 := u3.size
    have hU3 := hU2.trans u3
    obtain ⟨Aw, cw, rfl, hcw, hmw, -, -⟩ := own_form ovw
    have rw := Rd.own str_len ovw
    have bw := In.own ovw
    go_wp2_with fail
    refine (toDecS A0 l0 c0 0 w.heap.size _ (hr0.up (u1.trans (u2.trans u3)) (by omega)) (by omega) hl0).mono ?_
    rintro e w4 ⟨Ax0_4, cx0_4, rfl, hcx0_4, hmx0_4, rrx0_4, oox0_4, u4⟩
    have z4 := u4.size
    have hU4 := hU3.trans u4
    have bx0_4 := In.own oox0_4
    go_wp2_with fail
    refine (implOpen_any Ax0_4 l0 cx0_4 _ _ _ rrx0_4 (by omega) hok0 hl0 hcx0_4 hmx0_4).mono ?_
    rintro e w5 ⟨vg, rfl, ovg, u5⟩
    have z5 := u5.size
    have hU5 := hU4.trans u5
    obtain ⟨Ag, cg, rfl, hcg, hmg, -, -⟩ := own_form ovg
    have rg := Rd.own str_len ovg
    have bg := In.own ovg
    have hlv : ((osL l0)).length ≤ 2000000 := by have := osL_len l0; omega
    have heq5 : eqSs (osL l0) (osL l0) = true := eqSs_self _
    go_wp2_with fail
    refine (eqStringS_any Ag Aw (osL l0) (osL l0) cg cw _ _ _ _ _ rg (by omega) (rw.up (u4.trans u5) (by omega)) (by omega) hlv).mono ?_
    rintro e w6 ⟨rfl, u6⟩
    have z6 := u6.size
    have hU6 := hU5.trans u6
    go_wp2_with fail
    refine (toDecS A0 l0 c0 0 w.heap.size _ (hr0.up (u1.trans (u2.trans (u3.trans (u4.trans (u5.trans u6))))) (by omega)) (by omega) hl0).mono ?_
    rintro e w7 ⟨Ay0_7, cy0_7, rfl, hcy0_7, hmy0_7, rry0_7, ooy0_7, u7⟩
    have z7 := u7.size
    have hU7 := hU6.trans u7
    have by0_7 := In.own ooy0_7
    have heq7 : eqDs l0 l0 = true := eqDs_self _
    go_wp2_with fail
    refine (eqDecisionS_any Ax0_4 Ay0_7 l0 l0 cx0_4 cy0_7 _ _ _ _ _ (rrx0_4.up (u5.trans (u6.trans u7)) (by omega)) (by omega) rry0_7 (by omega) hl0 hl0).mono ?_
    rintro e w8 ⟨rfl, u8⟩
    have z8 := u8.size
    have hU8 := hU7.trans u8
    go_wp2_with fail
    refine (markDecisionS_any Ax0_4 l0.length cx0_4 _ _ 1 _ (own_up oox0_4 (u5.trans (u6.trans (u7.trans u8)))) (by omega) (by omega) (by omega)).mono ?_
    rintro e w9 ⟨rfl, ow9, m9⟩
    have hr0_9 := Rd.grown (hr0.up (u1.trans (u2.trans (u3.trans (u4.trans (u5.trans (u6.trans (u7.trans u8))))))) (by omega)) m9 (by omega) bx0_4 (by omega)
    have rw_9 := Rd.grown (rw.up (u4.trans (u5.trans (u6.trans (u7.trans u8)))) (by omega)) m9 (by omega) bx0_4 (by omega)
    have ow_9 := own_grown (own_up ovw (u4.trans (u5.trans (u6.trans (u7.trans u8))))) m9 bx0_4 bw (by omega)
    have rg_9 := Rd.grown (rg.up (u6.trans (u7.trans u8)) (by omega)) m9 (by omega) bx0_4 (by omega)
    have og_9 := own_grown (own_up ovg (u6.trans (u7.trans u8))) m9 bx0_4 bg (by omega)
    have z9 := m9.size
    have hU9 := hU8.marked m9 bx0_4 (by omega)
    have heq9 : eqSs (osL l0) (osL l0) = true := eqSs_self _
    go_wp2_with fail
    refine (eqStringS_any Ag Aw (osL l0) (osL l0) cg cw _ _ _ _ _ rg_9 (by omega) rw_9 (by omega) hlv).mono ?_
    rintro e w10 ⟨rfl, u10⟩
    have z10 := u10.size
    have hU10 := hU9.trans u10
    go_wp2_with fail
    refine (markStringS_any Ag ((osL l0)).length cg _ _ 1 _ (own_up og_9 u10) (by omega) (by omega) (by omega)).mono ?_
    rintro e w11 ⟨rfl, ow11, m11⟩
    have hr0_11 := Rd.grown (hr0_9.up u10 (by omega)) m11 (by omega) bg (by omega)
    have rw_11 := Rd.grown (rw_9.up u10 (by omega)) m11 (by omega) bg (by omega)
    have ow_11 := own_grown (own_up ow_9 u10) m11 bg bw (by omega)
    have z11 := m11.size
    have hU11 := hU10.marked m11 bg (by omega)
    have rk := Rd.own (l := mkS 1 ((osL l0)).length) str_len (by rw [mkS_len]; exact ow11)
    go_wp2_with fail
    refine (heldStringS_any Ag ((osL l0)).length cg _ _ 1 _ rk (by omega) (by omega) (by omega) (by omega)).mono ?_
    rintro e w12 ⟨rfl, u12⟩
    have z12 := u12.size
    have hU12 := hU11.trans u12
    go_wp2_with fail
    refine (toDecS A0 l0 c0 0 w.heap.size _ (hr0_11.up u12 (by omega)) (by omega) hl0).mono ?_
    rintro e w13 ⟨Ah0_13, ch0_13, rfl, hch0_13, hmh0_13, rrh0_13, ooh0_13, u13⟩
    have z13 := u13.size
    have hU13 := hU12.trans u13
    have bh0_13 := In.own ooh0_13
    go_wp2_with fail
    refine (implOpen_any Ah0_13 l0 ch0_13 _ _ _ rrh0_13 (by omega) hok0 hl0 hch0_13 hmh0_13).mono ?_
    rintro e w14 ⟨vh, rfl, ovh, u14⟩
    have z14 := u14.size
    have hU14 := hU13.trans u14
    obtain ⟨Ah, ch, rfl, hch, hmh, -, -⟩ := own_form ovh
    have rh := Rd.own str_len ovh
    have bh := In.own ovh
    have heq14 : eqSs (osL l0) (osL l0) = true := eqSs_self _
    go_wp2_with fail
    refine (eqStringS_any Ah Aw (osL l0) (osL l0) ch cw _ _ _ _ _ rh (by omega) (rw_11.up (u12.trans (u13.trans u14)) (by omega)) (by omega) hlv).mono ?_
    rintro e w15 ⟨rfl, u15⟩
    have z15 := u15.size
    have hU15 := hU14.trans u15
    go_wp2_with fail
    refine (heldStringS_any Ag ((osL l0)).length cg _ _ 1 _ (rk.up (u12.trans (u13.trans (u14.trans u15))) (by omega)) (by omega) (by omega) (by omega) (by omega)).mono ?_
    rintro e w16 ⟨rfl, u16⟩
    have z16 := u16.size
    have hU16 := hU15.trans u16
    go_wp2
    go_ret
    exact ⟨rfl, hU16⟩
end Go.Proofs.YtngananoidplmaaDoor
