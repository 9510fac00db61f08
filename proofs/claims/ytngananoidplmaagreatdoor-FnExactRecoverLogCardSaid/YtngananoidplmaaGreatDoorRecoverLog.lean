/- The walk of the law FnExactRecoverLog. -/
import Derived.Test.YtngananoidplmaaGreatDoorRecI
import Derived.Test.YtngananoidplmaaGreatDoorMark
namespace Go.Proofs.YtngananoidplmaaGreatDoor
open Go.RowKit Go.Sort

theorem recR_len : ∀ (ls : List ByteArray) (out : List Dec) (c : Nat), out.length ≤ 80 → (recR ls out c).length ≤ 80
  | [], out, _, h => h
  | l :: ls, out, c, h => by
    rw [recR]; split
    · rename_i h2
      exact recR_len ls _ _ (by simp; omega)
    · exact h
theorem rv_len (s : ByteArray) : (rvL s).length ≤ 80 := by
  unfold rvL; split
  · exact recR_len _ _ _ (by simp)
  · simp

set_option maxRecDepth 100000 in
set_option maxHeartbeats 4000000 in
theorem fnExactRecoverLog_walk (s0 : ByteArray) (w : World) (hok0 : s0.size ≤ maxLen) (he : EnvP w) :
    Calls Tryz.prog 3 #[.string s0] w fun e w' => e = .returned (.bool true) ∧ Up w w' := by
  unfold maxLen at hok0
  by_cases hbig : (1048576 : Int) < (s0.size : Int)
  · have hd : decide ((1048576 : Int) < (s0.size : Int)) = true := by simpa using hbig
    go_enter Tryz.func3, Tryz.ntmps3
    go_wp2
    go_ret
    exact ⟨rfl, Up.refl _⟩
  · have hd : decide ((1048576 : Int) < (s0.size : Int)) = false := by simpa using hbig
    have hs : s0.size ≤ 1048576 := by omega
    have hlv := rv_len s0
    have HE := Lib.hid he
    have hsp := specRecover_any s0 w hs
    have him := fun wx (h : EnvP wx) => implRecover_any s0 wx hs h
    obtain ⟨L, hL⟩ : ∃ x, x = rvL s0 := ⟨_, rfl⟩
    rw [← hL] at hlv hsp
    simp only [← hL] at him
    have HSP := Lib.hid hsp
    have HIM := Lib.hid him
    clear he hbig hL hsp him
    go_enter Tryz.func3, Tryz.ntmps3
    go_wp2_with fail
    refine HSP.out.mono ?_
    rintro e w1 ⟨vw, rfl, ovw, u1⟩
    obtain ⟨Aw, cw, rfl, -, -, -, -⟩ := own_form ovw
    have z1 := u1.size
    have rw_ := Rd.own dec_len' ovw
    go_wp2_with fail
    refine (HIM.out w1 (HE.out.up u1)).mono ?_
    rintro e w2 ⟨vg, rfl, ovg, u2⟩
    obtain ⟨Ag, cg, rfl, -, -, -, -⟩ := own_form ovg
    have z2 := u2.size
    have hU2 := u1.trans u2
    have rg := Rd.own dec_len' ovg
    have bg := In.own ovg
    have rw2 := rw_.up u2 (Nat.le_refl _)
    have heq2 : eqDs L L = true := eqDs_self _
    go_wp2_with fail
    refine (eqDecisionS_any Ag Aw L L cg cw _ _ _ _ _ rg (by omega) rw2 (by omega) (by omega) (by omega)).mono ?_
    rintro e w3 ⟨rfl, u3⟩
    have z3 := u3.size
    have hU3 := hU2.trans u3
    go_wp2_with fail
    refine (markDecisionS_any Ag L.length cg _ _ 1 _ (own_up ovg u3) (by omega) (by omega) (by omega)).mono ?_
    rintro e w4 ⟨rfl, ow4, m4⟩
    have z4 := m4.size
    have rw4 := Rd.grown (rw2.up u3 (by omega)) m4 (by omega) bg (by omega)
    have hU4 := hU3.marked m4 bg (by omega)
    have rk := Rd.own (l := mkD 1 L.length) dec_len' (by rw [mkD_len]; exact ow4)
    go_wp2_with fail
    refine (heldDecisionS_any Ag L.length cg _ _ 1 _ rk (by omega) (by omega) (by omega) (by omega)).mono ?_
    rintro e w5 ⟨rfl, u5⟩
    have z5 := u5.size
    have hU5 := hU4.trans u5
    go_wp2_with fail
    refine (HIM.out w5 (HE.out.up hU5)).mono ?_
    rintro e w6 ⟨vh, rfl, ovh, u6⟩
    obtain ⟨Ah, ch, rfl, -, -, -, -⟩ := own_form ovh
    have z6 := u6.size
    have hU6 := hU5.trans u6
    have rh := Rd.own dec_len' ovh
    go_wp2_with fail
    refine (eqDecisionS_any Ah Aw L L ch cw _ _ _ _ _ rh (by omega) (rw4.up (u5.trans u6) (by omega)) (by omega) (by omega) (by omega)).mono ?_
    rintro e w7 ⟨rfl, u7⟩
    have z7 := u7.size
    have hU7 := hU6.trans u7
    go_wp2_with fail
    refine (heldDecisionS_any Ag L.length cg _ _ 1 _ (rk.up (u5.trans (u6.trans u7)) (by omega)) (by omega) (by omega) (by omega) (by omega)).mono ?_
    rintro e w8 ⟨rfl, u8⟩
    have hU8 := hU7.trans u8
    go_wp2
    go_ret
    exact ⟨rfl, hU8⟩
end Go.Proofs.YtngananoidplmaaGreatDoor
