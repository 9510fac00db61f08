/- The law package's checks of marks over the new desk. -/
import Derived.Test.YtehoaoeahfmfpaaDeskQ
namespace Go.Proofs.Ytehoaoeahfmfpaa
open Go.RowKit Go.Sort

set_option maxHeartbeats 400000 in
theorem heldChancery_d (k : Int) (w : World) (h0 : 1 ≤ k) : Calls Try.prog 34 #[cV, .int .i64 k] w fun e w' => e = .returned (.int .i64 k) ∧ Up w w' := by
  have d0 : decide (k < 0) = false := by simp; omega
  go_enter Try.func34, Try.ntmps34
  go_wp2_with (go_at_call 55; refine (heldReign_nil _ _).mono ?_; rintro e w' ⟨rfl, rfl⟩)
  go_ret
  exact ⟨rfl, (Up.refl w).allocs _⟩
set_option maxHeartbeats 400000 in
theorem heldPeople_d (k : Int) (w : World) (h0 : 1 ≤ k) : Calls Try.prog 35 #[pV, .int .i64 k] w fun e w' => e = .returned (.int .i64 k) ∧ Up w w' := by
  have d0 : decide (k < 0) = false := by simp; omega
  go_enter Try.func35, Try.ntmps35
  go_wp2_with (first | (go_at_call 56; refine (heldPerson_nil _ _).mono ?_; rintro e w' ⟨rfl, rfl⟩) | (go_at_call 57; refine (heldTerm_nil _ _).mono ?_; rintro e w' ⟨rfl, rfl⟩))
  go_ret
  exact ⟨rfl, (Up.refl w).allocs _⟩
set_option maxHeartbeats 400000 in
theorem heldLand_d (g lo hi : Nat) (k : Int) (w : World) (hr : RdS w lo hi (some ⟨g, 0, none⟩) (mkS k 1)) (hhi : hi ≤ w.heap.size) (h0 : 1 ≤ k) (hk : k ≤ 1000) :
    Calls Try.prog 36 #[lV g, .int .i64 k] w fun e w' => e = .returned (.int .i64 (k + 1)) ∧ Up w w' := by
  have hu := Up.alloc w (lB g)
  have d0 : decide (k + 1 < 0) = false := by simp; omega
  have c1 : (w.alloc (lB g)).cell? ⟨w.heap.size, 1, none⟩ = some nilV := by go_simp
  have HA := Lib.hid (heldStringS_any (some ⟨g, 0, none⟩) 1 1 lo hi k _ (hr.up hu hhi) (Nat.le_trans hhi hu.size) (by decide) h0 (by omega))
  clear hr
  go_enter Try.func36, Try.ntmps36
  go_wp2_with fail
  refine HA.out.mono ?_
  rintro e w2 ⟨rfl, u2⟩
  have d1 := u2.cell c1
  go_wp2_with (go_at_call 58; refine (heldWay_nil _ _).mono ?_; rintro e w' ⟨rfl, rfl⟩)
  go_ret
  exact ⟨rfl, hu.trans u2⟩
set_option maxHeartbeats 1000000 in
theorem heldWorld_d (g lo hi : Nat) (k : Int) (w : World) (hr : RdS w lo hi (some ⟨g, 0, none⟩) (mkS k 1)) (hhi : hi ≤ w.heap.size) (h0 : 1 ≤ k) (hk : k ≤ 1000) :
    Calls Try.prog 15 #[wV g, .int .i64 k] w fun e w' => e = .returned (.int .i64 (k + 1)) ∧ Up w w' := by
  have hu := Up.alloc w (wB g)
  have e0 : decide (k < 0) = false := by simp; omega
  have e1 : decide (k + 1 < 0) = false := by simp; omega
  have X := Lib.hid (BW.new w g)
  have HR := Lib.hid hr
  obtain ⟨x0, x1, x2, x3, x4, x5, x6, x7, x8, x9⟩ := X.out
  clear hr
  go_enter Try.func15, Try.ntmps15
  go_wp2_with fail
  generalize w.alloc (wB g) = w1 at *
  refine (heldChancery_d k w1 h0).mono ?_
  rintro e w2 ⟨rfl, u2⟩
  obtain ⟨x0, x1, x2, x3, x4, x5, x6, x7, x8, x9⟩ := X.out.up u2
  go_wp2_with fail
  refine (heldPeople_d k w2 h0).mono ?_
  rintro e w3 ⟨rfl, u3⟩
  obtain ⟨x0, x1, x2, x3, x4, x5, x6, x7, x8, x9⟩ := (X.out.up u2).up u3
  have U3 := (hu.trans u2).trans u3
  go_wp2_with fail
  refine (heldLand_d g lo hi k w3 (HR.out.up U3 hhi) (Nat.le_trans hhi U3.size) h0 hk).mono ?_
  rintro e w4 ⟨rfl, u4⟩
  obtain ⟨x0, x1, x2, x3, x4, x5, x6, x7, x8, x9⟩ := ((X.out.up u2).up u3).up u4
  go_wp2_with (first
    | (go_at_call 37; refine (heldStay_nil _ _).mono ?_; rintro e w' ⟨rfl, rfl⟩)
    | (go_at_call 38; refine (heldMark_nil _ _).mono ?_; rintro e w' ⟨rfl, rfl⟩))
  go_ret
  exact ⟨rfl, U3.trans u4⟩
set_option maxHeartbeats 1000000 in
theorem heldDesk_d (g lo hi : Nat) (k : Int) (w : World) (hr : RdS w lo hi (some ⟨g, 0, none⟩) (mkS k 1)) (hhi : hi ≤ w.heap.size) (h0 : 1 ≤ k) (hk : k ≤ 1000) :
    Calls Try.prog 8 #[dV g, .int .i64 k] w fun e w' => e = .returned (.int .i64 (k + 1)) ∧ Up w w' := by
  have hu := Up.alloc w (dB g)
  have e1 : decide (k + 1 < 0) = false := by simp; omega
  have X := Lib.hid (BD.new w g)
  have HR := Lib.hid (hr.up hu hhi)
  have hh := Nat.le_trans hhi hu.size
  obtain ⟨x0, x1, x2, x3, x4, x5, x6, x7, x8, x9, x10, x11⟩ := X.out
  clear hr
  go_enter Try.func8, Try.ntmps8
  go_wp2_with fail
  generalize w.alloc (dB g) = w1 at *
  refine (heldWorld_d g lo hi k w1 HR.out hh h0 hk).mono ?_
  rintro e w4 ⟨rfl, u4⟩
  obtain ⟨x0, x1, x2, x3, x4, x5, x6, x7, x8, x9, x10, x11⟩ := X.out.up u4
  go_wp2_with (first
    | (go_at_call 16; refine (heldDeed_nil _ _).mono ?_; rintro e w' ⟨rfl, rfl⟩)
    | (go_at_call 17; refine (heldDecision_nil _ _).mono ?_; rintro e w' ⟨rfl, rfl⟩))
  go_ret
  exact ⟨rfl, hu.trans u4⟩
end Go.Proofs.Ytehoaoeahfmfpaa
