/- The law package's helpers that write marks into decisions and look for them. -/
import Derived.Test.YtngananoidplmaaGreatDoorMark0
import Derived.Test.YtngananoidplmaaGreatDoorInts
import Derived.Test.YtngananoidplmaaGreatDoorDec
namespace Go.Proofs.YtngananoidplmaaGreatDoor
open Go.RowKit Go.Sort

def mkDec (k : Int) : Dec := ⟨mtext k, k + 1, k + 2, mtext (k + 3)⟩
def mkD (k : Int) (n : Nat) : List Dec := (List.range n).map fun (j : Nat) => mkDec (k + 4 * (j : Int))
theorem mkD_len (k : Int) (n : Nat) : (mkD k n).length = n := by simp [mkD]
theorem mkD_get {k : Int} {n j : Nat} (h : j < n) : (mkD k n)[j]? = some (mkDec (k + 4 * (j : Int))) := by simp [mkD, h]

set_option maxHeartbeats 2000000 in
theorem markDecisionS_any (A : Option Addr) (n c base : Nat) (xs : List Value) (k : Int) (w : World) (hown : w.ownsRow base 43 4 (.slice A n c) n xs) (hn : n ≤ 2000000) (h0 : 1 ≤ k) (hk : k ≤ 1000000) :
    Calls Tryz.prog 8 #[.slice A n c, .int .i64 k] w fun e w' => e = .returned (.int .i64 (k + 4 * n)) ∧ w'.ownsRow base 43 4 (.slice A n c) n ((mkD k n).flatMap Dec.cells) ∧ w.grownBy w' (Value.slice A n c).ownBlock := by
  go_enter Tryz.func8, Tryz.ntmps8
  go_wp2
  go_loopw [1, 5] (fun q i wr => ∃ j : Nat, ∃ ys, j ≤ n ∧ i = .int .i64 j ∧ q = .int .i64 (k + 4 * j) ∧ wr.ownsRow base 43 4 (.slice A n c) n ys ∧ ys.take (j * 4) = ((mkD k n).take j).flatMap Dec.cells ∧ w.grownBy wr (Value.slice A n c).ownBlock) (fun _ i _ => n - (intOf i).toNat)
  case atStart => exact ⟨0, xs, Nat.zero_le _, rfl, by simp, hown, by simp, World.grownBy.refl w _⟩
  case round =>
    obtain ⟨j, ys, hj, rfl, rfl, hown, hys, hg⟩ := hrel
    have HY := Lib.hid hys
    have HG := Lib.hid hg
    clear hys hg
    by_cases hlt : j < n
    · obtain ⟨A', c', hv, -, -, hA, -⟩ := own_form hown
      simp only [Value.slice.injEq] at hv
      obtain ⟨rfl, -, rfl⟩ := hv
      obtain ⟨g, rfl, -, -⟩ := hA (by omega)
      go_wp2_with fail
      refine (markText_any _ _ (by omega) (by omega)).mono ?_
      rintro e w1 ⟨rfl, hup1⟩
      have o1 := own_up hown hup1
      have O1 := Lib.hid o1
      clear hown
      obtain ⟨u0, r0⟩ := own_cell o1 (p := j * 4) (by omega)
      obtain ⟨u1, r1⟩ := own_cell o1 (p := j * 4 + 1) (by omega)
      obtain ⟨u2, r2⟩ := own_cell o1 (p := j * 4 + 2) (by omega)
      have z0 := o1.frozenAt (j * 4)
      have z1 := o1.frozenAt (j * 4 + 1)
      have z2 := o1.frozenAt (j * 4 + 2)
      have s1 := o1.stored (j * 4) (.string (mtext (k + 4 * (j : Int))))
      have s2 := s1.1.stored (j * 4 + 1) (.int .i64 (k + 4 * (j : Int) + 1))
      have s3 := s2.1.stored (j * 4 + 2) (.int .i64 (k + 4 * (j : Int) + 1 + 1))
      have G1 := Lib.hid (((HG.out.trans ((World.grownBy.but (a := wr) ⟨hup1.os, hup1.tape, hup1.output, hup1.size, fun i hi _ => hup1.block i hi⟩ _))).trans s1.2).trans s2.2 |>.trans s3.2)
      have S3 := Lib.hid s3.1
      clear s1 s2 s3 o1
      go_wp2_with fail
      refine (markText_any _ _ (by omega) (by omega)).mono ?_
      rintro e w2 ⟨rfl, hup2⟩
      have o2 := own_up S3.out hup2
      obtain ⟨u3, r3⟩ := own_cell o2 (p := j * 4 + 3) (by omega)
      have z3 := o2.frozenAt (j * 4 + 3)
      have s4 := o2.stored (j * 4 + 3) (.string (mtext (k + 4 * (j : Int) + 1 + 1 + 1)))
      have S4 := Lib.hid s4.1
      have G2 := Lib.hid ((G1.out.trans ((World.grownBy.but (a := _) ⟨hup2.os, hup2.tape, hup2.output, hup2.size, fun i hi _ => hup2.block i hi⟩ _))).trans s4.2)
      clear o2 s4
      go_wp2
      go_roundw
      case rel => exact ⟨j + 1, _, by omega, by go_num, by go_num, S4.out, by
        have h := dec_set4 (l := mkD k n) (d := mkDec (k + 4 * (j : Int))) (xs := ys) (k := j) (by rw [mkD_len]; exact O1.out.1) (mkD_get hlt) HY.out
        simp only [mkDec] at h
        have e2 : k + 4 * (j : Int) + 1 + 1 = k + 4 * (j : Int) + 2 := by omega
        have e3 : k + 4 * (j : Int) + 1 + 1 + 1 = k + 4 * (j : Int) + 3 := by omega
        rw [e3, e2]
        exact h, G2.out⟩
      case measure => simp [intOf]; omega
    · go_wp2
      go_ret
      have e : j = n := by omega
      subst e
      have hx := HY.out
      rw [List.take_of_length_le (by rw [hown.1]; omega), List.take_of_length_le (by rw [mkD_len]; exact Nat.le_refl _)] at hx
      subst hx
      exact ⟨rfl, hown, HG.out⟩

set_option maxHeartbeats 2000000 in
theorem heldDecisionS_any (A : Option Addr) (n c lo hi : Nat) (k : Int) (w : World) (hr : RdD w lo hi A (mkD k n)) (hhi : hi ≤ w.heap.size) (hn : n ≤ 2000000) (h0 : 1 ≤ k) (hk : k ≤ 1000000) :
    Calls Tryz.prog 9 #[.slice A n c, .int .i64 k] w fun e w' => e = .returned (.int .i64 (k + 4 * n)) ∧ Up w w' := by
  go_enter Tryz.func9, Tryz.ntmps9
  go_wp2
  go_loopw [1, 4, 5] (fun q u i wr => ∃ j : Nat, j ≤ n ∧ i = .int .i64 j ∧ q = .int .i64 (k + 4 * j) ∧ Up w wr) (fun _ _ i _ => n - (intOf i).toNat)
  case atStart => exact ⟨0, Nat.zero_le _, rfl, by simp, Up.refl _⟩
  case round =>
    obtain ⟨j, hj, rfl, rfl, hup⟩ := hrel
    by_cases hlt : j < n
    · obtain ⟨b, off, d, rfl, -, -, hz, q0, q1, q2, q3⟩ := (hr.up hup hhi).dec (k := j) (by rw [mkD_len]; exact hlt)
      rw [mkD_get hlt] at hz
      obtain rfl : mkDec (k + 4 * (j : Int)) = d := by simpa using hz
      clear hz
      simp only [mkDec] at q0 q1 q2 q3
      have Q0 := cell_regrown q0
      go_wp2_with fail
      refine wp_region_quiet_below (by kernel_rfl) (by kernel_rfl) ?_
      repeat (quiet_step ((go_at_call 32; exact Calls.regrown_of (markText_any _ _ (by omega) (by omega)))))
      refine wpQuiet_nil ?_
      intro w2 hw2
      obtain ⟨⟨dq, osq⟩, hw2⟩ := hw2
      have hup2 : Up wr w2 := by rw [hw2]; exact below_regrown _ _ _
      clear hw2 Q0
      have q1' := hup2.cell q1
      have q2' := hup2.cell q2
      have q3' := hup2.cell q3
      clear q0 q1 q2 q3
      rw [show k + 4 * (j : Int) + 2 = k + 4 * (j : Int) + 1 + 1 by omega] at q2'
      rw [show k + 4 * (j : Int) + 3 = k + 4 * (j : Int) + 1 + 1 + 1 by omega] at q3'
      go_wp2_with fail
      have Q3 := cell_regrown q3'
      refine wp_region_quiet_below (by kernel_rfl) (by kernel_rfl) ?_
      repeat (quiet_step ((go_at_call 32; exact Calls.regrown_of (markText_any _ _ (by omega) (by omega)))))
      refine wpQuiet_nil ?_
      intro w3 hw3
      obtain ⟨⟨dq3, osq3⟩, hw3⟩ := hw3
      have hup3 : Up w2 w3 := by rw [hw3]; exact below_regrown _ _ _
      clear hw3 Q3 q1' q2' q3'
      go_wp2
      go_roundw
      case rel => exact ⟨j + 1, by omega, by go_num, by go_num, hup.trans (hup2.trans hup3)⟩
      case measure => simp [intOf]; omega
    · go_wp2
      go_ret
      exact ⟨ret_int (by omega), hup⟩
end Go.Proofs.YtngananoidplmaaGreatDoor
