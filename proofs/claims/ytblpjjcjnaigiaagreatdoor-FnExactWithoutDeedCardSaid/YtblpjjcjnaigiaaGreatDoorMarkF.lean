/- Marking lists of words, and a formula, that the call itself made. -/
import Derived.Test.YtblpjjcjnaigiaaGreatDoorVc
import Derived.Test.YtblpjjcjnaigiaaGreatDoorMark0
import Derived.Test.YtblpjjcjnaigiaaGreatDoorFormA
namespace Go.Proofs.YtblpjjcjnaigiaaGreatDoor
open Go.RowKit Go.Sort

def mkS (k : Int) (n : Nat) : List ByteArray := (List.range n).map fun (j : Nat) => mtext (k + (j : Int))
theorem mkS_len (k : Int) (n : Nat) : (mkS k n).length = n := by simp [mkS]
theorem mkS_take {k : Int} {n j : Nat} (h : j < n) : ((mkS k n).take (j + 1)).flatMap strC = ((mkS k n).take j).flatMap strC ++ [.string (mtext (k + j))] := by
  rw [take_flat_succ _ (x := mtext (k + (j : Int))) (by simp [mkS, h])]
theorem mkS_get {k : Int} {n j : Nat} (h : j < n) : (mkS k n)[j]? = some (mtext (k + (j : Int))) := by simp [mkS, h]

set_option maxHeartbeats 1000000 in
theorem markStrW_any (A : Option Addr) (n c base : Nat) (xs : List Value) (k : Int) (w : World) (hown : w.ownsRow base 9 1 (.slice A n c) n xs) (hn : n ≤ 2000000) (h0 : 1 ≤ k) (hk : k ≤ 90000000) :
    Calls Tryz.prog 87 #[.slice A n c, .int .i64 k] w fun e w' => e = .returned (.int .i64 (k + n)) ∧ w'.ownsRow base 9 1 (.slice A n c) n ((mkS k n).flatMap strC) ∧ w.grownBy w' (Value.slice A n c).ownBlock := by
  go_enter Tryz.func87, Tryz.ntmps87
  go_wp2
  go_loopw [1, 5] (fun q i wr => ∃ j : Nat, ∃ ys, j ≤ n ∧ i = .int .i64 j ∧ q = .int .i64 (k + j) ∧ wr.ownsRow base 9 1 (.slice A n c) n ys ∧ ys.take j = ((mkS k n).take j).flatMap strC ∧ w.grownBy wr (Value.slice A n c).ownBlock) (fun _ i _ => n - (intOf i).toNat)
  case atStart => exact ⟨0, xs, Nat.zero_le _, rfl, by simp, hown, by simp, World.grownBy.refl w _⟩
  case round =>
    obtain ⟨j, ys, hj, rfl, rfl, hown, hys, hg⟩ := hrel
    have HY := Lib.hid hys
    have HG := Lib.hid hg
    clear hys hg
    by_cases hlt : j < n
    · obtain ⟨A', c', hv, -, -, hA, -⟩ := own_form hown
      simp only [Value.slice.injEq] at hv
      obtain ⟨rfl, -, rfl⟩ := hv
      obtain ⟨g, rfl, -, -⟩ := hA (by omega)
      go_wp2_with fail
      refine (markText_any _ _ (by omega) (by omega)).mono ?_
      rintro e w1 ⟨rfl, hup1⟩
      have o1 := own_up hown hup1
      obtain ⟨u0, r0⟩ := own_cell o1 (p := j) (by omega)
      have z0 := o1.frozenAt j
      have S1 := Lib.hid (o1.stored j (.string (mtext (k + (j : Int)))))
      have L1 := Lib.hid o1.1
      have G1 := Lib.hid ((HG.out.trans ((World.grownBy.but (a := wr) ⟨hup1.os, hup1.tape, hup1.output, hup1.size, fun i hi _ => hup1.block i hi⟩ _))).trans S1.out.2)
      clear o1 hown
      go_wp2
      go_roundw
      case rel => exact ⟨j + 1, _, by omega, by go_num, by go_num, S1.out.1, by rw [take_set_succ (by rw [L1.out]; omega), HY.out, mkS_take hlt], G1.out⟩
      case measure => simp [intOf]; omega
    · go_wp2
      go_ret
      have e : j = n := by omega
      subst e
      have hx := HY.out
      rw [List.take_of_length_le (by rw [hown.1]; omega), List.take_of_length_le (by rw [mkS_len]; exact Nat.le_refl _)] at hx
      subst hx
      exact ⟨rfl, hown, HG.out⟩

set_option maxHeartbeats 1000000 in
theorem heldStringS_any (A : Option Addr) (n c lo hi : Nat) (k : Int) (w : World) (hr : RdT w lo hi A (mkS k n)) (hhi : hi ≤ w.heap.size) (hn : n ≤ 2000000) (h0 : 1 ≤ k) (hk : k ≤ 90000000) :
    Calls Tryz.prog 95 #[.slice A n c, .int .i64 k] w fun e w' => e = .returned (.int .i64 (k + n)) ∧ Up w w' := by
  go_enter Tryz.func95, Tryz.ntmps95
  go_wp2
  go_loopw [1, 4, 5] (fun q u i wr => ∃ j : Nat, j ≤ n ∧ i = .int .i64 j ∧ q = .int .i64 (k + j) ∧ Up w wr) (fun _ _ i _ => n - (intOf i).toNat)
  case atStart => exact ⟨0, Nat.zero_le _, rfl, by simp, Up.refl _⟩
  case round =>
    obtain ⟨j, hj, rfl, rfl, hup⟩ := hrel
    by_cases hlt : j < n
    · obtain ⟨b, off, z, rfl, -, -, hz, q0⟩ := (hr.up hup hhi).txt (k := j) (by rw [mkS_len]; exact hlt)
      rw [mkS_get hlt] at hz
      obtain rfl : mtext (k + (j : Int)) = z := by simpa using hz
      clear hz
      have Q0 := cell_regrown q0
      go_wp2_with fail
      refine wp_region_quiet_below (by kernel_rfl) (by kernel_rfl) ?_
      repeat (quiet_step ((go_at_call 84; exact Calls.regrown_of (markText_any _ _ (by omega) (by omega)))))
      refine wpQuiet_nil ?_
      intro w2 hw2
      obtain ⟨⟨dq, osq⟩, hw2⟩ := hw2
      have hup2 : Up wr w2 := by rw [hw2]; exact below_regrown _ _ _
      clear hw2 Q0 q0
      go_wp2
      go_roundw
      case rel => exact ⟨j + 1, by omega, by go_num, by go_num, hup.trans hup2⟩
      case measure => simp [intOf]; omega
    · go_wp2
      go_ret
      exact ⟨ret_int (by omega), hup⟩
theorem markStrM_any (A : Option Addr) (n c base : Nat) (xs : List Value) (k : Int) (w : World) (hown : w.ownsRow base 9 1 (.slice A n c) n xs) (b0 b1 : Nat) (hb : In (.slice A n c) b0 b1) (hn : n ≤ 2000000) (h0 : 1 ≤ k) (hk : k ≤ 90000000) :
    Calls Tryz.prog 87 #[.slice A n c, .int .i64 k] w fun e w' => e = .returned (.int .i64 (k + n)) ∧ Mk b0 b1 w w' :=
  (markStrW_any A n c base xs k w hown hn h0 hk).mono fun _ _ ⟨h1, _, h3⟩ => ⟨h1, Mk.refl.step h3 hb⟩
end Go.Proofs.YtblpjjcjnaigiaaGreatDoor
