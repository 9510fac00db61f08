/- Two slices that hold the same are alike. -/
import Derived.Test.YtehoaoeahfmfpaaGreatDoorInts
namespace Go.Proofs.YtehoaoeahfmfpaaGreatDoor
open Go.RowKit Go.Sort

set_option maxRecDepth 100000 in
set_option maxHeartbeats 2000000 in
theorem likeInts_any (A B : Option Addr) (l : List Int) (c c2 lo hi lo2 hi2 : Nat) (w : World) (hr : RdI w lo hi A l) (hhi : hi ≤ w.heap.size) (hr2 : RdI w lo2 hi2 B l) (hhi2 : hi2 ≤ w.heap.size) (hn : l.length ≤ maxLen) :
    Calls Tryz.prog 37 #[.slice A l.length c, .slice B l.length c2] w fun e w' => e = .returned (.bool true) ∧ Up w w' := by
  unfold maxLen at hn
  go_enter Tryz.func37, Tryz.ntmps37
  go_wp2
  go_loopw [5] (fun i wr => ∃ k : Nat, k ≤ l.length ∧ i = .int .i64 k ∧ Up w wr) (fun i _ => l.length - (intOf i).toNat)
  case atStart => exact ⟨0, Nat.zero_le _, rfl, Up.refl w⟩
  case round =>
    obtain ⟨k, hk, rfl, hup⟩ := hrel
    by_cases hlt : k < l.length
    · obtain ⟨b, off, d, rfl, -, -, hd, q0⟩ := (hr.up hup hhi).int hlt
      obtain ⟨b2, off2, d2, rfl, -, -, hd2, p0⟩ := (hr2.up hup hhi2).int hlt
      rw [hd] at hd2
      cases hd2
      have HD := Lib.hid hd
      clear hd
      have Q0 := cell_regrown q0
      have P0 := cell_regrown p0
      go_wp2_with fail
      refine wp_region_quiet_below (by kernel_rfl) (by kernel_rfl) ?_
      repeat (first | go_big_quiet_step (fail) | quiet_step (fail))
      refine wpQuiet_nil ?_
      intro w2 hw2
      obtain ⟨⟨dqa, osqa⟩, hw2⟩ := hw2
      have hu2 := hup.trans (show Up wr w2 by rw [hw2]; exact below_regrown _ _ _)
      clear hw2
      go_wp2
      go_roundw
      case rel => exact ⟨k + 1, by omega, by go_num, hu2⟩
      case measure => simp [intOf]; omega
    · go_wp2
      go_ret
      exact ⟨rfl, hup⟩
end Go.Proofs.YtehoaoeahfmfpaaGreatDoor
