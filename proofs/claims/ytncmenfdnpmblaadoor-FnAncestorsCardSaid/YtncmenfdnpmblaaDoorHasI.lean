/- The laws' hasInt. -/
import Derived.Test.YtncmenfdnpmblaaDoorCA
namespace Go.Proofs.YtncmenfdnpmblaaDoor
open Go.RowKit Go.Sort

set_option maxRecDepth 100000 in
set_option maxHeartbeats 1000000 in
theorem hasInt_any (A : Option Addr) (l : List Int) (c lo hi : Nat) (z : Int) (w : World) (hr : RdI w lo hi A l) (hhi : hi ≤ w.heap.size) (hn : l.length ≤ 2000000) :
    Calls Tryd.prog 19 #[.slice A l.length c, .int .i64 z] w fun e w' => e = .returned (.bool (hasB l z)) ∧ Up w w' := by
  go_enter Tryd.func19, Tryd.ntmps19
  go_wp2
  go_loopw [5] (fun i wr => ∃ k : Nat, k ≤ l.length ∧ i = .int .i64 k ∧ (∀ j x, j < k → l[j]? = some x → (x == z) = false) ∧ Up w wr) (fun i _ => l.length - (intOf i).toNat)
  case atStart => exact ⟨0, Nat.zero_le _, rfl, fun j x h => absurd h (by omega), Up.refl _⟩
  case round =>
    obtain ⟨k, hk, rfl, ha, hup⟩ := hrel
    have HA := Lib.hid ha
    clear ha
    by_cases hlt : k < l.length
    · obtain ⟨b, off, d, rfl, -, -, hd, q0⟩ := (hr.up hup hhi).int hlt
      have HD := Lib.hid hd
      clear hd
      rcases hp : d == z with _ | _
      · have HP := Lib.hid hp
        go_wp2
        go_roundw
        case rel => exact ⟨k + 1, by omega, by go_num, fun j x hj hx => by
          rcases Nat.lt_or_ge j k with h | h
          · exact HA.out j x h hx
          · obtain rfl : j = k := by omega
            rw [HD.out] at hx; cases hx; exact HP.out, hup⟩
        case measure => simp [intOf]; omega
      · have HP := Lib.hid (show hasB l z = true from has_yes HD.out hp)
        go_wp2
        go_ret
        exact ⟨ret_bool HP.out.symm, hup⟩
    · have HN := Lib.hid (show hasB l z = false from has_no (l := l) (z := z) (fun j x hj hx => HA.out j x (by omega) hx))
      go_wp2
      go_ret
      exact ⟨ret_bool HN.out.symm, hup⟩
end Go.Proofs.YtncmenfdnpmblaaDoor
