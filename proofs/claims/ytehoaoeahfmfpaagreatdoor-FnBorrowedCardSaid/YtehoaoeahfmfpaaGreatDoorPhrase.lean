/- Words, phrases and days of the reference. -/
import Derived.Test.YtehoaoeahfmfpaaGreatDoorBase
import Derived.Test.YtehoaoeahfmfpaaGreatDoorFormA
namespace Go.Proofs.YtehoaoeahfmfpaaGreatDoor
open Go.RowKit Go.Sort

def phB (ws : List ByteArray) : Bool := ws.all (fun s => nameB s 20) && decide (ws.length ≤ 60)
theorem phB_no {ws : List ByteArray} {k : Nat} {s : ByteArray} (hs : ws[k]? = some s) (h : nameB s 20 = false) : phB ws = false := by
  have : ws.all (fun s => nameB s 20) = false := by
    rw [List.all_eq_false]; exact ⟨s, List.mem_of_getElem? hs, by simp [h]⟩
  simp [phB, this]
theorem phB_end {ws : List ByteArray} (h : ∀ s ∈ ws, nameB s 20 = true) : phB ws = decide (ws.length ≤ 60) := by
  have : ws.all (fun s => nameB s 20) = true := List.all_eq_true.2 h
  simp [phB, this]
theorem take_all {ws : List ByteArray} {k : Nat} {s : ByteArray} (h : ∀ x ∈ ws.take k, nameB x 20 = true) (hs : ws[k]? = some s) (hb : nameB s 20 = true) : ∀ x ∈ ws.take (k + 1), nameB x 20 = true := by
  intro x hx
  rw [List.take_succ_eq_append_getElem (List.getElem?_eq_some_iff.1 hs).1, (List.getElem?_eq_some_iff.1 hs).2] at hx
  rcases List.mem_append.1 hx with h1 | h1
  · exact h x h1
  · simp at h1; subst h1; exact hb

theorem specIsWord_any (s : ByteArray) (w : World) (hs : s.size ≤ maxLen) :
    Calls Tryz.prog 92 #[.string s] w fun e w' => e = .returned (.bool (nameB s 20)) ∧ w = w' := by
  go_enter Tryz.func92, Tryz.ntmps92
  go_wp2_with (go_at_call 107; refine (l01Name_any _ _ _ hs).mono ?_; rintro e w' ⟨rfl, rfl⟩)
  go_ret
  exact ⟨rfl, rfl⟩

set_option maxHeartbeats 1000000 in
theorem l10Phrase_any (A : Option Addr) (ws : List ByteArray) (c lo hi : Nat) (w : World) (hr : RdT w lo hi A ws) (hok : ∀ s ∈ ws, s.size ≤ maxLen) (hn : ws.length ≤ 2000000) :
    Calls Tryz.prog 59 #[.slice A ws.length c] w fun e w' => e = .returned (.bool (phB ws)) ∧ w = w' := by
  go_enter Tryz.func59, Tryz.ntmps59
  go_wp2
  go_loopw [3] (fun i wr => ∃ k : Nat, k ≤ ws.length ∧ i = .int .i64 k ∧ (∀ x ∈ ws.take k, nameB x 20 = true) ∧ w = wr) (fun i _ => ws.length - (intOf i).toNat)
  case atStart => exact ⟨0, Nat.zero_le _, rfl, by simp, rfl⟩
  case round =>
    obtain ⟨k, hk, rfl, ht, rfl⟩ := hrel
    have HT := Lib.hid ht
    clear ht
    by_cases hlt : k < ws.length
    · obtain ⟨b, off, s, rfl, hlo, hb, hd, q0⟩ := hr.txt hlt
      have HD := Lib.hid hd
      have hs := hok s (List.mem_of_getElem? hd)
      clear hd
      rcases hw : nameB s 20 with _ | _
      · have HW := Lib.hid hw
        have HC := Lib.hid (specIsWord_any s w hs)
        rw [hw] at HC
        clear hw
        go_wp2_with (go_at_call 92; refine HC.out.mono ?_; rintro e w' ⟨rfl, rfl⟩)
        go_ret
        exact ⟨ret_bool (phB_no HD.out HW.out).symm, rfl⟩
      · have HW := Lib.hid hw
        have HC := Lib.hid (specIsWord_any s w hs)
        rw [hw] at HC
        clear hw
        go_wp2_with (go_at_call 92; refine HC.out.mono ?_; rintro e w' ⟨rfl, rfl⟩)
        go_roundw
        case rel => exact ⟨k + 1, by omega, by go_num, take_all HT.out HD.out HW.out, by first | rfl | trivial⟩
        case measure => simp [intOf]; omega
    · go_wp2
      go_ret
      have hkl : k = ws.length := by omega
      refine ⟨ret_bool ?_, rfl⟩
      rw [phB_end (by have := HT.out; rw [hkl, List.take_of_length_le (Nat.le_refl _)] at this; exact this)]
      rw [decide_eq_decide]; omega
