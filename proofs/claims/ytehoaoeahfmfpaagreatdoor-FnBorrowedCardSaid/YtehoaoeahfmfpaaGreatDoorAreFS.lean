/- AreFormulas by the reference. -/
import Derived.Test.YtehoaoeahfmfpaaGreatDoorAreF
namespace Go.Proofs.YtehoaoeahfmfpaaGreatDoor
open Go.RowKit Go.Sort

theorem afB_no {l : List Fm} {k : Nat} {d : Fm} (hd : l[k]? = some d) (h : fmB d.p = false) : afB l = false := by
  have : (l.any fun x => !fmB x.p) = true := List.any_eq_true.2 ⟨d, List.mem_of_getElem? hd, by simp [h]⟩
  simp [afB, this]
theorem afB_end {l : List Fm} (h : ∀ x ∈ l, fmB x.p = true) : afB l = decide (l.length ≤ 20) := by
  have : (l.any fun x => !fmB x.p) = false := by rw [List.any_eq_false]; intro x hx; simp [h x hx]
  simp [afB, this]
theorem take_allF {l : List Fm} {k : Nat} {s : Fm} (h : ∀ x ∈ l.take k, fmB x.p = true) (hs : l[k]? = some s) (hb : fmB s.p = true) : ∀ x ∈ l.take (k + 1), fmB x.p = true := by
  intro x hx
  rw [List.take_succ_eq_append_getElem (List.getElem?_eq_some_iff.1 hs).1, (List.getElem?_eq_some_iff.1 hs).2] at hx
  rcases List.mem_append.1 hx with h1 | h1
  · exact h x h1
  · simp at h1; subst h1; exact hb

set_option maxHeartbeats 1000000 in
theorem specAreFormulas_any (A : Option Addr) (l : List Fm) (c lo hi : Nat) (w : World) (hr : RdF w lo hi A l) (hhi : hi ≤ w.heap.size) (hok : ∀ x ∈ l, x.ok) (hws : ∀ x ∈ l, x.ws.length ≤ 2000000) (hn : l.length ≤ 2000000) :
    Calls Tryz.prog 39 #[.slice A l.length c] w fun e w' => e = .returned (.bool (afB l)) ∧ Up w w' := by
  go_enter Tryz.func39, Tryz.ntmps39
  go_wp2
  go_loopw [3] (fun i wr => ∃ k : Nat, k ≤ l.length ∧ i = .int .i64 k ∧ (∀ x ∈ l.take k, fmB x.p = true) ∧ Up w wr) (fun i _ => l.length - (intOf i).toNat)
  case atStart => exact ⟨0, Nat.zero_le _, rfl, by simp, Up.refl _⟩
  case round =>
    obtain ⟨k, hk, rfl, ht, hup⟩ := hrel
    have HT := Lib.hid ht
    clear ht
    by_cases hlt : k < l.length
    · obtain ⟨b, off, d, rfl, hlo, hb, hd, hin, q0, q1, q2⟩ := (hr.up hup hhi).at_ hlt
      have HD := Lib.hid hd
      have hc := l24Formula_any d lo hi wr hin (Nat.le_trans hhi hup.size) (hok d (List.mem_of_getElem? hd)).1 (hws d (List.mem_of_getElem? hd))
      clear hd hin
      rcases hw : fmB d.p with _ | _
      all_goals (rw [hw] at hc; have HC := Lib.hid hc; have HW := Lib.hid hw; clear hc hw)
      · go_wp2_with (go_at_call 41; refine HC.out.mono ?_; rintro e w' ⟨rfl, hup'⟩)
        go_ret
        exact ⟨ret_bool (afB_no HD.out HW.out).symm, hup.trans hup'⟩
      · go_wp2_with (go_at_call 41; refine HC.out.mono ?_; rintro e w' ⟨rfl, hup'⟩)
        go_roundw
        case rel => exact ⟨k + 1, by omega, by go_num, take_allF HT.out HD.out HW.out, hup.trans hup'⟩
        case measure => simp [intOf]; omega
    · go_wp2
      go_ret
      have hkl : k = l.length := by omega
      refine ⟨ret_bool ?_, hup⟩
      rw [afB_end (by have := HT.out; rw [hkl, List.take_of_length_le (Nat.le_refl _)] at this; exact this)]
      rw [decide_eq_decide]; omega
