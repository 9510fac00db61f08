/- Words and phrases of the program. -/
import Derived.Test.YtehoaoeahfmfpaaGreatDoorPhrase
import Derived.Test.YtehoaoeahfmfpaaGreatDoorFuncsT
namespace Go.Proofs.YtehoaoeahfmfpaaGreatDoor
open Go.RowKit Go.Sort

theorem implIsWord_any (s : ByteArray) (w : World) (hs : s.size ≤ maxLen) :
    Calls Tryz.prog 110 #[.string s] w fun e w' => e = .returned (.bool (nameB s 20)) ∧ Up w w' := by
  go_enter Tryz.func110, Tryz.ntmps110
  go_wp2_with (go_at_call 119; refine (isSmall_any _ _ _ hs).mono ?_; rintro e w' ⟨rfl, hup⟩)
  go_ret
  exact ⟨rfl, hup⟩

theorem areWordsClosure_any (s : ByteArray) (w : World) (hs : s.size ≤ maxLen) :
    Calls Tryz.prog 109 #[.string s] w fun e w' => e = .returned (.bool (!nameB s 20)) ∧ Up w w' := by
  go_enter Tryz.func109, Tryz.ntmps109
  go_wp2_with (go_at_call 110; refine (implIsWord_any _ _ hs).mono ?_; rintro e w' ⟨rfl, hup⟩)
  go_ret
  exact ⟨rfl, hup⟩

theorem areWords_any (A : Option Addr) (ws : List ByteArray) (c lo hi : Nat) (w : World) (hr : RdT w lo hi A ws) (hhi : hi ≤ w.heap.size) (hok : ∀ s ∈ ws, s.size ≤ maxLen) (hn : ws.length ≤ 2000000) :
    Calls Tryz.prog 96 #[.slice A ws.length c] w fun e w' => e = .returned (.bool (!(ws.any fun s => !nameB s 20))) ∧ Up w w' := by
  go_enter Tryz.func96, Tryz.ntmps96
  go_wp2_with (go_at_call 108; refine (containsFuncT_any A ws c lo hi 109 #[] (fun s => !nameB s 20) _ hr hhi hn (fun _ _ => by kernel_rfl) (fun d hd w1 _ => areWordsClosure_any d w1 (hok d hd))).mono ?_; rintro e w' ⟨rfl, hup⟩)
  go_ret
  exact ⟨rfl, hup⟩

theorem phB_alt (ws : List ByteArray) : phB ws = (decide (ws.length ≤ 60) && !(ws.any fun s => !nameB s 20)) := by
  unfold phB
  rw [Bool.and_comm]; congr 1
  rw [List.not_any_eq_all_not]; simp

theorem isPhrase_any (A : Option Addr) (ws : List ByteArray) (c lo hi : Nat) (w : World) (hr : RdT w lo hi A ws) (hhi : hi ≤ w.heap.size) (hok : ∀ s ∈ ws, s.size ≤ maxLen) (hn : ws.length ≤ 2000000) :
    Calls Tryz.prog 67 #[.slice A ws.length c] w fun e w' => e = .returned (.bool (phB ws)) ∧ Up w w' := by
  have HP := Lib.hid (phB_alt ws)
  by_cases h60 : ws.length ≤ 60
  · have hb : decide ((ws.length : Int) ≤ 60) = true := by simp; omega
    go_enter Tryz.func67, Tryz.ntmps67
    go_wp2_with (go_at_call 96; refine (areWords_any A ws c lo hi _ hr hhi hok hn).mono ?_; rintro e w' ⟨rfl, hup⟩)
    go_ret
    exact ⟨ret_bool (by rw [HP.out, decide_eq_true h60]; rfl), hup⟩
  · have hb : decide ((ws.length : Int) ≤ 60) = false := by simp; omega
    go_enter Tryz.func67, Tryz.ntmps67
    go_wp2
    go_ret
    exact ⟨ret_bool (by rw [HP.out, decide_eq_false h60]; rfl), Up.refl _⟩
