/- Lists of formulas: their sizes. -/
import Derived.Test.YtkjjacbfogpegaaGreatDoorForm
namespace Go.Proofs.YtkjjacbfogpegaaGreatDoor
open Go.RowKit Go.Sort

def szFs : List Fm → Int → Int
  | [], z => z
  | d :: l, z => if szSL d.ws z < 0 then -1 else szFs l (szSL d.ws z)
def szFL (l : List Fm) (left : Int) : Int := if left < l.length then -1 else szFs l (left - l.length)
theorem szFL_a {l : List Fm} {left : Int} (h : left < l.length) : szFL l left = -1 := by unfold szFL; rw [if_pos h]
theorem szFL_b {l : List Fm} {left : Int} (h : ¬ left < l.length) : szFL l left = szFs l (left - l.length) := by unfold szFL; rw [if_neg h]
theorem szFs_yes {l : List Fm} {k : Nat} {d : Fm} {z : Int} (hd : l[k]? = some d) (h : ¬ szSL d.ws z < 0) : szFs (l.drop k) z = szFs (l.drop (k + 1)) (szSL d.ws z) := by
  obtain ⟨hk, e⟩ := List.getElem?_eq_some_iff.1 hd
  rw [List.drop_eq_getElem_cons hk, e]
  simp only [szFs]; rw [if_neg h]
theorem szFs_no {l : List Fm} {k : Nat} {d : Fm} {z : Int} (hd : l[k]? = some d) (h : szSL d.ws z < 0) : szFs (l.drop k) z = -1 := by
  obtain ⟨hk, e⟩ := List.getElem?_eq_some_iff.1 hd
  rw [List.drop_eq_getElem_cons hk, e]
  simp only [szFs]; rw [if_pos h]
theorem szFs_end {l : List Fm} {k : Nat} {z : Int} (h : l.length ≤ k) : szFs (l.drop k) z = z := by rw [List.drop_eq_nil_of_le h]; rfl

set_option maxHeartbeats 1000000 in
theorem szFormulaS_any (A : Option Addr) (l : List Fm) (c lo hi : Nat) (left : Int) (w : World) (hr : RdF w lo hi A l) (hhi : hi ≤ w.heap.size) (hok : ∀ d ∈ l, d.ok) (h0 : 0 ≤ left) (hl : left ≤ 2000000) (hn : l.length ≤ maxLen) :
    Calls Tryz.prog 9 #[.slice A l.length c, .int .i64 left] w fun e w' => e = .returned (.int .i64 (szFL l left)) ∧ Up w w' := by
  unfold maxLen at hn
  by_cases c1 : left < l.length
  · go_enter Tryz.func9, Tryz.ntmps9
    go_wp2
    go_ret
    exact ⟨ret_int (szFL_a (by omega)).symm, Up.refl _⟩
  · go_enter Tryz.func9, Tryz.ntmps9
    have hb0 : decide (left - (l.length : Int) < 0) = false := by simp; omega
    go_wp2
    go_loopw [4, 1, 5] (fun r lf i wr => ∃ k : Nat, ∃ z : Int, k ≤ l.length ∧ i = .int .i64 k ∧ lf = .int .i64 z ∧ 0 ≤ z ∧ z ≤ left ∧ szFs l (left - l.length) = szFs (l.drop k) z ∧ Up w wr) (fun _ _ i _ => l.length - (intOf i).toNat)
    case atStart => exact ⟨0, _, Nat.zero_le _, rfl, rfl, by omega, by omega, rfl, Up.refl _⟩
    case round =>
      obtain ⟨k, z, hk, rfl, rfl, hz0, hz1, hs, hup⟩ := hrel
      have HS := Lib.hid hs
      clear hs
      by_cases hlt : k < l.length
      · obtain ⟨b, off, d, rfl, hlo, hb, hd, hin, q0, q1, q2⟩ := (hr.up hup hhi).at_ hlt
        have HD := Lib.hid hd
        have hcall := fun (wx : World) (hx : Up wr wx) => szFormula_any d lo hi z wx (hin.up hx (Nat.le_trans hhi hup.size)) (Nat.le_trans (Nat.le_trans hhi hup.size) hx.size) (hok d (List.mem_of_getElem? HD.out)) (by omega) (by omega)
        clear hd hin
        have hle := (szSL_le d.ws z hz0).1
        by_cases c2 : szSL d.ws z < 0
        · have hdec : decide (szSL d.ws z < 0) = true := by simpa using c2
          go_wp2_with (go_at_call 49; refine (hcall _ (by first | exact Up.refl _ | exact Up.alloc _ _)).mono ?_; rintro e w' ⟨rfl, hup'⟩)
          go_ret
          exact ⟨ret_int (by rw [szFL_b (by omega), HS.out, szFs_no HD.out (by omega)]), hup.trans hup'⟩
        · have hdec : decide (szSL d.ws z < 0) = false := by simpa using c2
          go_wp2_with (go_at_call 49; refine (hcall _ (by first | exact Up.refl _ | exact Up.alloc _ _)).mono ?_; rintro e w' ⟨rfl, hup'⟩)
          go_roundw
          case rel => exact ⟨k + 1, _, by omega, by go_num, rfl, by omega, by omega, by rw [HS.out, szFs_yes HD.out (by omega)], hup.trans hup'⟩
          case measure => simp [intOf]; omega
      · go_wp2
        go_ret
        exact ⟨ret_int (by rw [szFL_b (by omega), HS.out, szFs_end (by omega)]), hup⟩
