/- Ranges and names: the program's and the reference's tests compute the same plain functions. -/
import Derived.Test.YtblpjjcjnaigiaaGreatDoorProg
import Derived.Test.YtblpjjcjnaigiaaGreatDoorLib
import Derived.Test.YtblpjjcjnaigiaaGreatDoorShelf
namespace Go.Proofs.YtblpjjcjnaigiaaGreatDoor
open Go.RowKit Go.Sort

def inB (n lo hi : Int) : Bool := decide (lo ≤ n) && decide (n ≤ hi)
theorem inB_iff {n lo hi : Int} : inB n lo hi = true ↔ lo ≤ n ∧ n ≤ hi := by simp [inB]
theorem l01In_any (n lo hi : Int) (w : World) :
    Calls Tryz.prog 51 #[.int .i64 n, .int .i64 lo, .int .i64 hi] w fun e w' => e = .returned (.bool (inB n lo hi)) ∧ w = w' := by
  go_enter Tryz.func51, Tryz.ntmps51
  go_wp2
  all_goals (go_ret; exact ⟨ret_bool (by simp [inB]; try omega), rfl⟩)
theorem within_any (n lo hi : Int) (w : World) :
    Calls Tryz.prog 61 #[.int .i64 n, .int .i64 lo, .int .i64 hi] w fun e w' => e = .returned (.bool (inB n lo hi)) ∧ w = w' := by
  go_enter Tryz.func61, Tryz.ntmps61
  go_wp2
  all_goals (go_ret; exact ⟨ret_bool (by simp [inB]; try omega), rfl⟩)
def dayB (n : Int) : Bool := inB n 0 730499
theorem l01Day_any (n : Int) (w : World) :
    Calls Tryz.prog 192 #[.int .i64 n] w fun e w' => e = .returned (.bool (dayB n)) ∧ w = w' := by
  go_enter Tryz.func192, Tryz.ntmps192
  go_wp2_with (go_at_call 51; refine (l01In_any _ _ _ _).mono ?_; rintro e w' ⟨rfl, rfl⟩)
  go_ret
  exact ⟨rfl, rfl⟩
theorem isDay_any (n : Int) (w : World) :
    Calls Tryz.prog 187 #[.int .i64 n] w fun e w' => e = .returned (.bool (dayB n)) ∧ w = w' := by
  go_enter Tryz.func187, Tryz.ntmps187
  go_wp2_with (go_at_call 61; refine (within_any _ _ _ _).mono ?_; rintro e w' ⟨rfl, rfl⟩)
  go_ret
  exact ⟨rfl, rfl⟩

def lowB (c : UInt8) : Bool := decide (97 ≤ c.toNat) && decide (c.toNat ≤ 122)
def nameB (s : ByteArray) (most : Int) : Bool := s.data.toList.all lowB && (decide (1 ≤ s.size) && decide ((s.size : Int) ≤ most))
theorem nameB_size {s : ByteArray} {m : Int} (h : nameB s m = true) : (s.size : Int) ≤ m := by simp [nameB] at h; exact h.2.2
theorem nameB_a {s : ByteArray} {m : Int} {k : Nat} {c : UInt8} (hc : s.data.toList[k]? = some c) (h : lowB c = false) : nameB s m = false := by
  have : s.data.toList.all lowB = false := by
    rw [List.all_eq_false]; exact ⟨c, List.mem_of_getElem? hc, by simp [h]⟩
  simp [nameB, this]
theorem nameB_b {s : ByteArray} {m : Int} (hc : s.data.toList.all lowB = true) : nameB s m = (decide (1 ≤ s.size) && decide ((s.size : Int) ≤ m)) := by
  simp [nameB, hc]

set_option maxHeartbeats 400000 in
theorem l01Name_any (s : ByteArray) (m : Int) (w : World) (hs : s.size ≤ maxLen) :
    Calls Tryz.prog 168 #[.string s, .int .i64 m] w fun e w' => e = .returned (.bool (nameB s m)) ∧ w = w' := by
  unfold maxLen at hs
  go_enter Tryz.func168, Tryz.ntmps168
  go_wp2
  go_loop [5] (fun i => ∃ k : Nat, k ≤ s.size ∧ i = .int .i64 k ∧ ∀ j c, j < k → s.data.toList[j]? = some c → lowB c = true) (fun i => s.size - (intOf i).toNat)
  case atStart => exact ⟨0, Nat.zero_le _, rfl, fun j c h => absurd h (by omega)⟩
  case round =>
    obtain ⟨k, hk, rfl, ha⟩ := hrel
    have HA := Lib.hid ha
    clear ha
    by_cases hlt : k < s.size
    · have hc : s.data.toList[k]? = some s[k] := by rw [List.getElem?_eq_getElem (by simpa using hlt)]; rfl
      have HC := Lib.hid hc
      clear hc
      go_wp2
      · have h1 : (s[k].toNat : Int) < 97 ∨ 122 < (s[k].toNat : Int) := by assumption
        go_ret
        exact ⟨ret_bool (nameB_a HC.out (by rcases h1 with h1 | h1 <;> simp [lowB] <;> omega)).symm, rfl⟩
      · have h1 : 97 ≤ (s[k].toNat : Int) ∧ (s[k].toNat : Int) ≤ 122 := by assumption
        go_round
        case rel => exact ⟨k + 1, by omega, by go_num, fun j c hj hc => by
          rcases Nat.lt_or_ge j k with h | h
          · exact HA.out j c h hc
          · obtain rfl : j = k := by omega
            rw [HC.out] at hc; cases hc
            simp [lowB]; omega⟩
        case measure => simp [intOf]; omega
      · have h1 : (s[k].toNat : Int) < 97 := by assumption
        go_ret
        exact ⟨ret_bool (nameB_a HC.out (by simp [lowB]; omega)).symm, rfl⟩
    · have hall : s.data.toList.all lowB = true := by
        rw [List.all_eq_true]
        intro c hc
        obtain ⟨j, hj, e⟩ := List.getElem_of_mem hc
        exact HA.out j c (by simp at hj; omega) (by rw [List.getElem?_eq_getElem hj, e])
      have HL := Lib.hid hall
      clear hall
      go_wp2
      all_goals (go_ret; exact ⟨ret_bool (by rw [nameB_b HL.out]; simp; try omega), rfl⟩)

/-- the alphabet, as the program writes it -/
def alphabet : ByteArray := ⟨#[97, 98, 99, 100, 101, 102, 103, 104, 105, 106, 107, 108, 109, 110, 111, 112, 113, 114, 115, 116, 117, 118, 119, 120, 121, 122]⟩
theorem alpha_low (c : UInt8) : alphabet.data.toList.contains c = lowB c := by
  have h : ∀ n, n < 256 → alphabet.data.toList.contains (UInt8.ofNat n) = lowB (UInt8.ofNat n) := by decide +kernel
  have := h c.toNat c.toNat_lt
  rwa [UInt8.ofNat_toNat] at this
theorem dropWhile_empty {α : Type} (p : α → Bool) (l : List α) : (l.dropWhile p).isEmpty = l.all p := by
  induction l with
  | nil => rfl
  | cons x l ih => by_cases h : p x = true <;> simp [h, ih]
theorem dropWhile_all {α : Type} (p : α → Bool) (l : List α) : (l.dropWhile p).all p = l.all p := by
  induction l with
  | nil => rfl
  | cons x l ih => by_cases h : p x = true <;> simp [h, ih]
theorem trim_empty (s : ByteArray) : (⟨(Lib.trimS s.data.toList alphabet.data.toList).toArray⟩ : ByteArray).toList.isEmpty = s.data.toList.all lowB := by
  have e : (alphabet.data.toList.contains ·) = lowB := funext alpha_low
  rw [ByteArray.toList_mk]
  unfold Lib.trimS Lib.trimLeftS Lib.trimRightS
  rw [e, dropWhile_empty, List.all_reverse, dropWhile_all, List.all_reverse]

set_option maxHeartbeats 400000 in
theorem isSmall_any (s : ByteArray) (m : Int) (w : World) (hs : s.size ≤ maxLen) :
    Calls Tryz.prog 178 #[.string s, .int .i64 m] w fun e w' => e = .returned (.bool (nameB s m)) ∧ Up w w' := by
  unfold maxLen at hs
  have hT := fun wx => Tryz.strings_Trim_ascii s alphabet wx (by omega) (by decide) (ascii_of_all (by decide))
  have ht := trim_empty s
  generalize (⟨(Lib.trimS s.data.toList alphabet.data.toList).toArray⟩ : ByteArray) = r at hT ht
  have HT := Lib.hid hT
  have H2 := Lib.hid ht
  clear hT ht
  go_enter Tryz.func178, Tryz.ntmps178
  go_wp2_with (go_at_call 205; refine (HT.out _).mono ?_; rintro e w' ⟨rfl, hup⟩)
  all_goals (go_ret; refine ⟨ret_bool ?_, by first | assumption | exact Up.refl _⟩; simp only [nameB, ← H2.out])
  · simp; omega
  · simp; omega
  · simp; omega

end Go.Proofs.YtblpjjcjnaigiaaGreatDoor
