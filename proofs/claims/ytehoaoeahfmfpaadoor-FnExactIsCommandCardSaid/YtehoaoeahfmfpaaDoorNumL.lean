/- Numerals, in plain Lean: what number answers. -/
import Derived.Test.YtehoaoeahfmfpaaDoorLib
import Derived.Lib.ParseIntBTie
import Derived.Lib.ItoaNum
namespace Go.Proofs.YtehoaoeahfmfpaaDoor
open Go.RowKit Go.Sort
def valL (acc : Nat) (l : List UInt8) : Nat := l.foldl (fun a c => a * 10 + (c.toNat - 48)) acc
def dgU (l : List UInt8) : Bool := l.all fun c => decide (48 ≤ c.toNat) && decide (c.toNat ≤ 57)
theorem valL_cons (acc : Nat) (c : UInt8) (r : List UInt8) : valL acc (c :: r) = valL (acc * 10 + (c.toNat - 48)) r := by unfold valL; rw [List.foldl_cons]
theorem valL_ge : ∀ (l : List UInt8) (acc : Nat), acc ≤ valL acc l
  | [], _ => Nat.le_refl _
  | c :: r, acc => by rw [valL_cons]; have := valL_ge r (acc * 10 + (c.toNat - 48)); omega
theorem dgU_dec (n : Nat) : dgU (Lib.decDigits n) = true := by
  induction n using Nat.strongRecOn with
  | ind n ih =>
    rw [Lib.decDigits]
    split
    · next h =>
      have : (UInt8.ofNat (48 + n)).toNat = 48 + n := by simp; omega
      simp only [dgU, List.all_cons, List.all_nil, Bool.and_true, this]
      simp; omega
    · next h =>
      have h1 := ih (n / 10) (by omega)
      have : (UInt8.ofNat (48 + n % 10)).toNat = 48 + n % 10 := by simp; omega
      unfold dgU at h1 ⊢
      rw [List.all_append, h1]
      simp only [List.all_cons, List.all_nil, Bool.and_true, this]
      simp; omega
theorem valL_dec (n : Nat) : valL 0 (Lib.decDigits n) = n := by
  induction n using Nat.strongRecOn with
  | ind n ih =>
    rw [Lib.decDigits]
    split
    · next h =>
      have : (UInt8.ofNat (48 + n)).toNat = 48 + n := by simp; omega
      simp only [valL, List.foldl_cons, List.foldl_nil, this]; omega
    · next h =>
      have h1 := ih (n / 10) (by omega)
      have : (UInt8.ofNat (48 + n % 10)).toNat = 48 + n % 10 := by simp; omega
      unfold valL at h1 ⊢
      rw [List.foldl_append, h1]
      simp only [List.foldl_cons, List.foldl_nil, this]; omega
theorem pU_ok : ∀ (l : List UInt8) (acc : Nat), dgU l = true → valL acc l < 9223372036854775808 → Lib.parseUint10 acc l = .ok (valL acc l)
  | [], acc, _, _ => rfl
  | c :: r, acc, h, hv => by
    have h' : (48 ≤ c.toNat ∧ c.toNat ≤ 57) ∧ dgU r = true := by
      unfold dgU at h ⊢; rw [List.all_cons] at h; simpa using h
    rw [valL_cons] at hv ⊢
    have hge := valL_ge r (acc * 10 + (c.toNat - 48))
    rw [Lib.parseUint10, if_pos h'.1, if_neg (by omega), if_neg (by omega)]
    exact pU_ok r _ h'.2 hv
theorem dec_ne (n : Nat) : Lib.decDigits n ≠ [] := by
  rw [Lib.decDigits]; split <;> simp
theorem parse_dec (n : Nat) (h : n < 9223372036854775808) : Lib.parseIntB 64 (Lib.decDigits n) = .ok (n : Int) := by
  have hd := dgU_dec n
  have hv := valL_dec n
  have hne := dec_ne n
  generalize Lib.decDigits n = l at *
  match l, hne with
  | c :: r, _ =>
    have h' : (48 ≤ c.toNat ∧ c.toNat ≤ 57) := by
      unfold dgU at hd; rw [List.all_cons] at hd; simp at hd; exact hd.1
    rw [Lib.parseIntB_plain 64 c r (by omega) (by omega), Lib.parseUintB_64]
    unfold Lib.parseMag
    rw [if_neg (by simp), pU_ok _ _ hd (by omega), hv]
    simp [Lib.signlessC]; omega
/-- what `number` answers: a numeral without leading zeros, at most 2^63 - 1 -/
def nuB (s : ByteArray) : Bool := match Lib.parseIntB 64 s.data.toList with
  | .ok v => decide (0 ≤ v) && decide (Lib.decDigits v.toNat = s.data.toList)
  | _ => false
def nuV (s : ByteArray) : Nat := if nuB s then valL 0 s.data.toList else 0
theorem nuB_iff (s : ByteArray) : nuB s = true ↔ ∃ n, n < 9223372036854775808 ∧ s.data.toList = Lib.decDigits n := by
  unfold nuB
  constructor
  · intro h
    split at h
    · next v hv =>
      simp at h
      have hb := Lib.parseIntB_bounds hv
      exact ⟨v.toNat, by omega, h.2.symm⟩
    · cases h
  · rintro ⟨n, hn, he⟩
    rw [he, parse_dec n hn]
    simp
theorem nuV_dec {s : ByteArray} {n : Nat} (hn : n < 9223372036854775808) (he : s.data.toList = Lib.decDigits n) : nuV s = n := by
  unfold nuV
  rw [if_pos ((nuB_iff s).2 ⟨n, hn, he⟩), he, valL_dec]
end Go.Proofs.YtehoaoeahfmfpaaDoor
