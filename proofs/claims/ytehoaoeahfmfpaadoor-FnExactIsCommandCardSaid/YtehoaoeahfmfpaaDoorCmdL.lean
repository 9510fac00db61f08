/- The forms of commands, as plain tables (printed by gcmd.py). -/
import Derived.Test.YtehoaoeahfmfpaaDoorNumR
namespace Go.Proofs.YtehoaoeahfmfpaaDoor
open Go.RowKit Go.Sort

/-- which form the first word of a command wants: 11 for none -/
def clW (s : ByteArray) : Nat :=
  if s.toList == [114, 97, 110, 103, 101] then 0 else
  if s.toList == [107, 105, 110, 103] then 1 else
  if s.toList == [112, 101, 114, 115, 111, 110] then 1 else
  if s.toList == [115, 101, 97, 108] then 1 else
  if s.toList == [104, 97, 110, 100] then 1 else
  if s.toList == [116, 101, 114, 109] then 2 else
  if s.toList == [112, 108, 97, 99, 101] then 3 else
  if s.toList == [100, 101, 101, 100] then 3 else
  if s.toList == [100, 97, 121, 115] then 3 else
  if s.toList == [100, 97, 116, 101, 100] then 3 else
  if s.toList == [114, 101, 97, 115, 111, 110, 115] then 3 else
  if s.toList == [119, 97, 121] then 4 else
  if s.toList == [115, 116, 97, 121] then 4 else
  if s.toList == [115, 97, 121] then 5 else
  if s.toList == [119, 105, 116, 110, 101, 115, 115] then 6 else
  if s.toList == [97, 116] then 7 else
  if s.toList == [115, 101, 97, 108, 101, 100] then 7 else
  if s.toList == [119, 114, 105, 116, 116, 101, 110] then 7 else
  if s.toList == [99, 105, 116, 101, 115] then 7 else
  if s.toList == [115, 117, 115, 112, 101, 99, 116] then 7 else
  if s.toList == [99, 108, 101, 97, 114] then 7 else
  if s.toList == [111, 114, 100, 101, 114] then 8 else
  if s.toList == [99, 111, 110, 102, 108, 105, 99, 116] then 8 else
  if s.toList == [114, 101, 112, 97, 105, 114] then 8 else
  if s.toList == [111, 112, 101, 110] then 8 else
  if s.toList == [101, 97, 115, 116, 101, 114] then 9 else
  if s.toList == [100, 97, 116, 101] then 9 else
  if s.toList == [100, 101, 99, 105, 100, 101] then 10 else
  11
/-- the reference's form, by its number and the count of further words -/
def frC (c : Nat) (n : Int) : ByteArray := match c with
  | 0 => ⟨#[73, 32, 73]⟩
  | 1 => ⟨#[78, 32, 73, 32, 73]⟩
  | 2 => ⟨#[78, 32, 78, 32, 73, 32, 73]⟩
  | 3 => ⟨#[78]⟩
  | 4 => ⟨#[73, 32, 73, 32, 73]⟩
  | 5 => ⟨#[78, 32, 46, 46, 46]⟩
  | 6 => if n == 3 then ⟨#[78, 32, 78, 32, 78]⟩ else ⟨#[78, 32, 78]⟩
  | 7 => ⟨#[78, 32, 78]⟩
  | 8 => ⟨#[45]⟩
  | 9 => ⟨#[73]⟩
  | 10 => ⟨#[78, 32, 73, 32, 78]⟩
  | _ => ⟨#[]⟩
/-- the program's shapes, by number -/
def shC (c : Nat) : List ByteArray := match c with
  | 0 => [⟨#[73, 73]⟩]
  | 1 => [⟨#[78, 73, 73]⟩]
  | 2 => [⟨#[78, 78, 73, 73]⟩]
  | 3 => [⟨#[78]⟩]
  | 4 => [⟨#[73, 73, 73]⟩]
  | 5 => [⟨#[78, 46]⟩]
  | 6 => [⟨#[78, 78]⟩, ⟨#[78, 78, 78]⟩]
  | 7 => [⟨#[78, 78]⟩]
  | 8 => [⟨#[]⟩]
  | 9 => [⟨#[73]⟩]
  | 10 => [⟨#[78, 73, 78]⟩]
  | _ => []
/-- the rest of a command against a form, by the reference -/
def prs : List ByteArray → List ByteArray → Bool
  | [], r => r.isEmpty
  | _ :: _, [] => false
  | f :: fs, x :: r =>
    if f.toList == [78] then nameB x 12 && prs fs r
    else if f.toList == [73] then dgK x && prs fs r
    else f.toList == [46, 46, 46]
def prB (ws : List ByteArray) : Bool :=
  let form := spL 32 (frC (clW (ws.headD ⟨#[]⟩)) ((ws.length : Int) - 1))
  if (form.headD ⟨#[]⟩).toList == [45] then ws.length == 1 else prs form (ws.drop 1)
/-- the rest of a command against a shape, by the program -/
def ftL : List UInt8 → List ByteArray → Bool
  | [], r => r.isEmpty
  | _ :: _, [] => false
  | k :: ks, x :: r => (if k.toNat == 78 then nameB x 12 else nuB x && decide (x.size ≤ 9)) && ftL ks r
def sfx (s : ByteArray) : Bool := decide (1 ≤ s.size) && ((s.extract (s.size - 1) s.size).toList == [46])
def hdS (s : ByteArray) : ByteArray := s.extract 0 (s.size - 1)
def fitB (s : ByteArray) (l : List ByteArray) : Bool :=
  if sfx s then (if l.length ≤ (hdS s).size then false else ftL (hdS s).data.toList (l.take (hdS s).size)) else ftL s.data.toList l
theorem nu_dg (s : ByteArray) : (nuB s && decide (s.size ≤ 9)) = dgK s := by
  rw [Bool.eq_iff_iff, Bool.and_eq_true, decide_eq_true_iff, nuB_iff]
  have hsz : s.data.toList.length = s.size := by simp
  constructor
  · rintro ⟨⟨n, hn, he⟩, h9⟩
    have h1 : 1 ≤ s.size := by rw [← hsz, he]; exact List.length_pos_iff.2 (dec_ne n)
    have hB : dgB s = true := by unfold dgB; rw [he, dgU_dec]; simp [h1, h9]
    have hV : dgV s = n := by unfold dgV; rw [if_pos hB, he, valL_dec]
    unfold dgK
    rw [hB, hV, dec_eq]; simp [he]
  · intro h
    unfold dgK at h
    rw [Bool.and_eq_true, dec_eq, decide_eq_true_iff] at h
    obtain ⟨hB, he⟩ := h
    have hB' := hB
    unfold dgB at hB'
    rw [Bool.and_eq_true, decide_eq_true_iff] at hB'
    have hlt := valL_lt s.size s.data.toList (by omega) (by rw [List.take_of_length_le (by omega)]; exact hB'.2)
    rw [List.take_of_length_le (by omega)] at hlt
    have h9 : 10 ^ s.size ≤ 10 ^ 9 := Nat.pow_le_pow_right (by decide) hB'.1.2
    refine ⟨⟨dgV s, ?_, he.symm⟩, hB'.1.2⟩
    unfold dgV; rw [if_pos hB]; omega
theorem ite_ltN {c : Prop} [Decidable c] {a b n : Nat} (ha : a < n) (hb : b < n) : (if c then a else b) < n := by split <;> assumption
theorem clW_lt (s : ByteArray) : clW s < 12 := by
  unfold clW
  repeat (refine ite_ltN (by decide) ?_)
  decide
theorem spF0 : spL 32 (⟨#[73, 32, 73]⟩ : ByteArray) = [⟨#[73]⟩, ⟨#[73]⟩] := by decide +kernel
theorem spF1 : spL 32 (⟨#[78, 32, 73, 32, 73]⟩ : ByteArray) = [⟨#[78]⟩, ⟨#[73]⟩, ⟨#[73]⟩] := by decide +kernel
theorem spF2 : spL 32 (⟨#[78, 32, 78, 32, 73, 32, 73]⟩ : ByteArray) = [⟨#[78]⟩, ⟨#[78]⟩, ⟨#[73]⟩, ⟨#[73]⟩] := by decide +kernel
theorem spF3 : spL 32 (⟨#[78]⟩ : ByteArray) = [⟨#[78]⟩] := by decide +kernel
theorem spF4 : spL 32 (⟨#[73, 32, 73, 32, 73]⟩ : ByteArray) = [⟨#[73]⟩, ⟨#[73]⟩, ⟨#[73]⟩] := by decide +kernel
theorem spF5 : spL 32 (⟨#[78, 32, 46, 46, 46]⟩ : ByteArray) = [⟨#[78]⟩, ⟨#[46, 46, 46]⟩] := by decide +kernel
theorem spF6 : spL 32 (⟨#[78, 32, 78, 32, 78]⟩ : ByteArray) = [⟨#[78]⟩, ⟨#[78]⟩, ⟨#[78]⟩] := by decide +kernel
theorem spF7 : spL 32 (⟨#[78, 32, 78]⟩ : ByteArray) = [⟨#[78]⟩, ⟨#[78]⟩] := by decide +kernel
theorem spF8 : spL 32 (⟨#[45]⟩ : ByteArray) = [⟨#[45]⟩] := by decide +kernel
theorem spF9 : spL 32 (⟨#[73]⟩ : ByteArray) = [⟨#[73]⟩] := by decide +kernel
theorem spF10 : spL 32 (⟨#[78, 32, 73, 32, 78]⟩ : ByteArray) = [⟨#[78]⟩, ⟨#[73]⟩, ⟨#[78]⟩] := by decide +kernel
theorem spF11 : spL 32 (⟨#[]⟩ : ByteArray) = [⟨#[]⟩] := by decide +kernel
theorem sfS0 : sfx (⟨#[73, 73]⟩ : ByteArray) = false := by decide +kernel
theorem sfS1 : sfx (⟨#[78, 73, 73]⟩ : ByteArray) = false := by decide +kernel
theorem sfS2 : sfx (⟨#[78, 78, 73, 73]⟩ : ByteArray) = false := by decide +kernel
theorem sfS3 : sfx (⟨#[78]⟩ : ByteArray) = false := by decide +kernel
theorem sfS4 : sfx (⟨#[73, 73, 73]⟩ : ByteArray) = false := by decide +kernel
theorem sfS5 : sfx (⟨#[78, 46]⟩ : ByteArray) = true := by decide +kernel
theorem sfS6 : sfx (⟨#[78, 78]⟩ : ByteArray) = false := by decide +kernel
theorem sfS7 : sfx (⟨#[78, 78, 78]⟩ : ByteArray) = false := by decide +kernel
theorem sfS8 : sfx (⟨#[]⟩ : ByteArray) = false := by decide +kernel
theorem sfS9 : sfx (⟨#[73]⟩ : ByteArray) = false := by decide +kernel
theorem sfS10 : sfx (⟨#[78, 73, 78]⟩ : ByteArray) = false := by decide +kernel
theorem hdNs : (hdS (⟨#[78, 46]⟩ : ByteArray)).size = 1 := by decide +kernel
theorem hdNd : (hdS (⟨#[78, 46]⟩ : ByteArray)).data.toList = [78] := by decide +kernel
theorem no3 (n : Nat) : ((n : Int) + 1 + 1 + 1 + 1 + 1 = 3) = False := by simp; omega
theorem sp_any (ws : List ByteArray) (h : ws ≠ []) : prB ws = (shC (clW (ws.headD ⟨#[]⟩))).any (fun s => fitB s (ws.drop 1)) := by
  obtain ⟨x, r, rfl⟩ := List.exists_cons_of_ne_nil h
  have hc := clW_lt x
  have hl : (((x :: r).length : Int) - 1) = (r.length : Int) := by simp
  unfold prB
  simp only [List.headD_cons, List.drop_succ_cons, List.drop_zero, hl]
  generalize clW x = c at *
  have e45 : (⟨#[45]⟩ : ByteArray).toList = [45] := by decide +kernel
  have e73 : (⟨#[73]⟩ : ByteArray).toList = [73] := by decide +kernel
  have e78 : (⟨#[78]⟩ : ByteArray).toList = [78] := by decide +kernel
  have e46 : (⟨#[46, 46, 46]⟩ : ByteArray).toList = [46, 46, 46] := by decide +kernel
  have e0 : (⟨#[]⟩ : ByteArray).toList = [] := by decide +kernel
  have hc' : c = 0 ∨ c = 1 ∨ c = 2 ∨ c = 3 ∨ c = 4 ∨ c = 5 ∨ c = 6 ∨ c = 7 ∨ c = 8 ∨ c = 9 ∨ c = 10 ∨ c = 11 := by omega
  clear hc hl h
  rcases hc' with rfl | rfl | rfl | rfl | rfl | rfl | rfl | rfl | rfl | rfl | rfl | rfl
  all_goals
    rcases r with _ | ⟨a, _ | ⟨b, _ | ⟨c, _ | ⟨d, _ | ⟨e, r⟩⟩⟩⟩⟩
    all_goals simp [frC, shC, no3, spF0, spF1, spF2, spF3, spF4, spF5, spF6, spF7, spF8, spF9, spF10, spF11, sfS0, sfS1, sfS2, sfS3, sfS4, sfS5, sfS6, sfS7, sfS8, sfS9, sfS10, hdNs, hdNd, e45, e73, e78, e46, e0, prs, fitB, ftL, ← nu_dg, Bool.and_assoc]
end Go.Proofs.YtehoaoeahfmfpaaDoor
