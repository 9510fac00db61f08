/- The law package's helpers over []int64, and markText. -/
import Derived.Test.YtehoaoeahfmfpaaProg
import Derived.Test.YtehoaoeahfmfpaaLib
namespace Go.Proofs.Ytehoaoeahfmfpaa
open Go.RowKit Go.Sort

abbrev intCells (z : Int) : List Value := [.int .i64 z]
abbrev RdI (w : World) (lo hi : Nat) (A : Option Addr) (l : List Int) : Prop := Rd w lo hi 1 intCells A l
theorem int_len (z : Int) : (intCells z).length = 1 := rfl
theorem Rd.int {w : World} {lo hi : Nat} {A : Option Addr} {l : List Int} (h : RdI w lo hi A l) {k : Nat} (hk : k < l.length) :
    ∃ b off z, A = some ⟨b, off, none⟩ ∧ lo ≤ b ∧ b < hi ∧ l[k]? = some z ∧ w.cell? ⟨b, off + k, none⟩ = some (.int .i64 z) := by
  obtain ⟨b, off, d, e, h1, h2, h3, h4⟩ := Rd.at_ h hk
  have := h4 0 _ rfl
  rw [Nat.mul_one] at this
  exact ⟨b, off, d, e, h1, h2, h3, this⟩

def eqIs (l m : List Int) : Bool := decide (l = m)
theorem eqIs_len {l m : List Int} (h : l.length ≠ m.length) : eqIs l m = false := by unfold eqIs; rw [decide_eq_false_iff_not]; rintro rfl; exact h rfl
theorem eqIs_ne {l m : List Int} {k : Nat} {a b : Int} (ha : l[k]? = some a) (hb : m[k]? = some b) (h : (a != b) = true) : eqIs l m = false := by
  unfold eqIs; rw [decide_eq_false_iff_not]; rintro rfl
  rw [ha] at hb; cases hb
  simp at h
theorem eqIs_eq {l m : List Int} (h : l.take l.length = m.take l.length) (hl : l.length = m.length) : eqIs l m = true := by
  unfold eqIs; rw [decide_eq_true_iff]
  rwa [List.take_of_length_le (Nat.le_refl _), hl, List.take_of_length_le (Nat.le_refl _)] at h
theorem eqIs_self (l : List Int) : eqIs l l = true := by simp [eqIs]
def mkI (k : Int) (n : Nat) : List Int := (List.range n).map fun (j : Nat) => k + (j : Int)
theorem mkI_len (k : Int) (n : Nat) : (mkI k n).length = n := by simp [mkI]
theorem mkI_take {k : Int} {n j : Nat} (h : j < n) : ((mkI k n).take (j + 1)).flatMap intCells = ((mkI k n).take j).flatMap intCells ++ [.int .i64 (k + j)] := by
  rw [take_flat_succ _ (x := k + (j : Int)) (by simp [mkI, h])]
theorem mkI_get {k : Int} {n j : Nat} (h : j < n) : (mkI k n)[j]? = some (k + (j : Int)) := by simp [mkI, h]

end Go.Proofs.Ytehoaoeahfmfpaa
