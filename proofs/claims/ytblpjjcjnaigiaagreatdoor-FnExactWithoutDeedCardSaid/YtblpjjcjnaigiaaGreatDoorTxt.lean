/- Slices of strings, as memory. -/
import Derived.Test.YtblpjjcjnaigiaaGreatDoorProg
import Derived.Test.YtblpjjcjnaigiaaGreatDoorLib
namespace Go.Proofs.YtblpjjcjnaigiaaGreatDoor
open Go.RowKit

theorem infoString : (Tryz.prog.info? 9).map (fun i => (i.zero, i.size, i.bytes)) = some (some (.string ByteArray.empty), 1, 16) := by kernel_rfl
abbrev strC (z : ByteArray) : List Value := [.string z]
theorem strC_len (z : ByteArray) : (strC z).length = 1 := rfl
abbrev RdT (w : World) (lo hi : Nat) (A : Option Addr) (l : List ByteArray) : Prop := Rd w lo hi 1 strC A l
theorem Rd.txt {w : World} {lo hi : Nat} {A : Option Addr} {l : List ByteArray} (h : RdT w lo hi A l) {k : Nat} (hk : k < l.length) :
    ∃ b off z, A = some ⟨b, off, none⟩ ∧ lo ≤ b ∧ b < hi ∧ l[k]? = some z ∧ w.cell? ⟨b, off + k, none⟩ = some (.string z) := by
  obtain ⟨b, off, d, e, h1, h2, h3, h4⟩ := Rd.at_ h hk
  have := h4 0 _ rfl
  rw [Nat.mul_one] at this
  exact ⟨b, off, d, e, h1, h2, h3, this⟩
theorem ret_str {a b : ByteArray} (h : a = b) : Ending.returned (.string a) = .returned (.string b) := by rw [h]
theorem ret_si {a b : ByteArray} {k : IntKind} {x y : Int} (h : a = b) (h' : x = y) : Ending.returned (.tuple #[.string a, .int k x]) = .returned (.tuple #[.string b, .int k y]) := by rw [h, h']
theorem ba_ext {a b : ByteArray} (h : a.data.toList = b.data.toList) : a = b := by
  obtain ⟨a⟩ := a; obtain ⟨b⟩ := b; simp at h; rw [h]
theorem ba_app (a b : ByteArray) : (a ++ b).data.toList = a.data.toList ++ b.data.toList := by rw [ByteArray.data_append]; simp
end Go.Proofs.YtblpjjcjnaigiaaGreatDoor
