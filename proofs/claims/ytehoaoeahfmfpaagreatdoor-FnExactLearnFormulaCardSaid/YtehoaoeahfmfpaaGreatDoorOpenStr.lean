/- A []string, opened to Lean data. -/
import Derived.Test.YtehoaoeahfmfpaaGreatDoorRow
import Derived.Test.YtehoaoeahfmfpaaGreatDoorTxt
import Derived.SliceStrings
namespace Go.Proofs.YtehoaoeahfmfpaaGreatDoor
open Go.ChangeShapes Go.WideShapes Go.ChangeAt Go.RowKit Go.Deep

theorem cellsString : Tryz.prog.cellsOf 9 = 1 := by kernel_rfl
theorem strs_at {w : World} {a : Addr} {zs : List ByteArray} (h : ∀ i, i < zs.length → w.cell? (a.add i) = some (.string (zs.getD i ByteArray.empty))) (hp : 0 < zs.length) :
    ∃ b off, a = ⟨b, off, none⟩ ∧ ∀ j, j < zs.length → w.cell? ⟨b, off + j, none⟩ = some (.string (zs.getD j ByteArray.empty)) := by
  obtain ⟨b, off, e | e⟩ := addr_of_cell (h 0 hp)
  · subst e
    exact ⟨b, off, rfl, fun j hj => by rw [← Go.WideShapes.add_plain]; exact h j hj⟩
  · exact absurd rfl e
section
variable {H : Type} {enc : TypeId × Value → H}
/-- the cells of a slice of strings -/
theorem open_strs_cells {W : World} {v : Value} {fuel : Nat} {y : DataW H × List MemPlace} (h : DataW.trod enc Tryz.prog W 0 (fun _ => true) true fuel 23 [v] = some y) :
    ∃ A n c, v = .slice A n c ∧ n ≤ c ∧ c ≤ maxLen ∧ ∃ l : List ByteArray, l.length = n ∧ RdT W 0 W.heap.size A l ∧ ∀ z ∈ l, z.size ≤ maxLen := by
  rcases open_strings Tryz.underlying23 Tryz.underlying9 cellsString h with ⟨hcs, hx⟩ | ⟨a, len, cap, zs, hcs, _, hl, hm, hz, hx, hcell, hwz⟩
  · simp only [List.cons.injEq, and_true] at hcs
    subst hcs
    exact ⟨none, 0, 0, rfl, Nat.le_refl _, by simp [maxLen], [], rfl, Rd.nil_, by simp⟩
  · simp only [List.cons.injEq, and_true] at hcs
    subst hcs
    simp only [if_true] at hz
    refine ⟨some a, len, cap, rfl, hl, hm, zs.take len, by rw [List.length_take]; omega, fun hne => ?_, fun z hz' => hwz z (List.mem_of_mem_take hz')⟩
    have hpos : 0 < len := by
      rcases Nat.eq_zero_or_pos len with h0 | h0
      · subst h0; simp at hne
      · exact h0
    obtain ⟨b, off, rfl, hc⟩ := strs_at hcell (by omega)
    refine ⟨b, off, rfl, Nat.zero_le _, block_lt_of_cell (hc 0 (by omega)), fun i x hx j u hu => ?_⟩
    rw [List.getElem?_take] at hx
    split at hx
    · rename_i hi
      match j, hu with
      | 0, hu =>
        simp at hu; subst hu
        have := hc i (by omega)
        rw [List.getD_eq_getElem?_getD, hx] at this
        simpa using this
    · cases hx
theorem open_strs {W : World} {A : Option Addr} {n c : Nat} {d : DataW H} {p : List MemPlace} (h : DataW.Trod enc Tryz.prog W 0 (fun _ => true) true 23 (.slice A n c) d p) :
    ∃ l : List ByteArray, l.length = n ∧ RdT W 0 W.heap.size A l ∧ (∀ d ∈ l, d.size ≤ maxLen) ∧ n ≤ c ∧ c ≤ maxLen := by
  obtain ⟨fuel, hf⟩ := h
  obtain ⟨A', n', c', e, h1, h2, l, h3, h4, h5⟩ := open_strs_cells (by simpa [Value.cells] using hf)
  cases e
  exact ⟨l, h3, h4, h5, h1, h2⟩
end
end Go.Proofs.YtehoaoeahfmfpaaGreatDoor
