/- A []byte that came in, opened to Lean data. -/
import Derived.Test.YtehoaoeahfmfpaaGreatDoorRow
import Derived.Test.YtehoaoeahfmfpaaGreatDoorNormL
namespace Go.Proofs.YtehoaoeahfmfpaaGreatDoor
open Go.ChangeShapes Go.WideShapes Go.ChangeAt Go.RowKit Go.Deep

theorem cellsByt : Tryz.prog.cellsOf 5 = 1 := by kernel_rfl
section
variable {H : Type} {enc : TypeId × Value → H}
theorem open_bytes {W : World} {A : Option Addr} {n c : Nat} {d : DataW H} {p : List MemPlace} (h : DataW.Trod enc Tryz.prog W 0 (fun _ => true) true 35 (.slice A n c) d p) :
    ∃ l : List UInt8, l.length = n ∧ RdY W 0 W.heap.size A l ∧ True ∧ n ≤ c ∧ c ≤ maxLen := by
  obtain ⟨fuel, hf⟩ := h
  rcases open_ints (k := .u8) Tryz.underlying35 Tryz.underlying5 cellsByt (by simpa [Value.cells] using hf) with ⟨hcs, hx⟩ | ⟨a, len, cap, zs, hcs, _, hl, hm, hz, hx, hcell, hwz⟩
  · simp only [List.cons.injEq, Value.slice.injEq, and_true] at hcs
    obtain ⟨rfl, rfl, rfl⟩ := hcs
    exact ⟨[], rfl, Rd.nil_, trivial, Nat.le_refl _, by simp [maxLen]⟩
  · simp only [List.cons.injEq, Value.slice.injEq, and_true] at hcs
    obtain ⟨rfl, rfl, rfl⟩ := hcs
    simp only [if_true] at hz
    refine ⟨(zs.take n).map fun z => UInt8.ofNat z.toNat, by rw [List.length_map, List.length_take]; omega, fun hne => ?_, trivial, hl, hm⟩
    have hpos : 0 < n := by
      rcases Nat.eq_zero_or_pos n with h0 | h0
      · subst h0; simp at hne
      · exact h0
    obtain ⟨b, off, rfl, hc⟩ := ints_at hcell (by omega)
    refine ⟨b, off, rfl, Nat.zero_le _, block_lt_of_cell (hc 0 (by omega)), fun i x hx j u hu => ?_⟩
    rw [List.getElem?_map, List.getElem?_take] at hx
    split at hx
    · rename_i hi
      match j, hu with
      | 0, hu =>
        simp at hu; subst hu
        have h2 := hc i (by omega)
        have hi2 : i < zs.length := by omega
        rw [List.getElem?_eq_getElem hi2] at hx
        simp only [Option.map_some, Option.some.injEq] at hx
        subst hx
        rw [List.getD_eq_getElem?_getD, List.getElem?_eq_getElem hi2] at h2
        have hw := hwz zs[i] (List.getElem_mem hi2)
        simp [Lit.wf, IntKind.min, IntKind.max, IntKind.signed, IntKind.bits] at hw
        have e : ((UInt8.ofNat (zs[i]).toNat).toNat : Int) = zs[i] := by
          rw [UInt8.toNat_ofNat']
          omega
        rw [e]
        simpa using h2
    · cases hx
end
end Go.Proofs.YtehoaoeahfmfpaaGreatDoor
