/- A []laws.Formula, its words, opened to Lean data. -/
import Derived.Test.YtehoaoeahfmfpaaGreatDoorRow
import Derived.Test.YtehoaoeahfmfpaaGreatDoorFormA
import Derived.Test.YtehoaoeahfmfpaaGreatDoorOpenStr
namespace Go.Proofs.YtehoaoeahfmfpaaGreatDoor
open Go.ChangeShapes Go.WideShapes Go.ChangeAt Go.RowKit Go.Deep

section
variable {H : Type} {enc : TypeId × Value → H}
theorem open_formulas {W : World} {A : Option Addr} {n c : Nat} {d : DataW H} {p : List MemPlace} (h : DataW.Trod enc Tryz.prog W 0 (fun _ => true) true 22 (.slice A n c) d p) :
    ∃ l : List Fm, l.length = n ∧ RdF W 0 W.heap.size A l ∧ (∀ d ∈ l, d.ok) ∧ n ≤ c ∧ c ≤ maxLen := by
  obtain ⟨fuel, hf⟩ := h
  rcases open_slice_fields Tryz.underlying22 Tryz.underlying65 (by kernel_rfl) (by kernel_rfl) (by simpa [Value.cells] using hf) with ⟨hcs, hx⟩ | ⟨a, len, cap, m, D, Pl, hcs, _, hl, hm, hmm, hx, hi⟩
  · simp only [List.cons.injEq, Value.slice.injEq, and_true] at hcs
    obtain ⟨rfl, rfl, rfl⟩ := hcs
    exact ⟨[], rfl, ⟨Rd.nil_, by simp⟩, by simp, Nat.le_refl _, by simp [maxLen]⟩
  · simp only [List.cons.injEq, Value.slice.injEq, and_true] at hcs
    obtain ⟨rfl, rfl, rfl⟩ := hcs
    simp only [if_true] at hmm
    subst hmm
    have hel : ∀ i, i < n → ∃ d : Fm, d.ok ∧ RdT W 0 W.heap.size d.A d.ws ∧ W.cell? (a.add (i * 3)) = some (.slice d.A d.ws.length d.c) ∧ W.cell? (a.add (i * 3 + 1)) = some (.int .i64 d.fr) ∧ W.cell? (a.add (i * 3 + 2)) = some (.int .i64 d.to_) := by
      intro i hin
      obtain ⟨ys, k, _, _, _, hf⟩ := hi i (by omega)
      obtain ⟨v0, y0, c0, _, t0⟩ := hf 0 _ rfl
      obtain ⟨v1, y1, c1, _, t1⟩ := hf 1 _ rfl
      obtain ⟨v2, y2, c2, _, t2⟩ := hf 2 _ rfl
      obtain ⟨A', n', c', rfl, h1, h2, l, rfl, h4, h5⟩ := open_strs_cells t0
      obtain ⟨m1, e1, _, _⟩ := DataW.trod_int Tryz.underlying2 t1
      obtain ⟨m2, e2, _, _⟩ := DataW.trod_int Tryz.underlying2 t2
      simp only [List.cons.injEq, and_true] at e1 e2
      subst e1 e2
      exact ⟨⟨A', c', l, m1, m2⟩, ⟨h5, h1, h2⟩, h4, c0, c1, c2⟩
    haveI : Inhabited Fm := ⟨⟨none, 0, [], 0, 0⟩⟩
    obtain ⟨E, hE⟩ := choose_lt hel
    have hmem : ∀ d ∈ (List.range n).map E, d.ok ∧ RdT W 0 W.heap.size d.A d.ws := by
      intro d hd
      simp only [List.mem_map, List.mem_range] at hd
      obtain ⟨i, hi1, rfl⟩ := hd
      exact ⟨(hE i hi1).1, (hE i hi1).2.1⟩
    refine ⟨(List.range n).map E, by simp, ⟨fun hne => ?_, fun x hx => (hmem x hx).2⟩, fun x hx => (hmem x hx).1, hl, hm⟩
    have hn : 0 < n := by
      rcases Nat.eq_zero_or_pos n with h0 | h0
      · subst h0; simp at hne
      · exact h0
    have h0 := (hE 0 hn).2.2.1
    rw [Nat.zero_mul] at h0
    obtain ⟨b, off, e | e⟩ := addr_of_cell h0
    · subst e
      refine ⟨b, off, rfl, Nat.zero_le _, by have := block_lt_of_cell h0; rwa [add_plain'] at this, fun i x hx j u hu => ?_⟩
      rw [List.getElem?_map] at hx
      obtain ⟨hi1, hi2⟩ : i < n ∧ E i = x := by
        rcases Nat.lt_or_ge i n with h | h
        · rw [List.getElem?_range h] at hx; exact ⟨h, by simpa using hx⟩
        · rw [List.getElem?_eq_none (by simpa using h)] at hx; cases hx
      subst hi2
      obtain ⟨_, _, k0, k1, k2⟩ := hE i hi1
      rw [add_plain'] at k0 k1 k2
      match j, hu with
      | 0, hu => simp at hu; subst hu; exact k0
      | 1, hu => simp at hu; subst hu; exact k1
      | 2, hu => simp at hu; subst hu; exact k2
    · exact absurd rfl e
end
end Go.Proofs.YtehoaoeahfmfpaaGreatDoor
