/- A []laws.Copy, a []int64 that came in, opened to Lean data. -/
import Derived.Test.YtdjhenjgccenhaaDoorRow
import Derived.Test.YtdjhenjgccenhaaDoorCopy
namespace Go.Proofs.YtdjhenjgccenhaaDoor
open Go.ChangeShapes Go.WideShapes Go.ChangeAt Go.RowKit Go.Deep

theorem cellsInt : Tryd.prog.cellsOf 2 = 1 := by kernel_rfl
section
variable {H : Type} {enc : TypeId × Value → H}
/-- the cells of a slice of int64 values -/
theorem open_ints_cells {W : World} {v : Value} {fuel : Nat} {y : DataW H × List MemPlace} (h : DataW.trod enc Tryd.prog W 0 (fun _ => true) true fuel 32 [v] = some y) :
    ∃ A n c, v = .slice A n c ∧ n ≤ c ∧ c ≤ maxLen ∧ ∃ l : List Int, l.length = n ∧ RdI W 0 W.heap.size A l ∧ ∀ z ∈ l, (Lit.int .i64 z).wf = true := by
  rcases open_ints Tryd.underlying32 Tryd.underlying2 cellsInt h with ⟨hcs, hx⟩ | ⟨a, len, cap, zs, hcs, _, hl, hm, hz, hx, hcell, hwz⟩
  · simp only [List.cons.injEq, and_true] at hcs
    subst hcs
    exact ⟨none, 0, 0, rfl, Nat.le_refl _, by simp [maxLen], [], rfl, Rd.nil_, by simp⟩
  · simp only [List.cons.injEq, and_true] at hcs
    subst hcs
    simp only [if_true] at hz
    refine ⟨some a, len, cap, rfl, hl, hm, zs.take len, by rw [List.length_take]; omega, fun hne => ?_, fun z hz' => hwz z (List.mem_of_mem_take hz')⟩
    have hpos : 0 < len := by
      rcases Nat.eq_zero_or_pos len with h0 | h0
      · subst h0; simp at hne
      · exact h0
    obtain ⟨b, off, rfl, hc⟩ := ints_at hcell (by omega)
    refine ⟨b, off, rfl, Nat.zero_le _, block_lt_of_cell (hc 0 (by omega)), fun i x hx j u hu => ?_⟩
    rw [List.getElem?_take] at hx
    split at hx
    · rename_i hi
      match j, hu with
      | 0, hu =>
        simp at hu; subst hu
        have := hc i (by omega)
        rw [List.getD_eq_getElem?_getD, hx] at this
        simpa using this
    · cases hx
theorem open_int64s {W : World} {A : Option Addr} {n c : Nat} {d : DataW H} {p : List MemPlace} (h : DataW.Trod enc Tryd.prog W 0 (fun _ => true) true 32 (.slice A n c) d p) :
    ∃ l : List Int, l.length = n ∧ RdI W 0 W.heap.size A l ∧ (∀ z ∈ l, (Lit.int .i64 z).wf = true) ∧ n ≤ c ∧ c ≤ maxLen := by
  obtain ⟨fuel, hf⟩ := h
  obtain ⟨A', n', c', e, h1, h2, l, h3, h4, h5⟩ := open_ints_cells (by simpa [Value.cells] using hf)
  simp only [Value.slice.injEq] at e
  obtain ⟨rfl, rfl, rfl⟩ := e
  exact ⟨l, h3, h4, h5, h1, h2⟩

theorem open_copies {W : World} {A : Option Addr} {n c : Nat} {d : DataW H} {p : List MemPlace} (h : DataW.Trod enc Tryd.prog W 0 (fun _ => true) true 22 (.slice A n c) d p) :
    ∃ l : List Cp, l.length = n ∧ RdC W 0 W.heap.size A l ∧ (∀ d ∈ l, d.ok) ∧ n ≤ c ∧ c ≤ maxLen := by
  obtain ⟨fuel, hf⟩ := h
  rcases open_slice_fields Tryd.underlying22 Tryd.underlying60 (by kernel_rfl) (by kernel_rfl) (by simpa [Value.cells] using hf) with ⟨hcs, hx⟩ | ⟨a, len, cap, m, D, Pl, hcs, _, hl, hm, hmm, hx, hi⟩
  · simp only [List.cons.injEq, Value.slice.injEq, and_true] at hcs
    obtain ⟨rfl, rfl, rfl⟩ := hcs
    exact ⟨[], rfl, ⟨Rd.nil_, by simp⟩, by simp, Nat.le_refl _, by simp [maxLen]⟩
  · simp only [List.cons.injEq, Value.slice.injEq, and_true] at hcs
    obtain ⟨rfl, rfl, rfl⟩ := hcs
    simp only [if_true] at hmm
    subst hmm
    have hel : ∀ i, i < n → ∃ d : Cp, d.ok ∧ RdI W 0 W.heap.size d.A d.rs ∧ W.cell? (a.add (i * 2)) = some (.string d.name) ∧ W.cell? (a.add (i * 2 + 1)) = some (.slice d.A d.rs.length d.c) := by
      intro i hin
      obtain ⟨ys, k, _, _, _, hf⟩ := hi i (by omega)
      obtain ⟨v0, y0, c0, _, t0⟩ := hf 0 _ rfl
      obtain ⟨v1, y1, c1, _, t1⟩ := hf 1 _ rfl
      obtain ⟨s0, e0, _, z0⟩ := DataW.trod_string Tryd.underlying9 t0
      obtain ⟨A', n', c', rfl, h1, h2, l, rfl, h4, h5⟩ := open_ints_cells t1
      simp only [List.cons.injEq, and_true] at e0
      subst e0
      exact ⟨⟨s0, A', c', l⟩, ⟨z0, h1, h2⟩, h4, c0, c1⟩
    haveI : Inhabited Cp := ⟨⟨ByteArray.empty, none, 0, []⟩⟩
    obtain ⟨E, hE⟩ := choose_lt hel
    have hmem : ∀ d ∈ (List.range n).map E, d.ok ∧ RdI W 0 W.heap.size d.A d.rs := by
      intro d hd
      simp only [List.mem_map, List.mem_range] at hd
      obtain ⟨i, hi1, rfl⟩ := hd
      exact ⟨(hE i hi1).1, (hE i hi1).2.1⟩
    refine ⟨(List.range n).map E, by simp, ⟨fun hne => ?_, fun x hx => (hmem x hx).2⟩, fun x hx => (hmem x hx).1, hl, hm⟩
    have hn : 0 < n := by
      rcases Nat.eq_zero_or_pos n with h0 | h0
      · subst h0; simp at hne
      · exact h0
    have h0 := (hE 0 hn).2.2.1
    rw [Nat.zero_mul] at h0
    obtain ⟨b, off, e | e⟩ := addr_of_cell h0
    · subst e
      refine ⟨b, off, rfl, Nat.zero_le _, by have := block_lt_of_cell h0; rwa [add_plain'] at this, fun i x hx j u hu => ?_⟩
      rw [List.getElem?_map] at hx
      obtain ⟨hi1, hi2⟩ : i < n ∧ E i = x := by
        rcases Nat.lt_or_ge i n with h | h
        · rw [List.getElem?_range h] at hx; exact ⟨h, by simpa using hx⟩
        · rw [List.getElem?_eq_none (by simpa using h)] at hx; cases hx
      subst hi2
      obtain ⟨_, _, k0, k1⟩ := hE i hi1
      rw [add_plain'] at k0 k1
      match j, hu with
      | 0, hu => simp at hu; subst hu; exact k0
      | 1, hu => simp at hu; subst hu; exact k1
    · exact absurd rfl e
end
end Go.Proofs.YtdjhenjgccenhaaDoor
