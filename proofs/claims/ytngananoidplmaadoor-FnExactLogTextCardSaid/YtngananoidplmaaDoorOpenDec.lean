/- A []laws.Decision that came in, opened to a list of decisions. -/
import Derived.Test.YtngananoidplmaaDoorRow
import Derived.Test.YtngananoidplmaaDoorDec
namespace Go.Proofs.YtngananoidplmaaDoor
open Go.ChangeShapes Go.WideShapes Go.ChangeAt Go.RowKit Go.Deep

section
variable {H : Type} {enc : TypeId × Value → H}
theorem open_decs {W : World} {A : Option Addr} {n c : Nat} {d : DataW H} {p : List MemPlace} (h : DataW.Trod enc Tryd.prog W 0 (fun _ => true) true 22 (.slice A n c) d p) :
    ∃ l : List Dec, l.length = n ∧ RdD W 0 W.heap.size A l ∧ (∀ d ∈ l, d.ok) ∧ n ≤ c ∧ c ≤ maxLen := by
  obtain ⟨fuel, hf⟩ := h
  rcases open_slice_fields Tryd.underlying22 Tryd.underlying39 (by kernel_rfl) (by kernel_rfl) (by simpa [Value.cells] using hf) with ⟨hcs, hx⟩ | ⟨a, len, cap, m, D, Pl, hcs, _, hl, hm, hmm, hx, hi⟩
  · simp only [List.cons.injEq, Value.slice.injEq, and_true] at hcs
    obtain ⟨rfl, rfl, rfl⟩ := hcs
    exact ⟨[], rfl, Rd.nil_, by simp, Nat.le_refl _, by simp [maxLen]⟩
  · simp only [List.cons.injEq, Value.slice.injEq, and_true] at hcs
    obtain ⟨rfl, rfl, rfl⟩ := hcs
    simp only [if_true] at hmm
    subst hmm
    have hel : ∀ i, i < n → ∃ d : Dec, d.ok ∧ W.cell? (a.add (i * 4)) = some (.string d.deed) ∧ W.cell? (a.add (i * 4 + 1)) = some (.int .i64 d.kind) ∧ W.cell? (a.add (i * 4 + 2)) = some (.int .i64 d.day) ∧ W.cell? (a.add (i * 4 + 3)) = some (.string d.by_) := by
      intro i hin
      obtain ⟨ys, k, _, _, _, hf⟩ := hi i (by omega)
      obtain ⟨v0, y0, c0, _, t0⟩ := hf 0 _ rfl
      obtain ⟨v1, y1, c1, _, t1⟩ := hf 1 _ rfl
      obtain ⟨v2, y2, c2, _, t2⟩ := hf 2 _ rfl
      obtain ⟨v3, y3, c3, _, t3⟩ := hf 3 _ rfl
      obtain ⟨s0, e0, _, z0⟩ := DataW.trod_string Tryd.underlying9 t0
      obtain ⟨s1, e1, _, _⟩ := DataW.trod_int Tryd.underlying2 t1
      obtain ⟨s2, e2, _, _⟩ := DataW.trod_int Tryd.underlying2 t2
      obtain ⟨s3, e3, _, z3⟩ := DataW.trod_string Tryd.underlying9 t3
      simp only [List.cons.injEq, and_true] at e0 e1 e2 e3
      subst e0 e1 e2 e3
      exact ⟨⟨s0, s1, s2, s3⟩, ⟨z0, z3⟩, c0, c1, c2, c3⟩
    haveI : Inhabited Dec := ⟨⟨ByteArray.empty, 0, 0, ByteArray.empty⟩⟩
    obtain ⟨E, hE⟩ := choose_lt hel
    refine ⟨(List.range n).map E, by simp, fun hne => ?_, ?_, hl, hm⟩
    · have hn : 0 < n := by
        rcases Nat.eq_zero_or_pos n with h0 | h0
        · subst h0; simp at hne
        · exact h0
      have h0 := (hE 0 hn).2.1
      rw [Nat.zero_mul] at h0
      obtain ⟨b, off, e | e⟩ := addr_of_cell h0
      · subst e
        refine ⟨b, off, rfl, Nat.zero_le _, by have := block_lt_of_cell h0; rwa [add_plain'] at this, fun i x hx j u hu => ?_⟩
        rw [List.getElem?_map] at hx
        obtain ⟨hi1, hi2⟩ : i < n ∧ E i = x := by
          rcases Nat.lt_or_ge i n with h | h
          · rw [List.getElem?_range h] at hx; exact ⟨h, by simpa using hx⟩
          · rw [List.getElem?_eq_none (by simpa using h)] at hx; cases hx
        subst hi2
        obtain ⟨_, k0, k1, k2, k3⟩ := hE i hi1
        rw [add_plain'] at k0 k1 k2 k3
        match j, hu with
        | 0, hu => simp at hu; subst hu; exact k0
        | 1, hu => simp at hu; subst hu; exact k1
        | 2, hu => simp at hu; subst hu; exact k2
        | 3, hu => simp at hu; subst hu; exact k3
      · exact absurd rfl e
    · intro d hd
      simp only [List.mem_map, List.mem_range] at hd
      obtain ⟨i, hi1, rfl⟩ := hd
      exact (hE i hi1).1
end
end Go.Proofs.YtngananoidplmaaDoor
