/- Lines of ancestors: what stands in a line begins a line of its own; the first common one is symmetric. -/
import Derived.Test.YtncmenfdnpmblaaDoorStemL
namespace Go.Proofs.YtncmenfdnpmblaaDoor

/-- more fuel gives the same line -/
theorem rea_mono {ps : List Int} : ∀ {m : Nat} {z : Int}, reaB ps m z = true → reaB ps (m + 1) z = true
  | 0, z, h => by
    have hz : z = -1 := by simpa [reaB] using h
    rw [hz]; exact rea_end _ _
  | m + 1, z, h => by
    by_cases hz : z = -1
    · rw [hz]; exact rea_end _ _
    · rw [rea_step hz] at h ⊢
      exact rea_mono h
theorem anc_more {ps : List Int} : ∀ {m : Nat} {z : Int}, reaB ps m z = true → ancL ps (m + 1) z = ancL ps m z
  | 0, z, h => by
    have hz : z = -1 := by simpa [reaB] using h
    rw [hz, anc_end, anc_end]
  | m + 1, z, h => by
    by_cases hz : z = -1
    · rw [hz, anc_end, anc_end]
    · rw [rea_step hz] at h
      rw [anc_step hz, anc_step hz, anc_more h]
/-- one step of a line that reaches the original -/
theorem anc_cons {ps : List Int} {m : Nat} {z : Int} (h : reaB ps m z = true) (hz : z ≠ -1) : ancL ps m z = z :: ancL ps m (upS ps z) ∧ reaB ps m (upS ps z) = true := by
  cases m with
  | zero => rw [rea_zero hz] at h; cases h
  | succ m =>
    rw [rea_step hz] at h
    rw [anc_step hz, anc_more h]
    exact ⟨rfl, rea_mono h⟩
/-- what stands in a line begins a line of its own -/
theorem anc_tail {ps : List Int} {m : Nat} : ∀ {p : List Int} {z x : Int} {t : List Int}, reaB ps m z = true → ancL ps m z = p ++ x :: t → ancL ps m x = x :: t ∧ reaB ps m x = true
  | [], z, x, t, h, he => by
    have hz : z ≠ -1 := by
      rintro rfl
      rw [anc_end] at he; cases he
    have h1 := (anc_cons h hz).1
    rw [h1] at he
    have : z = x := by simpa using (List.cons.inj he).1
    subst this
    rw [h1, he]; exact ⟨rfl, h⟩
  | y :: p, z, x, t, h, he => by
    have hz : z ≠ -1 := by
      rintro rfl
      rw [anc_end] at he; cases he
    obtain ⟨h1, h2⟩ := anc_cons h hz
    rw [h1] at he
    exact anc_tail (p := p) h2 (List.cons.inj he).2
theorem anc_in {ps : List Int} {m : Nat} {z x : Int} (h : reaB ps m z = true) (hx : x ∈ ancL ps m z) : ∃ p, ancL ps m z = p ++ ancL ps m x := by
  obtain ⟨p, t, e⟩ := List.append_of_mem hx
  exact ⟨p, by rw [(anc_tail h e).1]; exact e⟩
theorem anc_head {ps : List Int} {m : Nat} {z x : Int} (h : reaB ps m z = true) (hx : x ∈ ancL ps m z) : ∃ t, ancL ps m x = x :: t := by
  obtain ⟨p, t, e⟩ := List.append_of_mem hx
  exact ⟨t, (anc_tail h e).1⟩
/-- the first of one line that stands in the other -/
def fsA (L T : List Int) : Option Int := L.find? fun a => T.contains a
theorem fsA_some {L T : List Int} {x : Int} (h : fsA L T = some x) : x ∈ T ∧ ∃ p t, L = p ++ x :: t ∧ ∀ a ∈ p, a ∉ T := by
  unfold fsA at h
  rw [List.find?_eq_some_iff_append] at h
  obtain ⟨h1, p, t, h2, h3⟩ := h
  exact ⟨by simpa using h1, p, t, h2, fun a ha => by simpa using h3 a ha⟩
theorem fsA_none {L T : List Int} (h : fsA L T = none) : ∀ a ∈ L, a ∉ T := by
  unfold fsA at h
  rw [List.find?_eq_none] at h
  exact fun a ha => by simpa using h a ha
theorem fsA_ex {L T : List Int} {x : Int} (h : x ∈ L) (h2 : x ∈ T) : ∃ y, fsA L T = some y := by
  rcases e : fsA L T with _ | y
  · exact absurd h2 (fsA_none e x h)
  · exact ⟨y, rfl⟩
theorem fsA_sym {ps : List Int} {m : Nat} {i k : Int} (hi : reaB ps m i = true) (hk : reaB ps m k = true) : fsA (ancL ps m i) (ancL ps m k) = fsA (ancL ps m k) (ancL ps m i) := by
  rcases h1 : fsA (ancL ps m i) (ancL ps m k) with _ | x
  · rcases h2 : fsA (ancL ps m k) (ancL ps m i) with _ | y
    · rfl
    · obtain ⟨hy, p, t, e, -⟩ := fsA_some h2
      exact absurd (show y ∈ ancL ps m k by rw [e]; simp) (fsA_none h1 y hy)
  · obtain ⟨hx, p, t, e, hp⟩ := fsA_some h1
    have hxi : x ∈ ancL ps m i := by rw [e]; simp
    obtain ⟨y, h2⟩ := fsA_ex hx hxi
    rw [h2]
    obtain ⟨hy, q, s, e2, hq⟩ := fsA_some h2
    have hyk : y ∈ ancL ps m k := by rw [e2]; simp
    have ex := (anc_tail hi e).1
    have ey := (anc_tail hk e2).1
    have hyx : y ∈ ancL ps m x := by
      rw [ex]
      rw [e] at hy
      rcases List.mem_append.1 hy with h | h
      · exact absurd hyk (hp y h)
      · exact h
    have hxy : x ∈ ancL ps m y := by
      rw [ey]
      rw [e2] at hx
      rcases List.mem_append.1 hx with h | h
      · exact absurd hxi (hq x h)
      · exact h
    obtain ⟨a, ea⟩ := anc_in (anc_tail hi e).2 hyx
    obtain ⟨b, eb⟩ := anc_in (anc_tail hk e2).2 hxy
    have l1 := congrArg List.length ea
    have l2 := congrArg List.length eb
    rw [List.length_append] at l1 l2
    have ha : a = [] := List.length_eq_zero_iff.1 (by omega)
    subst ha
    rw [List.nil_append, ex, ey] at ea
    rw [(List.cons.inj ea).1]
end Go.Proofs.YtncmenfdnpmblaaDoor
