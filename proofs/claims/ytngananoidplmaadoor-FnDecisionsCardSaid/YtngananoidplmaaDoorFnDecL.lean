/- FnDecisions' plain laws. -/
import Derived.Test.YtngananoidplmaaDoorSusp
import Derived.Test.YtngananoidplmaaDoorDay
import Derived.Test.YtngananoidplmaaDoorDecide
namespace Go.Proofs.YtngananoidplmaaDoor
open Go.RowKit Go.Sort

theorem logB_ok {l : List Dec} (h : logB l = true) {k : Nat} {d : Dec} (hd : l[k]? = some d) : okAt l k d = true := by
  rcases hh : okAt l k d with _ | _
  · rw [logB_no hd hh] at h; cases h
  · rfl
theorem logB_len {l : List Dec} (h : logB l = true) : l.length ≤ 80 := by
  simp only [logB, Bool.and_eq_true, decide_eq_true_eq] at h
  exact h.2
/-- a log with one decision more -/
theorem logB_snoc {l : List Dec} {d : Dec} (h : logB l = true) (h2 : decB d = true) (h3 : mayB l d = true) (h4 : ¬ l.length = 80) : logB (l ++ [d]) = true := by
  have h5 := logB_len h
  rw [logB_end (l := l ++ [d])]
  · simp; omega
  · intro k x hk hx
    rw [List.length_append, List.length_singleton] at hk
    rcases Nat.lt_or_ge k l.length with hlt | hge
    · rw [List.getElem?_append_left hlt] at hx
      have := logB_ok h hx
      unfold okAt at this ⊢
      rw [List.take_append_of_le_length (Nat.le_of_lt hlt)]; exact this
    · have e : k = l.length := by omega
      subst e
      rw [List.getElem?_append_right (Nat.le_refl _), Nat.sub_self] at hx
      simp at hx; subst hx
      unfold okAt
      rw [List.take_append_of_le_length (Nat.le_refl _), List.take_length, h2, h3]; rfl
theorem state_snoc (l : List Dec) (d : Dec) : stateOf (l ++ [d]) d.deed = d.kind := by
  unfold stateOf; simp
theorem dd_ok {l : List Dec} {d : Dec} (h : ddE l d = 0) : ddL l d = l ++ [d] ∧ logB (l ++ [d]) = true := by
  have h1 : ddL l d = l ++ [d] := by simp [ddL, h]
  refine ⟨h1, ?_⟩
  unfold ddE at h
  split at h
  · omega
  · split at h
    · omega
    · split at h
      · omega
      · split at h
        · omega
        · rename_i a1 a2 a3 a4
          exact logB_snoc (by simpa using a1) (by simpa using a2) (by simpa using a3) a4

theorem osT_mem {l : List Dec} {s : ByteArray} : ∀ {n : Nat}, s ∈ osT l n ↔ ∃ k d, k < n ∧ l[k]? = some d ∧ susB l k d = true ∧ d.deed = s
  | 0 => by simp [osT]
  | n + 1 => by
    unfold osT
    rw [List.mem_append, osT_mem (n := n)]
    constructor
    · rintro (⟨k, d, h1, h2, h3, h4⟩ | h)
      · exact ⟨k, d, by omega, h2, h3, h4⟩
      · rcases hd : l[n]? with _ | d
        · simp [hd] at h
        · rw [hd] at h
          by_cases hs : susB l n d = true
          · simp [hs] at h
            exact ⟨n, d, by omega, hd, hs, h.symm⟩
          · simp [hs] at h
    · rintro ⟨k, d, h1, h2, h3, h4⟩
      by_cases hk : k < n
      · exact .inl ⟨k, d, hk, h2, h3, h4⟩
      · have e : k = n := by omega
        subst e
        exact .inr (by simp [h2, h3, h4])
theorem sus_state {l : List Dec} {s : ByteArray} : s ∈ osT l l.length ↔ stateOf l s = 1 := by
  rw [osT_mem]
  constructor
  · rintro ⟨k, d, hk, hd, hs, rfl⟩
    unfold susB at hs
    simp only [Bool.and_eq_true, Bool.not_eq_true', beq_iff_eq] at hs
    have e := (List.getElem?_eq_some_iff.1 hd).2
    have hl : l = l.take k ++ (d :: l.drop (k + 1)) := by
      rw [← e, ← List.drop_eq_getElem_cons hk, List.take_append_drop]
    unfold stateOf
    rw [hl]
    simp only [List.reverse_append, List.reverse_cons, List.append_assoc]
    rw [List.find?_append]
    have hn : (l.drop (k + 1)).reverse.find? (fun x => x.deed.toList == d.deed.toList) = none := by
      rw [List.find?_eq_none]
      intro x hx
      have h2 := List.any_eq_false.1 hs.2 x (List.mem_reverse.1 hx)
      simpa [sameB] using h2
    rw [hn]
    simp [hs.1]
  · intro h
    unfold stateOf at h
    rcases hf : l.reverse.find? (fun d => d.deed.toList == s.toList) with _ | d
    · rw [hf] at h; simp at h
    · rw [hf] at h
      obtain ⟨hp, as1, bs, hab, hno⟩ := List.find?_eq_some_iff_append.1 hf
      have hds : d.deed = s := by
        have : d.deed.toList = s.toList := by simpa using hp
        exact bytes_inj.1 this
      have hl : l = bs.reverse ++ (d :: as1.reverse) := by
        have := congrArg List.reverse hab
        simpa using this
      refine ⟨bs.length, d, ?_, ?_, ?_, hds⟩
      · rw [hl]; simp
      · rw [hl, List.getElem?_append_right (by simp)]; simp
      · unfold susB
        have hdr : l.drop (bs.length + 1) = as1.reverse := by
          have e1 : bs.length = bs.reverse.length := by simp
          rw [hl, e1, List.drop_append]
          simp
        rw [hdr]
        simp only [Bool.and_eq_true, beq_iff_eq, Bool.not_eq_true']
        refine ⟨h, ?_⟩
        rw [List.any_eq_false]
        intro x hx
        have := hno x (List.mem_reverse.1 hx)
        rw [hds]
        simpa [sameB] using this
/-- the deeds that are listed as open are those whose state is that of a suspicion -/
theorem os_state {l : List Dec} {s : ByteArray} (h : logB l = true) : (osL l).any (fun x => x.toList == s.toList) = (stateOf l s == 1) := by
  rw [osL_yes h, Bool.eq_iff_iff, List.any_eq_true, beq_iff_eq, ← sus_state]
  constructor
  · rintro ⟨x, hx, he⟩
    have : x = s := bytes_inj.1 (by simpa using he)
    rw [← this]; exact hx
  · intro hx
    exact ⟨s, hx, by simp⟩
theorem day_no {l : List Dec} {s : ByteArray} (h : stateOf l s = 1) : ¬ dyE l s = 0 := by
  unfold dyE
  split
  · omega
  · split
    · omega
    · simp
theorem day_yes {l : List Dec} {s : ByteArray} (hb : logB l = true) (h : stateOf l s = 0) : dyE l s = 0 := by
  have h2 : fdB l s = true := by
    unfold fdB lastDay
    unfold stateOf at h
    rcases hf : l.reverse.find? (fun d => d.deed.toList == s.toList) with _ | d
    · rw [hf] at h; simp at h
    · rw [hf] at h
      rw [List.find?_isSome]
      exact ⟨d, List.mem_of_find?_eq_some hf, by have := List.find?_some hf; simp at this; simp [this, h]⟩
  unfold dyE
  rw [if_neg (by simp [hb]), if_neg (by simp [h2]), if_neg (by omega)]
end Go.Proofs.YtngananoidplmaaDoor
