/- What stands between colons, and what a copy's text says. -/
import Derived.Test.YtncmenfdnpmblaaDoorRcopy
namespace Go.Proofs.YtncmenfdnpmblaaDoor
open Go.RowKit Go.Sort

theorem seg_none {c : UInt8} : ∀ (l cur : List UInt8), c ∉ l → seg c cur l = [cur ++ l]
  | [], cur, _ => by simp [seg]
  | b :: r, cur, h => by
    have hb : ¬ b = c := fun e => h (by simp [e])
    rw [seg, if_neg hb, seg_none r _ (fun e => h (by simp [e]))]; simp
theorem seg_some {c : UInt8} : ∀ (p cur q : List UInt8), c ∉ p → seg c cur (p ++ c :: q) = (cur ++ p) :: seg c [] q
  | [], cur, q, _ => by simp [seg]
  | b :: r, cur, q, h => by
    have hb : ¬ b = c := fun e => h (by simp [e])
    rw [List.cons_append, seg, if_neg hb, seg_some r _ q (fun e => h (by simp [e]))]; simp
theorem seg_one {c : UInt8} : ∀ (l cur : List UInt8), 1 ≤ (seg c cur l).length
  | [], cur => by simp [seg]
  | b :: r, cur => by
    unfold seg; split
    · simp
    · exact seg_one r _
theorem seg_two {c : UInt8} : ∀ (l cur : List UInt8), c ∈ l → 2 ≤ (seg c cur l).length
  | [], cur, h => by simp at h
  | b :: r, cur, h => by
    unfold seg
    split
    · have := seg_one (c := c) r []
      simp; omega
    · rename_i hb
      refine seg_two r _ ?_
      rcases List.mem_cons.1 h with e | e
      · exact absurd e.symm hb
      · exact e
theorem sp_none {c : UInt8} {s : ByteArray} (h : ctF c s = false) : (spL c s).length = 1 := by
  have h1 : Lib.indexByte s.data.toList c = -1 := by
    have := Lib.indexByte_ge s.data.toList c
    unfold ctF ctI at h
    have := of_decide_eq_false h
    omega
  have hn : c ∉ s.data.toList := fun hm => by
    obtain ⟨k, hk⟩ := List.mem_iff_getElem?.1 hm
    exact Lib.indexByte_none h1 k hk
  unfold spL; rw [seg_none _ _ hn]; rfl
theorem ctR_data {c : UInt8} {s : ByteArray} {i : Nat} (h : ctI c s = (i : Int)) : (ctR c s).data.toList = s.data.toList.drop (i + 1) := by
  unfold ctR
  rw [h, if_neg (by omega), Int.toNat_natCast, Lib.extract_data]
  exact List.take_of_length_le (by rw [List.length_drop, dl_len]; exact Nat.le_refl _)
theorem sp_some {c : UInt8} {s : ByteArray} (h : ctF c s = true) : spL c s = ctN c s :: (seg c [] (ctR c s).data.toList).map ofB := by
  have h0 : 0 ≤ ctI c s := by unfold ctF at h; exact of_decide_eq_true h
  have hlt := ctI_lt c s h0
  obtain ⟨i, hi⟩ := Int.eq_ofNat_of_zero_le h0
  have hil : i < s.size := by omega
  obtain ⟨h1, h2⟩ := Lib.indexByte_some (show Lib.indexByte s.data.toList c = (i : Int) from hi)
  have hn : c ∉ s.data.toList.take i := fun hm => by
    obtain ⟨k, hk⟩ := List.mem_iff_getElem?.1 hm
    rw [List.getElem?_take] at hk
    split at hk
    · exact h2 k (by assumption) hk
    · cases hk
  have hl : s.data.toList = s.data.toList.take i ++ c :: s.data.toList.drop (i + 1) := by
    have hil' : i < s.data.toList.length := by rw [dl_len]; exact hil
    have e : s.data.toList[i] = c := by have := List.getElem?_eq_getElem hil'; rw [h1] at this; exact (Option.some.inj this).symm
    rw [← e, ← List.drop_eq_getElem_cons hil', List.take_append_drop]
  have hnm : ctN c s = ofB (s.data.toList.take i) := by
    unfold ctN
    rw [hi, if_neg (by omega), Int.toNat_natCast]
    exact ofB_ext (by rw [Lib.extract_data]; rfl)
  unfold spL
  rw [ctR_data hi, hnm]
  conv => lhs; rw [hl]
  rw [seg_some _ _ _ hn]; rfl
theorem sp_yes {s : ByteArray} (h : (spL 58 s).length = 2) : ctF 58 s = true ∧ spL 58 s = [ctN 58 s, ctR 58 s] := by
  rcases hF : ctF 58 s with _ | _
  · rw [sp_none hF] at h; omega
  · refine ⟨rfl, ?_⟩
    rw [sp_some hF] at h ⊢
    by_cases hm : (58 : UInt8) ∈ (ctR 58 s).data.toList
    · have := seg_two _ [] hm
      simp at h; omega
    · rw [seg_none _ _ hm]
      simp only [List.nil_append, List.map_cons, List.map_nil]
      rw [← ofB_ext rfl]
theorem sp_no {s : ByteArray} (h : (spL 58 s).length ≠ 2) : rcK s = false := by
  unfold rcK
  rcases hF : ctF 58 s with _ | _
  · rfl
  · by_cases hm : (58 : UInt8) ∈ (ctR 58 s).data.toList
    · rw [Bool.true_and]
      refine arB_no (k := 0) (d := (ctN 58 s, rcR (ctR 58 s))) rfl (ok_4 ?_)
      rw [List.all_eq_false]
      exact ⟨((58 : UInt8).toNat : Int) - 48, List.mem_map.2 ⟨58, hm, rfl⟩, by decide⟩
    · exfalso; apply h
      rw [sp_some hF, seg_none _ _ hm]; rfl
end Go.Proofs.YtncmenfdnpmblaaDoor
