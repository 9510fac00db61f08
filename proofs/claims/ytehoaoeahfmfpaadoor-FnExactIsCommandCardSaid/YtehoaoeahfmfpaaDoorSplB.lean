/- strings.Split at one byte cuts as the reference does (plain). -/
import Derived.Test.YtehoaoeahfmfpaaDoorSplit
import Derived.Lib.Split
import Derived.Lib.SplitLaws
import Derived.Lib.IndexBytes
namespace Go.Proofs.YtehoaoeahfmfpaaDoor
open Go.RowKit Go.Sort
theorem seg_none (c : UInt8) : ∀ (l cur : List UInt8), (∀ k : Nat, l[k]? ≠ some c) → seg c cur l = [cur ++ l]
  | [], cur, _ => by simp [seg]
  | b :: r, cur, h => by
    have hb : b ≠ c := fun e => h 0 (by simp [e])
    rw [seg, if_neg hb, seg_none c r _ (fun k => by have := h (k + 1); simpa using this)]
    simp
theorem seg_some (c : UInt8) : ∀ (o : Nat) (l cur : List UInt8), l[o]? = some c → (∀ k : Nat, k < o → l[k]? ≠ some c) → seg c cur l = (cur ++ l.take o) :: seg c [] (l.drop (o + 1))
  | 0, b :: r, cur, h, _ => by
    simp at h
    rw [seg, if_pos h]; simp
  | 0, [], _, h, _ => by simp at h
  | o + 1, [], _, h, _ => by simp at h
  | o + 1, b :: r, cur, h, hn => by
    have hb : b ≠ c := fun e => hn 0 (by omega) (by simp [e])
    rw [seg, if_neg hb, seg_some c o r (cur ++ [b]) (by simpa using h) (fun k hk => by have := hn (k + 1) (by omega); simpa using this)]
    simp
theorem splitK_seg (c : UInt8) : ∀ (k : Nat) (l : List UInt8), l.count c ≤ k → Lib.splitK [c] 0 k l = seg c [] l
  | 0, l, h => by
    rw [seg_none c l [] (fun k hk => by
      have := List.mem_of_getElem? hk
      have := List.count_pos_iff.2 this; omega)]
    rfl
  | k + 1, l, h => by
    rw [Lib.splitK, Lib.index_one]
    by_cases hm : Lib.indexByte l c = -1
    · rw [if_pos (by simp [hm]), seg_none c l [] (Lib.indexByte_none hm)]; rfl
    · have hge := Lib.indexByte_ge l c
      obtain ⟨o, ho⟩ := Int.eq_ofNat_of_zero_le (show 0 ≤ Lib.indexByte l c by omega)
      obtain ⟨h1, h2⟩ := Lib.indexByte_some ho
      rw [if_neg (by simpa using hm), ho]
      have hlt := (List.getElem?_eq_some_iff.1 h1).1
      have hc : l.count c = (l.drop (o + 1)).count c + 1 := by
        conv => lhs; rw [← List.take_append_drop (o + 1) l, List.count_append]
        rw [List.take_succ_eq_append_getElem hlt, List.count_append, (List.getElem?_eq_some_iff.1 h1).2]
        have h0 : (l.take o).count c = 0 := List.count_eq_zero.2 (fun hmem => by
          obtain ⟨i, hi, he⟩ := List.mem_iff_getElem.1 hmem
          simp only [List.length_take] at hi
          refine h2 i (by omega) ?_
          rw [List.getElem_take] at he
          exact List.getElem?_eq_some_iff.2 ⟨by omega, he⟩)
        rw [h0]; simp; omega
      have := splitK_seg c k (l.drop (o + 1)) (by omega)
      simp only [Int.toNat_natCast, Nat.add_zero, List.length_singleton]
      rw [this, seg_some c o l [] h1 h2]; simp
theorem splitB_spL (c : UInt8) (s : ByteArray) : Lib.splitB ⟨#[c]⟩ 0 (Lib.countB s ⟨#[c]⟩) s = spL c s := by
  have h : ∀ (l : List ByteArray) (m : List (List UInt8)), l.map (·.data.toList) = m → l = m.map ofB := by
    intro l m e
    subst e
    rw [List.map_map]
    symm
    conv => rhs; rw [← List.map_id l]
    apply List.map_congr_left
    intro x _
    simp [ofB]
  unfold spL
  apply h
  rw [Lib.splitB_data]
  apply splitK_seg
  show s.data.toList.count c ≤ Lib.count s.data.toList [c]
  rw [Lib.count_one]
  exact Nat.le_refl _
theorem countB_spL (c : UInt8) (s : ByteArray) : Lib.countB s ⟨#[c]⟩ + 1 = (spL c s).length := by
  rw [← splitB_spL, Lib.splitB_all ⟨#[c]⟩ (show (1:Nat) ≤ 1 from Nat.le_refl _) 0 _ s rfl]
end Go.Proofs.YtehoaoeahfmfpaaDoor
