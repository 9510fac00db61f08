/- strings.Replacer.Replace over the four letters: what stands for each byte, in order. -/
import Derived.Test.YtcmhgjldkgnblaaGreatDoorReplB
import Derived.Test.YtcmhgjldkgnblaaGreatDoorNorm
import Derived.Deep.RegionLaw
import Derived.Deep.RegionHeldLaw
import Derived.Deep.QuietTactic
import Derived.BigQuiet
import Derived.Lib.QuietBelow
namespace Go.Proofs.YtcmhgjldkgnblaaGreatDoor
open Go.RowKit Go.Sort

theorem rpl_all (b : UInt8) : rplM 0 b.toNat = if b = 118 then some [117] else if b = 106 then some [105] else if b = 121 then some [105] else if b = 119 then some [117, 117] else none := by
  have e : ∀ m : Nat, m < 256 → (b.toNat == m) = decide (b = UInt8.ofNat m) := by
    intro m hm
    have e2 : (UInt8.ofNat m).toNat = m := by simp; omega
    by_cases h : b = UInt8.ofNat m
    · rw [decide_eq_true h, h, e2]; simp
    · rw [decide_eq_false h, beq_eq_false_iff_ne]; intro e3; apply h; exact UInt8.toNat_inj.1 (by omega)
  simp only [rplM, keyV, List.drop_zero, List.lookup_cons, List.lookup_nil]
  rw [e 118 (by omega), e 106 (by omega), e 121 (by omega), e 119 (by omega)]
  have h1 : UInt8.ofNat 118 = 118 := rfl
  have h2 : UInt8.ofNat 106 = 106 := rfl
  have h3 : UInt8.ofNat 121 = 121 := rfl
  have h4 : UInt8.ofNat 119 = 119 := rfl
  rw [h1, h2, h3, h4]
  by_cases k1 : b = 118
  · simp [k1]
  · by_cases k2 : b = 106
    · simp [k2]
    · by_cases k3 : b = 121
      · simp [k3]
      · by_cases k4 : b = 119
        · simp [k4]
        · simp [k1, k2, k3, k4]
theorem rpl_none {b : UInt8} (h : rplM 0 b.toNat = none) : rep1 b = [b] := by
  rw [rpl_all] at h
  unfold rep1
  split at h; · cases h
  split at h; · cases h
  split at h; · cases h
  split at h; · cases h
  rename_i h1 h2 h3 h4
  rw [if_neg h1, if_neg h2, if_neg h3, if_neg h4]
theorem rpl_some {b : UInt8} {r : List UInt8} (h : rplM 0 b.toNat = some r) : rep1 b = r ∧ 0 < r.length ∧ r.length ≤ 2 := by
  rw [rpl_all] at h
  unfold rep1
  split at h
  · rename_i h1; rw [if_pos h1]; cases h; exact ⟨rfl, by decide, by decide⟩
  · rename_i h1; rw [if_neg h1]
    split at h
    · rename_i h2; rw [if_pos h2]; cases h; exact ⟨rfl, by decide, by decide⟩
    · rename_i h2; rw [if_neg h2]
      split at h
      · rename_i h3; rw [if_pos h3]; cases h; exact ⟨rfl, by decide, by decide⟩
      · rename_i h3; rw [if_neg h3]
        split at h
        · rename_i h4; rw [if_pos h4]; cases h; exact ⟨rfl, by decide, by decide⟩
        · cases h
theorem Tab.up {w w' : World} {base h : Nat} (ht : Tab w base h) (hu : Up w w') : Tab w' base h := by
  obtain ⟨f, h1, h2, h3⟩ := ht
  exact ⟨f, h1.of_block (hu.block h h1.lt), h2.keep (fun q _ hq _ => hu.block q hq), h3⟩
/-- the table's entry for a byte: nothing, or a row with the bytes that stand for it -/
theorem Tab.at_ {w : World} {base h : Nat} (ht : Tab w base h) (b : UInt8) :
    (rplM 0 b.toNat = none ∧ w.cell? ⟨h, b.toNat, none⟩ = some (.slice none 0 0)) ∨
    ∃ r q c, rplM 0 b.toNat = some r ∧ w.cell? ⟨h, b.toNat, none⟩ = some (.slice (some ⟨q, 0, none⟩) r.length c) ∧ Ybl w q r := by
  obtain ⟨f, h1, h2, -⟩ := ht
  have hb : b.toNat < 256 := b.toNat_lt
  have hc := World.rowIs.cell h1 (show b.toNat < 257 by omega)
  rcases hr : rplM 0 b.toNat with _ | r
  · exact .inl ⟨rfl, by rw [hc, (h2 _ hb).1 hr]⟩
  · obtain ⟨q, c, e, -, hy⟩ := (h2 _ hb).2 r hr
    exact .inr ⟨r, q, c, rfl, by rw [hc, e], hy⟩
theorem Tab.list {w : World} {base h : Nat} (ht : Tab w base h) : ∃ A cc, w.cell? ⟨h, 256, none⟩ = some (.slice A 4 cc) := by
  obtain ⟨f, h1, -, A, cc, e⟩ := ht
  exact ⟨A, cc, by rw [World.rowIs.cell h1 (show 256 < 257 by omega), e]⟩
theorem Ybl.rd {w : World} {q : Nat} {r : List UInt8} (h : Ybl w q r) : ∀ j v, (r.flatMap bytC)[j]? = some v → w.cell? (Addr.add ⟨q, 0, none⟩ j) = some v := by
  obtain ⟨cs, fr, h1, h2⟩ := h
  intro j v hv
  rw [byt_flat, List.getElem?_map] at hv
  rcases hx : r[j]? with _ | x
  · rw [hx] at hv; cases hv
  · rw [hx] at hv; simp at hv; subst hv
    rw [show (⟨q, 0, none⟩ : Addr).add j = ⟨q, j, none⟩ by cases j <;> simp [Addr.add]]
    simp [World.cell?, h1, h2 j x hx]
def wideB (s : ByteArray) : ByteArray := ⟨(wideL s.data.toList).toArray⟩
theorem ba_take_all {s : ByteArray} {k : Nat} (hk : s.size ≤ k) (h : wideL (s.data.toList.take k) = s.data.toList.take k) : s = wideB s := by
  rw [List.take_of_length_le (by simp; omega)] at h
  obtain ⟨a⟩ := s
  unfold wideB; simp only at h; rw [h]
/-- buf: the bytes so far, and zeros -/
def bufL (l : List UInt8) (n : Nat) : List Value := l.flatMap bytC ++ List.replicate (n - l.length) (.int .u8 0)
theorem bytF_len (l : List UInt8) : (l.flatMap bytC).length = l.length := by rw [byt_flat, List.length_map]
theorem bufL_len (l : List UInt8) (n : Nat) (h : l.length ≤ n) : (bufL l n).length = n := by
  unfold bufL; rw [List.length_append, bytF_len, List.length_replicate]; omega
theorem bufL_splice (l r : List UInt8) (n : Nat) (h : l.length + r.length ≤ n) : splice (bufL l n) l.length (r.flatMap bytC) = bufL (l ++ r) n := by
  unfold splice bufL
  rw [List.take_left' (bytF_len l), bytF_len, List.drop_append, bytF_len, List.drop_eq_nil_of_le (by rw [bytF_len]; omega), List.nil_append, List.drop_replicate, List.flatMap_append, List.append_assoc, List.length_append]
  congr 3; omega
theorem bufL_set (l : List UInt8) (b : UInt8) (n : Nat) (h : l.length < n) : (bufL l n).set l.length (.int .u8 (b.toNat : Int)) = bufL (l ++ [b]) n := by
  unfold bufL
  rw [List.set_append_right _ _ (by rw [bytF_len]; exact Nat.le_refl _), bytF_len, Nat.sub_self, List.flatMap_append, List.append_assoc, List.length_append]
  obtain ⟨p, hp⟩ : ∃ p, n - l.length = p + 1 := ⟨n - l.length - 1, by omega⟩
  rw [hp, List.replicate_succ, List.set_cons_zero]
  rw [show n - (l.length + [b].length) = p by simp; omega]
  rfl
theorem bufL_rd {w : World} {G n : Nat} {l : List UInt8} {t : TypeId} {fr : Nat × Nat} (hg : w.heap[G]? = some (.cells (bufL l n).toArray t fr)) (_hl : l.length = n) : RdY w 0 (G + 1) (some ⟨G, 0, none⟩) l := fun _ => by
  refine ⟨G, 0, rfl, Nat.zero_le _, Nat.lt_succ_self _, fun i x hx j u hu => ?_⟩
  match j, hu with
  | 0, hu =>
    simp at hu; subst hu
    have hi := (List.getElem?_eq_some_iff.1 hx).1
    have : (bufL l n).toArray[i]? = some (.int .u8 (x.toNat : Int)) := by
      rw [List.getElem?_toArray]; unfold bufL
      rw [List.getElem?_append_left (by rw [bytF_len]; exact hi), byt_flat, List.getElem?_map, hx]; rfl
    simp [World.cell?, hg, this]
end Go.Proofs.YtcmhgjldkgnblaaGreatDoor
