/- Plain facts of FnCopyTexts: a copy is found from its text, and a text from its copy. -/
import Derived.Test.YtncmenfdnpmblaaDoorFnCopTL
import Derived.Test.YtncmenfdnpmblaaDoorCtext
import Derived.Test.YtncmenfdnpmblaaDoorRsp
namespace Go.Proofs.YtncmenfdnpmblaaDoor
open Go.RowKit Go.Sort

theorem ba_ext {a b : ByteArray} (h : a.data.toList = b.data.toList) : a = b := by
  obtain ⟨⟨x⟩⟩ := a; obtain ⟨⟨y⟩⟩ := b; simp at h; rw [h]
theorem ba_app (a b : ByteArray) : (a ++ b).data.toList = a.data.toList ++ b.data.toList := by
  rw [ByteArray.data_append, Array.toList_append]
/-- the byte of a digit -/
def dgC (r : Int) : UInt8 := UInt8.ofNat (48 + r).toNat
theorem dgB_data (r : Int) : (dgB r).data.toList = [dgC r] := rfl
theorem ctB_data (nm : ByteArray) (rs : List Int) : ∀ k, (ctB nm rs k).data.toList = nm.data.toList ++ 58 :: (rs.take k).map dgC
  | 0 => by rw [ctB, ba_app]; rfl
  | k + 1 => by
    rw [ctB, ba_app, ctB_data nm rs k, List.take_add_one]
    cases rs[k]? with
    | none => simp
    | some r => rw [dgB_data]; simp
theorem dgC_num {r : Int} (h : numB r = true) : ((dgC r).toNat : Int) - 48 = r := by
  simp [numB, inB] at h
  obtain ⟨n, rfl⟩ := Int.eq_ofNat_of_zero_le h.1
  unfold dgC
  rw [show (48 + (n : Int)).toNat = 48 + n by omega, UInt8.toNat_ofNat']
  have : (48 + n) % 2 ^ 8 = 48 + n := Nat.mod_eq_of_lt (by omega)
  rw [this]; omega
theorem dgC_byte (b : UInt8) : dgC ((b.toNat : Int) - 48) = b := by
  unfold dgC
  rw [show (48 + ((b.toNat : Int) - 48)).toNat = b.toNat by omega, UInt8.ofNat_toNat]
/-- where a byte stands first -/
theorem ib_at {l : List UInt8} {c : UInt8} {i : Nat} (h1 : l[i]? = some c) (h2 : ∀ k, k < i → l[k]? ≠ some c) : Lib.indexByte l c = (i : Int) := by
  have hg := Lib.indexByte_ge l c
  rcases Int.lt_or_le (Lib.indexByte l c) 0 with h | h
  · exact absurd h1 (Lib.indexByte_none (by omega) i)
  · obtain ⟨j, hj⟩ := Int.eq_ofNat_of_zero_le h
    obtain ⟨h3, h4⟩ := Lib.indexByte_some hj
    rcases Nat.lt_trichotomy j i with h5 | h5 | h5
    · exact absurd h3 (h2 j h5)
    · rw [hj, h5]
    · exact absurd h1 (h4 i h5)
theorem ct_parts {nm : ByteArray} {t : ByteArray} {q : List UInt8} (hn : nm.data.toList.all lowB = true) (ht : t.data.toList = nm.data.toList ++ 58 :: q) : ctF 58 t = true ∧ ctN 58 t = nm ∧ ctR 58 t = ofB q := by
  have hi : ctI 58 t = (nm.data.toList.length : Int) := by
    unfold ctI
    rw [ht]
    refine ib_at (by simp) fun k hk => ?_
    rw [List.getElem?_append_left hk]
    intro e
    have := List.all_eq_true.1 hn 58 (List.mem_of_getElem? e)
    revert this; decide
  refine ⟨by unfold ctF; rw [hi]; simp, ?_, ?_⟩
  · unfold ctN
    rw [hi, if_neg (by omega), Int.toNat_natCast]
    apply ba_ext
    rw [Lib.extract_data, ht]; simp
  · refine ofB_ext ?_
    rw [ctR_data hi, ht, show nm.data.toList ++ 58 :: q = (nm.data.toList ++ [58]) ++ q by simp]
    exact List.drop_left' (by rw [List.length_append]; rfl)
theorem rcR_of (rs : List Int) (h : rs.all numB = true) : rcR (ofB (rs.map dgC)) = rs := by
  unfold rcR ofB
  simp only [List.map_map]
  induction rs with
  | nil => rfl
  | cons r rs ih =>
    rw [List.all_cons, Bool.and_eq_true] at h
    rw [List.map_cons, ih h.2]
    show (((dgC r).toNat : Int) - 48) :: rs = _
    rw [dgC_num h.1]
theorem rcP_len' (s : ByteArray) : (rcP s).2.length ≤ s.size := by
  unfold rcP; split
  · show (rcR (ctR 58 s)).length ≤ s.size
    rw [rcR_len]; exact ctR_size 58 s
  · exact Nat.zero_le _
theorem rcP_nm (s : ByteArray) : (rcP s).1.size ≤ s.size := by
  unfold rcP; split
  · exact ctN_size 58 s
  · exact Nat.zero_le _
/-- a copy is found from its text -/
theorem ct_found {p : PC} (h : ctC p = 0) : rcP (ctV p) = p ∧ rcC (ctV p) = 0 := by
  have hA : arB [p] = true := by unfold ctC at h; split at h; · assumption
                                 · cases h
  have hk := arB_ok hA (k := 0) (d := p) rfl
  simp only [okC, Bool.and_eq_true] at hk
  have hnm : p.1.data.toList.all lowB = true := by have := hk.1; simp only [nameB, Bool.and_eq_true] at this; exact this.1
  have hrs : p.2.all numB = true := hk.2.2.2.1
  have ht : (ctV p).data.toList = p.1.data.toList ++ 58 :: p.2.map dgC := by
    rw [(ct_0 hA).2, ctB_data, List.take_of_length_le (Nat.le_refl _)]
  obtain ⟨h1, h2, h3⟩ := ct_parts hnm ht
  have h4 : rcR (ctR 58 (ctV p)) = p.2 := by rw [h3, rcR_of _ hrs]
  have hK : rcK (ctV p) = true := by unfold rcK; rw [h1, h2, h4]; exact hA
  obtain ⟨h5, h6⟩ := rc_yes hK
  exact ⟨by rw [h5, h2, h4], h6⟩
/-- a text is found from its copy -/
theorem rc_found {s : ByteArray} (h : rcC s = 0) : ctC (rcP s) = 0 ∧ ctV (rcP s) = s := by
  have hK : rcK s = true := by unfold rcC at h; split at h; · assumption
                               · cases h
  have hP := (rc_yes hK).1
  unfold rcK at hK
  rw [Bool.and_eq_true] at hK
  obtain ⟨hF, hA⟩ := hK
  rw [hP]
  refine ⟨(ct_0 hA).1, ?_⟩
  rw [(ct_0 hA).2]
  have h0 : 0 ≤ ctI 58 s := by unfold ctF at hF; exact of_decide_eq_true hF
  obtain ⟨i, hi⟩ := Int.eq_ofNat_of_zero_le h0
  obtain ⟨h1, h2⟩ := Lib.indexByte_some (show Lib.indexByte s.data.toList 58 = (i : Int) from hi)
  have hil : i < s.data.toList.length := (List.getElem?_eq_some_iff.1 h1).1
  have e : s.data.toList[i] = 58 := (List.getElem?_eq_some_iff.1 h1).2
  have hl : s.data.toList = s.data.toList.take i ++ 58 :: s.data.toList.drop (i + 1) := by
    rw [← e, ← List.drop_eq_getElem_cons hil, List.take_append_drop]
  have hN : (ctN 58 s).data.toList = s.data.toList.take i := by
    unfold ctN
    rw [hi, if_neg (by omega), Int.toNat_natCast, Lib.extract_data]; simp
  apply ba_ext
  rw [ctB_data, List.take_of_length_le (Nat.le_refl _), hN]
  conv => rhs; rw [hl]
  congr 2
  show (rcR (ctR 58 s)).map dgC = _
  unfold rcR
  rw [ctR_data hi, List.map_map]
  conv => rhs; rw [← List.map_id (s.data.toList.drop (i + 1))]
  congr 1
  funext b
  exact dgC_byte b
end Go.Proofs.YtncmenfdnpmblaaDoor
