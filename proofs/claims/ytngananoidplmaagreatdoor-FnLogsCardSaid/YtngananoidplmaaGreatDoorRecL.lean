/- What the lines of a log say, in plain Lean: a decision is found from its line. -/
import Derived.Test.YtngananoidplmaaGreatDoorLogI
import Derived.Test.YtngananoidplmaaGreatDoorSplB
import Derived.Test.YtngananoidplmaaGreatDoorNumL
namespace Go.Proofs.YtngananoidplmaaGreatDoor
open Go.RowKit Go.Sort

/-- a piece without the byte, up to the byte -/
theorem seg_app (c : UInt8) : ∀ (a cur r : List UInt8), (∀ x ∈ a, x ≠ c) → seg c cur (a ++ c :: r) = (cur ++ a) :: seg c [] r
  | [], cur, r, _ => by simp [seg]
  | b :: a, cur, r, h => by
    have hb : b ≠ c := h b (by simp)
    rw [List.cons_append, seg, if_neg hb, seg_app c a (cur ++ [b]) r (fun x hx => h x (by simp [hx]))]
    simp
theorem seg_last (c : UInt8) (a cur : List UInt8) (h : ∀ x ∈ a, x ≠ c) : seg c cur a = [cur ++ a] :=
  seg_none c a cur fun _ e => h c (List.mem_of_getElem? e) rfl
theorem ofB_data (s : ByteArray) : ofB s.data.toList = s := by simp [ofB]
theorem name_ne {s : ByteArray} {m : Int} (h : nameB s m = true) {c : UInt8} (hc : lowB c = false) : ∀ x ∈ s.data.toList, x ≠ c := by
  intro x hx e
  subst e
  unfold nameB at h
  simp only [Bool.and_eq_true] at h
  have := List.all_eq_true.1 h.1 x hx
  rw [hc] at this; cases this
theorem dgU_ne {l : List UInt8} (h : dgU l = true) {c : UInt8} (hc : c.toNat < 48) : ∀ x ∈ l, x ≠ c := by
  intro x hx e
  subst e
  have := List.all_eq_true.1 h x hx
  simp at this; omega
theorem dcB_list (n : Nat) : (dcB n).data.toList = Lib.decDigits n := by simp [dcB]
theorem dcB_ne (n : Nat) {c : UInt8} (hc : c.toNat < 48) : ∀ x ∈ (dcB n).data.toList, x ≠ c := by rw [dcB_list]; exact dgU_ne (dgU_dec n) hc
theorem wdB_ne (k : Int) : ∀ x ∈ (wdB k).data.toList, x ≠ 32 ∧ x ≠ 10 := by unfold wdB; split <;> decide

/-- the index of a word among the words of kinds, -1 for no such word -/
def kdX (s : ByteArray) : Int := if s.toList = (wdB 0).toList then 0 else if s.toList = (wdB 1).toList then 1 else if s.toList = (wdB 2).toList then 2 else -1
theorem kdX_wd {k : Int} (h0 : 0 ≤ k) (h2 : k ≤ 2) : kdX (wdB k) = k := by
  have : k = 0 ∨ k = 1 ∨ k = 2 := by omega
  rcases this with rfl | rfl | rfl <;> decide +kernel
theorem kdX_rng (s : ByteArray) : -1 ≤ kdX s ∧ kdX s ≤ 2 := by unfold kdX; split <;> (try split) <;> (try split) <;> omega

/-- what the reference's digits answer -/
def dgB (s : ByteArray) : Bool := decide (1 ≤ s.size ∧ s.size ≤ 9) && dgU s.data.toList
def dgV (s : ByteArray) : Nat := if dgB s then valL 0 s.data.toList else 0
theorem dec_len9 {n : Nat} (h : n < 1000000000) : (Lib.decDigits n).length ≤ 9 := by
  have := dcB_len 8 n (by omega)
  rw [← dcB_list, Array.length_toList]
  exact this
theorem dgV_dec {n : Nat} (h : n < 1000000000) : dgV (dcB n) = n := by
  have h1 := dec_len9 h
  have h2 : 1 ≤ (Lib.decDigits n).length := List.length_pos_iff.2 (dec_ne n)
  have hs : (dcB n).size = (Lib.decDigits n).length := by rw [← dcB_list]; simp
  unfold dgV dgB
  rw [dcB_list, dgU_dec, hs, if_pos (by simp; omega), valL_dec]
theorem nuV_dcB {n : Nat} (h : n < 9223372036854775808) : nuV (dcB n) = n := nuV_dec h (dcB_list n)

def zB : ByteArray := ⟨#[]⟩
/-- the decision of a line, by the reference -/
def dS (l : ByteArray) : Dec := ⟨(spL 32 l).getD 0 zB, kdX ((spL 32 l).getD 1 zB), if (spL 32 l).length = 5 then (dgV ((spL 32 l).getD 3 zB) : Int) else 0, (spL 32 l).getD 2 zB⟩
/-- the decision of a line, by the program -/
def dI (l : ByteArray) : Dec :=
  if (spL 32 l).length < 4 then ⟨zB, 0, 0, zB⟩
  else ⟨(spL 32 l).getD 0 zB, kdX ((spL 32 l).getD 1 zB), if kdX ((spL 32 l).getD 1 zB) = 0 then (nuV ((spL 32 l).getD 3 zB) : Int) else 0, (spL 32 l).getD 2 zB⟩
/-- the words of a line -/
theorem words_ln {d : Dec} (h : decB d = true) (c : Nat) : spL 32 (lnD c d) = if d.kind = 0 then [d.deed, wdB 0, d.by_, dcB d.day.toNat, dcB c] else [d.deed, wdB d.kind, d.by_, dcB c] := by
  have ho := ok_of h
  unfold decB at h
  simp only [Bool.and_eq_true] at h
  obtain ⟨⟨h1, h2, h3⟩, h4, -⟩ := h
  have n1 := name_ne h1 (c := 32) (by decide)
  have n2 := name_ne h2 (c := 32) (by decide)
  have n3 := fun x hx => (wdB_ne d.kind x hx).1
  have n4 := dcB_ne d.day.toNat (c := 32) (by decide)
  have n5 := dcB_ne c (c := 32) (by decide)
  have e0 : ((d.kind.toNat : Nat) : Int) = d.kind := ho.kind.symm
  unfold spL lnD lnB mdB hdB
  rw [e0]
  by_cases hk : d.kind = 0
  · rw [if_pos hk, if_pos (by omega)]
    rw [hk] at n3 ⊢
    simp only [ByteArray.data_append, Array.toList_append, spB, List.append_assoc, List.cons_append, List.nil_append]
    rw [seg_app 32 _ _ _ n1, seg_app 32 _ _ _ n3, seg_app 32 _ _ _ n2, seg_app 32 _ _ _ n4, seg_last 32 _ _ n5]
    simp [ofB_data]
  · rw [if_neg hk, if_neg (by omega)]
    simp only [ByteArray.data_append, Array.toList_append, spB, List.append_assoc, List.cons_append, List.nil_append]
    rw [seg_app 32 _ _ _ n1, seg_app 32 _ _ _ n3, seg_app 32 _ _ _ n2, seg_last 32 _ _ n5]
    simp [ofB_data]
theorem dS_ln {d : Dec} (h : decB d = true) (c : Nat) : dS (lnD c d) = d ∧ 4 ≤ (spL 32 (lnD c d)).length ∧ (spL 32 (lnD c d)).length ≤ 5 := by
  have ho := ok_of h
  have hd0 : d.kind = 0 ∨ d.day = 0 := by
    unfold decB at h; simp only [Bool.and_eq_true, Bool.or_eq_true, beq_iff_eq] at h; exact h.2.2
  have hk := ho.kind
  have hk2 := ho.k2
  have hy := ho.day
  have hy2 := ho.dy2
  unfold dS
  rw [words_ln h]
  by_cases hk0 : d.kind = 0
  · rw [if_pos hk0]
    refine ⟨?_, by simp, by simp⟩
    obtain ⟨a, k, y, b⟩ := d
    simp only at hk0 hy hy2 ⊢
    subst hk0
    simp only [List.getD_cons_zero, List.getD_cons_succ, List.length_cons, List.length_nil]
    rw [kdX_wd (by omega) (by omega), dgV_dec (by omega)]; simp only [if_true]; rw [← hy]
  · rw [if_neg hk0]
    refine ⟨?_, by simp, by simp⟩
    have hz : d.day = 0 := by rcases hd0 with e | e
                              · exact absurd e hk0
                              · exact e
    obtain ⟨a, k, y, b⟩ := d
    simp only at hk0 hk hk2 hz ⊢
    subst hz
    simp only [List.getD_cons_zero, List.getD_cons_succ, List.length_cons, List.length_nil]
    rw [kdX_wd (by omega) (by omega), if_neg (by omega)]
theorem dI_ln {d : Dec} (h : decB d = true) (c : Nat) : dI (lnD c d) = d := by
  have ho := ok_of h
  have hd0 : d.kind = 0 ∨ d.day = 0 := by
    unfold decB at h; simp only [Bool.and_eq_true, Bool.or_eq_true, beq_iff_eq] at h; exact h.2.2
  have hk := ho.kind
  have hk2 := ho.k2
  have hy := ho.day
  have hy2 := ho.dy2
  unfold dI
  rw [words_ln h]
  by_cases hk0 : d.kind = 0
  · rw [if_pos hk0, if_neg (by simp)]
    obtain ⟨a, k, y, b⟩ := d
    simp only at hk0 hy hy2 ⊢
    subst hk0
    simp only [List.getD_cons_zero, List.getD_cons_succ]
    rw [kdX_wd (by omega) (by omega), if_pos rfl, nuV_dcB (by omega), ← hy]
  · rw [if_neg hk0, if_neg (by simp)]
    have hz : d.day = 0 := by rcases hd0 with e | e
                              · exact absurd e hk0
                              · exact e
    obtain ⟨a, k, y, b⟩ := d
    simp only at hk0 hk hk2 hz ⊢
    subst hz
    simp only [List.getD_cons_zero, List.getD_cons_succ]
    rw [kdX_wd (by omega) (by omega), if_neg hk0]

/-- a line that goes on with a log, by the reference -/
def okS (out : List Dec) (c : Nat) (l : ByteArray) : Bool :=
  (decide (4 ≤ (spL 32 l).length) && decide ((spL 32 l).length ≤ 5)) && (decB (dS l) && (mayB out (dS l) && ((lnD (ckD c (dS l)) (dS l)).toList == l.toList)))
def okI (out : List Dec) (c : Nat) (l : ByteArray) : Bool := decB (dI l) && (mayB out (dI l) && ((lnD (ckD c (dI l)) (dI l)).toList == l.toList))
theorem ok_SI {out : List Dec} {c : Nat} {l : ByteArray} (h : okS out c l = true) : okI out c l = true ∧ dI l = dS l := by
  unfold okS at h
  simp only [Bool.and_eq_true, beq_iff_eq] at h
  obtain ⟨-, h2, h3, h4⟩ := h
  have e := bytes_inj.1 h4
  have e2 : dI l = dS l := by
    have := dI_ln h2 (ckD c (dS l)); rw [e] at this; exact this
  refine ⟨?_, e2⟩
  unfold okI
  rw [e2, h2, h3, h4]; simp
theorem ok_IS {out : List Dec} {c : Nat} {l : ByteArray} (h : okI out c l = true) : okS out c l = true ∧ dI l = dS l := by
  unfold okI at h
  simp only [Bool.and_eq_true, beq_iff_eq] at h
  obtain ⟨h2, h3, h4⟩ := h
  have e := bytes_inj.1 h4
  have hq := dS_ln h2 (ckD c (dI l))
  rw [e] at hq
  refine ⟨?_, hq.1.symm⟩
  unfold okS
  rw [hq.1, h2, h3, h4]
  simp [hq.2]
theorem ok_eq (out : List Dec) (c : Nat) (l : ByteArray) : okI out c l = okS out c l := by
  rw [Bool.eq_iff_iff]; exact ⟨fun h => (ok_IS h).1, fun h => (ok_SI h).1⟩
/-- the log that complete lines give -/
def recR : List ByteArray → List Dec → Nat → List Dec
  | [], out, _ => out
  | l :: ls, out, c => if out.length < 80 ∧ okS out c l = true then recR ls (out ++ [dS l]) (ckD c (dS l)) else out
/-- the check number behind a log -/
def ckF : List Dec → Nat → Nat
  | [], c => c
  | d :: l, c => ckF l (ckD c d)
theorem ckF_snoc (d : Dec) : ∀ (l : List Dec) (c : Nat), ckF (l ++ [d]) c = ckD (ckF l c) d
  | [], c => rfl
  | x :: l, c => by rw [List.cons_append, ckF, ckF, ckF_snoc d l]
theorem ckF_lt : ∀ (l : List Dec) (c : Nat), c < 99989 → ckF l c < 99989
  | [], c, h => h
  | x :: l, c, _ => by rw [ckF]; exact ckF_lt l _ (ckN_lt _ _ _ _)
theorem lsL_snoc (d : Dec) : ∀ (l : List Dec) (c : Nat), lsL (l ++ [d]) c = lsL l c ++ [lnD (ckD (ckF l c) d) d ++ ⟨#[10]⟩]
  | [], c => rfl
  | x :: l, c => by rw [List.cons_append, lsL, lsL, lsL_snoc d l, ckF]; rfl
theorem lsL_last (d : Dec) (l : List Dec) (c : Nat) : (lsL (l ++ [d]) c)[l.length]? = some (lnD (ckD (ckF l c) d) d ++ ⟨#[10]⟩) := by
  rw [lsL_snoc, List.getElem?_append_right (by rw [lsL_len]; exact Nat.le_refl _), lsL_len, Nat.sub_self]; rfl
theorem okAt_of {l : List Dec} (h : logB l = true) {k : Nat} {d : Dec} (hd : l[k]? = some d) : okAt l k d = true := by
  rcases hh : okAt l k d with _ | _
  · rw [logB_no hd hh] at h; cases h
  · rfl
/-- a log with one decision more -/
theorem logB_more {l : List Dec} (d : Dec) (h : logB l = true) : logB (l ++ [d]) = (decB d && (mayB l d && decide (l.length < 80))) := by
  have h5 := logB_len h
  have hlast : (l ++ [d])[l.length]? = some d := by rw [List.getElem?_append_right (Nat.le_refl _), Nat.sub_self]; rfl
  have hok : okAt (l ++ [d]) l.length d = (decB d && mayB l d) := by unfold okAt; rw [List.take_append_of_le_length (Nat.le_refl _), List.take_length]
  rcases h2 : (decB d && mayB l d) with _ | _
  · rw [logB_no hlast (by rw [hok, h2])]
    cases h3 : decB d <;> simp_all
  · have he : logB (l ++ [d]) = decide ((l ++ [d]).length ≤ 80) := by
      apply logB_end
      intro k x hk hx
      rw [List.length_append, List.length_singleton] at hk
      rcases Nat.lt_or_ge k l.length with hlt | hge
      · rw [List.getElem?_append_left hlt] at hx
        have := okAt_of h hx
        unfold okAt at this ⊢
        rw [List.take_append_of_le_length (Nat.le_of_lt hlt)]; exact this
      · have e : k = l.length := by omega
        subst e
        rw [hlast] at hx
        simp at hx; subst hx
        rw [hok, h2]
    rw [Bool.and_eq_true] at h2
    rw [he, h2.1, h2.2, List.length_append, List.length_singleton]
    simp; omega
theorem recR_no {l : ByteArray} {ls : List ByteArray} {out : List Dec} {c : Nat} (h : ¬ (out.length < 80 ∧ okS out c l = true)) : recR (l :: ls) out c = out := by rw [recR, if_neg h]
theorem recR_yes {l : ByteArray} {ls : List ByteArray} {out : List Dec} {c : Nat} (h1 : out.length < 80) (h2 : okS out c l = true) : recR (l :: ls) out c = recR ls (out ++ [dS l]) (ckD c (dS l)) := by rw [recR, if_pos ⟨h1, h2⟩]
/-- what is recovered from a text -/
def rvL (s : ByteArray) : List Dec := if s.size ≤ 5000 then recR (spL 10 s).dropLast [] 0 else []
def rvC (s : ByteArray) : Int := if s.size ≤ 5000 then 0 else 3
end Go.Proofs.YtngananoidplmaaGreatDoor
