/- Sets of days: what united and met spans are like; the days on which a phrase is possible. IsSet and HasDay on sets; the laws' likeSpans9. -/
import Derived.Test.YtehoaoeahfmfpaaGreatDoorPhStr
namespace Go.Proofs.YtehoaoeahfmfpaaGreatDoor
open Go.RowKit Go.Sort

/-- spans far apart, each of days -/
def NmS (l : List Sp) : Prop := l.Pairwise (fun a b => a.2 + 2 ≤ b.1) ∧ ∀ s ∈ l, 0 ≤ s.1 ∧ s.1 ≤ s.2 ∧ s.2 ≤ 730499
def DyS (l : List Sp) : Prop := ∀ s ∈ l, 0 ≤ s.1 ∧ s.1 ≤ s.2 ∧ s.2 ≤ 730499
theorem stpS_nm {o : List Sp} {s : Sp} (h : NmS o) (hs : 0 ≤ s.1 ∧ s.1 ≤ s.2 ∧ s.2 ≤ 730499) : NmS (stpS o s) := by
  rcases List.eq_nil_or_concat o with rfl | ⟨o, z, rfl⟩ <;> try rw [List.concat_eq_append] at *
  · rw [stpS_nil]
    exact ⟨by simp, fun x hx => by rw [List.mem_singleton.1 hx]; exact hs⟩
  · obtain ⟨hp, hd⟩ := h
    obtain ⟨p1, p2, p3⟩ := List.pairwise_append.1 hp
    have hz := hd z (by simp)
    rw [stpS_snoc]
    split
    · refine ⟨List.pairwise_append.2 ⟨p1, by simp, fun a ha b hb => ?_⟩, fun x hx => ?_⟩
      · rw [List.mem_singleton.1 hb]; exact p3 a ha z (by simp)
      · rcases List.mem_append.1 hx with hx | hx
        · exact hd x (by simp [hx])
        · rw [List.mem_singleton.1 hx]; simp only []; omega
    · refine ⟨List.pairwise_append.2 ⟨hp, by simp, fun a ha b hb => ?_⟩, fun x hx => ?_⟩
      · rw [List.mem_singleton.1 hb]
        rcases List.mem_append.1 ha with ha | ha
        · have := p3 a ha z (by simp); omega
        · rw [List.mem_singleton.1 ha]; omega
      · rcases List.mem_append.1 hx with hx | hx
        · exact hd x hx
        · rw [List.mem_singleton.1 hx]; exact hs
theorem foldS_nm : ∀ (l o : List Sp), NmS o → DyS l → NmS (l.foldl stpS o)
  | [], _, h, _ => h
  | x :: l, o, h, hd => foldS_nm l (stpS o x) (stpS_nm h (hd x (by simp))) (fun s hs => hd s (by simp [hs]))
theorem unL_nm {l : List Sp} (h : DyS l) : NmS (unL l) := foldS_nm _ _ ⟨by simp, by simp⟩ (fun s hs => h s ((srtS_perm l).mem_iff.1 hs))
/-- the ends of spans -/
def EndS (E : List Int) (l : List Sp) : Prop := ∀ s ∈ l, s.2 ∈ E
theorem stpS_end {E : List Int} {o : List Sp} {s : Sp} (h : EndS E o) (hs : s.2 ∈ E) : EndS E (stpS o s) := by
  rcases List.eq_nil_or_concat o with rfl | ⟨o, z, rfl⟩ <;> try rw [List.concat_eq_append] at *
  · rw [stpS_nil]
    exact fun x hx => by rw [List.mem_singleton.1 hx]; exact hs
  · rw [stpS_snoc]
    split
    · intro x hx
      rcases List.mem_append.1 hx with hx | hx
      · exact h x (by simp [hx])
      · rw [List.mem_singleton.1 hx]
        have hz := h z (by simp)
        show max z.2 s.2 ∈ E
        rcases Int.le_total z.2 s.2 with h1 | h1
        · rw [Int.max_eq_right h1]; exact hs
        · rw [Int.max_eq_left h1]; exact hz
    · intro x hx
      rcases List.mem_append.1 hx with hx | hx
      · exact h x hx
      · rw [List.mem_singleton.1 hx]; exact hs
theorem foldS_end {E : List Int} : ∀ (l o : List Sp), EndS E o → EndS E l → EndS E (l.foldl stpS o)
  | [], _, h, _ => h
  | x :: l, o, h, hd => foldS_end l (stpS o x) (stpS_end h (hd x (by simp))) (fun s hs => hd s (by simp [hs]))
theorem unL_end {E : List Int} {l : List Sp} (h : EndS E l) : EndS E (unL l) := foldS_end _ _ (by simp [EndS]) (fun s hs => h s ((srtS_perm l).mem_iff.1 hs))
theorem metL_mem : ∀ (k : Nat) (a b : List Sp), a.length + b.length ≤ k → ∀ s ∈ metL a b, ∃ x ∈ a, ∃ y ∈ b, s = (max x.1 y.1, min x.2 y.2) ∧ s.1 ≤ s.2
  | k, [], b, _, s, hs => by rw [metL_nil_l] at hs; cases hs
  | k, x :: p, [], _, s, hs => by rw [metL_nil_r] at hs; cases hs
  | 0, x :: p, y :: q, h, s, hs => by simp at h
  | k + 1, x :: p, y :: q, h, s, hs => by
    rw [metL_cons] at hs
    rcases List.mem_append.1 hs with hs | hs
    · split at hs
      · rw [List.mem_singleton.1 hs]
        exact ⟨x, by simp, y, by simp, rfl, by assumption⟩
      · cases hs
    · simp only [List.length_cons] at h
      split at hs
      · obtain ⟨x', hx, y', hy, h1⟩ := metL_mem k p (y :: q) (by simp only [List.length_cons]; omega) s hs
        exact ⟨x', by simp [hx], y', hy, h1⟩
      · obtain ⟨x', hx, y', hy, h1⟩ := metL_mem k (x :: p) q (by simp only [List.length_cons]; omega) s hs
        exact ⟨x', hx, y', by simp [hy], h1⟩
theorem nm_tail {x : Sp} {p : List Sp} (h : NmS (x :: p)) : NmS p := ⟨(List.pairwise_cons.1 h.1).2, fun s hs => h.2 s (by simp [hs])⟩
theorem nm_head {x : Sp} {p : List Sp} (h : NmS (x :: p)) : ∀ y ∈ p, x.2 + 2 ≤ y.1 := (List.pairwise_cons.1 h.1).1
theorem nm_first {x : Sp} {p : List Sp} (h : NmS (x :: p)) : ∀ y ∈ x :: p, x.1 ≤ y.1 := fun y hy => by
  rcases List.mem_cons.1 hy with rfl | hy
  · exact Int.le_refl _
  · have h1 := nm_head h y hy
    have h2 := h.2 x (by simp)
    omega
theorem metL_nm : ∀ (k : Nat) (a b : List Sp), a.length + b.length ≤ k → NmS a → NmS b → NmS (metL a b)
  | k, [], b, _, _, _ => by rw [metL_nil_l]; exact ⟨by simp, by simp⟩
  | k, x :: p, [], _, _, _ => by rw [metL_nil_r]; exact ⟨by simp, by simp⟩
  | 0, x :: p, y :: q, h, _, _ => by simp at h
  | k + 1, x :: p, y :: q, h, ha, hb => by
    simp only [List.length_cons] at h
    have hx := ha.2 x (by simp)
    have hy := hb.2 y (by simp)
    rw [metL_cons]
    have hhead : ∀ s ∈ (if max x.1 y.1 ≤ min x.2 y.2 then [(max x.1 y.1, min x.2 y.2)] else [] : List Sp), s = (max x.1 y.1, min x.2 y.2) ∧ max x.1 y.1 ≤ min x.2 y.2 := fun s hs => by
      split at hs
      · exact ⟨List.mem_singleton.1 hs, by assumption⟩
      · cases hs
    have hpw : List.Pairwise (fun a b : Sp => a.2 + 2 ≤ b.1) (if max x.1 y.1 ≤ min x.2 y.2 then [(max x.1 y.1, min x.2 y.2)] else []) := by split <;> simp
    by_cases hxy : x.2 < y.2
    · rw [if_pos hxy]
      have ih := metL_nm k p (y :: q) (by simp only [List.length_cons]; omega) (nm_tail ha) hb
      refine ⟨List.pairwise_append.2 ⟨hpw, ih.1, fun s hs t ht => ?_⟩, fun s hs => ?_⟩
      · obtain ⟨rfl, h1⟩ := hhead s hs
        obtain ⟨x', hx', y', hy', rfl, -⟩ := metL_mem _ p (y :: q) (Nat.le_refl _) t ht
        have := nm_head ha x' hx'
        simp only []; omega
      · rcases List.mem_append.1 hs with hs | hs
        · obtain ⟨rfl, h1⟩ := hhead s hs
          simp only []; omega
        · exact ih.2 s hs
    · rw [if_neg hxy]
      have ih := metL_nm k (x :: p) q (by simp only [List.length_cons]; omega) ha (nm_tail hb)
      refine ⟨List.pairwise_append.2 ⟨hpw, ih.1, fun s hs t ht => ?_⟩, fun s hs => ?_⟩
      · obtain ⟨rfl, h1⟩ := hhead s hs
        obtain ⟨x', hx', y', hy', rfl, -⟩ := metL_mem _ (x :: p) q (Nat.le_refl _) t ht
        have := nm_head hb y' hy'
        simp only []; omega
      · rcases List.mem_append.1 hs with hs | hs
        · obtain ⟨rfl, h1⟩ := hhead s hs
          simp only []; omega
        · exact ih.2 s hs
theorem metL_end {E : List Int} {a b : List Sp} (ha : EndS E a) (hb : EndS E b) : EndS E (metL a b) := fun s hs => by
  obtain ⟨x, hx, y, hy, rfl, -⟩ := metL_mem _ a b (Nat.le_refl _) s hs
  show min x.2 y.2 ∈ E
  rcases Int.le_total x.2 y.2 with h | h
  · rw [Int.min_eq_left h]; exact ha x hx
  · rw [Int.min_eq_right h]; exact hb y hy
theorem hasL_iff {l : List Sp} {n : Int} : hasL l n = true ↔ ∃ s ∈ l, s.1 ≤ n ∧ n ≤ s.2 := by
  unfold hasL
  rw [List.any_eq_true]
  constructor
  · rintro ⟨s, hs, h⟩
    rw [Bool.and_eq_true, decide_eq_true_eq, decide_eq_true_eq] at h
    exact ⟨s, hs, h⟩
  · rintro ⟨s, hs, h⟩
    exact ⟨s, hs, by rw [Bool.and_eq_true, decide_eq_true_eq, decide_eq_true_eq]; exact h⟩
theorem metL_has1 {a b : List Sp} {n : Int} (h : hasL (metL a b) n = true) : hasL a n = true ∧ hasL b n = true := by
  obtain ⟨s, hs, h1, h2⟩ := hasL_iff.1 h
  obtain ⟨x, hx, y, hy, rfl, -⟩ := metL_mem _ a b (Nat.le_refl _) s hs
  simp only [] at h1 h2
  exact ⟨hasL_iff.2 ⟨x, hx, by omega, by omega⟩, hasL_iff.2 ⟨y, hy, by omega, by omega⟩⟩
theorem metL_has2 {n : Int} : ∀ (k : Nat) (a b : List Sp), a.length + b.length ≤ k → NmS a → NmS b → hasL a n = true → hasL b n = true → hasL (metL a b) n = true
  | k, [], b, _, _, _, h, _ => by simp [hasL] at h
  | k, x :: p, [], _, _, _, _, h => by simp [hasL] at h
  | 0, x :: p, y :: q, h, _, _, _, _ => by simp at h
  | k + 1, x :: p, y :: q, h, ha, hb, h1, h2 => by
    simp only [List.length_cons] at h
    obtain ⟨s, hs, s1, s2⟩ := hasL_iff.1 h1
    obtain ⟨t, ht, t1, t2⟩ := hasL_iff.1 h2
    rw [metL_cons]
    have hx := ha.2 x (by simp)
    have hy := hb.2 y (by simp)
    rcases List.mem_cons.1 hs with rfl | hs
    · rcases List.mem_cons.1 ht with rfl | ht
      · refine hasL_iff.2 ⟨(max s.1 t.1, min s.2 t.2), List.mem_append_left _ ?_, by simp only []; omega, by simp only []; omega⟩
        rw [if_pos (by omega)]; simp
      · have h3 := nm_head hb t ht
        rw [if_neg (show ¬ s.2 < y.2 by omega)]
        have ih := metL_has2 k (s :: p) q (by simp only [List.length_cons]; omega) ha (nm_tail hb) (hasL_iff.2 ⟨s, by simp, s1, s2⟩) (hasL_iff.2 ⟨t, ht, t1, t2⟩)
        obtain ⟨r, hr, r1⟩ := hasL_iff.1 ih
        exact hasL_iff.2 ⟨r, List.mem_append_right _ hr, r1⟩
    · have h3 := nm_head ha s hs
      by_cases hxy : x.2 < y.2
      · rw [if_pos hxy]
        have ih := metL_has2 k p (y :: q) (by simp only [List.length_cons]; omega) (nm_tail ha) hb (hasL_iff.2 ⟨s, hs, s1, s2⟩) (hasL_iff.2 ⟨t, ht, t1, t2⟩)
        obtain ⟨r, hr, r1⟩ := hasL_iff.1 ih
        exact hasL_iff.2 ⟨r, List.mem_append_right _ hr, r1⟩
      · rw [if_neg hxy]
        have htq : t ∈ q := by
          rcases List.mem_cons.1 ht with rfl | ht
          · omega
          · exact ht
        have ih := metL_has2 k (x :: p) q (by simp only [List.length_cons]; omega) ha (nm_tail hb) (hasL_iff.2 ⟨s, by simp [hs], s1, s2⟩) (hasL_iff.2 ⟨t, htq, t1, t2⟩)
        obtain ⟨r, hr, r1⟩ := hasL_iff.1 ih
        exact hasL_iff.2 ⟨r, List.mem_append_right _ hr, r1⟩
theorem metL_has {a b : List Sp} {n : Int} (ha : NmS a) (hb : NmS b) : hasL (metL a b) n = (hasL a n && hasL b n) := by
  rcases h : hasL (metL a b) n with _ | _
  · rcases h1 : hasL a n with _ | _
    · rfl
    · rcases h2 : hasL b n with _ | _
      · rfl
      · rw [metL_has2 _ a b (Nat.le_refl _) ha hb h1 h2] at h; cases h
  · obtain ⟨h1, h2⟩ := metL_has1 h
    rw [h1, h2]; rfl
/-- the ends of all formulas, and of all days -/
def endF (ps : List FmP) : List Int := 730499 :: ps.map (·.2.2)
theorem use_dy {ps : List FmP} (h : ∀ p ∈ ps, fmB p = true) (W : List ByteArray) : DyS (useL ps W) ∧ EndS (endF ps) (useL ps W) := by
  have key : ∀ s ∈ useL ps W, ∃ p ∈ ps, s = p.2 := by
    intro s hs
    unfold useL at hs
    obtain ⟨p, hp, rfl⟩ := List.mem_map.1 hs
    exact ⟨p, (List.mem_filter.1 hp).1, rfl⟩
  refine ⟨fun s hs => ?_, fun s hs => ?_⟩
  · obtain ⟨p, hp, rfl⟩ := key s hs
    have := h p hp
    unfold fmB spanB dayB inB at this
    simp only [Bool.and_eq_true, decide_eq_true_eq] at this
    omega
  · obtain ⟨p, hp, rfl⟩ := key s hs
    exact List.mem_cons_of_mem _ (List.mem_map.2 ⟨p, hp, rfl⟩)
theorem setL_nm {ps : List FmP} (h : ∀ p ∈ ps, fmB p = true) (W : List ByteArray) : NmS (setL ps W) ∧ EndS (endF ps) (setL ps W) := ⟨unL_nm (use_dy h W).1, unL_end (use_dy h W).2⟩
theorem foldD_nm {ps : List FmP} (h : ∀ p ∈ ps, fmB p = true) : ∀ (l : List Int) (o : List Sp), NmS o → EndS (endF ps) o → NmS (l.foldl (stpD ps) o) ∧ EndS (endF ps) (l.foldl (stpD ps) o) ∧ ∀ n, hasL (l.foldl (stpD ps) o) n = (hasL o n && l.all (useB ps n))
  | [], o, h1, h2 => ⟨h1, h2, fun n => by simp⟩
  | i :: l, o, h1, h2 => by
    have h3 := setL_nm h (wsAt ps i)
    obtain ⟨a, b, c⟩ := foldD_nm h l (stpD ps o i) (metL_nm _ _ _ (Nat.le_refl _) h1 h3.1) (metL_end h2 h3.2)
    refine ⟨a, b, fun n => ?_⟩
    rw [List.foldl_cons, c n, List.all_cons]
    unfold stpD
    rw [metL_has h1 h3.1, Bool.and_assoc]; rfl
theorem nodup_subS : ∀ {l m : List Int}, l.Nodup → (∀ x ∈ l, x ∈ m) → l.length ≤ m.length
  | [], m, _, _ => by simp
  | x :: l, m, hn, hs => by
    rw [List.nodup_cons] at hn
    have hx : x ∈ m := hs x (by simp)
    have := nodup_subS (m := m.erase x) hn.2 (fun y hy => by
      have hne : y ≠ x := by rintro rfl; exact hn.1 hy
      exact (List.mem_erase_of_ne hne).2 (hs y (by simp [hy])))
    rw [List.length_erase_of_mem hx] at this
    have hm : 0 < m.length := List.length_pos_of_mem hx
    simp; omega
theorem nm_len {E : List Int} {l : List Sp} (h : NmS l) (he : EndS E l) : l.length ≤ E.length := by
  have hd : (l.map (·.2)).Nodup := by
    rw [List.Nodup, List.pairwise_map]
    refine List.Pairwise.imp_of_mem ?_ h.1
    intro a b ha hb hab e
    have := h.2 b hb
    omega
  have := nodup_subS hd (fun z hz => by
    obtain ⟨s, hs, rfl⟩ := List.mem_map.1 hz
    exact he s hs)
  simpa using this
/-- the days on which a phrase is possible are a set, and are those on which no formula is strange -/
theorem pd_set {P : List ByteArray} {ps : List FmP} (h : fiB P ps = true) : NmS (pdL P ps) ∧ (pdL P ps).length ≤ 300 := by
  unfold fiB at h
  rw [Bool.and_eq_true] at h
  have h0 : NmS [((0 : Int), (730499 : Int))] := ⟨by simp, fun s hs => by rw [List.mem_singleton.1 hs]; simp⟩
  obtain ⟨a, b, -⟩ := foldD_nm (afP_fm h.1) (occL P ps) [(0, 730499)] h0 (fun s hs => by rw [List.mem_singleton.1 hs]; exact List.mem_cons_self ..)
  refine ⟨a, ?_⟩
  have h1 := nm_len a b
  have h2 := (afP_small h.1).1
  unfold endF at h1
  simp only [List.length_cons, List.length_map] at h1
  unfold pdL; omega
theorem pd_day {P : List ByteArray} {ps : List FmP} {n : Int} (h : sgC P ps n = 0) : fiC P ps = 0 ∧ inSp n 0 730499 = true ∧ NmS (pdS P ps) ∧ (pdS P ps).length ≤ 300 ∧ hasL (pdS P ps) n = ((sgL P ps n).length == 0) := by
  have hf : fiB P ps = true := by
    rcases h1 : fiB P ps with _ | _
    · rw [(sg_1 (n := n) h1).1] at h; cases h
    · rfl
  have hn : inSp n 0 730499 = true := by
    rcases h1 : inSp n 0 730499 with _ | _
    · rw [(sg_2 hf h1).1] at h; cases h
    · rfl
  obtain ⟨h1, h2⟩ := pd_set hf
  rw [(sg_0 hf hn).2, (pd_0 hf).2]
  refine ⟨(pd_0 hf).1, hn, h1, h2, ?_⟩
  have h0 : NmS [((0 : Int), (730499 : Int))] := ⟨by simp, fun s hs => by rw [List.mem_singleton.1 hs]; simp⟩
  unfold fiB at hf
  rw [Bool.and_eq_true] at hf
  have := (foldD_nm (afP_fm hf.1) (occL P ps) [(0, 730499)] h0 (fun s hs => by rw [List.mem_singleton.1 hs]; exact List.mem_cons_self ..)).2.2 n
  unfold pdL
  rw [this]
  have e : hasL [((0 : Int), (730499 : Int))] n = true := by simpa [hasL, inSp] using hn
  rw [e, Bool.true_and]
  unfold stL
  generalize occL P ps = I
  induction I with
  | nil => rfl
  | cons i I ih =>
    rw [List.all_cons, List.filter_cons]
    rcases hu : useB ps n i with _ | _
    · simp
    · simp only [Bool.not_true, Bool.true_and]
      rw [if_neg (by simp)]
      exact ih
end Go.Proofs.YtehoaoeahfmfpaaGreatDoor

namespace Go.Proofs.YtehoaoeahfmfpaaGreatDoor
open Go.RowKit Go.Sort

theorem nm_at {l : List Sp} (h : NmS l) {k : Nat} {s t : Sp} (hs : l[k]? = some s) (ht : l[k + 1]? = some t) : s.2 + 2 ≤ t.1 := by
  obtain ⟨h1, e1⟩ := List.getElem?_eq_some_iff.1 hs
  obtain ⟨h2, e2⟩ := List.getElem?_eq_some_iff.1 ht
  have := List.pairwise_iff_getElem.1 h.1 k (k + 1) h1 h2 (Nat.lt_succ_self k)
  rw [e1, e2] at this; exact this

set_option maxRecDepth 100000 in
set_option maxHeartbeats 4000000 in
theorem isSet_yes (A : Option Addr) (l : List Sp) (c lo hi : Nat) (w : World) (hr : RdP w lo hi A l) (hhi : hi ≤ w.heap.size) (hl : l.length ≤ 300) (hN : NmS l) :
    Calls Tryz.prog 77 #[.slice A l.length c] w fun e w' => e = .returned (.bool true) ∧ Up w w' := by
  have HN := Lib.hid hN
  clear hN
  go_enter Tryz.func77, Tryz.ntmps77
  go_wp2
  go_loopw [3, 4, 7] (fun _ _ i wr => ∃ k : Nat, k ≤ l.length ∧ i = .int .i64 k ∧ Up w wr) (fun _ _ i _ => l.length - (intOf i).toNat)
  case atStart => exact ⟨0, Nat.zero_le _, rfl, Up.refl _⟩
  case round =>
    obtain ⟨k, hk, rfl, hup⟩ := hrel
    by_cases hlt : k < l.length
    · obtain ⟨b, off, xf, xt, rfl, -, -, hx, p0, p1⟩ := (hr.up hup hhi).sp hlt
      have hd := HN.out.2 (xf, xt) (List.mem_of_getElem? hx)
      simp only at hd
      have i1 : inSp xf 0 730499 = true := by simp [inSp]; omega
      have i2 : inSp xt 0 730499 = true := by simp [inSp]; omega
      have hA := fun wx => isDayS_any xf wx
      have hB := fun wx => isDayS_any xt wx
      rw [i1] at hA
      rw [i2] at hB
      have HA := Lib.hid hA
      have HB := Lib.hid hB
      have d1 : decide (xt < xf) = false := by rw [decide_eq_false_iff_not]; omega
      have ub := Up.alloc wr (.cells #[.int .i64 xf, .int .i64 xt] 95)
      have c0 : (wr.alloc (.cells #[.int .i64 xf, .int .i64 xt] 95)).cell? ⟨wr.heap.size, 0, none⟩ = some (.int .i64 xf) := by go_simp
      have c1 : (wr.alloc (.cells #[.int .i64 xf, .int .i64 xt] 95)).cell? ⟨wr.heap.size, 1, none⟩ = some (.int .i64 xt) := by go_simp
      have hup2 := hup.trans ub
      have HX := Lib.hid hx
      clear hx hA hB i1 i2
      rcases Nat.eq_zero_or_pos k with hk0 | hk0
      · subst hk0
        simp only [Nat.zero_mul, Nat.add_zero] at p0 p1
        go_wp2_with fail
        obtain ⟨W1, hW1⟩ : ∃ z, z = wr.alloc (.cells #[.int .i64 xf, .int .i64 xt] 95) := ⟨_, rfl⟩
        rw [← hW1] at c0 c1 hup2 ⊢
        have C0 := cell_regrown c0
        have C1 := cell_regrown c1
        clear hW1 ub
        refine wp_region_quiet_below (by kernel_rfl) (by kernel_rfl) ?_
        repeat (first | go_big_quiet_step ((first | (go_at_call 68; exact Calls.regrown_of (HA.out _)) | (go_at_call 68; exact Calls.regrown_of (HB.out _)))) | quiet_step ((first | (go_at_call 68; exact Calls.regrown_of (HA.out _)) | (go_at_call 68; exact Calls.regrown_of (HB.out _)))))
        refine wpQuiet_nil ?_
        intro w2 hw2
        obtain ⟨⟨dq, osq⟩, hw2⟩ := hw2
        have hup3 : Up W1 w2 := by rw [hw2]; exact below_regrown _ _ _
        clear hw2 C0 C1
        go_wp2
        go_roundw
        case rel => exact ⟨1, by omega, by go_num, hup2.trans hup3⟩
        case measure => simp [intOf]; omega
      · obtain ⟨j, rfl⟩ : ∃ j, k = j + 1 := ⟨k - 1, by omega⟩
        obtain ⟨b', off', yf, yt, e', -, -, hy, -, q1⟩ := (hr.up hup hhi).sp (k := j) (by omega)
        cases e'
        have hgap := nm_at HN.out hy HX.out
        simp only at hgap
        have d2 : decide (xf < yt + 2) = false := by rw [decide_eq_false_iff_not]; omega
        have hyd := HN.out.2 (yf, yt) (List.mem_of_getElem? hy)
        simp only at hyd
        have q1a := ub.cell q1
        have hjl : j < l.length := by omega
        clear hy hgap q1
        go_wp2_with fail
        obtain ⟨W1, hW1⟩ : ∃ z, z = wr.alloc (.cells #[.int .i64 xf, .int .i64 xt] 95) := ⟨_, rfl⟩
        rw [← hW1] at c0 c1 hup2 q1a ⊢
        have C0 := cell_regrown c0
        have C1 := cell_regrown c1
        have Q1 := cell_regrown q1a
        clear hW1 ub
        refine wp_region_quiet_below (by kernel_rfl) (by kernel_rfl) ?_
        repeat (first | go_big_quiet_step ((first | (go_at_call 68; exact Calls.regrown_of (HA.out _)) | (go_at_call 68; exact Calls.regrown_of (HB.out _)))) | quiet_step ((first | (go_at_call 68; exact Calls.regrown_of (HA.out _)) | (go_at_call 68; exact Calls.regrown_of (HB.out _)))))
        refine wpQuiet_nil ?_
        intro w2 hw2
        obtain ⟨⟨dq, osq⟩, hw2⟩ := hw2
        have hup3 : Up W1 w2 := by rw [hw2]; exact below_regrown _ _ _
        clear hw2 C0 C1 Q1
        go_wp2
        go_roundw
        case rel => exact ⟨j + 1 + 1, by omega, by go_num, hup2.trans hup3⟩
        case measure => simp [intOf]; omega
    · have hk2 : k = l.length := by omega
      have hd : decide ((l.length : Int) ≤ 300) = true := by rw [decide_eq_true_iff]; omega
      go_wp2
      go_ret
      exact ⟨rfl, hup⟩

set_option maxHeartbeats 2000000 in
theorem hasDay_yes (A : Option Addr) (l : List Sp) (c lo hi : Nat) (n : Int) (w : World) (hr : RdP w lo hi A l) (hhi : hi ≤ w.heap.size) (hl : l.length ≤ 300) (hN : NmS l) (hn : inSp n 0 730499 = true) :
    Calls Tryz.prog 26 #[.slice A l.length c, .int .i64 n] w fun e w' => e = .returned (.tuple #[.bool (hasL l n), .int .i64 0]) ∧ Up w w' := by
  have hD := fun wx => isDayS_any n wx
  rw [hn] at hD
  have HD := Lib.hid hD
  have HS := Lib.hid (isSet_yes A l c lo hi w hr hhi hl hN)
  have HH := Lib.hid (fun (wx : World) (hu : Up w wx) => hasDay_any A l c lo hi n wx (hr.up hu hhi) (Nat.le_trans hhi hu.size) (by omega))
  clear hD hn hN
  go_enter Tryz.func26, Tryz.ntmps26
  go_wp2_with fail
  refine HS.out.mono ?_
  rintro e w1 ⟨rfl, u1⟩
  go_wp2_with fail
  refine (HD.out w1).mono ?_
  rintro e w2 ⟨rfl, u2⟩
  have U2 := u1.trans u2
  go_wp2_with fail
  refine (HH.out w2 U2).mono ?_
  rintro e w3 ⟨rfl, u3⟩
  go_wp2
  refine bodyPost_ret (v := .tuple #[.bool (hasL l n), .int .i64 0]) (by simp [results, Tryz.results26, go_sem]) rfl ⟨rfl, U2.trans u3⟩

set_option maxRecDepth 100000 in
set_option maxHeartbeats 2000000 in
theorem likeSpans_any (A B : Option Addr) (l : List Sp) (c c2 lo hi lo2 hi2 : Nat) (w : World) (hr : RdP w lo hi A l) (hhi : hi ≤ w.heap.size) (hr2 : RdP w lo2 hi2 B l) (hhi2 : hi2 ≤ w.heap.size) (hn : l.length ≤ 2000000) :
    Calls Tryz.prog 38 #[.slice A l.length c, .slice B l.length c2] w fun e w' => e = .returned (.bool true) ∧ Up w w' := by
  go_enter Tryz.func38, Tryz.ntmps38
  go_wp2
  go_loopw [5] (fun i wr => ∃ k : Nat, k ≤ l.length ∧ i = .int .i64 k ∧ Up w wr) (fun i _ => l.length - (intOf i).toNat)
  case atStart => exact ⟨0, Nat.zero_le _, rfl, Up.refl w⟩
  case round =>
    obtain ⟨k, hk, rfl, hup⟩ := hrel
    by_cases hlt : k < l.length
    · obtain ⟨b, off, f, t, rfl, -, -, hd, q0, q1⟩ := (hr.up hup hhi).sp hlt
      obtain ⟨b2, off2, f2, t2, rfl, -, -, hd2, p0, p1⟩ := (hr2.up hup hhi2).sp hlt
      rw [hd] at hd2
      cases hd2
      clear hd
      have Q0 := cell_regrown q0
      have Q1 := cell_regrown q1
      have P0 := cell_regrown p0
      have P1 := cell_regrown p1
      go_wp2_with fail
      refine wp_region_quiet_below (by kernel_rfl) (by kernel_rfl) ?_
      repeat (first | go_big_quiet_step (fail) | quiet_step (fail))
      refine wpQuiet_nil ?_
      intro w2 hw2
      obtain ⟨⟨dqa, osqa⟩, hw2⟩ := hw2
      have hu2 := hup.trans (show Up wr w2 by rw [hw2]; exact below_regrown _ _ _)
      clear hw2 Q0 Q1 P0 P1
      go_wp2
      go_roundw
      case rel => exact ⟨k + 1, by omega, by go_num, hu2⟩
      case measure => simp [intOf]; omega
    · go_wp2
      go_ret
      exact ⟨rfl, hup⟩
end Go.Proofs.YtehoaoeahfmfpaaGreatDoor
