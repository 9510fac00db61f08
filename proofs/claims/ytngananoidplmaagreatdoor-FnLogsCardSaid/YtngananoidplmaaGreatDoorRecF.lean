/- A log is recovered from its text, and its first decisions from a text that is cut off. -/
import Derived.Test.YtngananoidplmaaGreatDoorRecL
namespace Go.Proofs.YtngananoidplmaaGreatDoor
open Go.RowKit Go.Sort

/-- the lines of a log without their ends -/
def lnsL : List Dec → Nat → List ByteArray
  | [], _ => []
  | d :: l, c => lnD (ckD c d) d :: lnsL l (ckD c d)
theorem lnsL_take : ∀ (l : List Dec) (c k : Nat), (lnsL l c).take k = lnsL (l.take k) c
  | [], _, _ => by simp [lnsL]
  | d :: l, c, 0 => by simp [lnsL]
  | d :: l, c, k + 1 => by simp [lnsL, lnsL_take l]
theorem txL_lns : ∀ (l : List Dec) (c : Nat), txL l c = (lnsL l c).flatMap fun x => x.data.toList ++ [10]
  | [], _ => rfl
  | d :: l, c => by rw [txL, lnsL, List.flatMap_cons, txL_lns l]
theorem seg_ne (c : UInt8) : ∀ (l cur : List UInt8), seg c cur l ≠ []
  | [], cur => by simp [seg]
  | b :: r, cur => by
    rw [seg]; split
    · simp
    · exact seg_ne c r _
theorem seg_cut (c : UInt8) : ∀ (Ls : List ByteArray) (n : Nat), (∀ a ∈ Ls, ∀ x ∈ a.data.toList, x ≠ c) →
    (seg c [] ((Ls.flatMap fun x => x.data.toList ++ [c]).take n)).dropLast.map ofB = Ls.take (((Ls.flatMap fun x => x.data.toList ++ [c]).take n).count c)
  | [], n, _ => by simp [seg]
  | a :: Ls, n, h => by
    have ha : ∀ x ∈ a.data.toList, x ≠ c := h a (by simp)
    rw [List.flatMap_cons, List.append_assoc]
    rcases Nat.lt_or_ge a.data.toList.length n with hn | hn
    · obtain ⟨m, rfl⟩ : ∃ m, n = a.data.toList.length + (m + 1) := ⟨n - a.data.toList.length - 1, by omega⟩
      have h0 : ((a.data.toList ++ ([c] ++ Ls.flatMap fun x => x.data.toList ++ [c])).take (a.data.toList.length + (m + 1))) = a.data.toList ++ c :: (Ls.flatMap fun x => x.data.toList ++ [c]).take m := by
        rw [List.take_append]
        simp [List.take_of_length_le]
      have h2 : a.data.toList.count c = 0 := List.count_eq_zero.2 fun hc => ha c hc rfl
      rw [h0, seg_app c _ _ _ ha, List.count_append, h2, List.count_cons_self, List.nil_append]
      have ih := seg_cut c Ls m (fun x hx => h x (by simp [hx]))
      rw [List.dropLast_cons_of_ne_nil (seg_ne c _ _), List.map_cons, ih, ofB_data, Nat.zero_add, List.take_succ_cons]
    · have h0 : ((a.data.toList ++ ([c] ++ Ls.flatMap fun x => x.data.toList ++ [c])).take n) = a.data.toList.take n := List.take_append_of_le_length hn
      have h1 : ∀ x ∈ a.data.toList.take n, x ≠ c := fun x hx => ha x (List.mem_of_mem_take hx)
      rw [h0, seg_last c _ _ h1]
      have h2 : (a.data.toList.take n).count c = 0 := List.count_eq_zero.2 fun hc => h1 c hc rfl
      rw [h2]; simp
theorem ln_no {d : Dec} (h : decB d = true) (c : Nat) : ∀ x ∈ (lnD c d).data.toList, x ≠ 10 := by
  have ho := ok_of h
  unfold decB at h
  simp only [Bool.and_eq_true] at h
  obtain ⟨⟨h1, h2, h3⟩, h4, -⟩ := h
  have n1 := name_ne h1 (c := 10) (by decide)
  have n2 := name_ne h2 (c := 10) (by decide)
  have n3 := fun x hx => (wdB_ne (d.kind.toNat : Int) x hx).2
  have n4 := dcB_ne d.day.toNat (c := 10) (by decide)
  have n5 := dcB_ne c (c := 10) (by decide)
  intro x hx
  have n6 : ∀ y ∈ spB.data.toList, y ≠ 10 := by decide
  unfold lnD lnB mdB hdB at hx
  split at hx <;> simp only [ByteArray.data_append, Array.toList_append, List.mem_append] at hx
  · rcases hx with ((((((((h | h) | h) | h) | h) | h) | h) | h) | h)
    all_goals first | exact n1 x h | exact n2 x h | exact n3 x h | exact n4 x h | exact n5 x h | exact n6 x h
  · rcases hx with ((((((h | h) | h) | h) | h) | h) | h)
    all_goals first | exact n1 x h | exact n2 x h | exact n3 x h | exact n5 x h | exact n6 x h
theorem lns_no : ∀ (l : List Dec) (c : Nat), (∀ d ∈ l, decB d = true) → ∀ a ∈ lnsL l c, ∀ x ∈ a.data.toList, x ≠ 10
  | [], _, _ => by simp [lnsL]
  | d :: l, c, h => by
    intro a ha
    rw [lnsL] at ha
    rcases List.mem_cons.1 ha with rfl | ha
    · exact ln_no (h d (by simp)) _
    · exact lns_no l _ (fun x hx => h x (by simp [hx])) a ha
theorem logB_pre {l : List Dec} (h : logB l = true) (k : Nat) : logB (l.take k) = true := by
  have h5 := logB_len h
  have he : logB (l.take k) = decide ((l.take k).length ≤ 80) := by
    apply logB_end
    intro j x hj hx
    rw [List.length_take] at hj
    rw [List.getElem?_take] at hx
    split at hx
    · have := okAt_of h hx
      unfold okAt at this ⊢
      rw [List.take_take, show min j k = j by omega]; exact this
    · cases hx
  rw [he, List.length_take]; simp; omega
theorem recR_lns : ∀ (l out : List Dec), logB (out ++ l) = true → recR (lnsL l (ckF out 0)) out (ckF out 0) = out ++ l
  | [], out, _ => by simp [lnsL, recR]
  | d :: l, out, h => by
    have h5 := logB_len h
    simp at h5
    have hlast : (out ++ d :: l)[out.length]? = some d := by rw [List.getElem?_append_right (Nat.le_refl _), Nat.sub_self]; rfl
    have hok := okAt_of h hlast
    unfold okAt at hok
    rw [List.take_append_of_le_length (Nat.le_refl _), List.take_length, Bool.and_eq_true] at hok
    have hd := dS_ln hok.1 (ckD (ckF out 0) d)
    have hS : okS out (ckF out 0) (lnD (ckD (ckF out 0) d) d) = true := by
      unfold okS
      rw [hd.1, hok.1, hok.2]
      simp [hd.2]
    rw [lnsL, recR_yes (by omega) hS, hd.1, ← ckF_snoc]
    have := recR_lns l (out ++ [d]) (by simpa using h)
    rw [this]; simp
/-- what is recovered from the first n bytes of a log's text -/
theorem rv_cut {l : List Dec} (h : logB l = true) (n : Nat) (hs : ((txL l 0).take n).length ≤ 5000) :
    rvL ⟨((txL l 0).take n).toArray⟩ = l.take (((txL l 0).take n).count 10) ∧ rvC ⟨((txL l 0).take n).toArray⟩ = 0 := by
  have hsz : (⟨((txL l 0).take n).toArray⟩ : ByteArray).size ≤ 5000 := by
    show ((txL l 0).take n).toArray.size ≤ 5000
    simpa using hs
  unfold rvL rvC
  rw [if_pos hsz, if_pos hsz]
  refine ⟨?_, rfl⟩
  unfold spL
  rw [← List.map_dropLast]
  simp only
  rw [txL_lns, seg_cut 10 _ n (lns_no l 0 (logB_dec h)), lnsL_take]
  have := recR_lns (l.take (((((lnsL l 0).flatMap fun x => x.data.toList ++ [10]).take n)).count 10)) [] (by simpa using logB_pre h _)
  simpa [ckF] using this
end Go.Proofs.YtngananoidplmaaGreatDoor
