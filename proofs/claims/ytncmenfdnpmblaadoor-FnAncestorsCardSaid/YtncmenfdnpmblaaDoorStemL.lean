/- Stemmas as plain lists: the line of ancestors, and that the program's test for a ring agrees with the reference's count of steps. No program stands in it. -/
import Derived.WalkKit
namespace Go.Proofs.YtncmenfdnpmblaaDoor

/-- what a copy was made from; the original from itself -/
def upS (ps : List Int) (z : Int) : Int := match ps[z.toNat]? with | some x => x | none => -1
theorem upS_of {ps : List Int} {k : Nat} {x : Int} (h : ps[k]? = some x) : upS ps (k : Int) = x := by simp [upS, h]
/-- the original is reached in at most m steps -/
def reaB (ps : List Int) : Nat → Int → Bool
  | 0, z => z == -1
  | m + 1, z => z == -1 || reaB ps m (upS ps z)
theorem rea_end (ps : List Int) (m : Nat) : reaB ps m (-1) = true := by cases m <;> simp [reaB]
theorem rea_step {ps : List Int} {m : Nat} {z : Int} (h : z ≠ -1) : reaB ps (m + 1) z = reaB ps m (upS ps z) := by simp [reaB, h]
theorem rea_zero {ps : List Int} {z : Int} (h : z ≠ -1) : reaB ps 0 z = false := by simp [reaB, h]
/-- all ancestors of z, z among them -/
def ancL (ps : List Int) : Nat → Int → List Int
  | 0, _ => []
  | m + 1, z => if z = -1 then [] else z :: ancL ps m (upS ps z)
theorem anc_end (ps : List Int) (m : Nat) : ancL ps m (-1) = [] := by cases m <;> simp [ancL]
theorem anc_step {ps : List Int} {m : Nat} {z : Int} (h : z ≠ -1) : ancL ps (m + 1) z = z :: ancL ps m (upS ps z) := by simp [ancL, h]
theorem anc_len (ps : List Int) : ∀ (m : Nat) (z : Int), (ancL ps m z).length ≤ m
  | 0, z => by simp [ancL]
  | m + 1, z => by
    unfold ancL
    split
    · simp
    · have := anc_len ps m (upS ps z); simp; omega
/-- parents of n copies -/
def parB (ps : List Int) (n : Nat) : Bool := ps.all fun p => decide (-1 ≤ p) && decide (p ≤ (n : Int) - 1)
theorem parB_at {ps : List Int} {n : Nat} (h : parB ps n = true) {k : Nat} {x : Int} (hx : ps[k]? = some x) : -1 ≤ x ∧ x < n := by
  have := List.all_eq_true.1 h x (List.mem_of_getElem? hx)
  simp at this; omega
theorem upS_in {ps : List Int} (h : parB ps ps.length = true) {z : Int} (h0 : 0 ≤ z) (h1 : z < ps.length) : -1 ≤ upS ps z ∧ upS ps z < ps.length := by
  obtain ⟨k, rfl⟩ : ∃ k : Nat, z = k := ⟨z.toNat, by omega⟩
  have hk : k < ps.length := by omega
  rw [upS_of (List.getElem?_eq_getElem hk)]
  exact parB_at h (List.getElem?_eq_getElem hk)
theorem nodup_sub : ∀ {l m : List Int}, l.Nodup → (∀ x ∈ l, x ∈ m) → l.length ≤ m.length
  | [], m, _, _ => by simp
  | x :: l, m, hn, hs => by
    rw [List.nodup_cons] at hn
    have hx : x ∈ m := hs x (by simp)
    have := nodup_sub (m := m.erase x) hn.2 (fun y hy => by
      have hne : y ≠ x := by rintro rfl; exact hn.1 hy
      exact (List.mem_erase_of_ne hne).2 (hs y (by simp [hy])))
    rw [List.length_erase_of_mem hx] at this
    have hm : 0 < m.length := List.length_pos_of_mem hx
    simp; omega
theorem nodup_lt {l : List Int} {n : Nat} (hn : l.Nodup) (h : ∀ x ∈ l, 0 ≤ x ∧ x < n) : l.length ≤ n := by
  have := nodup_sub (m := (List.range n).map fun (j : Nat) => (j : Int)) hn (fun x hx => by
    obtain ⟨h0, h1⟩ := h x hx
    exact List.mem_map.2 ⟨x.toNat, List.mem_range.2 (by omega), by omega⟩)
  simpa using this
/-- what stands at each round of the search for ancestors of i: the line so far, and where it stands -/
structure Line (ps : List Int) (i : Int) (out : List Int) (at_ : Int) : Prop where
  nod : (i :: out).Nodup
  rng : ∀ z ∈ i :: out, 0 ≤ z ∧ z < ps.length
  ups : ∀ z ∈ i :: out, upS ps z ∈ at_ :: i :: out
  cur : -1 ≤ at_ ∧ at_ < ps.length
  rea : ∀ m, reaB ps (m + out.length + 1) i = reaB ps m at_
  anc : ∀ m, ancL ps (m + out.length) (upS ps i) = out ++ ancL ps m at_
theorem Line.len {ps : List Int} {i at_ : Int} {out : List Int} (h : Line ps i out at_) : out.length + 1 ≤ ps.length := by
  have := nodup_lt h.nod h.rng; simpa using this
theorem Line.start {ps : List Int} {i : Int} (hp : parB ps ps.length = true) (h0 : 0 ≤ i) (h1 : i < ps.length) : Line ps i [] (upS ps i) where
  nod := by simp
  rng := fun z hz => by simp at hz; subst hz; exact ⟨h0, h1⟩
  ups := fun z hz => by simp at hz; subst hz; simp
  cur := upS_in hp h0 h1
  rea := fun m => rea_step (by omega)
  anc := fun m => by simp
theorem Line.step {ps : List Int} {i at_ : Int} {out : List Int} (h : Line ps i out at_) (hp : parB ps ps.length = true) (hn : at_ ≠ -1) (hi : at_ ≠ i) (ho : out.contains at_ = false) : Line ps i (out ++ [at_]) (upS ps at_) := by
  have hc := h.cur
  have hno : at_ ∉ out := by simpa using ho
  have hr : 0 ≤ at_ ∧ at_ < ps.length := ⟨by omega, hc.2⟩
  refine ⟨?_, ?_, ?_, upS_in hp hr.1 hr.2, ?_, ?_⟩
  · rw [← List.cons_append, List.nodup_append]
    refine ⟨h.nod, by simp, fun a ha b hb => ?_⟩
    simp at hb; subst hb
    rintro rfl
    rcases List.mem_cons.1 ha with e | e
    · exact hi e
    · exact hno e
  · intro z hz
    rw [← List.cons_append] at hz
    rcases List.mem_append.1 hz with e | e
    · exact h.rng z e
    · simp at e; subst e; exact hr
  · intro z hz
    rw [← List.cons_append] at hz
    rcases List.mem_append.1 hz with e | e
    · have := h.ups z e
      simp at this ⊢
      rcases this with e | e | e <;> simp [e]
    · simp at e; subst e; simp
  · intro m
    rw [List.length_append, List.length_singleton, ← rea_step hn, ← h.rea (m + 1)]
    congr 1; omega
  · intro m
    rw [List.length_append, List.length_singleton, List.append_assoc, List.singleton_append, ← anc_step hn, ← h.anc (m + 1)]
    congr 1; omega
theorem closed_no {ps : List Int} {S : List Int} (hS : ∀ z ∈ S, z ≠ -1 ∧ upS ps z ∈ S) : ∀ m, ∀ z ∈ S, reaB ps m z = false
  | 0, z, hz => rea_zero (hS z hz).1
  | m + 1, z, hz => by rw [rea_step (hS z hz).1]; exact closed_no hS m _ (hS z hz).2
/-- a ring: the original is never reached -/
theorem Line.ring {ps : List Int} {i at_ : Int} {out : List Int} (h : Line ps i out at_) (hr : at_ = i ∨ at_ ∈ out) (m : Nat) : reaB ps m i = false := by
  refine closed_no (S := i :: out) (fun z hz => ⟨by have := h.rng z hz; omega, ?_⟩) m i (by simp)
  have h1 := h.ups z hz
  rcases List.mem_cons.1 h1 with e | e
  · rw [e]; rcases hr with e2 | e2
    · simp [e2]
    · simp [e2]
  · exact e
/-- the end: the original is reached -/
theorem Line.done {ps : List Int} {i : Int} {out : List Int} (h : Line ps i out (-1)) : reaB ps (ps.length + 1) i = true ∧ ancL ps (ps.length + 1) (upS ps i) = out := by
  have hl := h.len
  constructor
  · have := h.rea (ps.length - out.length)
    rw [rea_end] at this
    rwa [show ps.length - out.length + out.length + 1 = ps.length + 1 by omega] at this
  · have := h.anc (ps.length + 1 - out.length)
    rw [anc_end, List.append_nil] at this
    rwa [show ps.length + 1 - out.length + out.length = ps.length + 1 by omega] at this
/-- whether copy i has a line to the original, and that line without i -/
def lnB (ps : List Int) (i : Int) : Bool := reaB ps (ps.length + 1) i
def lnL (ps : List Int) (i : Int) : List Int := if lnB ps i = true then ancL ps (ps.length + 1) (upS ps i) else []
theorem ln_no {ps : List Int} {i : Int} (h : lnB ps i = false) : lnL ps i = [] := by unfold lnL; rw [h]; rfl
theorem ln_yes {ps : List Int} {i : Int} (h : lnB ps i = true) : lnL ps i = ancL ps (ps.length + 1) (upS ps i) := by unfold lnL; rw [h]; rfl
theorem ln_len (ps : List Int) (i : Int) : (lnL ps i).length ≤ ps.length + 1 := by
  unfold lnL; split
  · exact anc_len _ _ _
  · simp
/-- every copy has one -/
def stB (ps : List Int) : Bool := (List.range ps.length).all fun k => lnB ps (k : Int)
theorem stB_no {ps : List Int} {k : Nat} (hk : k < ps.length) (h : lnB ps (k : Int) = false) : stB ps = false := by
  unfold stB; rw [List.all_eq_false]; exact ⟨k, List.mem_range.2 hk, by simp [h]⟩
theorem stB_yes {ps : List Int} (h : ∀ k : Nat, k < ps.length → lnB ps (k : Int) = true) : stB ps = true := by
  unfold stB; rw [List.all_eq_true]; exact fun k hk => h k (List.mem_range.1 hk)
theorem stB_at {ps : List Int} (h : stB ps = true) {k : Nat} (hk : k < ps.length) : lnB ps (k : Int) = true := by
  unfold stB at h; exact List.all_eq_true.1 h k (List.mem_range.2 hk)
end Go.Proofs.YtncmenfdnpmblaaDoor
