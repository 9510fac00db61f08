/- A region that draws its order and whose last operation waits for all others: that operation comes last. No program stands in it. -/
import Derived.Test.YtblpjjcjnaigiaaGreatDoorInv
namespace Go.Proofs.YtblpjjcjnaigiaaGreatDoor
open Go.RowKit

section
variable {P : Program} {ops : Array Oper} {Q : Exit → Act → World → Prop}
/-- what is left where all but operation n have come up -/
def lastQ (P : Program) (ops : Array Oper) (Q : Exit → Act → World → Prop) (n : Nat) : Exit → Act → World → Prop
  | .normal, a, w => wpOp P ops Q n (fun a' w' => Q .normal a' w') a w
  | e, a, w => Q e a w
theorem lastQ_mk {n : Nat} {o : Oper} {a : Act} {w : World} (ho : ops[n]? = some o) (hg : o.guard = none) (h : o.wp P a w (fun a' w' => Q .normal a' w') Q) : lastQ P ops Q n .normal a w := wpOp_plain ho hg h
theorem lastQ_op {n i : Nat} {K : Act → World → Prop} {a : Act} {w : World} (h : wpOp P ops (lastQ P ops Q n) i K a w) : wpOp P ops Q i K a w := by
  unfold wpOp at *
  split
  · rename_i h1; simp only [h1] at h; exact h
  · rename_i o h1
    simp only [h1] at h
    split
    · rename_i h2
      rw [if_pos h2] at h
      rcases h with h | h
      · refine .inl ?_
        unfold Oper.wp at *
        generalize (execOp a.eval o).run P w = r at *
        cases r with
        | ok m w' =>
          cases m <;> simp only [Oper.upon] at h ⊢
          case value u => exact h
          case skip => exact h
          case defer d => exact h
          case enter f args =>
            refine Calls.mono h fun e w'' he => ?_
            cases e with
            | returned u => exact he
            | panicked c => exact he
            | outgrown => exact he
          case row row args => exact h
        | halt x w' =>
          cases x <;> simp only [Oper.upon] at h ⊢
          case panic u => exact h
      · exact .inr ⟨h.1, h.2⟩
    · rename_i h2
      rw [if_neg h2] at h
      exact h
theorem wpAny_end {md : Region.Mode} {b : Array Bool} {a : Act} {w : World} (hr : Region.ready md ops b = []) (h : Q .normal a w) : ∀ fuel, wpAny P md ops Q fuel b a w
  | 0 => ⟨hr, h⟩
  | _ + 1 => ⟨fun _ => h, by rw [hr]; simp⟩
theorem wpAny_last {n : Nat} {o : Oper} (ho : ops[n]? = some o) (hsz : ops.size = n + 1) (hso : sorted ops = true)
    (hb : ∀ j, j < n → ∃ e ∈ o.after, Region.binds .any e = true ∧ e.on = j) :
    ∀ (fuel : Nat) (b : Array Bool) (a : Act) (w : World), b.size = n + 1 → b.getD n true = false → wpAny P .any ops (lastQ P ops Q n) fuel (b.setIfInBounds n true) a w → wpAny P .any ops Q (fuel + 1) b a w := by
  have hon : ∀ (i : Nat) (oi : Oper), ops[i]? = some oi → ∀ e ∈ oi.after, e.on ≠ n := fun i oi hi e he => by
    have h1 := sorted_spec hso i oi hi e he
    have h2 := (Array.getElem?_eq_some_iff.1 hi).1
    omega
  intro fuel
  induction fuel with
  | zero =>
    intro b a w hs hn h
    refine ⟨fun hr => ?_, fun i hi => ?_⟩
    · have := ready_all (ops := ops) (by omega) (sorted_spec hso) hr n (by omega)
      rw [hn] at this; cases this
    · by_cases hin : i = n
      · subst hin
        have h1 : wpOp P ops Q i (fun a' w' => Q .normal a' w') a w := h.2
        refine wpOp_mono (fun a' w' h' => ⟨?_, h'⟩) h1
        exact h.1
      · exfalso
        have h2 : i ∈ Region.ready .any ops (b.setIfInBounds n true) := ready_mono hi hin
        rw [h.1] at h2; cases h2
  | succ fuel ih =>
    intro b a w hs hn h
    refine ⟨fun hr => ?_, fun i hi => ?_⟩
    · have := ready_all (ops := ops) (by omega) (sorted_spec hso) hr n (by omega)
      rw [hn] at this; cases this
    · by_cases hin : i = n
      · subst hin
        have hall : Region.ready .any ops (b.setIfInBounds i true) = [] := by
          rw [List.eq_nil_iff_forall_not_mem]
          intro j hj
          obtain ⟨h2, oj, h3, -⟩ := mem_ready.1 hj
          have hlt := (Array.getElem?_eq_some_iff.1 h3).1
          by_cases hji : j = i
          · subst hji
            rw [Array.getD_eq_getD_getElem?, Array.getElem?_setIfInBounds_self_of_lt (by omega)] at h2
            simp at h2
          · obtain ⟨e, he, hbd, heo⟩ := hb j (by omega)
            have h4 := ready_after hi ho e he hbd
            rw [heo, getD_in (by omega) false true, ← getD_set_ne (listed := b) true (fun h => hji h.symm)] at h4
            rw [h4] at h2; cases h2
        have h1 : wpOp P ops Q i (fun a' w' => Q .normal a' w') a w := h.1 hall
        exact wpOp_mono (fun a' w' h' => wpAny_end hall h' _) h1
      · have h2 : i ∈ Region.ready .any ops (b.setIfInBounds n true) := ready_mono hi hin
        have h3 := lastQ_op (h.2 i h2)
        refine wpOp_mono (fun a' w' h' => ih (b.setIfInBounds i true) a' w' (by rw [Array.size_setIfInBounds]; exact hs) (by rw [getD_set_ne (listed := b) true hin]; exact hn) ?_) h3
        rw [Array.setIfInBounds_comm _ _ hin]
        exact h'
/-- the last operation waits for all others -/
def waits (ops : Array Oper) (n : Nat) : Bool := match ops[n]? with | some o => (List.range n).all fun j => o.after.toList.any fun e => Region.binds .any e && e.on == j | none => false
/-- **a region whose last operation comes last**: a condition S on the world is asked behind the others alone -/
theorem wp_region_last {id : Nat} {a : Act} {w : World} {S : World → Prop} (n : Nat) (hm : P.follows .mixedOrders = true) (hso : sorted ops = true) (hsz : ops.size = n + 1) (hw : waits ops n = true)
    (h : wpAnyH P .any ops (lastQ P ops Q n) S n ((Array.replicate ops.size false).setIfInBounds n true) a w.drew) : (Code.region id ops true).wp P Q a w := by
  refine wp_region_any hm ?_
  have ho : ∃ o, ops[n]? = some o := ⟨ops[n]'(by omega), Array.getElem?_eq_getElem _⟩
  obtain ⟨o, ho⟩ := ho
  rw [hsz]
  refine wpAny_last ho hsz hso (fun j hj => ?_) n _ a _ (by simp) (by simp [Array.getD_eq_getD_getElem?]) ?_
  · unfold waits at hw
    rw [ho] at hw
    simp only [List.all_eq_true] at hw
    have h1 := hw j (List.mem_range.2 hj)
    obtain ⟨e, he, h2⟩ := List.any_eq_true.1 h1
    simp only [Bool.and_eq_true, beq_iff_eq] at h2
    exact ⟨e, by simpa using he, h2.1, h2.2⟩
  · rw [hsz] at h
    exact wpAny_of_held _ _ _ _ h
end
end Go.Proofs.YtblpjjcjnaigiaaGreatDoor
