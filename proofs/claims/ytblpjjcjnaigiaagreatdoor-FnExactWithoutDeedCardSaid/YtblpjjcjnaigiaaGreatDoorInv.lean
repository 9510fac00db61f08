/- A region that draws its order, by what holds behind each set of operations. No program stands in it. -/
import Derived.Test.YtblpjjcjnaigiaaGreatDoorLib
import Derived.Deep.RegionHeld
namespace Go.Proofs.YtblpjjcjnaigiaaGreatDoor
open Go.RowKit

section
variable {P : Program} {ops : Array Oper} {Q : Exit → Act → World → Prop}
theorem wpOp_plain {i : Nat} {o : Oper} {K : Act → World → Prop} {a : Act} {w : World} (hi : ops[i]? = some o) (hg : o.guard = none) (h : o.wp P a w K Q) : wpOp P ops Q i K a w := by
  unfold wpOp
  simp only [hi]
  rw [if_pos (by simp [Region.wanted, hg])]
  exact .inl h
theorem getD_in {b : Array Bool} {i : Nat} (h : i < b.size) (d d' : Bool) : b.getD i d = b.getD i d' := by simp [Array.getD, h]
/-- operations that wait only for earlier ones: where none may come up, all have come up -/
theorem ready_all {md : Region.Mode} {b : Array Bool} (hs : b.size = ops.size) (hso : ∀ (i : Nat) (o : Oper), ops[i]? = some o → ∀ e ∈ o.after, e.on < i) (h : Region.ready md ops b = []) : ∀ i, i < ops.size → b.getD i true = true := by
  intro i
  induction i using Nat.strongRecOn with
  | _ i ih =>
    intro hi
    cases hb : b.getD i true with
    | true => rfl
    | false =>
      have hm : i ∈ Region.ready md ops b := mem_ready.2 ⟨hb, ops[i], Array.getElem?_eq_getElem hi, fun e he _ => by
        have hlt := hso i ops[i] (Array.getElem?_eq_getElem hi) e he
        rw [getD_in (by omega) false true]
        exact ih e.on hlt (by omega)⟩
      rw [h] at hm
      cases hm
def offs (b : Array Bool) : Nat := ((List.range b.size).filter fun i => !b.getD i true).length
theorem offs_set {b : Array Bool} {i : Nat} (hi : i < b.size) (h : b.getD i true = false) : offs (b.setIfInBounds i true) < offs b := by
  unfold offs
  rw [Array.size_setIfInBounds]
  have key : ∀ l : List Nat, i ∈ l → ((l.filter fun j => !(b.setIfInBounds i true).getD j true).length < (l.filter fun j => !b.getD j true).length) ∧ True := by
    intro l
    induction l with
    | nil => intro h; cases h
    | cons j l ih =>
      intro hm
      have hle : ∀ m : List Nat, (m.filter fun j => !(b.setIfInBounds i true).getD j true).length ≤ (m.filter fun j => !b.getD j true).length := by
        intro m
        induction m with
        | nil => simp
        | cons k m ihm =>
          by_cases hk : i = k
          · subst hk
            rw [List.filter_cons_of_neg (by simp [hi]), List.filter_cons_of_pos (by simp [h])]
            simp only [List.length_cons]; omega
          · have e := getD_set_ne (listed := b) true hk
            rcases hbk : b.getD k true with _ | _
            · rw [List.filter_cons_of_pos (by rw [e, hbk]; rfl), List.filter_cons_of_pos (by rw [hbk]; rfl)]
              simp only [List.length_cons]; omega
            · rw [List.filter_cons_of_neg (by rw [e, hbk]; simp), List.filter_cons_of_neg (by rw [hbk]; simp)]
              exact ihm
      by_cases hk : i = j
      · subst hk
        rw [List.filter_cons_of_neg (by simp [hi]), List.filter_cons_of_pos (by simp [h])]
        have := hle l
        exact ⟨by simp only [List.length_cons]; omega, trivial⟩
      · have hml : i ∈ l := by
          rcases List.mem_cons.1 hm with h1 | h1
          · exact absurd h1 hk
          · exact h1
        have e := getD_set_ne (listed := b) true hk
        have := (ih hml).1
        rcases hbk : b.getD j true with _ | _
        · rw [List.filter_cons_of_pos (by rw [e, hbk]; rfl), List.filter_cons_of_pos (by rw [hbk]; rfl)]
          exact ⟨by simp only [List.length_cons]; omega, trivial⟩
        · rw [List.filter_cons_of_neg (by rw [e, hbk]; simp), List.filter_cons_of_neg (by rw [hbk]; simp)]
          exact ⟨this, trivial⟩
  exact (key _ (List.mem_range.2 hi)).1
theorem wpAny_inv {md : Region.Mode} (I : Array Bool → Act → World → Prop)
    (hstep : ∀ b a w i, I b a w → i ∈ Region.ready md ops b → wpOp P ops Q i (fun a' w' => I (b.setIfInBounds i true) a' w') a w)
    (hend : ∀ b a w, I b a w → b.size = ops.size → Region.ready md ops b = [] → Q .normal a w) :
    ∀ (fuel : Nat) (b : Array Bool) (a : Act) (w : World), b.size = ops.size → offs b ≤ fuel → I b a w → wpAny P md ops Q fuel b a w
  | 0, b, a, w, hs, ho, h => by
    have hr : Region.ready md ops b = [] := by
      rw [List.eq_nil_iff_forall_not_mem]
      intro i hi
      have h1 := (mem_ready.1 hi)
      obtain ⟨h2, o, h3, -⟩ := h1
      have hlt := (Array.getElem?_eq_some_iff.1 h3).1
      have := offs_set (by omega) h2
      omega
    exact ⟨hr, hend b a w h hs hr⟩
  | fuel + 1, b, a, w, hs, ho, h => by
    refine ⟨fun hr => hend b a w h hs hr, fun i hi => ?_⟩
    have h1 := (mem_ready.1 hi)
    obtain ⟨h2, o, h3, -⟩ := h1
    have hlt := (Array.getElem?_eq_some_iff.1 h3).1
    have h4 := offs_set (by omega) h2
    exact wpOp_mono (fun a' w' h' => wpAny_inv I hstep hend fuel _ a' w' (by rw [Array.size_setIfInBounds]; exact hs) (by omega) h') (hstep b a w i h hi)
theorem ready_edge {md : Region.Mode} {b : Array Bool} {k : Nat} {o : Oper} (hk : k ∈ Region.ready md ops b) (ho : ops[k]? = some o) (j : Nat) {e : Edge} (he : o.after[j]? = some e) (hb : Region.binds md e = true) : b.getD e.on false = true := by
  obtain ⟨-, o', ho', hall⟩ := mem_ready.1 hk
  rw [ho] at ho'
  obtain rfl := Option.some.inj ho'
  exact hall e (Array.mem_of_getElem? he) hb
def sorted (ops : Array Oper) : Bool := (List.range ops.size).all fun i => match ops[i]? with | some o => o.after.toList.all (fun e => decide (e.on < i)) | none => true
theorem sorted_spec (h : sorted ops = true) : ∀ (i : Nat) (o : Oper), ops[i]? = some o → ∀ e ∈ o.after, e.on < i := fun i o ho e he => by
  unfold sorted at h
  rw [List.all_eq_true] at h
  have h1 := h i (List.mem_range.2 (Array.getElem?_eq_some_iff.1 ho).1)
  rw [ho] at h1
  simp only [List.all_eq_true] at h1
  simpa using h1 e (by simpa using he)
theorem ready_after {md : Region.Mode} {b : Array Bool} {k : Nat} {o : Oper} (hk : k ∈ Region.ready md ops b) (ho : ops[k]? = some o) : ∀ e ∈ o.after, Region.binds md e = true → b.getD e.on false = true := by
  obtain ⟨-, o', ho', hall⟩ := mem_ready.1 hk
  rw [ho] at ho'
  obtain rfl := Option.some.inj ho'
  exact hall
/-- **a region by an invariant over the operations that have come up** -/
theorem wp_region_inv {id : Nat} {a : Act} {w : World} (hm : P.follows .mixedOrders = true) (hso : sorted ops = true)
    (I : Array Bool → Act → World → Prop) (h0 : I (Array.replicate ops.size false) a w.drew)
    (hstep : ∀ b a w i, I b a w → i ∈ Region.ready .any ops b → wpOp P ops Q i (fun a' w' => I (b.setIfInBounds i true) a' w') a w)
    (hend : ∀ b a w, I b a w → (∀ i, i < ops.size → b.getD i true = true) → Q .normal a w) : (Code.region id ops true).wp P Q a w :=
  wp_region_any hm (wpAny_inv I hstep (fun b a w h hs hr => hend b a w h (ready_all hs (sorted_spec hso) hr)) _ _ _ _ (by simp) (by
    unfold offs
    refine Nat.le_trans (List.length_filter_le _ _) ?_
    simp) h0)
end
end Go.Proofs.YtblpjjcjnaigiaaGreatDoor
