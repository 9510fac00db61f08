/- What the plain laws share: codes that are too long, slices of the call's own. -/
import Derived.Test.YtehoaoeahfmfpaaGreatDoorProg
import Derived.Test.YtehoaoeahfmfpaaGreatDoorLib
namespace Go.Proofs.YtehoaoeahfmfpaaGreatDoor
open Go.RowKit Go.Sort

/-- a slice of the call's own, written out -/
theorem own_open {α : Type} {f : α → List Value} {size : Nat} (hf : ∀ x, (f x).length = size) {w : World} {base : Nat} {e : TypeId} {v : Value} {l : List α} (h : w.ownsRow base e size v l.length (l.flatMap f)) :
    ∃ A c, v = .slice A l.length c ∧ Rd w base w.heap.size size f A l ∧ l.length ≤ c ∧ c ≤ maxLen ∧ (A = none → c = 0) := by
  obtain ⟨A, c, rfl, h1, h2, -, -⟩ := own_form h
  refine ⟨A, c, rfl, Rd.own hf h, h1, h2, fun ha => ?_⟩
  rcases h.2 with ⟨hv, -⟩ | ⟨g, cap, cur, hv, -⟩
  · simp only [Value.slice.injEq] at hv; exact hv.2.2
  · simp only [Value.slice.injEq] at hv; rw [ha] at hv; cases hv.1
theorem big_any (A : Option Addr) (n c : Nat) (w : World) (_hn : n ≤ maxLen) :
    Calls Tryz.prog 17 #[.slice A n c] w fun e w' => e = .returned (.bool (decide ((4096 : Int) < (n : Int)))) ∧ w = w' := by
  unfold maxLen at _hn
  go_enter Tryz.func17, Tryz.ntmps17
  go_wp2
  go_ret
  exact ⟨rfl, rfl⟩
end Go.Proofs.YtehoaoeahfmfpaaGreatDoor
