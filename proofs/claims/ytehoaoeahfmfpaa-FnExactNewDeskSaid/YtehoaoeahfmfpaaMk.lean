/- Steps that change only blocks of a span of the heap: marks. -/
import Derived.Test.YtehoaoeahfmfpaaProg
import Derived.Test.YtehoaoeahfmfpaaLib
import Derived.Test.YtehoaoeahfmfpaaInts
namespace Go.Proofs.Ytehoaoeahfmfpaa
open Go.RowKit Go.Sort

/-- steps that each change one block of [b0, b1) and make new ones -/
inductive Mk (b0 b1 : Nat) (w : World) : World → Prop
  | refl : Mk b0 b1 w w
  | step {w1 w2 : World} {v : Value} (h : Mk b0 b1 w w1) (hg : w1.grownBy w2 v.ownBlock) (hb : In v b0 b1) : Mk b0 b1 w w2
theorem Mk.size {b0 b1 : Nat} {w w' : World} (h : Mk b0 b1 w w') : w.heap.size ≤ w'.heap.size := by
  induction h with
  | refl => exact Nat.le_refl _
  | step h hg hb ih => exact Nat.le_trans ih hg.size
theorem Mk.rd {α : Type} {w w' : World} {lo hi size : Nat} {f : α → List Value} {A : Option Addr} {l : List α} {b0 b1 : Nat} (m : Mk b0 b1 w w') (h : Rd w lo hi size f A l) (hhi : hi ≤ w.heap.size) (hd : hi ≤ b0 ∨ b1 ≤ lo) : Rd w' lo hi size f A l := by
  induction m with
  | refl => exact h
  | step m hg hb ih => exact Rd.grown ih hg (Nat.le_trans hhi m.size) hb hd
theorem Mk.own {w w' : World} {base : Nat} {e : TypeId} {size : Nat} {v' : Value} {n : Nat} {xs : List Value} {b0 b1 b0' b1' : Nat} (m : Mk b0 b1 w w') (h : w.ownsRow base e size v' n xs) (hb' : In v' b0' b1') (hd : b1' ≤ b0 ∨ b1 ≤ b0') : w'.ownsRow base e size v' n xs := by
  induction m with
  | refl => exact h
  | step m hg hb ih => exact own_grown ih hg hb hb' hd
theorem Up.mk {a w w' : World} {b0 b1 : Nat} (h : Up a w) (m : Mk b0 b1 w w') (hd : a.heap.size ≤ b0) : Up a w' := by
  induction m with
  | refl => exact h
  | step m hg hb ih => exact ih.marked hg hb hd

theorem Mk.cell {b0 b1 : Nat} {w w' : World} (m : Mk b0 b1 w w') {p : Addr} {v : Value} (h : w.cell? p = some v) (hd : p.block < b0 ∨ b1 ≤ p.block) : w'.cell? p = some v := by
  induction m with
  | refl => exact h
  | step m hg hb ih =>
    refine (World.cell?_of_block (hg.block p.block ?_ (fun e => ?_))).trans ih
    · exact Nat.lt_of_lt_of_le (block_lt_of_cell h) m.size
    · have := hb _ e.symm; omega
theorem Mk.trans {b0 b1 : Nat} {a w w' : World} (h : Mk b0 b1 a w) (k : Mk b0 b1 w w') : Mk b0 b1 a w' := by
  induction k with
  | refl => exact h
  | step _ hg hb ih => exact ih.step hg hb
theorem Mk.up {b0 b1 : Nat} {w w' : World} (h : Up w w') : Mk b0 b1 w w' :=
  Mk.refl.step (v := .slice none 0 0) (World.grownBy.but (a := _) ⟨h.os, h.tape, h.output, h.size, fun i hi _ => h.block i hi⟩ _) (fun b hb => by simp [Value.ownBlock] at hb)
end Go.Proofs.Ytehoaoeahfmfpaa
