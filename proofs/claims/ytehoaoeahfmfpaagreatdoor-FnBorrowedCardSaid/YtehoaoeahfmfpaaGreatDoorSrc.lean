/- The source of numbers behind steps that leave it alone; stores into new blocks. -/
import Derived.Test.YtehoaoeahfmfpaaGreatDoorDraw
import Derived.Deep.AppendLies
namespace Go.Proofs.YtehoaoeahfmfpaaGreatDoor
open Go.RowKit Go.Sort

theorem Src.up {w w' : World} {g c lo : Nat} {A : Option Addr} {L : List UInt8} (h : Src w g A L c lo) (hu : Up w w') (hg : g < w.heap.size) : Src w' g A L c lo := by
  obtain ⟨a, s, h1, h2, h3, h4, h5, h6, h7, h8⟩ := h
  exact ⟨a, s, h1, h2, hu.cell h3, hu.cell h4, hu.cell h5, (Below.frozen hu (p := ⟨g, 1, none⟩) hg).trans h6, (Below.frozen hu (p := ⟨g, 2, none⟩) hg).trans h7, h8.up hu (Nat.le_of_lt hg)⟩
theorem three {z : Int} (h0 : 0 ≤ z) (h : z < 3) : z = 0 ∨ z = 1 ∨ z = 2 := by omega

theorem Mk.frozen {b0 b1 : Nat} {w w' : World} (m : Mk b0 b1 w w') {p : Addr} (hlt : p.block < w.heap.size) (hd : p.block < b0 ∨ b1 ≤ p.block) : w'.frozen? p = w.frozen? p := by
  induction m with
  | refl => rfl
  | step m hg hb ih =>
    refine (hg.frozen_far p (Nat.lt_of_lt_of_le hlt m.size) (fun e => ?_)).trans ih
    have := hb _ e.symm; omega
theorem two {z : Int} (h0 : 0 ≤ z) (h : z < 2) : z = 0 ∨ z = 1 := by omega

/-- Mk of one block and growth by one block are one thing -/
theorem gr_mk {g : Nat} {w w' : World} (m : Mk g (g + 1) w w') : w.grownBy w' (some g) := by
  induction m with
  | refl => exact World.grownBy.refl w _
  | step m hg hb ih =>
    refine ih.trans ⟨hg.os, hg.tape, hg.output, hg.size, fun k hk hne => hg.block k hk (fun e => hne ?_)⟩
    have := hb _ e.symm
    rw [show k = g by omega]
theorem mk_gr {g : Nat} {w w' : World} (h : w.grownBy w' (some g)) : Mk g (g + 1) w w' :=
  Mk.refl.step (v := .slice (some ⟨g, 0, none⟩) 0 0) h (fun b hb => by simp [Value.ownBlock] at hb; omega)
/-- a store into a block that is new -/
theorem gr_store {g : Nat} {w w' : World} (h : w.grownBy w' (some g)) (p : Addr) (u : Value) (hp : w.heap.size ≤ p.block) : w.grownBy (w'.setCell p u) (some g) :=
  ⟨h.os, h.tape, h.output, by simp; exact h.size, fun k hk hne => (Below.heap_setCell w' p u k (by omega)).trans (h.block k hk hne)⟩
theorem Src.store {w : World} {g c lo : Nat} {A : Option Addr} {L : List UInt8} (h : Src w g A L c lo) (p : Addr) (u : Value) (hp : g < p.block) : Src (w.setCell p u) g A L c lo := by
  obtain ⟨a, s, h1, h2, h3, h4, h5, h6, h7, h8⟩ := h
  have hc : ∀ q : Addr, q.block ≤ g → (w.setCell p u).cell? q = w.cell? q := fun q hq => World.cell?_of_block (Below.heap_setCell w p u q.block (by omega))
  exact ⟨a, s, h1, h2, (hc ⟨g, 0, none⟩ (Nat.le_refl _)).trans h3, (hc ⟨g, 1, none⟩ (Nat.le_refl _)).trans h4, (hc ⟨g, 2, none⟩ (Nat.le_refl _)).trans h5, by rw [World.frozen?_setCell]; exact h6, by rw [World.frozen?_setCell]; exact h7, h8.keep fun q _ hq => hc q (by omega)⟩

theorem gr_row {w w1 w2 : World} {g : Nat} {v : Value} (h : w.grownBy w1 (some g)) (hg : w1.grownBy w2 v.ownBlock) (hb : ∀ b, v.ownBlock = some b → w.heap.size ≤ b) : w.grownBy w2 (some g) :=
  ⟨hg.os.trans h.os, hg.tape.trans h.tape, hg.output.trans h.output, Nat.le_trans h.size hg.size, fun k hk hne => (hg.block k (Nat.lt_of_lt_of_le hk h.size) (fun e => by have := hb k e.symm; omega)).trans (h.block k hk hne)⟩
theorem gr_up {w w1 w2 : World} {g : Nat} (h : w.grownBy w1 (some g)) (hu : Up w1 w2) : w.grownBy w2 (some g) := gr_mk ((mk_gr h).trans (Mk.up hu))
theorem own_gr {w w' : World} {base g : Nat} {e : TypeId} {size : Nat} {v : Value} {n : Nat} {xs : List Value} (h : w.ownsRow base e size v n xs) (hg : w.grownBy w' (some g)) (hlt : g < base) : w'.ownsRow base e size v n xs :=
  h.kept hg (by
    rcases hv : v.ownBlock with _ | b
    · exact .inl rfl
    · refine .inr fun e => ?_
      have h1 := h.lt b hv
      cases e; omega)
theorem Src.row {w w' : World} {base g c lo : Nat} {A : Option Addr} {L : List UInt8} {e : TypeId} {size n : Nat} {v : Value} {xs : List Value} (h : Src w g A L c lo) (hown : w.ownsRow base e size v n xs) (hg : w.grownBy w' v.ownBlock) (hlt : g < base) (hgs : g < w.heap.size) : Src w' g A L c lo := by
  obtain ⟨a, s, h1, h2, h3, h4, h5, h6, h7, h8⟩ := h
  have hne : ∀ k : Nat, k ≤ g → some k ≠ v.ownBlock := fun k hk e => by have := hown.lt k e.symm; omega
  exact ⟨a, s, h1, h2, hg.cell h3 (hne g (Nat.le_refl _)), hg.cell h4 (hne g (Nat.le_refl _)), hg.cell h5 (hne g (Nat.le_refl _)), (World.frozen?_of_block (a := ⟨g, 1, none⟩) (hg.block g hgs (hne g (Nat.le_refl _)))).trans h6, (World.frozen?_of_block (a := ⟨g, 2, none⟩) (hg.block g hgs (hne g (Nat.le_refl _)))).trans h7,
    h8.keep fun q _ hq => World.cell?_of_block (hg.block q.block (by omega) (hne q.block (by omega)))⟩
theorem own_other {w w' : World} {base : Nat} {e : TypeId} {size n : Nat} {v : Value} {xs : List Value} {row : Option Nat} (h : w.ownsRow base e size v n xs) (hg : w.grownBy w' row) (hne : ∀ b, v.ownBlock = some b → row ≠ some b) : w'.ownsRow base e size v n xs :=
  h.kept hg (by
    rcases hv : v.ownBlock with _ | b
    · exact .inl rfl
    · exact .inr fun e => hne b hv e.symm)
theorem own_formz {w : World} {base : Nat} {e : TypeId} {size n : Nat} {v : Value} {xs : List Value} (h : w.ownsRow base e size v n xs) : ∃ A c, v = .slice A n c ∧ n ≤ c ∧ c ≤ maxLen ∧ (A = none → c = 0) := by
  obtain ⟨A, c, rfl, h1, h2, -, -⟩ := own_form h
  refine ⟨A, c, rfl, h1, h2, fun ha => ?_⟩
  rcases h.2 with ⟨hv, -⟩ | ⟨g, cap, cur, hv, -⟩
  · simp only [Value.slice.injEq] at hv; exact hv.2.2
  · simp only [Value.slice.injEq] at hv; rw [ha] at hv; cases hv.1

end Go.Proofs.YtehoaoeahfmfpaaGreatDoor
