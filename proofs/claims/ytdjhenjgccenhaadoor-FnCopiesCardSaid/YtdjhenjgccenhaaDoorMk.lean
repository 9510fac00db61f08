/- Steps that change only blocks of a span of the heap: marks. -/
import Derived.Test.YtdjhenjgccenhaaDoorProg
import Derived.Test.YtdjhenjgccenhaaDoorLib
import Derived.Test.YtdjhenjgccenhaaDoorInts
namespace Go.Proofs.YtdjhenjgccenhaaDoor
open Go.RowKit Go.Sort

set_option maxHeartbeats 1000000 in
theorem markIntW_any (A : Option Addr) (n c base : Nat) (xs : List Value) (k : Int) (w : World) (hown : w.ownsRow base 2 1 (.slice A n c) n xs) (hn : n ≤ 2000000) (h0 : 0 ≤ k) (hk : k ≤ 100000000) :
    Calls Tryd.prog 26 #[.slice A n c, .int .i64 k] w fun e w' => e = .returned (.int .i64 (k + n)) ∧ w'.ownsRow base 2 1 (.slice A n c) n ((mkI k n).flatMap intCells) ∧ w.grownBy w' (Value.slice A n c).ownBlock := by
  go_enter Tryd.func26, Tryd.ntmps26
  go_wp2
  go_loopw [1, 5] (fun q i wr => ∃ j : Nat, ∃ ys, j ≤ n ∧ i = .int .i64 j ∧ q = .int .i64 (k + j) ∧ wr.ownsRow base 2 1 (.slice A n c) n ys ∧ ys.take j = ((mkI k n).take j).flatMap intCells ∧ w.grownBy wr (Value.slice A n c).ownBlock) (fun _ i _ => n - (intOf i).toNat)
  case atStart => exact ⟨0, xs, Nat.zero_le _, rfl, by simp, hown, by simp, World.grownBy.refl w _⟩
  case round =>
    obtain ⟨j, ys, hj, rfl, rfl, hown, hys, hg⟩ := hrel
    have HY := Lib.hid hys
    have HG := Lib.hid hg
    clear hys hg
    by_cases hlt : j < n
    · obtain ⟨A', c', hv, -, -, hA, -⟩ := own_form hown
      simp only [Value.slice.injEq] at hv
      obtain ⟨rfl, -, rfl⟩ := hv
      obtain ⟨g, rfl, -, -⟩ := hA (by omega)
      obtain ⟨u0, r0⟩ := own_cell hown (p := j) (by omega)
      have z0 := hown.frozenAt j
      go_wp2
      go_roundw
      case rel => exact ⟨j + 1, _, by omega, by go_num, by go_num, (hown.stored j _).1, by rw [take_set_succ (by rw [hown.1]; omega), HY.out, mkI_take hlt], HG.out.trans (hown.stored j _).2⟩
      case measure => simp [intOf]; omega
    · go_wp2
      go_ret
      have e : j = n := by omega
      subst e
      have hx := HY.out
      rw [List.take_of_length_le (by rw [hown.1]; omega), List.take_of_length_le (by rw [mkI_len]; exact Nat.le_refl _)] at hx
      subst hx
      exact ⟨rfl, hown, HG.out⟩


/-- steps that each change one block of [b0, b1) and make new ones -/
inductive Mk (b0 b1 : Nat) (w : World) : World → Prop
  | refl : Mk b0 b1 w w
  | step {w1 w2 : World} {v : Value} (h : Mk b0 b1 w w1) (hg : w1.grownBy w2 v.ownBlock) (hb : In v b0 b1) : Mk b0 b1 w w2
theorem Mk.size {b0 b1 : Nat} {w w' : World} (h : Mk b0 b1 w w') : w.heap.size ≤ w'.heap.size := by
  induction h with
  | refl => exact Nat.le_refl _
  | step h hg hb ih => exact Nat.le_trans ih hg.size
theorem Mk.rd {α : Type} {w w' : World} {lo hi size : Nat} {f : α → List Value} {A : Option Addr} {l : List α} {b0 b1 : Nat} (m : Mk b0 b1 w w') (h : Rd w lo hi size f A l) (hhi : hi ≤ w.heap.size) (hd : hi ≤ b0 ∨ b1 ≤ lo) : Rd w' lo hi size f A l := by
  induction m with
  | refl => exact h
  | step m hg hb ih => exact Rd.grown ih hg (Nat.le_trans hhi m.size) hb hd
theorem Mk.own {w w' : World} {base : Nat} {e : TypeId} {size : Nat} {v' : Value} {n : Nat} {xs : List Value} {b0 b1 b0' b1' : Nat} (m : Mk b0 b1 w w') (h : w.ownsRow base e size v' n xs) (hb' : In v' b0' b1') (hd : b1' ≤ b0 ∨ b1 ≤ b0') : w'.ownsRow base e size v' n xs := by
  induction m with
  | refl => exact h
  | step m hg hb ih => exact own_grown ih hg hb hb' hd
theorem Up.mk {a w w' : World} {b0 b1 : Nat} (h : Up a w) (m : Mk b0 b1 w w') (hd : a.heap.size ≤ b0) : Up a w' := by
  induction m with
  | refl => exact h
  | step m hg hb ih => exact ih.marked hg hb hd

theorem Mk.cell {b0 b1 : Nat} {w w' : World} (m : Mk b0 b1 w w') {p : Addr} {v : Value} (h : w.cell? p = some v) (hd : p.block < b0 ∨ b1 ≤ p.block) : w'.cell? p = some v := by
  induction m with
  | refl => exact h
  | step m hg hb ih =>
    refine (World.cell?_of_block (hg.block p.block ?_ (fun e => ?_))).trans ih
    · exact Nat.lt_of_lt_of_le (block_lt_of_cell h) m.size
    · have := hb _ e.symm; omega
theorem Mk.trans {b0 b1 : Nat} {a w w' : World} (h : Mk b0 b1 a w) (k : Mk b0 b1 w w') : Mk b0 b1 a w' := by
  induction k with
  | refl => exact h
  | step _ hg hb ih => exact ih.step hg hb
theorem Mk.up {b0 b1 : Nat} {w w' : World} (h : Up w w') : Mk b0 b1 w w' :=
  Mk.refl.step (v := .slice none 0 0) (World.grownBy.but (a := _) ⟨h.os, h.tape, h.output, h.size, fun i hi _ => h.block i hi⟩ _) (fun b hb => by simp [Value.ownBlock] at hb)
theorem markIntM_any (A : Option Addr) (n c base : Nat) (xs : List Value) (k : Int) (w : World) (hown : w.ownsRow base 2 1 (.slice A n c) n xs) (b0 b1 : Nat) (hb : In (.slice A n c) b0 b1) (hn : n ≤ 2000000) (h0 : 0 ≤ k) (hk : k ≤ 100000000) :
    Calls Tryd.prog 26 #[.slice A n c, .int .i64 k] w fun e w' => e = .returned (.int .i64 (k + n)) ∧ w'.ownsRow base 2 1 (.slice A n c) n ((mkI k n).flatMap intCells) ∧ Mk b0 b1 w w' :=
  (markIntW_any A n c base xs k w hown hn h0 hk).mono fun _ _ ⟨h1, h2, h3⟩ => ⟨h1, h2, Mk.refl.step h3 hb⟩
end Go.Proofs.YtdjhenjgccenhaaDoor
