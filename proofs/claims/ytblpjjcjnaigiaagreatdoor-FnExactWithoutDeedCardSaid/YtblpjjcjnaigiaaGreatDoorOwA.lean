/- Many slices of the call's own, no two in one block, and steps that write into them. No program stands in it. -/
import Derived.Test.YtblpjjcjnaigiaaGreatDoorLib
namespace Go.Proofs.YtblpjjcjnaigiaaGreatDoor
open Go.RowKit

/-- a slice of the call's own: its element type, cells per element, the slice, how many, its cells -/
structure Rw where
  e : TypeId
  sz : Nat
  v : Value
  n : Nat
  xs : List Value
def Rw.own (w : World) (base : Nat) (r : Rw) : Prop := w.ownsRow base r.e r.sz r.v r.n r.xs
def Ap (a b : Rw) : Prop := ∀ g, a.v.ownBlock = some g → b.v.ownBlock ≠ some g
theorem Ap.symm {a b : Rw} (h : Ap a b) : Ap b a := fun g hg e => h g e hg
structure OwA (w : World) (base : Nat) (L : List Rw) : Prop where
  each : ∀ r ∈ L, r.own w base
  ap : L.Pairwise Ap
theorem OwA.nil_ (w : World) (base : Nat) : OwA w base [] := ⟨by simp, .nil⟩
theorem OwA.up {w w' : World} {base : Nat} {L : List Rw} (h : OwA w base L) (u : Up w w') : OwA w' base L := ⟨fun r hr => own_up (h.each r hr) u, h.ap⟩
theorem OwA.base {w : World} {b b' : Nat} {L : List Rw} (h : OwA w b L) (k : b' ≤ b) : OwA w b' L := ⟨fun r hr => own_base (h.each r hr) k, h.ap⟩
theorem OwA.put {w : World} {b : Nat} {L : List Rw} (h : OwA w b L) {p : Addr} (hp : p.block < b) (v : Value) : OwA (w.setCell p v) b L := ⟨fun r hr => ownsRow_setCell_below (h.each r hr) hp v, h.ap⟩
theorem OwA.lt {w : World} {base : Nat} {L : List Rw} (h : OwA w base L) {r : Rw} (hr : r ∈ L) {g : Nat} (hg : r.v.ownBlock = some g) : base ≤ g ∧ g < w.heap.size := (h.each r hr).lt g hg
theorem OwA.sub {w : World} {base : Nat} {L M : List Rw} (h : OwA w base L) (s : M.Sublist L) : OwA w base M := ⟨fun r hr => h.each r (s.subset hr), h.ap.sublist s⟩
theorem OwA.left {w : World} {base : Nat} {L M : List Rw} (h : OwA w base (L ++ M)) : OwA w base L := h.sub (List.sublist_append_left L M)
theorem OwA.right {w : World} {base : Nat} {L M : List Rw} (h : OwA w base (L ++ M)) : OwA w base M := h.sub (List.sublist_append_right L M)
theorem OwA.one {w : World} {base : Nat} {r : Rw} (h : r.own w base) : OwA w base [r] := ⟨by simpa using h, by simp⟩
/-- slices that came later lie in later blocks -/
theorem OwA.append {w w' : World} {base : Nat} {L M : List Rw} (h : OwA w base L) (u : Up w w') (hb : base ≤ w.heap.size) (k : OwA w' w.heap.size M) : OwA w' base (L ++ M) := by
  refine ⟨fun r hr => ?_, List.pairwise_append.2 ⟨h.ap, k.ap, fun a ha b hb' g hg e => ?_⟩⟩
  · rcases List.mem_append.1 hr with h1 | h1
    · exact own_up (h.each r h1) u
    · exact own_base (k.each r h1) hb
  · have h1 := (h.lt ha hg).2
    have h2 := (k.lt hb' e).1
    omega
theorem OwA.perm {w : World} {base : Nat} {L M : List Rw} (h : OwA w base L) (p : L.Perm M) : OwA w base M := ⟨fun r hr => h.each r (p.mem_iff.2 hr), (p.pairwise_iff (fun hab => Ap.symm hab)).1 h.ap⟩

/-- the slices L have become L': the same slices with other cells; nothing else that was there has changed -/
structure MkA (w w' : World) (L L' : List Rw) : Prop where
  os : w'.os = w.os
  tape : w'.tape = w.tape
  output : w'.output = w.output
  size : w.heap.size ≤ w'.heap.size
  block : ∀ g, g < w.heap.size → (∀ r ∈ L, r.v.ownBlock ≠ some g) → w'.heap[g]? = w.heap[g]?
  same : L'.map (·.v) = L.map (·.v)
  each : ∀ base, OwA w base L → ∀ r ∈ L', r.own w' base
theorem pair_same {L L' : List Rw} (h : L'.map (·.v) = L.map (·.v)) (k : L.Pairwise Ap) : L'.Pairwise Ap := by
  have h1 : (L.map (·.v)).Pairwise (fun a b => ∀ g, a.ownBlock = some g → b.ownBlock ≠ some g) := List.pairwise_map.2 k
  rw [← h] at h1
  have h2 : L'.Pairwise (fun a b => ∀ g, a.v.ownBlock = some g → b.v.ownBlock ≠ some g) := List.pairwise_map.1 h1
  exact h2
theorem MkA.own {w w' : World} {L L' : List Rw} (m : MkA w w' L L') {base : Nat} (h : OwA w base L) : OwA w' base L' := ⟨m.each base h, pair_same m.same h.ap⟩
theorem MkA.refl (w : World) (L : List Rw) : MkA w w L L := ⟨rfl, rfl, rfl, Nat.le_refl _, fun _ _ _ => rfl, rfl, fun _ h r hr => h.each r hr⟩
theorem MkA.up {w w' : World} {L : List Rw} (u : Up w w') : MkA w w' L L := ⟨u.os, u.tape, u.output, u.size, fun g hg _ => u.block g hg, rfl, fun _ h r hr => own_up (h.each r hr) u⟩
theorem mem_same {L L' : List Rw} (h : L'.map (·.v) = L.map (·.v)) {r : Rw} (hr : r ∈ L') : ∃ r0 ∈ L, r0.v = r.v := by
  have h1 : r.v ∈ L.map (·.v) := by rw [← h]; exact List.mem_map_of_mem hr
  obtain ⟨r0, h0, e⟩ := List.mem_map.1 h1
  exact ⟨r0, h0, e⟩
theorem MkA.trans {w w1 w2 : World} {L L1 L2 : List Rw} (m : MkA w w1 L L1) (k : MkA w1 w2 L1 L2) : MkA w w2 L L2 :=
  ⟨k.os.trans m.os, k.tape.trans m.tape, k.output.trans m.output, Nat.le_trans m.size k.size, fun g hg hn => by
    rw [k.block g (Nat.lt_of_lt_of_le hg m.size) (fun r hr e => by
      obtain ⟨r0, h0, e0⟩ := mem_same m.same hr
      exact hn r0 h0 (by rw [e0]; exact e)), m.block g hg hn], k.same.trans m.same, fun base h => k.each base (m.own h)⟩
theorem own_same {w w' : World} {base : Nat} {e : TypeId} {size : Nat} {v : Value} {n : Nat} {xs : List Value} (h : w.ownsRow base e size v n xs) (hb : ∀ g, v.ownBlock = some g → w'.heap[g]? = w.heap[g]?) : w'.ownsRow base e size v n xs := by
  refine ⟨h.1, ?_⟩
  rcases h.2 with hn | ⟨g, cap, cur, rfl, hg, hh, rest⟩
  · exact .inl hn
  · refine .inr ⟨g, cap, cur, rfl, hg, ?_, rest⟩
    rw [hb g rfl]; exact hh
/-- a step on some slices is a step on more -/
theorem MkA.frame {w w' : World} {L L' : List Rw} (m : MkA w w' L L') (P R : List Rw) : MkA w w' (P ++ L ++ R) (P ++ L' ++ R) :=
  ⟨m.os, m.tape, m.output, m.size, fun g hg hn => m.block g hg (fun r hr => hn r (by simp [hr])), by simp [m.same], fun base h r hr => by
    have keep : ∀ r ∈ P ++ L ++ R, (∀ q ∈ L, ∀ g, r.v.ownBlock = some g → q.v.ownBlock ≠ some g) → r.own w' base := fun r hr hq =>
      own_same (h.each r hr) (fun g hg => m.block g (h.lt hr hg).2 (fun q hqL => hq q hqL g hg))
    obtain ⟨hPL, -, hPLR⟩ := List.pairwise_append.1 h.ap
    obtain ⟨-, -, hPL2⟩ := List.pairwise_append.1 hPL
    rcases List.mem_append.1 hr with h1 | h1
    · rcases List.mem_append.1 h1 with h2 | h2
      · exact keep r (by simp [h2]) (fun q hq => hPL2 r h2 q hq)
      · exact m.each base (h.left.right) r h2
    · exact keep r (by simp [h1]) (fun q hq g hg e => hPLR q (by simp [hq]) r h1 g e hg)⟩
theorem MkA.left {w w' : World} {L L' : List Rw} (m : MkA w w' L L') (R : List Rw) : MkA w w' (L ++ R) (L' ++ R) := by simpa using m.frame [] R
theorem MkA.right {w w' : World} {L L' : List Rw} (m : MkA w w' L L') (P : List Rw) : MkA w w' (P ++ L) (P ++ L') := by simpa using m.frame P []
theorem MkA.both {w w1 w2 : World} {L L' M M' : List Rw} (m : MkA w w1 L L') (k : MkA w1 w2 M M') : MkA w w2 (L ++ M) (L' ++ M') := (m.left M).trans (k.right L')
/-- one slice's cells were written -/
theorem MkA.leaf {w w' : World} {base : Nat} {r : Rw} {ys : List Value} (_h : r.own w base) (h' : w'.ownsRow base r.e r.sz r.v r.n ys) (hg : w.grownBy w' r.v.ownBlock) : MkA w w' [r] [⟨r.e, r.sz, r.v, r.n, ys⟩] :=
  ⟨hg.os, hg.tape, hg.output, hg.size, fun g hl hn => hg.block g hl (fun e => hn r (by simp) e.symm), rfl, fun b hb q hq => by
    simp only [List.mem_singleton] at hq
    subst hq
    have h1 : r.own w b := hb.each r (by simp)
    refine ⟨h'.1, ?_⟩
    rcases h'.2 with hn | ⟨g, cap, cur, hv, -, rest⟩
    · exact .inl hn
    · exact .inr ⟨g, cap, cur, hv, (World.ownsRow.lt h1 g (by rw [hv]; rfl)).1, rest⟩⟩
theorem Up.trans_below {a b c : World} (h : Up a b) (k : Below a.heap.size b c) : Up a c := Below.trans h k
theorem Up.mka {a w w' : World} {base : Nat} {L L' : List Rw} (h : Up a w) (m : MkA w w' L L') (o : OwA w base L) (hb : a.heap.size ≤ base) : Up a w' :=
  h.trans_below ⟨m.os, m.tape, m.output, m.size, fun g hg => m.block g (Nat.lt_of_lt_of_le hg h.size) (fun r hr e => by have := (o.lt hr e).1; omega)⟩
/-- a cell outside the slices -/
theorem MkA.cell {w w' : World} {base : Nat} {L L' : List Rw} (m : MkA w w' L L') (o : OwA w base L) {p : Addr} {v : Value} (h : w.cell? p = some v) (hp : p.block < base) : w'.cell? p = some v := by
  rw [World.cell?_of_block (m.block p.block (block_lt_of_cell h) (fun r hr e => by have := (o.lt hr e).1; omega))]; exact h
end Go.Proofs.YtblpjjcjnaigiaaGreatDoor
