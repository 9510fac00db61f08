/- Words on memory that all walks of this seat use: slices that read as lists, worlds that only grew. No program stands in it. -/
import Derived.WalkKit
import Derived.WalkSpells
import Derived.WalkLawsBesides
import Derived.Deep.QuietTactic
import Derived.BigQuiet
import Derived.Lib.QuietBelow
import Derived.Lib.Hide
namespace Go.Proofs.YtblpjjcjnaigiaaGreatDoor
open Go.RowKit

/-- Nothing that was there has changed; blocks may have come. -/
abbrev Up (w w' : World) : Prop := Below w.heap.size w w'

theorem Up.refl (w : World) : Up w w := Below.refl _ _
theorem Up.trans {a b c : World} (h : Up a b) (k : Up b c) : Up a c :=
  Below.trans h (Below.mono k h.size)
theorem Up.alloc (w : World) (o : Obj) : Up w (w.alloc o) := (Below.refl _ _).alloc (Nat.le_refl _) o
theorem Up.cell {w w' : World} (h : Up w w') {a : Addr} {v : Value} (hc : w.cell? a = some v) : w'.cell? a = some v := by
  rw [Below.cell h (block_lt_of_cell hc)]; exact hc

/-- A slice's elements x, each laid as the cells f x, in blocks from lo on and below hi. -/
def Rd {α : Type} (w : World) (lo hi size : Nat) (f : α → List Value) (A : Option Addr) (l : List α) : Prop :=
  l ≠ [] → ∃ b off, A = some ⟨b, off, none⟩ ∧ lo ≤ b ∧ b < hi ∧ ∀ i x, l[i]? = some x → ∀ j u, (f x)[j]? = some u → w.cell? ⟨b, off + i * size + j, none⟩ = some u

section
variable {α : Type} {w w' : World} {lo hi size : Nat} {f : α → List Value} {A : Option Addr} {l : List α}
theorem Rd.nil_ : Rd w lo hi size f A [] := fun h => absurd rfl h
theorem Rd.keep (h : Rd w lo hi size f A l) (hk : ∀ p : Addr, lo ≤ p.block → p.block < hi → w'.cell? p = w.cell? p) : Rd w' lo hi size f A l := fun hn => by
  obtain ⟨b, off, e, h1, h2, h3⟩ := h hn
  exact ⟨b, off, e, h1, h2, fun i x hx j u hu => (hk _ h1 h2).trans (h3 i x hx j u hu)⟩
theorem Rd.below {B : Nat} (h : Rd w lo hi size f A l) (hb : Below B w w') (hB : hi ≤ B) : Rd w' lo hi size f A l :=
  h.keep fun _ _ hp => hb.cell (Nat.lt_of_lt_of_le hp hB)
theorem Rd.up (h : Rd w lo hi size f A l) (hb : Up w w') (hB : hi ≤ w.heap.size) : Rd w' lo hi size f A l := h.below hb hB
theorem Rd.wide {lo' hi' : Nat} (h : Rd w lo hi size f A l) (h1 : lo' ≤ lo) (h2 : hi ≤ hi') : Rd w lo' hi' size f A l := fun hn => by
  obtain ⟨b, off, e, h3, h4, h5⟩ := h hn
  exact ⟨b, off, e, by omega, by omega, h5⟩
/-- element k, with its address written out -/
theorem Rd.at_ (h : Rd w lo hi size f A l) {k : Nat} (hk : k < l.length) : ∃ b off x, A = some ⟨b, off, none⟩ ∧ lo ≤ b ∧ b < hi ∧ l[k]? = some x ∧ ∀ j u, (f x)[j]? = some u → w.cell? ⟨b, off + k * size + j, none⟩ = some u := by
  obtain ⟨b, off, e, h1, h2, h3⟩ := h (by rintro rfl; simp at hk)
  exact ⟨b, off, l[k], e, h1, h2, List.getElem?_eq_getElem hk, h3 k _ (List.getElem?_eq_getElem hk)⟩
theorem Rd.drop {b off : Nat} (h : Rd w lo hi size f (some ⟨b, off, none⟩) l) (k : Nat) : Rd w lo hi size f (some ⟨b, off + k * size, none⟩) (l.drop k) := fun hn => by
  obtain ⟨b', off', e, h1, h2, h3⟩ := h (by rintro rfl; simp at hn)
  cases e
  refine ⟨b, off + k * size, rfl, h1, h2, fun i x hx j u hu => ?_⟩
  rw [List.getElem?_drop] at hx
  have := h3 _ x hx j u hu
  rwa [Nat.add_mul, show off + (k * size + i * size) + j = off + k * size + i * size + j by omega] at this
theorem Rd.take (h : Rd w lo hi size f A l) (k : Nat) : Rd w lo hi size f A (l.take k) := fun hn => by
  obtain ⟨b, off, e, h1, h2, h3⟩ := h (by rintro rfl; simp at hn)
  refine ⟨b, off, e, h1, h2, fun i x hx j u hu => h3 i x ?_ j u hu⟩
  rw [List.getElem?_take] at hx
  split at hx
  · exact hx
  · cases hx
end

/-- the cell at a list's place j, for a literal list of cells -/
theorem cell0 {w : World} {b o : Nat} {c : Value} {cs : List Value} (h : ∀ j u, (c :: cs)[j]? = some u → w.cell? ⟨b, o + j, none⟩ = some u) : w.cell? ⟨b, o, none⟩ = some c ∧ ∀ j u, cs[j]? = some u → w.cell? ⟨b, o + 1 + j, none⟩ = some u :=
  ⟨h 0 c rfl, fun j u hu => by have := h (j + 1) u hu; rwa [show o + (j + 1) = o + 1 + j by omega] at this⟩

theorem own_up {w w' : World} {base : Nat} {e : TypeId} {size : Nat} {v : Value} {n : Nat} {xs : List Value} (h : w.ownsRow base e size v n xs) (hu : Up w w') : w'.ownsRow base e size v n xs := by
  refine ⟨h.1, ?_⟩
  rcases h.2 with h2 | ⟨g, cap, cur, hv, hg, hh, r⟩
  · exact .inl h2
  · refine .inr ⟨g, cap, cur, hv, hg, ?_, r⟩
    have hlt : g < w.heap.size := by
      rcases Nat.lt_or_ge g w.heap.size with hlt | hge
      · exact hlt
      · rw [Array.getElem?_eq_none hge] at hh; cases hh
    rw [hu.block g hlt]; exact hh
theorem own_base {w : World} {base base' : Nat} {e : TypeId} {size : Nat} {v : Value} {n : Nat} {xs : List Value} (h : w.ownsRow base e size v n xs) (hb : base' ≤ base) : w.ownsRow base' e size v n xs := by
  refine ⟨h.1, ?_⟩
  rcases h.2 with h2 | ⟨g, cap, cur, hv, hg, r⟩
  · exact .inl h2
  · exact .inr ⟨g, cap, cur, hv, Nat.le_trans hb hg, r⟩
/-- the shape of an owned slice: nil, or a row's head -/
theorem own_form {w : World} {base : Nat} {e : TypeId} {size : Nat} {v : Value} {n : Nat} {xs : List Value} (h : w.ownsRow base e size v n xs) :
    ∃ A c, v = .slice A n c ∧ n ≤ c ∧ c ≤ maxLen ∧ (0 < n → ∃ g, A = some ⟨g, 0, none⟩ ∧ base ≤ g ∧ g < w.heap.size) ∧ ∀ a, A = some a → ∃ g, a = ⟨g, 0, none⟩ ∧ base ≤ g ∧ g < w.heap.size := by
  rcases h.2 with ⟨rfl, rfl⟩ | ⟨g, cap, cur, rfl, hg, hh, h1, h2, _⟩
  · exact ⟨none, 0, rfl, by omega, by simp [maxLen], fun h => absurd h (by omega), fun a h => by cases h⟩
  · have hlt : g < w.heap.size := by
      rcases Nat.lt_or_ge g w.heap.size with hlt | hge
      · exact hlt
      · rw [Array.getElem?_eq_none hge] at hh; cases hh
    exact ⟨_, cap, rfl, h1, h2, fun _ => ⟨g, rfl, hg, hlt⟩, fun a h => by cases h; exact ⟨g, rfl, hg, hlt⟩⟩
theorem flat_get {α : Type} (f : α → List Value) (size : Nat) (hf : ∀ x, (f x).length = size) : ∀ (l : List α) (i : Nat) (x : α), l[i]? = some x → ∀ j u, (f x)[j]? = some u → (l.flatMap f)[i * size + j]? = some u
  | [], i, x, h => by simp at h
  | y :: l, 0, x, h => fun j u hu => by
    simp at h; subst h
    have hj : j < (f y).length := (List.getElem?_eq_some_iff.1 hu).1
    rw [List.flatMap_cons, Nat.zero_mul, Nat.zero_add, List.getElem?_append_left hj]; exact hu
  | y :: l, i + 1, x, h => fun j u hu => by
    simp at h
    have := flat_get f size hf l i x h j u hu
    rw [List.flatMap_cons, List.getElem?_append_right (by rw [hf, Nat.add_mul]; omega), hf, show (i + 1) * size + j - size = i * size + j by rw [Nat.add_mul]; omega]
    exact this
theorem flat_length {α : Type} (f : α → List Value) (size : Nat) (hf : ∀ x, (f x).length = size) (l : List α) : (l.flatMap f).length = l.length * size := by
  induction l with
  | nil => simp
  | cons y l ih => rw [List.flatMap_cons, List.length_append, hf, ih, List.length_cons, Nat.add_mul]; omega
/-- an owned slice reads as its list -/
theorem Rd.own {α : Type} {w : World} {base : Nat} {e : TypeId} {size : Nat} {f : α → List Value} {A : Option Addr} {c : Nat} {l : List α} (hf : ∀ x, (f x).length = size)
    (h : w.ownsRow base e size (.slice A l.length c) l.length (l.flatMap f)) : Rd w base w.heap.size size f A l := fun hne => by
  rcases h.2 with ⟨hv, hn⟩ | ⟨g, cap, cur, hv, hg, hh, h1, h2, h3, h4⟩
  · exact absurd (List.eq_nil_of_length_eq_zero hn) hne
  · have hlt : g < w.heap.size := by
      rcases Nat.lt_or_ge g w.heap.size with hlt | hge
      · exact hlt
      · rw [Array.getElem?_eq_none hge] at hh; cases hh
    simp only [Value.slice.injEq] at hv
    obtain ⟨rfl, -, rfl⟩ := hv
    refine ⟨g, 0, rfl, hg, hlt, fun i x hx j u hu => ?_⟩
    have h5 := flat_get f size hf l i x hx j u hu
    have hi : i < l.length := (List.getElem?_eq_some_iff.1 hx).1
    have hj : j < size := by rw [← hf x]; exact (List.getElem?_eq_some_iff.1 hu).1
    have hlt2 : i * size + j < l.length * size := by
      have : (i + 1) * size ≤ l.length * size := Nat.mul_le_mul_right _ hi
      rw [Nat.add_mul] at this; omega
    rw [Nat.zero_add, World.ownsRow.cellAt h _ hlt2]
    exact h5
theorem take_set_succ {xs : List Value} {p : Nat} {u : Value} (h : p < xs.length) : (xs.set p u).take (p + 1) = xs.take p ++ [u] := by
  rw [List.take_succ_eq_append_getElem (by simpa using h)]
  congr 1
  · rw [List.take_set, List.set_eq_of_length_le (by simp; omega)]
  · simp
theorem take_flat_succ {α : Type} (f : α → List Value) {l : List α} {k : Nat} {x : α} (h : l[k]? = some x) : (l.take (k + 1)).flatMap f = (l.take k).flatMap f ++ f x := by
  have hk : k < l.length := (List.getElem?_eq_some_iff.1 h).1
  rw [List.take_succ_eq_append_getElem hk, List.flatMap_append]
  simp [(List.getElem?_eq_some_iff.1 h).2]
theorem own_cell {w : World} {base : Nat} {e : TypeId} {size g n c : Nat} {xs : List Value} (h : w.ownsRow base e size (.slice (some ⟨g, 0, none⟩) n c) n xs) {p : Nat} (hp : p < n * size) : ∃ u, w.cell? ⟨g, p, none⟩ = some u := by
  rw [h.cellAt p hp]
  exact ⟨_, List.getElem?_eq_getElem (by rw [h.1]; exact hp)⟩
theorem bytes_inj {a b : ByteArray} : a.toList = b.toList ↔ a = b := by
  rw [ByteArray.toList_eq, ByteArray.toList_eq, Array.toList_inj]
  constructor
  · intro h; obtain ⟨a⟩ := a; obtain ⟨b⟩ := b; simp at h; rw [h]
  · rintro rfl; rfl
theorem take_succ_eq {α : Type} {l m : List α} {k : Nat} {x : α} (h : l.take k = m.take k) (hl : l[k]? = some x) (hm : m[k]? = some x) : l.take (k + 1) = m.take (k + 1) := by
  rw [List.take_succ_eq_append_getElem (List.getElem?_eq_some_iff.1 hl).1, List.take_succ_eq_append_getElem (List.getElem?_eq_some_iff.1 hm).1, h, (List.getElem?_eq_some_iff.1 hl).2, (List.getElem?_eq_some_iff.1 hm).2]
theorem Up.grown {a w w' : World} {row : Option Nat} (h : Up a w) (hg : w.grownBy w' row) (hr : ∀ k, row = some k → a.heap.size ≤ k) : Up a w' :=
  Below.grown h hg h.size hr
theorem Up.setCell {a w : World} (h : Up a w) {p : Addr} (hp : a.heap.size ≤ p.block) (u : Value) : Up a (w.setCell p u) := Below.setCell h hp u
theorem Up.allocs {a w : World} (h : Up a w) (o : Obj) : Up a (w.alloc o) := Below.alloc h h.size o
theorem Up.drew {a w : World} (h : Up a w) : Up a w.drew := Below.drew h

/-- string of a one-byte slice that was just built -/
theorem run_conv1 {P : Program} {src dst e : TypeId} (hs : P.underlying src = some (.slice e)) (he : P.underlying e = some (.int .u8)) (hd : P.underlying dst = some .string) (wx : World) (z : Int) :
    (convert src dst (.slice (some ⟨wx.heap.size, 0, none⟩) 1 1)).run P (wx.alloc (.cells #[.int .u8 z] e)) = .ok (.string ⟨#[UInt8.ofNat z.toNat]⟩) (wx.alloc (.cells #[.int .u8 z] e)) := by
  rw [run_convert_bytes_string _ src dst e _ _ _ hs he hd]
  have h := run_loadCells_list (P := P) (wx.alloc (.cells #[.int .u8 z] e)) ⟨wx.heap.size, 0, none⟩ [.int .u8 z] (fun j v hv => by
    match j, hv with
    | 0, hv => simp at hv; subst hv; simp [Addr.add])
  have h2 := run_bytesToString (P := P) (wx.alloc (.cells #[.int .u8 z] e)) ⟨wx.heap.size, 0, none⟩ 1 1 [z] h
  rw [h2]
  rfl

/-- the block of an owned slice lies in [b0, b1) -/
def In (v : Value) (b0 b1 : Nat) : Prop := ∀ g, v.ownBlock = some g → b0 ≤ g ∧ g < b1
theorem In.own {w : World} {base : Nat} {e : TypeId} {size : Nat} {v : Value} {n : Nat} {xs : List Value} (h : w.ownsRow base e size v n xs) : In v base w.heap.size := fun g hg => h.lt g hg
theorem Rd.grown {α : Type} {w w' : World} {lo hi size : Nat} {f : α → List Value} {A : Option Addr} {l : List α} {v : Value} {b0 b1 : Nat} (h : Rd w lo hi size f A l) (hg : w.grownBy w' v.ownBlock) (hhi : hi ≤ w.heap.size) (hb : In v b0 b1) (hd : hi ≤ b0 ∨ b1 ≤ lo) : Rd w' lo hi size f A l :=
  h.keep fun p h1 h2 => World.cell?_of_block (hg.block p.block (by omega) (fun e => by have := hb _ e.symm; omega))
theorem own_grown {w w' : World} {base : Nat} {e : TypeId} {size : Nat} {v v' : Value} {n : Nat} {xs : List Value} {b0 b1 b0' b1' : Nat} (h : w.ownsRow base e size v' n xs) (hg : w.grownBy w' v.ownBlock) (hb : In v b0 b1) (hb' : In v' b0' b1') (hd : b1' ≤ b0 ∨ b1 ≤ b0') : w'.ownsRow base e size v' n xs :=
  h.kept hg (by
    rcases hv : v'.ownBlock with _ | g
    · exact .inl rfl
    · refine .inr fun e => ?_
      have h1 := hb' g hv
      have h2 := hb g e.symm
      omega)
theorem Up.marked {a w w' : World} {v : Value} {b0 b1 : Nat} (h : Up a w) (hg : w.grownBy w' v.ownBlock) (hb : In v b0 b1) (hd : a.heap.size ≤ b0) : Up a w' :=
  h.grown hg (fun k e => by have := hb k e; omega)

/-- xs[k:] of a slice: one value, whatever the capacity -/
theorem run_sliceFrom {P : Program} {t : TypeId} {sz : Nat} (ht : P.underlying t = some (.slice (P.elem t))) (hs : ∀ w, (sizeOf (P.elem t)).run P w = .ok sz w) (b off n c k : Nat) (hk : k ≤ n) (hn : n ≤ c) :
    ∃ A2 : Option Addr, (A2 = some ⟨b, off + k * sz, none⟩ ∨ n ≤ k) ∧ ∀ (kd : IntKind) (i : Int) (w : World), i = (k : Int) → (Instr.sliceAt t (.slice (some ⟨b, off, none⟩) n c) (some (.int kd i)) none none).run P w = .ok (.slice A2 (n - k) (c - k)) w := by
  by_cases hck : c = k
  · refine ⟨some ⟨b, off, none⟩, .inr (by omega), fun kd i w hi => ?_⟩
    subst hi
    rw [run_sliceAt_slice w t _ _ _ _ ht, run_slice_l w t _ n c ht kd (k : Int) (by omega) (by omega), hs]
    simp [Result.andThen, sliced, hck]
  · refine ⟨some ⟨b, off + k * sz, none⟩, .inl rfl, fun kd i w hi => ?_⟩
    subst hi
    rw [run_sliceAt_slice w t _ _ _ _ ht, run_slice_l w t _ n c ht kd (k : Int) (by omega) (by omega), hs]
    simp [Result.andThen, sliced, hck, Addr.add]

theorem ret_int {k : IntKind} {a b : Int} (h : a = b) : Ending.returned (.int k a) = .returned (.int k b) := by rw [h]
theorem ret_bool {a b : Bool} (h : a = b) : Ending.returned (.bool a) = .returned (.bool b) := by rw [h]
end Go.Proofs.YtblpjjcjnaigiaaGreatDoor
