/- Copies as Lean data (a name and its readings, and where they lie), and the walks of the law package's helpers over copies. -/
import Derived.Test.YtncmenfdnpmblaaDoorProg
import Derived.Test.YtncmenfdnpmblaaDoorInts
import Derived.Test.YtncmenfdnpmblaaDoorMark0
namespace Go.Proofs.YtncmenfdnpmblaaDoor
open Go.RowKit Go.Sort

structure Cp where
  name : ByteArray
  A : Option Addr
  c : Nat
  rs : List Int
abbrev Cp.cells (x : Cp) : List Value := [.string x.name, .slice x.A x.rs.length x.c]
abbrev Cp.val (x : Cp) : Value := .agg #[.string x.name, .slice x.A x.rs.length x.c]
/-- what a copy says -/
def Cp.p (x : Cp) : ByteArray × List Int := (x.name, x.rs)
def Cp.ok (x : Cp) : Prop := x.name.size ≤ maxLen ∧ x.rs.length ≤ x.c ∧ x.c ≤ maxLen
def Cp.ok' (x : Cp) : Prop := x.rs.length ≤ x.c ∧ x.c ≤ maxLen
theorem cp_len (x : Cp) : x.cells.length = 2 := rfl

def RdC (w : World) (lo hi : Nat) (A : Option Addr) (l : List Cp) : Prop := Rd w lo hi 2 Cp.cells A l ∧ ∀ x ∈ l, RdI w lo hi x.A x.rs
theorem RdC.up {w w' : World} {lo hi : Nat} {A : Option Addr} {l : List Cp} (h : RdC w lo hi A l) (hu : Up w w') (hB : hi ≤ w.heap.size) : RdC w' lo hi A l :=
  ⟨h.1.up hu hB, fun x hx => (h.2 x hx).up hu hB⟩
theorem RdC.take {w : World} {lo hi : Nat} {A : Option Addr} {l : List Cp} (h : RdC w lo hi A l) (k : Nat) : RdC w lo hi A (l.take k) :=
  ⟨h.1.take k, fun x hx => h.2 x (List.mem_of_mem_take hx)⟩
theorem RdC.at_ {w : World} {lo hi : Nat} {A : Option Addr} {l : List Cp} (h : RdC w lo hi A l) {k : Nat} (hk : k < l.length) :
    ∃ b off x, A = some ⟨b, off, none⟩ ∧ lo ≤ b ∧ b < hi ∧ l[k]? = some x ∧ RdI w lo hi x.A x.rs ∧ w.cell? ⟨b, off + k * 2, none⟩ = some (.string x.name) ∧ w.cell? ⟨b, off + k * 2 + 1, none⟩ = some (.slice x.A x.rs.length x.c) := by
  obtain ⟨b, off, x, e, h1, h2, h3, h4⟩ := Rd.at_ h.1 hk
  exact ⟨b, off, x, e, h1, h2, h3, h.2 x (List.mem_of_getElem? h3), h4 0 _ rfl, h4 1 _ rfl⟩

/-- the sizes -/
def szI (n : Nat) (left : Int) : Int := if left < n then -1 else left - n
theorem szI_a {n : Nat} {left : Int} (h : left < n) : szI n left = -1 := by unfold szI; rw [if_pos h]
theorem szI_b {n : Nat} {left : Int} (h : ¬ left < n) : szI n left = left - n := by unfold szI; rw [if_neg h]
theorem szI_le (n : Nat) (left : Int) (h : 0 ≤ left) : szI n left ≤ left := by unfold szI; split <;> omega
def szC (x : Cp) (left : Int) : Int := if left < x.name.size then -1 else szI x.rs.length (left - x.name.size)
theorem szC_a {x : Cp} {left : Int} (h : left < x.name.size) : szC x left = -1 := by unfold szC; rw [if_pos h]
theorem szC_b {x : Cp} {left : Int} (h : ¬ left < x.name.size) : szC x left = szI x.rs.length (left - x.name.size) := by unfold szC; rw [if_neg h]
theorem szC_le (x : Cp) (left : Int) (h : 0 ≤ left) : szC x left ≤ left := by
  unfold szC; split
  · omega
  · have := szI_le x.rs.length (left - x.name.size) (by omega); omega
theorem szI_neg {n : Nat} {left : Int} (h : szI n left < 0) (_h0 : 0 ≤ left) : szI n left = -1 := by
  by_cases c : left < n
  · exact szI_a c
  · rw [szI_b c] at h; omega
theorem szC_neg {x : Cp} {left : Int} (h : szC x left < 0) (_h0 : 0 ≤ left) : szC x left = -1 := by
  by_cases c1 : left < x.name.size
  · exact szC_a c1
  · rw [szC_b c1] at h ⊢; exact szI_neg h (by omega)
def szCs : List Cp → Int → Int
  | [], left => left
  | x :: l, left => if szC x left < 0 then -1 else szCs l (szC x left)
def szCL (l : List Cp) (left : Int) : Int := if left < l.length then -1 else szCs l (left - l.length)
theorem szCL_a {l : List Cp} {left : Int} (h : left < l.length) : szCL l left = -1 := by unfold szCL; rw [if_pos h]
theorem szCL_b {l : List Cp} {left : Int} (h : ¬ left < l.length) : szCL l left = szCs l (left - l.length) := by unfold szCL; rw [if_neg h]
theorem szCs_yes {l : List Cp} {k : Nat} {d : Cp} {z : Int} (hd : l[k]? = some d) (h : ¬ szC d z < 0) : szCs (l.drop k) z = szCs (l.drop (k + 1)) (szC d z) := by
  have hk : k < l.length := (List.getElem?_eq_some_iff.1 hd).1
  rw [List.drop_eq_getElem_cons hk]
  simp [szCs, (List.getElem?_eq_some_iff.1 hd).2, h]
theorem szCs_no {l : List Cp} {k : Nat} {d : Cp} {z : Int} (hd : l[k]? = some d) (h : szC d z < 0) : szCs (l.drop k) z = -1 := by
  have hk : k < l.length := (List.getElem?_eq_some_iff.1 hd).1
  rw [List.drop_eq_getElem_cons hk]
  simp [szCs, (List.getElem?_eq_some_iff.1 hd).2, h]
theorem szCs_end {l : List Cp} {k : Nat} {z : Int} (h : l.length ≤ k) : szCs (l.drop k) z = z := by rw [List.drop_eq_nil_of_le h]; rfl
/-- how many marks a list of copies takes -/
def cpTot : List Cp → Nat
  | [] => 0
  | x :: l => 1 + x.rs.length + cpTot l
theorem szCs_tot : ∀ (l : List Cp) (left : Int), 0 ≤ left → ¬ szCs l left < 0 → szCs l left ≤ left ∧ (cpTot l : Int) ≤ left + l.length
  | [], left, h, _ => by simp [szCs, cpTot]; omega
  | x :: l, left, h, hz => by
    unfold szCs at hz ⊢
    split
    · rename_i hh; rw [if_pos hh] at hz; exact absurd (by omega) hz
    · rename_i hh
      rw [if_neg hh] at hz
      obtain ⟨h1, h2⟩ := szCs_tot l (szC x left) (by omega) hz
      have h3 := szC_le x left h
      have h4 : szC x left ≤ left - x.rs.length := by
        by_cases c1 : left < x.name.size
        · rw [szC_a c1] at hh; exact absurd (by omega) hh
        · rw [szC_b c1] at hh ⊢
          by_cases c2 : left - x.name.size < x.rs.length
          · rw [szI_a c2] at hh; exact absurd (by omega) hh
          · rw [szI_b c2]; omega
      refine ⟨by omega, ?_⟩
      simp only [cpTot, List.length_cons]
      omega
theorem szCL_tot {l : List Cp} {left : Int} (_h : 0 ≤ left) (hz : ¬ szCL l left < 0) : (l.length : Int) ≤ left ∧ szCL l left ≤ left ∧ (cpTot l : Int) ≤ left := by
  by_cases c1 : left < l.length
  · rw [szCL_a c1] at hz; exact absurd (by omega) hz
  · rw [szCL_b c1] at hz ⊢
    have := szCs_tot l (left - l.length) (by omega) hz
    omega

theorem infoInt : (Tryd.prog.info? 2).map (fun i => (i.zero, i.size, i.bytes)) = some (some (.int .i64 0), 1, 8) := by kernel_rfl
theorem infoCp : (Tryd.prog.info? 49).map (fun i => (i.zero, i.size, i.bytes)) = some (some (.agg #[.string ByteArray.empty, .slice none 0 0]), 2, 40) := by kernel_rfl

abbrev Cp.sl (x : Cp) : Value := .slice x.A x.rs.length x.c
/-- no two copies' readings lie in one block -/
def Dist (L : List Cp) : Prop := ∀ (i j : Nat) (x y : Cp), i < j → L[i]? = some x → L[j]? = some y → ∀ b, x.sl.ownBlock = some b → y.sl.ownBlock ≠ some b
theorem Dist.nil_ : Dist [] := fun i j x y _ h => by simp at h
theorem Dist.snoc {L : List Cp} {y : Cp} (h : Dist L) (hy : ∀ x ∈ L, ∀ b, x.sl.ownBlock = some b → y.sl.ownBlock ≠ some b) : Dist (L ++ [y]) := by
  intro i j x z hij hi hj b hb
  rcases Nat.lt_or_ge j L.length with h1 | h1
  · rw [List.getElem?_append_left h1] at hj
    rw [List.getElem?_append_left (by omega)] at hi
    exact h i j x z hij hi hj b hb
  · have hj' : j = L.length := by
      have := (List.getElem?_eq_some_iff.1 hj).1
      simp at this; omega
    subst hj'
    rw [List.getElem?_append_left hij] at hi
    rw [List.getElem?_append_right (Nat.le_refl _)] at hj
    simp at hj; subst hj
    exact hy x (List.mem_of_getElem? hi) b hb
/-- a list of copies that the call itself made -/
def OwnC (w : World) (g0 : Nat) (A : Option Addr) (n c : Nat) (L : List Cp) : Prop :=
  ∃ g, g0 ≤ g ∧ w.ownsRow g 49 2 (.slice A n c) n (L.flatMap Cp.cells) ∧ (∀ y ∈ L, y.ok' ∧ w.ownsRow (g + 1) 2 1 y.sl y.rs.length (y.rs.flatMap intCells)) ∧ Dist L ∧ In (.slice A n c) g (g + 1)

theorem cp_set2 {xs : List Value} {L : List Cp} {k : Nat} {y : Cp} {n : Nat} (hx : xs.length = n * 2) (hk : k < n) (ht : xs.take (k * 2) = L.flatMap Cp.cells) :
    ((xs.set (k * 2) (.string y.name)).set (k * 2 + 1) y.sl).take ((k + 1) * 2) = (L ++ [y]).flatMap Cp.cells := by
  rw [show (k + 1) * 2 = k * 2 + 1 + 1 by omega, take_set_succ (by simp; omega), take_set_succ (by omega), ht]
  simp

theorem OwnC.up {w w' : World} {g0 n c : Nat} {A : Option Addr} {L : List Cp} (h : OwnC w g0 A n c L) (hu : Up w w') : OwnC w' g0 A n c L := by
  obtain ⟨g, h1, h2, h3, h4, h5⟩ := h
  exact ⟨g, h1, own_up h2 hu, fun y hy => ⟨(h3 y hy).1, own_up (h3 y hy).2 hu⟩, h4, h5⟩
theorem OwnC.rd {w : World} {g0 c : Nat} {A : Option Addr} {L : List Cp} (h : OwnC w g0 A L.length c L) : RdC w g0 w.heap.size A L := by
  obtain ⟨g, h1, h2, h3, -, -⟩ := h
  exact ⟨(Rd.own cp_len h2).wide h1 (Nat.le_refl _), fun x hx => (Rd.own int_len (h3 x hx).2).wide (by omega) (Nat.le_refl _)⟩

def eqC (a b : Cp) : Bool := decide (a.p = b.p)
theorem eqC_a {a b : Cp} (h : (!a.name.toList == b.name.toList) = true) : eqC a b = false := by
  unfold eqC Cp.p; rw [decide_eq_false_iff_not]; intro e; simp only [Prod.mk.injEq] at e; rw [e.1] at h; simp at h
theorem eqC_b {a b : Cp} (h : (!a.name.toList == b.name.toList) = false) : eqC a b = eqIs a.rs b.rs := by
  have : a.name = b.name := bytes_inj.1 (by simpa using h)
  unfold eqC Cp.p eqIs; simp [this]
def eqCs (L M : List Cp) : Bool := decide (L.map Cp.p = M.map Cp.p)
theorem eqCs_len {l m : List Cp} (h : l.length ≠ m.length) : eqCs l m = false := by unfold eqCs; rw [decide_eq_false_iff_not]; intro e; apply h; simpa using congrArg List.length e
theorem eqCs_ne {l m : List Cp} {k : Nat} {a b : Cp} (ha : l[k]? = some a) (hb : m[k]? = some b) (h : eqC a b = false) : eqCs l m = false := by
  unfold eqCs; rw [decide_eq_false_iff_not]; intro e
  have e2 : (l.map Cp.p)[k]? = (m.map Cp.p)[k]? := by rw [e]
  rw [List.getElem?_map, List.getElem?_map, ha, hb] at e2
  simp only [Option.map_some, Option.some.injEq] at e2
  simp [eqC, e2] at h
theorem eqCs_eq {l m : List Cp} (h : (l.take l.length).map Cp.p = (m.take l.length).map Cp.p) (hl : l.length = m.length) : eqCs l m = true := by
  unfold eqCs; rw [decide_eq_true_iff]
  rwa [List.take_of_length_le (Nat.le_refl _), hl, List.take_of_length_le (Nat.le_refl _)] at h
theorem eqCs_self {l m : List Cp} (h : l.map Cp.p = m.map Cp.p) : eqCs l m = true := by simp [eqCs, h]
theorem take_succ_map {l m : List Cp} {k : Nat} {a b : Cp} (h : (l.take k).map Cp.p = (m.take k).map Cp.p) (ha : l[k]? = some a) (hb : m[k]? = some b) (hab : eqC a b = true) : (l.take (k + 1)).map Cp.p = (m.take (k + 1)).map Cp.p := by
  rw [List.take_succ_eq_append_getElem (List.getElem?_eq_some_iff.1 ha).1, List.take_succ_eq_append_getElem (List.getElem?_eq_some_iff.1 hb).1, List.map_append, List.map_append, h, (List.getElem?_eq_some_iff.1 ha).2, (List.getElem?_eq_some_iff.1 hb).2]
  simp only [eqC, decide_eq_true_eq] at hab
  simp [hab]
end Go.Proofs.YtncmenfdnpmblaaDoor
