/- The search for the best stemma, as plain lists. -/
import Derived.Test.YtncmenfdnpmblaaDoorCost2
namespace Go.Proofs.YtncmenfdnpmblaaDoor

def gT (T : List Bool) (k : Nat) : Bool := match T[k]? with | some t => t | none => false
theorem gT_of {T : List Bool} {k : Nat} {t : Bool} (h : T[k]? = some t) : gT T k = t := by simp [gT, h]
def okK (T : List Bool) (k : Int) : Bool := k == -1 || gT T k.toNat
theorem okK_o (T : List Bool) : okK T (-1) = true := rfl
theorem okK_c (T : List Bool) (k : Nat) : okK T (k : Int) = gT T k := by
  unfold okK; rw [show ((k : Int) == -1) = false by simp]; rfl
/-- one step: copy i from k, at the state (best, from, least) -/
def bsS (o : List Int) (P : List PC) (T : List Bool) (i : Nat) (k : Int) (s : Int × Int × Int) : Int × Int × Int :=
  if gT T i = true then s else if okK T k = false then s else if s.1 < 0 ∨ (dsN o P k (i : Int) : Int) < s.2.2 then ((i : Int), k, (dsN o P k (i : Int) : Int)) else s
section
variable {o : List Int} {P : List PC} {T : List Bool} {i n : Nat} {k : Int} {s : Int × Int × Int}
theorem bsS_1 (h : gT T i = true) : bsS o P T i k s = s := by unfold bsS; rw [if_pos h]
theorem bsS_2 (h : okK T k = false) : bsS o P T i k s = s := by unfold bsS; rw [if_pos h]; split <;> rfl
theorem bsS_3 (h : gT T i = false) (h2 : okK T k = true) (h3 : s.1 < 0 ∨ (dsN o P k (i : Int) : Int) < s.2.2) : bsS o P T i k s = ((i : Int), k, (dsN o P k (i : Int) : Int)) := by
  unfold bsS; rw [if_neg (by simp [h]), if_neg (by simp [h2]), if_pos h3]
theorem bsS_4 (h3 : ¬ (s.1 < 0 ∨ (dsN o P k (i : Int) : Int) < s.2.2)) : bsS o P T i k s = s := by
  unfold bsS; rw [if_neg h3]; split
  · rfl
  · split <;> rfl
/-- what holds of a state -/
def Sok (o : List Int) (T : List Bool) (n : Nat) (s : Int × Int × Int) : Prop := -1 ≤ s.1 ∧ s.1 < n ∧ (0 ≤ s.1 → gT T s.1.toNat = false) ∧ -1 ≤ s.2.1 ∧ s.2.1 < n ∧ 0 ≤ s.2.2 ∧ s.2.2 ≤ o.length
theorem bsS_ok (hs : Sok o T n s) (hi : i < n) (h0 : -1 ≤ k) (h1 : k < n) : Sok o T n (bsS o P T i k s) := by
  rcases h : gT T i with _ | _
  · rcases h2 : okK T k with _ | _
    · rw [bsS_2 h2]; exact hs
    · by_cases h3 : s.1 < 0 ∨ (dsN o P k (i : Int) : Int) < s.2.2
      · rw [bsS_3 h h2 h3]
        have := ds_le o P k (i : Int)
        refine ⟨by show (-1 : Int) ≤ (i : Int); omega, by show (i : Int) < n; omega, fun _ => by simpa using h, h0, h1, by show (0 : Int) ≤ (dsN o P k (i : Int) : Int); omega, by show (dsN o P k (i : Int) : Int) ≤ o.length; omega⟩
      · rw [bsS_4 h3]; exact hs
  · rw [bsS_1 h]; exact hs
theorem bsS_pos (hs : 0 ≤ s.1) : 0 ≤ (bsS o P T i k s).1 := by
  unfold bsS
  split
  · exact hs
  · split
    · exact hs
    · split
      · simp
      · exact hs
end
def bsK (o : List Int) (P : List PC) (T : List Bool) (i : Nat) : Nat → Int × Int × Int → Int × Int × Int
  | 0, s => s
  | m + 1, s => bsS o P T i ((m : Int) - 1) (bsK o P T i m s)
section
variable {o : List Int} {P : List PC} {T : List Bool} {i n : Nat}
theorem bsK_at {kz : Int} {s : Int × Int × Int} (h : -1 ≤ kz) : bsK o P T i (kz + 1 + 1).toNat s = bsS o P T i kz (bsK o P T i (kz + 1).toNat s) := by
  obtain ⟨m, hm⟩ : ∃ m : Nat, kz + 1 = (m : Int) := ⟨(kz + 1).toNat, by omega⟩
  rw [show (kz + 1 + 1).toNat = m + 1 by omega, show (kz + 1).toNat = m by omega, bsK, show (m : Int) - 1 = kz by omega]
theorem bsK_there (h : gT T i = true) : ∀ (m : Nat) (s : Int × Int × Int), bsK o P T i m s = s
  | 0, _ => rfl
  | m + 1, s => by rw [bsK, bsS_1 h, bsK_there h m s]
theorem bsK_ok (hi : i < n) : ∀ (m : Nat) (s : Int × Int × Int), m ≤ n + 1 → Sok o T n s → Sok o T n (bsK o P T i m s)
  | 0, _, _, hs => hs
  | m + 1, s, hm, hs => bsS_ok (bsK_ok hi m s (by omega) hs) hi (by omega) (by omega)
theorem bsK_keep : ∀ (m : Nat) (s : Int × Int × Int), 0 ≤ s.1 → 0 ≤ (bsK o P T i m s).1
  | 0, _, hs => hs
  | m + 1, s, hs => bsS_pos (bsK_keep m s hs)
theorem bsK_pos (h : gT T i = false) : ∀ (m : Nat) (s : Int × Int × Int), 0 ≤ (bsK o P T i (m + 1) s).1
  | 0, s => by
    rw [bsK, bsK, show ((0 : Nat) : Int) - 1 = -1 from rfl]
    by_cases hs : 0 ≤ s.1
    · exact bsS_pos hs
    · rw [bsS_3 h (okK_o T) (Or.inl (by omega))]; show (0 : Int) ≤ (i : Int); omega
  | m + 1, s => bsS_pos (bsK_pos h m s)
end
def bsI (o : List Int) (P : List PC) (T : List Bool) (n : Nat) : Nat → Int × Int × Int
  | 0 => (-1, -1, 0)
  | i + 1 => bsK o P T i (n + 1) (bsI o P T n i)
section
variable {o : List Int} {P : List PC} {T : List Bool} {n : Nat}
theorem bsI_ok (hn : 0 < n) : ∀ i, i ≤ n → Sok o T n (bsI o P T n i)
  | 0, _ => ⟨by simp [bsI], by simp [bsI]; omega, by simp [bsI], by simp [bsI], by simp [bsI]; omega, by simp [bsI], by simp [bsI]⟩
  | i + 1, h => bsK_ok (by omega) _ _ (Nat.le_refl _) (bsI_ok hn i (by omega))
theorem bsI_pos : ∀ i j, j < i → gT T j = false → 0 ≤ (bsI o P T n i).1
  | 0, j, h, _ => absurd h (by omega)
  | i + 1, j, h, hj => by
    rw [bsI]
    by_cases e : j = i
    · subst e; exact bsK_pos hj _ _
    · exact bsK_keep _ _ (bsI_pos i j (by omega) hj)
end
def cntT : List Bool → Nat
  | [] => 0
  | t :: T => (if t = true then 1 else 0) + cntT T
theorem cntT_rep (n : Nat) : cntT (List.replicate n false) = 0 := by
  induction n with
  | zero => rfl
  | succ n ih => rw [List.replicate_succ, cntT, ih]; rfl
theorem cntT_set : ∀ (T : List Bool) (j : Nat), T[j]? = some false → cntT (T.set j true) = cntT T + 1
  | [], j, h => by simp at h
  | t :: T, 0, h => by simp at h; subst h; simp [cntT]; omega
  | t :: T, j + 1, h => by simp at h; simp only [List.set_cons_succ, cntT, cntT_set T j h]; omega
theorem cntT_some : ∀ (T : List Bool), cntT T < T.length → ∃ j : Nat, T[j]? = some false
  | [], h => by simp [cntT] at h
  | false :: T, _ => ⟨0, rfl⟩
  | true :: T, h => by
    simp [cntT] at h
    obtain ⟨j, hj⟩ := cntT_some T (by omega)
    exact ⟨j + 1, by simpa using hj⟩
/-- the parents and who is there, after r rounds -/
def bsR (o : List Int) (P : List PC) (n : Nat) : Nat → List Int × List Bool
  | 0 => (List.replicate n 0, List.replicate n false)
  | r + 1 => ((bsR o P n r).1.set (bsI o P (bsR o P n r).2 n n).1.toNat (bsI o P (bsR o P n r).2 n n).2.1, (bsR o P n r).2.set (bsI o P (bsR o P n r).2 n n).1.toNat true)
structure Rok (n r : Nat) (Q : List Int) (T : List Bool) : Prop where
  q : Q.length = n
  t : T.length = n
  c : cntT T = r
  p : parB Q n = true
theorem parB_set {Q : List Int} {n j : Nat} {z : Int} (h : parB Q n = true) (h0 : -1 ≤ z) (h1 : z < n) : parB (Q.set j z) n = true := by
  unfold parB at h ⊢
  rw [List.all_eq_true] at h ⊢
  intro x hx
  rcases List.mem_or_eq_of_mem_set hx with e | e
  · exact h x e
  · subst e; simp; omega
theorem parB_rep (n : Nat) : parB (List.replicate n 0) n = true := by
  unfold parB
  rw [List.all_eq_true]
  intro x hx
  obtain ⟨hn, rfl⟩ := List.mem_replicate.1 hx
  simp; omega
theorem bsI_fin {o : List Int} {P : List PC} {n r : Nat} {Q : List Int} {T : List Bool} (hr : Rok n r Q T) (h : r < n) : 0 ≤ (bsI o P T n n).1 ∧ Sok o T n (bsI o P T n n) ∧ T[(bsI o P T n n).1.toNat]? = some false := by
  obtain ⟨j, hj⟩ := cntT_some T (by rw [hr.c, hr.t]; exact h)
  have hjn : j < n := by have := (List.getElem?_eq_some_iff.1 hj).1; rw [hr.t] at this; exact this
  have hok := bsI_ok (o := o) (P := P) (T := T) (n := n) (by omega) n (Nat.le_refl _)
  have hpos := bsI_pos (o := o) (P := P) (n := n) n j hjn (gT_of hj)
  refine ⟨hpos, hok, ?_⟩
  have hlt : (bsI o P T n n).1.toNat < T.length := by rw [hr.t]; have := hok.2.1; omega
  have h1 := hok.2.2.1 hpos
  rw [List.getElem?_eq_getElem hlt] at *
  rw [gT_of (List.getElem?_eq_getElem hlt)] at h1
  rw [h1]
theorem bsR_ok (o : List Int) (P : List PC) (n : Nat) : ∀ r, r ≤ n → Rok n r (bsR o P n r).1 (bsR o P n r).2
  | 0, _ => ⟨by simp [bsR], by simp [bsR], by simp [bsR, cntT_rep], parB_rep n⟩
  | r + 1, h => by
    have ih := bsR_ok o P n r (by omega)
    obtain ⟨h1, h2, h3⟩ := bsI_fin (o := o) (P := P) ih (by omega)
    exact ⟨by simp [bsR, ih.q], by simp [bsR, ih.t], by rw [bsR]; simp only; rw [cntT_set _ _ h3, ih.c], by rw [bsR]; exact parB_set ih.p h2.2.2.2.1 h2.2.2.2.2.1⟩
def bcC (o : List Int) (P : List PC) : Int := cdB (orB o P) P []
def bcL (o : List Int) (P : List PC) : List Int := if bcC o P = 0 then (bsR o P P.length P.length).1 else []
def bcV (o : List Int) (P : List PC) : Int := if bcC o P = 0 then (csN o P (bsR o P P.length P.length).1 P.length : Nat) else 0
theorem bc_no {o : List Int} {P : List PC} (h : bcC o P ≠ 0) : bcL o P = [] ∧ bcV o P = 0 := by simp [bcL, bcV, h]
theorem bc_yes {o : List Int} {P : List PC} (h : bcC o P = 0) : bcL o P = (bsR o P P.length P.length).1 ∧ bcV o P = (csN o P (bsR o P P.length P.length).1 P.length : Nat) := by simp [bcL, bcV, h]
theorem bc_len (o : List Int) (P : List PC) : (bcL o P).length ≤ P.length := by
  unfold bcL; split
  · rw [(bsR_ok o P P.length P.length (Nat.le_refl _)).q]; exact Nat.le_refl _
  · simp
abbrev boolCells (t : Bool) : List Value := [.bool t]
theorem bool_len (t : Bool) : (boolCells t).length = 1 := rfl
theorem bcells_set (l : List Bool) (i : Nat) (t : Bool) : (l.flatMap boolCells).set i (.bool t) = (l.set i t).flatMap boolCells := by
  have e : ∀ l : List Bool, l.flatMap boolCells = l.map Value.bool := fun l => by induction l with | nil => rfl | cons x l ih => simp [ih]
  rw [e, e, List.map_set]
theorem bcells_at {l : List Bool} {i : Nat} {t : Bool} (h : l[i]? = some t) : (l.flatMap boolCells)[i]? = some (.bool t) := by
  have := flat_get boolCells 1 bool_len l i t h 0 _ rfl
  rwa [Nat.mul_one, Nat.add_zero] at this
theorem icells_set (l : List Int) (i : Nat) (z : Int) : (l.flatMap intCells).set i (.int .i64 z) = (l.set i z).flatMap intCells := by
  have e : ∀ l : List Int, l.flatMap intCells = l.map fun z => Value.int .i64 z := fun l => by induction l with | nil => rfl | cons x l ih => simp [ih]
  rw [e, e, List.map_set]
theorem flat_rep {α : Type} (f : α → List Value) (x : α) (u : Value) (h : f x = [u]) (n : Nat) : (List.replicate n x).flatMap f = List.replicate n u := by
  induction n with
  | zero => rfl
  | succ n ih => rw [List.replicate_succ, List.flatMap_cons, ih, h, List.replicate_succ]; rfl
end Go.Proofs.YtncmenfdnpmblaaDoor
