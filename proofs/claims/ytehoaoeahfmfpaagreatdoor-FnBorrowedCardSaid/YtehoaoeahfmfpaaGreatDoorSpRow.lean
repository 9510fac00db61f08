/- Sets of days as plain lists: united spans, their meeting, and membership. The law package's helpers over []Span. An append onto a slice of the call's own, at a step of a region that draws its order. -/
import Derived.Test.YtehoaoeahfmfpaaGreatDoorLib
import Derived.Test.YtehoaoeahfmfpaaGreatDoorMk
import Derived.Test.YtehoaoeahfmfpaaGreatDoorProg
import Derived.Deep.AppendLies
namespace Go.Proofs.YtehoaoeahfmfpaaGreatDoor

abbrev Sp := Int × Int
/-- a span put behind all that begin no later -/
def insS (s : Sp) : List Sp → List Sp
  | [] => [s]
  | x :: l => if x.1 ≤ s.1 then x :: insS s l else s :: x :: l
def srtS (l : List Sp) : List Sp := l.foldl (fun acc s => insS s acc) []
/-- one span joined to those before it -/
def stpS (out : List Sp) (s : Sp) : List Sp :=
  match out.getLast? with
  | some z => if s.1 ≤ z.2 + 1 then out.dropLast ++ [(z.1, max z.2 s.2)] else out ++ [s]
  | none => out ++ [s]
def unL (l : List Sp) : List Sp := (srtS l).foldl stpS []
def SrtS (l : List Sp) : Prop := l.Pairwise fun a b => a.1 ≤ b.1
def OkS (l : List Sp) : Prop := ∀ s ∈ l, s.1 ≤ s.2
def hasL (set : List Sp) (n : Int) : Bool := set.any fun s => decide (s.1 ≤ n) && decide (n ≤ s.2)

theorem stpS_nil (s : Sp) : stpS [] s = [s] := rfl
theorem stpS_snoc (o : List Sp) (z s : Sp) : stpS (o ++ [z]) s = if s.1 ≤ z.2 + 1 then o ++ [(z.1, max z.2 s.2)] else o ++ [z] ++ [s] := by
  unfold stpS
  rw [List.getLast?_append, List.getLast?_singleton]
  simp
theorem stpS_comm (out : List Sp) (x y : Sp) (h : x.1 = y.1) (hx : x.1 ≤ x.2) (hy : y.1 ≤ y.2) : stpS (stpS out x) y = stpS (stpS out y) x := by
  rcases List.eq_nil_or_concat out with rfl | ⟨o, z, rfl⟩ <;> try rw [List.concat_eq_append]
  · rw [stpS_nil, stpS_nil, ← List.nil_append [x], ← List.nil_append [y], stpS_snoc, stpS_snoc, if_pos (by omega), if_pos (by omega), h, Int.max_comm]
  · by_cases c : x.1 ≤ z.2 + 1
    · rw [stpS_snoc, stpS_snoc, if_pos c, if_pos (by omega), stpS_snoc, stpS_snoc, if_pos (by simp only []; omega), if_pos (by simp only []; omega)]
      congr 3; simp only []; omega
    · rw [stpS_snoc, stpS_snoc, if_neg c, if_neg (by omega), stpS_snoc, stpS_snoc, if_pos (by omega), if_pos (by omega), h, Int.max_comm]
theorem foldS_past (x : Sp) (hx : x.1 ≤ x.2) : ∀ (a b out : List Sp), (∀ y ∈ a, y.1 = x.1 ∧ y.1 ≤ y.2) → (a ++ x :: b).foldl stpS out = (x :: (a ++ b)).foldl stpS out
  | [], b, out, _ => rfl
  | y :: a, b, out, h => by
    have h1 := h y (List.mem_cons_self ..)
    have ih := foldS_past x hx a b (stpS out y) (fun z hz => h z (List.mem_cons_of_mem _ hz))
    simp only [List.cons_append, List.foldl_cons] at ih ⊢
    rw [ih, stpS_comm out y x h1.1 h1.2 hx]
theorem foldS_perm : ∀ (l m out : List Sp), l.Perm m → SrtS l → SrtS m → OkS l → l.foldl stpS out = m.foldl stpS out
  | [], m, out, hp, _, _, _ => by rw [List.nil_perm.1 hp]
  | x :: l, m, out, hp, hl, hm, ho => by
    have hx : x ∈ m := hp.mem_iff.1 (List.mem_cons_self ..)
    obtain ⟨a, b, rfl⟩ := List.append_of_mem hx
    have hl1 := List.pairwise_cons.1 hl
    have hp2 : l.Perm (a ++ b) := (List.perm_cons x).1 (hp.trans List.perm_middle)
    have hm1 := List.pairwise_append.1 hm
    have hm2 := List.pairwise_cons.1 hm1.2.1
    rw [foldS_past x (ho x (List.mem_cons_self ..)) a b out (fun y hy => by
      have e1 := hm1.2.2 y hy x (List.mem_cons_self ..)
      have e2 := hl1.1 y (hp2.mem_iff.2 (List.mem_append_left _ hy))
      exact ⟨by omega, ho y (List.mem_cons_of_mem _ (hp2.mem_iff.2 (List.mem_append_left _ hy)))⟩)]
    simp only [List.foldl_cons]
    exact foldS_perm l (a ++ b) _ hp2 hl1.2 (List.pairwise_append.2 ⟨hm1.1, hm2.2, fun y hy z hz => hm1.2.2 y hy z (List.mem_cons_of_mem _ hz)⟩) (fun s hs => ho s (List.mem_cons_of_mem _ hs))
theorem insS_perm (s : Sp) : ∀ l, (insS s l).Perm (s :: l)
  | [] => List.Perm.refl _
  | x :: l => by
    unfold insS; split
    · exact ((insS_perm s l).cons x).trans (List.Perm.swap s x l)
    · exact List.Perm.refl _
theorem insS_sorted (s : Sp) : ∀ l, SrtS l → SrtS (insS s l)
  | [], _ => by simp [insS, SrtS]
  | x :: l, h => by
    have h1 := List.pairwise_cons.1 h
    unfold insS; split
    · refine List.pairwise_cons.2 ⟨fun y hy => ?_, insS_sorted s l h1.2⟩
      rcases List.mem_cons.1 ((insS_perm s l).mem_iff.1 hy) with e | e
      · subst e; assumption
      · exact h1.1 y e
    · refine List.pairwise_cons.2 ⟨fun y hy => ?_, h⟩
      rcases List.mem_cons.1 hy with e | e
      · subst e; omega
      · have := h1.1 y e; omega
theorem srtS_fold : ∀ (l acc : List Sp), SrtS acc → (l.foldl (fun acc s => insS s acc) acc).Perm (acc ++ l) ∧ SrtS (l.foldl (fun acc s => insS s acc) acc)
  | [], acc, h => ⟨by simp, h⟩
  | x :: l, acc, h => by
    have ih := srtS_fold l (insS x acc) (insS_sorted x acc h)
    refine ⟨ih.1.trans ?_, ih.2⟩
    exact ((insS_perm x acc).append_right l).trans (by simpa using List.perm_middle.symm)
theorem srtS_perm (l : List Sp) : (srtS l).Perm l := by have := (srtS_fold l [] List.Pairwise.nil).1; rwa [List.nil_append] at this
theorem srtS_sorted (l : List Sp) : SrtS (srtS l) := (srtS_fold l [] List.Pairwise.nil).2
theorem unL_of {l m : List Sp} (hp : m.Perm l) (hs : SrtS m) (ho : OkS l) : m.foldl stpS [] = unL l :=
  foldS_perm m (srtS l) [] (hp.trans (srtS_perm l).symm) hs (srtS_sorted l) (fun s h => ho s (hp.mem_iff.1 h))
theorem insS_len (s : Sp) (l : List Sp) : (insS s l).length = l.length + 1 := by simpa using (insS_perm s l).length_eq
theorem srtS_len (l : List Sp) : (srtS l).length = l.length := (srtS_perm l).length_eq
theorem stpS_len (o : List Sp) (s : Sp) : (stpS o s).length ≤ o.length + 1 := by
  rcases List.eq_nil_or_concat o with rfl | ⟨o, z, rfl⟩ <;> try rw [List.concat_eq_append]
  · simp [stpS_nil]
  · rw [stpS_snoc]; split <;> simp
theorem foldS_len : ∀ (l o : List Sp), (l.foldl stpS o).length ≤ o.length + l.length
  | [], o => by simp
  | x :: l, o => by
    have := foldS_len l (stpS o x); have := stpS_len o x
    simp only [List.foldl_cons, List.length_cons]; omega
theorem unL_len (l : List Sp) : (unL l).length ≤ l.length := by
  have := foldS_len (srtS l) []; rw [srtS_len] at this; simpa [unL] using this

/-- the spans of the days that are in both -/
def metF : Nat → List Sp → List Sp → List Sp
  | n + 1, a :: p, b :: q => (if max a.1 b.1 ≤ min a.2 b.2 then [(max a.1 b.1, min a.2 b.2)] else []) ++ if a.2 < b.2 then metF n p (b :: q) else metF n (a :: p) q
  | _, _, _ => []
def metL (a b : List Sp) : List Sp := metF (a.length + b.length) a b
theorem metF_len : ∀ (n : Nat) (a b : List Sp), (metF n a b).length ≤ n
  | 0, a, b => by simp [metF]
  | n + 1, [], b => by simp [metF]
  | n + 1, a :: p, [] => by simp [metF]
  | n + 1, a :: p, b :: q => by
    have h1 := metF_len n p (b :: q)
    have h2 := metF_len n (a :: p) q
    simp only [metF, List.length_append]
    split <;> split <;> simp <;> omega
theorem metL_len (a b : List Sp) : (metL a b).length ≤ a.length + b.length := metF_len _ _ _
theorem metL_nil_l (b : List Sp) : metL [] b = [] := by unfold metL; cases h : ([] : List Sp).length + b.length <;> simp [metF]
theorem metL_nil_r (a : List Sp) : metL a [] = [] := by unfold metL; cases h : a.length + ([] : List Sp).length <;> cases a <;> simp [metF]
theorem metL_cons (a b : Sp) (p q : List Sp) : metL (a :: p) (b :: q) = (if max a.1 b.1 ≤ min a.2 b.2 then [(max a.1 b.1, min a.2 b.2)] else []) ++ if a.2 < b.2 then metL p (b :: q) else metL (a :: p) q := by
  unfold metL
  rw [show (a :: p).length + (b :: q).length = (p.length + (b :: q).length) + 1 by simp; omega, metF]
  rw [show (a :: p).length + q.length = p.length + (b :: q).length by simp; omega]
end Go.Proofs.YtehoaoeahfmfpaaGreatDoor

namespace Go.Proofs.YtehoaoeahfmfpaaGreatDoor
open Go.RowKit Go.Sort

abbrev spC (s : Sp) : List Value := [.int .i64 s.1, .int .i64 s.2]
abbrev RdP (w : World) (lo hi : Nat) (A : Option Addr) (l : List Sp) : Prop := Rd w lo hi 2 spC A l
theorem spC_len (s : Sp) : (spC s).length = 2 := rfl
theorem Rd.sp {w : World} {lo hi : Nat} {A : Option Addr} {l : List Sp} (h : RdP w lo hi A l) {k : Nat} (hk : k < l.length) :
    ∃ b off f t, A = some ⟨b, off, none⟩ ∧ lo ≤ b ∧ b < hi ∧ l[k]? = some (f, t) ∧ w.cell? ⟨b, off + k * 2, none⟩ = some (.int .i64 f) ∧ w.cell? ⟨b, off + k * 2 + 1, none⟩ = some (.int .i64 t) := by
  obtain ⟨b, off, d, e, h1, h2, h3, h4⟩ := Rd.at_ h hk
  exact ⟨b, off, d.1, d.2, e, h1, h2, h3, h4 0 _ rfl, h4 1 _ rfl⟩

end Go.Proofs.YtehoaoeahfmfpaaGreatDoor

namespace Go.Proofs.YtehoaoeahfmfpaaGreatDoor
open Go.RowKit Go.Sort

section
variable {P : Program} (w : World)
/-- append onto a slice of the call's own, at a step of a region that draws its order -/
theorem step_append_ownP {ops : Array Oper} {o : Oper} {a : Act} {K : Act → World → Prop} {Q : Exit → Act → World → Prop} {E : Prop} (hgd : o.guard = none) (s x : Operand) (t : TypeId)
    (ho : o.op = .call { callee := .builtin .append, args := #[s, x], argTypes := #[t, t] })
    (base : Nat) (e : TypeId) (i : TypeInfo) (z : Value) (size bytes : Nat) (ht : P.underlying t = some (.slice e)) (hi : P.info? e = some i) (hz : i.zero = some z)
    (hsize : i.size = size) (hby : i.bytes = bytes) (hzs : z.cells.size = size) (hsz : 0 < size)
    (v : Value) (n : Nat) (xs : List Value) (hs : a.eval s = v) (hown : w.ownsRow base e size v n xs)
    (ad : Addr) (m c : Nat) (news : List Value) (hx : a.eval x = .slice (some ad) m c) (hl : news.length = m * size) (hnews : ∀ j u, news[j]? = some u → w.cell? (ad.add j) = some u) (h1 : ∀ u ∈ news, u.oneCell' = true)
    (h63 : n + m ≤ maxLen) (hbytes : (n + m) * bytes ≤ 140737488355328) (hbase : base ≤ w.heap.size)
    (h : ∀ v' w', w'.ownsRow base e size v' (n + m) (xs ++ news) → w.grownBy w' v.ownBlock → K (a.put o.dst v') w') :
    if Region.wanted o (yielded ops a.tmps) = true then Oper.wp P o a w K Q else E := by
  have hw : Region.wanted o (yielded ops a.tmps) = true := by simp [Region.wanted, hgd]
  rw [if_pos hw]
  exact wp_append_own w s x t ho base e i z size bytes ht hi hz hsize hby hzs hsz v n xs hs hown ad m c news hx hl hnews h1 h63 hbytes hbase (fun v' w' h2 h3 _ => h v' w' h2 h3)
end
end Go.Proofs.YtehoaoeahfmfpaaGreatDoor
