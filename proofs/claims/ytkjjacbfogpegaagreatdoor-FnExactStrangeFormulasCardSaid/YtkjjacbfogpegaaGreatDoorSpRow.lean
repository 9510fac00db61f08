/- Sets of days as plain lists: united spans, their meeting, and membership. The law package's helpers over []Span. An append onto a slice of the call's own, at a step of a region that draws its order. -/
import Derived.Test.YtkjjacbfogpegaaGreatDoorLib
import Derived.Test.YtkjjacbfogpegaaGreatDoorMk
import Derived.Test.YtkjjacbfogpegaaGreatDoorProg
import Derived.Deep.AppendLies
namespace Go.Proofs.YtkjjacbfogpegaaGreatDoor

abbrev Sp := Int × Int
/-- a span put behind all that begin no later -/
def insS (s : Sp) : List Sp → List Sp
  | [] => [s]
  | x :: l => if x.1 ≤ s.1 then x :: insS s l else s :: x :: l
def srtS (l : List Sp) : List Sp := l.foldl (fun acc s => insS s acc) []
/-- one span joined to those before it -/
def stpS (out : List Sp) (s : Sp) : List Sp :=
  match out.getLast? with
  | some z => if s.1 ≤ z.2 + 1 then out.dropLast ++ [(z.1, max z.2 s.2)] else out ++ [s]
  | none => out ++ [s]
def unL (l : List Sp) : List Sp := (srtS l).foldl stpS []
def SrtS (l : List Sp) : Prop := l.Pairwise fun a b => a.1 ≤ b.1
def OkS (l : List Sp) : Prop := ∀ s ∈ l, s.1 ≤ s.2
def hasL (set : List Sp) (n : Int) : Bool := set.any fun s => decide (s.1 ≤ n) && decide (n ≤ s.2)

theorem stpS_nil (s : Sp) : stpS [] s = [s] := rfl
theorem stpS_snoc (o : List Sp) (z s : Sp) : stpS (o ++ [z]) s = if s.1 ≤ z.2 + 1 then o ++ [(z.1, max z.2 s.2)] else o ++ [z] ++ [s] := by
  unfold stpS
  rw [List.getLast?_append, List.getLast?_singleton]
  simp
theorem stpS_comm (out : List Sp) (x y : Sp) (h : x.1 = y.1) (hx : x.1 ≤ x.2) (hy : y.1 ≤ y.2) : stpS (stpS out x) y = stpS (stpS out y) x := by
  rcases List.eq_nil_or_concat out with rfl | ⟨o, z, rfl⟩ <;> try rw [List.concat_eq_append]
  · rw [stpS_nil, stpS_nil, ← List.nil_append [x], ← List.nil_append [y], stpS_snoc, stpS_snoc, if_pos (by omega), if_pos (by omega), h, Int.max_comm]
  · by_cases c : x.1 ≤ z.2 + 1
    · rw [stpS_snoc, stpS_snoc, if_pos c, if_pos (by omega), stpS_snoc, stpS_snoc, if_pos (by simp only []; omega), if_pos (by simp only []; omega)]
      congr 3; simp only []; omega
    · rw [stpS_snoc, stpS_snoc, if_neg c, if_neg (by omega), stpS_snoc, stpS_snoc, if_pos (by omega), if_pos (by omega), h, Int.max_comm]
theorem foldS_past (x : Sp) (hx : x.1 ≤ x.2) : ∀ (a b out : List Sp), (∀ y ∈ a, y.1 = x.1 ∧ y.1 ≤ y.2) → (a ++ x :: b).foldl stpS out = (x :: (a ++ b)).foldl stpS out
  | [], b, out, _ => rfl
  | y :: a, b, out, h => by
    have h1 := h y (List.mem_cons_self ..)
    have ih := foldS_past x hx a b (stpS out y) (fun z hz => h z (List.mem_cons_of_mem _ hz))
    simp only [List.cons_append, List.foldl_cons] at ih ⊢
    rw [ih, stpS_comm out y x h1.1 h1.2 hx]
theorem foldS_perm : ∀ (l m out : List Sp), l.Perm m → SrtS l → SrtS m → OkS l → l.foldl stpS out = m.foldl stpS out
  | [], m, out, hp, _, _, _ => by rw [List.nil_perm.1 hp]
  | x :: l, m, out, hp, hl, hm, ho => by
    have hx : x ∈ m := hp.mem_iff.1 (List.mem_cons_self ..)
    obtain ⟨a, b, rfl⟩ := List.append_of_mem hx
    have hl1 := List.pairwise_cons.1 hl
    have hp2 : l.Perm (a ++ b) := (List.perm_cons x).1 (hp.trans List.perm_middle)
    have hm1 := List.pairwise_append.1 hm
    have hm2 := List.pairwise_cons.1 hm1.2.1
    rw [foldS_past x (ho x (List.mem_cons_self ..)) a b out (fun y hy => by
      have e1 := hm1.2.2 y hy x (List.mem_cons_self ..)
      have e2 := hl1.1 y (hp2.mem_iff.2 (List.mem_append_left _ hy))
      exact ⟨by omega, ho y (List.mem_cons_of_mem _ (hp2.mem_iff.2 (List.mem_append_left _ hy)))⟩)]
    simp only [List.foldl_cons]
    exact foldS_perm l (a ++ b) _ hp2 hl1.2 (List.pairwise_append.2 ⟨hm1.1, hm2.2, fun y hy z hz => hm1.2.2 y hy z (List.mem_cons_of_mem _ hz)⟩) (fun s hs => ho s (List.mem_cons_of_mem _ hs))
theorem insS_perm (s : Sp) : ∀ l, (insS s l).Perm (s :: l)
  | [] => List.Perm.refl _
  | x :: l => by
    unfold insS; split
    · exact ((insS_perm s l).cons x).trans (List.Perm.swap s x l)
    · exact List.Perm.refl _
theorem insS_sorted (s : Sp) : ∀ l, SrtS l → SrtS (insS s l)
  | [], _ => by simp [insS, SrtS]
  | x :: l, h => by
    have h1 := List.pairwise_cons.1 h
    unfold insS; split
    · refine List.pairwise_cons.2 ⟨fun y hy => ?_, insS_sorted s l h1.2⟩
      rcases List.mem_cons.1 ((insS_perm s l).mem_iff.1 hy) with e | e
      · subst e; assumption
      · exact h1.1 y e
    · refine List.pairwise_cons.2 ⟨fun y hy => ?_, h⟩
      rcases List.mem_cons.1 hy with e | e
      · subst e; omega
      · have := h1.1 y e; omega
theorem srtS_fold : ∀ (l acc : List Sp), SrtS acc → (l.foldl (fun acc s => insS s acc) acc).Perm (acc ++ l) ∧ SrtS (l.foldl (fun acc s => insS s acc) acc)
  | [], acc, h => ⟨by simp, h⟩
  | x :: l, acc, h => by
    have ih := srtS_fold l (insS x acc) (insS_sorted x acc h)
    refine ⟨ih.1.trans ?_, ih.2⟩
    exact ((insS_perm x acc).append_right l).trans (by simpa using List.perm_middle.symm)
theorem srtS_perm (l : List Sp) : (srtS l).Perm l := by have := (srtS_fold l [] List.Pairwise.nil).1; rwa [List.nil_append] at this
theorem srtS_sorted (l : List Sp) : SrtS (srtS l) := (srtS_fold l [] List.Pairwise.nil).2
theorem unL_of {l m : List Sp} (hp : m.Perm l) (hs : SrtS m) (ho : OkS l) : m.foldl stpS [] = unL l :=
  foldS_perm m (srtS l) [] (hp.trans (srtS_perm l).symm) hs (srtS_sorted l) (fun s h => ho s (hp.mem_iff.1 h))
theorem insS_len (s : Sp) (l : List Sp) : (insS s l).length = l.length + 1 := by simpa using (insS_perm s l).length_eq
theorem srtS_len (l : List Sp) : (srtS l).length = l.length := (srtS_perm l).length_eq
theorem stpS_len (o : List Sp) (s : Sp) : (stpS o s).length ≤ o.length + 1 := by
  rcases List.eq_nil_or_concat o with rfl | ⟨o, z, rfl⟩ <;> try rw [List.concat_eq_append]
  · simp [stpS_nil]
  · rw [stpS_snoc]; split <;> simp
theorem foldS_len : ∀ (l o : List Sp), (l.foldl stpS o).length ≤ o.length + l.length
  | [], o => by simp
  | x :: l, o => by
    have := foldS_len l (stpS o x); have := stpS_len o x
    simp only [List.foldl_cons, List.length_cons]; omega
theorem unL_len (l : List Sp) : (unL l).length ≤ l.length := by
  have := foldS_len (srtS l) []; rw [srtS_len] at this; simpa [unL] using this

/-- the spans of the days that are in both -/
def metF : Nat → List Sp → List Sp → List Sp
  | n + 1, a :: p, b :: q => (if max a.1 b.1 ≤ min a.2 b.2 then [(max a.1 b.1, min a.2 b.2)] else []) ++ if a.2 < b.2 then metF n p (b :: q) else metF n (a :: p) q
  | _, _, _ => []
def metL (a b : List Sp) : List Sp := metF (a.length + b.length) a b
theorem metF_len : ∀ (n : Nat) (a b : List Sp), (metF n a b).length ≤ n
  | 0, a, b => by simp [metF]
  | n + 1, [], b => by simp [metF]
  | n + 1, a :: p, [] => by simp [metF]
  | n + 1, a :: p, b :: q => by
    have h1 := metF_len n p (b :: q)
    have h2 := metF_len n (a :: p) q
    simp only [metF, List.length_append]
    split <;> split <;> simp <;> omega
theorem metL_len (a b : List Sp) : (metL a b).length ≤ a.length + b.length := metF_len _ _ _
theorem metL_nil_l (b : List Sp) : metL [] b = [] := by unfold metL; cases h : ([] : List Sp).length + b.length <;> simp [metF]
theorem metL_nil_r (a : List Sp) : metL a [] = [] := by unfold metL; cases h : a.length + ([] : List Sp).length <;> cases a <;> simp [metF]
theorem metL_cons (a b : Sp) (p q : List Sp) : metL (a :: p) (b :: q) = (if max a.1 b.1 ≤ min a.2 b.2 then [(max a.1 b.1, min a.2 b.2)] else []) ++ if a.2 < b.2 then metL p (b :: q) else metL (a :: p) q := by
  unfold metL
  rw [show (a :: p).length + (b :: q).length = (p.length + (b :: q).length) + 1 by simp; omega, metF]
  rw [show (a :: p).length + q.length = p.length + (b :: q).length by simp; omega]
end Go.Proofs.YtkjjacbfogpegaaGreatDoor

namespace Go.Proofs.YtkjjacbfogpegaaGreatDoor
open Go.RowKit Go.Sort

abbrev spC (s : Sp) : List Value := [.int .i64 s.1, .int .i64 s.2]
abbrev RdP (w : World) (lo hi : Nat) (A : Option Addr) (l : List Sp) : Prop := Rd w lo hi 2 spC A l
theorem spC_len (s : Sp) : (spC s).length = 2 := rfl
theorem Rd.sp {w : World} {lo hi : Nat} {A : Option Addr} {l : List Sp} (h : RdP w lo hi A l) {k : Nat} (hk : k < l.length) :
    ∃ b off f t, A = some ⟨b, off, none⟩ ∧ lo ≤ b ∧ b < hi ∧ l[k]? = some (f, t) ∧ w.cell? ⟨b, off + k * 2, none⟩ = some (.int .i64 f) ∧ w.cell? ⟨b, off + k * 2 + 1, none⟩ = some (.int .i64 t) := by
  obtain ⟨b, off, d, e, h1, h2, h3, h4⟩ := Rd.at_ h hk
  exact ⟨b, off, d.1, d.2, e, h1, h2, h3, h4 0 _ rfl, h4 1 _ rfl⟩

def eqSp (l m : List Sp) : Bool := decide (l = m)
theorem eqSp_len {l m : List Sp} (h : l.length ≠ m.length) : eqSp l m = false := by unfold eqSp; rw [decide_eq_false_iff_not]; rintro rfl; exact h rfl
theorem eqSp_ne {l m : List Sp} {k : Nat} {a b : Sp} (ha : l[k]? = some a) (hb : m[k]? = some b) (h : (!decide (a = b)) = true) : eqSp l m = false := by
  unfold eqSp; rw [decide_eq_false_iff_not]; rintro rfl
  rw [ha] at hb; cases hb
  simp at h
theorem eqSp_eq {l m : List Sp} (h : l.take l.length = m.take l.length) (hl : l.length = m.length) : eqSp l m = true := by
  unfold eqSp; rw [decide_eq_true_iff]
  rwa [List.take_of_length_le (Nat.le_refl _), hl, List.take_of_length_le (Nat.le_refl _)] at h
theorem eqSp_self (l : List Sp) : eqSp l l = true := by simp [eqSp]
set_option maxHeartbeats 1000000 in
theorem eqSpan_any (f t f' t' : Int) (w : World) :
    Calls Tryz.prog 78 #[.agg #[.int .i64 f, .int .i64 t], .agg #[.int .i64 f', .int .i64 t']] w fun e w' => e = .returned (.bool (decide ((f, t) = (f', t')))) ∧ Up w w' := by
  have hub := (Up.alloc w (.cells #[.int .i64 f, .int .i64 t] 86)).allocs (.cells #[.int .i64 f', .int .i64 t'] 86)
  rcases h1 : f != f' with _ | _
  · rcases h2 : t != t' with _ | _
    · have HE := Lib.hid (show decide ((f, t) = (f', t')) = true by simp at h1 h2; simp [h1, h2])
      go_enter Tryz.func78, Tryz.ntmps78
      go_wp2
      go_ret
      exact ⟨ret_bool HE.out.symm, hub⟩
    · have HE := Lib.hid (show decide ((f, t) = (f', t')) = false by simp at h2; simp [h2])
      go_enter Tryz.func78, Tryz.ntmps78
      go_wp2
      go_ret
      exact ⟨ret_bool HE.out.symm, hub⟩
  · have HE := Lib.hid (show decide ((f, t) = (f', t')) = false by simp at h1; simp [h1])
    go_enter Tryz.func78, Tryz.ntmps78
    go_wp2
    go_ret
    exact ⟨ret_bool HE.out.symm, hub⟩
set_option maxHeartbeats 1000000 in
theorem eqSpanS_any (A B : Option Addr) (l m : List Sp) (c c' lo hi lo' hi' : Nat) (w : World) (hr : RdP w lo hi A l) (hhi : hi ≤ w.heap.size) (hr' : RdP w lo' hi' B m) (hhi' : hi' ≤ w.heap.size) (hn : l.length ≤ 2000000) :
    Calls Tryz.prog 29 #[.slice A l.length c, .slice B m.length c'] w fun e w' => e = .returned (.bool (eqSp l m)) ∧ Up w w' := by
  by_cases hne : l.length = m.length
  · have HL := Lib.hid hne
    have hb0 : ((l.length : Int) != (m.length : Int)) = false := by simp [hne]
    have hlm : l.length ≤ m.length := by omega
    clear hne
    go_enter Tryz.func29, Tryz.ntmps29
    go_wp2
    go_loopw [5] (fun i wr => ∃ k : Nat, k ≤ l.length ∧ i = .int .i64 k ∧ l.take k = m.take k ∧ Up w wr) (fun i _ => l.length - (intOf i).toNat)
    case atStart => exact ⟨0, Nat.zero_le _, rfl, by simp, Up.refl _⟩
    case round =>
      obtain ⟨k, hk, rfl, ht, hup⟩ := hrel
      have HT := Lib.hid ht
      clear ht
      by_cases hlt : k < l.length
      · have hlt' : k < m.length := by omega
        obtain ⟨b1, o1, f1, t1, rfl, -, -, hd1, p0, p1⟩ := (hr.up hup hhi).sp hlt
        obtain ⟨b2, o2, f2, t2, rfl, -, -, hd2, q0, q1⟩ := (hr'.up hup hhi').sp hlt'
        have HD1 := Lib.hid hd1
        have HD2 := Lib.hid hd2
        clear hd1 hd2
        have P0 := cell_regrown p0
        have P1 := cell_regrown p1
        have Q0 := cell_regrown q0
        have Q1 := cell_regrown q1
        have hE := fun wx => eqSpan_any f1 t1 f2 t2 wx
        obtain ⟨bb, hbb⟩ : ∃ bb, bb = decide ((f1, t1) = (f2, t2)) := ⟨_, rfl⟩
        simp only [← hbb] at hE
        have HE := Lib.hid hE
        have HB := Lib.hid hbb
        clear hE hbb
        go_wp2_with fail
        refine wp_region_quiet_below (by kernel_rfl) (by kernel_rfl) ?_
        repeat (quiet_step ((go_at_call 78; exact Calls.regrown_of (HE.out _))))
        refine wpQuiet_nil ?_
        intro w2 hw2
        obtain ⟨⟨dq, osq⟩, hw2⟩ := hw2
        have hup2 : Up wr w2 := by rw [hw2]; exact below_regrown _ _ _
        clear hw2 P0 Q0 P1 Q1
        go_wp2
        · have hq : (!decide ((f1, t1) = (f2, t2))) = true := by rw [← HB.out]; assumption
          go_ret
          exact ⟨ret_bool (eqSp_ne HD1.out HD2.out hq).symm, hup.trans hup2⟩
        · have hq : (!decide ((f1, t1) = (f2, t2))) = false := by rw [← HB.out]; assumption
          go_roundw
          case rel => exact ⟨k + 1, by omega, by go_num, take_succ_eq HT.out HD1.out (by rw [show (f1, t1) = (f2, t2) by simpa using hq]; exact HD2.out), hup.trans hup2⟩
          case measure => simp [intOf]; omega
      · go_wp2
        go_ret
        exact ⟨ret_bool (eqSp_eq (by rw [show k = l.length by omega] at HT; exact HT.out) HL.out).symm, hup⟩
  · have hb0 : ((l.length : Int) != (m.length : Int)) = true := by rw [bne_iff_ne]; omega
    have H := Lib.hid hne
    clear hne
    go_enter Tryz.func29, Tryz.ntmps29
    go_wp2
    go_ret
    exact ⟨ret_bool (eqSp_len H.out).symm, Up.refl _⟩

def mkSp (k : Int) (n : Nat) : List Sp := (List.range n).map fun (j : Nat) => (k + 2 * (j : Int), k + 2 * (j : Int) + 1)
theorem mkSp_len (k : Int) (n : Nat) : (mkSp k n).length = n := by simp [mkSp]
theorem mkSp_take {k : Int} {n j : Nat} (h : j < n) : ((mkSp k n).take (j + 1)).flatMap spC = ((mkSp k n).take j).flatMap spC ++ [.int .i64 (k + 2 * (j : Int)), .int .i64 (k + 2 * (j : Int) + 1)] := by
  rw [take_flat_succ _ (x := (k + 2 * (j : Int), k + 2 * (j : Int) + 1)) (by simp [mkSp, h])]
theorem mkSp_get {k : Int} {n j : Nat} (h : j < n) : (mkSp k n)[j]? = some (k + 2 * (j : Int), k + 2 * (j : Int) + 1) := by simp [mkSp, h]
theorem sp_set2 {xs : List Value} {k n : Nat} {f t : Int} {L : List Value} (hx : xs.length = n * 2) (hk : k < n) (ht : xs.take (k * 2) = L) :
    ((xs.set (k * 2) (.int .i64 f)).set (k * 2 + 1) (.int .i64 t)).take ((k + 1) * 2) = L ++ [.int .i64 f, .int .i64 t] := by
  rw [show (k + 1) * 2 = k * 2 + 1 + 1 by omega, take_set_succ (by simp; omega), take_set_succ (by omega), ht]
  simp

set_option maxHeartbeats 1000000 in
theorem markSpanS_any (A : Option Addr) (n c base : Nat) (xs : List Value) (k : Int) (w : World) (hown : w.ownsRow base 86 2 (.slice A n c) n xs) (b0 b1 : Nat) (hb : In (.slice A n c) b0 b1) (hn : n ≤ 2000000) (h0 : 0 ≤ k) (hk : k ≤ 100000000) :
    Calls Tryz.prog 30 #[.slice A n c, .int .i64 k] w fun e w' => e = .returned (.int .i64 (k + 2 * n)) ∧ w'.ownsRow base 86 2 (.slice A n c) n ((mkSp k n).flatMap spC) ∧ Mk b0 b1 w w' := by
  go_enter Tryz.func30, Tryz.ntmps30
  go_wp2
  go_loopw [1, 5] (fun q i wr => ∃ j : Nat, ∃ ys, j ≤ n ∧ i = .int .i64 j ∧ q = .int .i64 (k + 2 * j) ∧ wr.ownsRow base 86 2 (.slice A n c) n ys ∧ ys.take (j * 2) = ((mkSp k n).take j).flatMap spC ∧ Mk b0 b1 w wr) (fun _ i _ => n - (intOf i).toNat)
  case atStart => exact ⟨0, xs, Nat.zero_le _, rfl, by simp, hown, by simp, Mk.refl⟩
  case round =>
    obtain ⟨j, ys, hj, rfl, rfl, hown, hys, hg⟩ := hrel
    have HY := Lib.hid hys
    have HG := Lib.hid hg
    clear hys hg
    by_cases hlt : j < n
    · obtain ⟨A', c', hv, -, -, hA, -⟩ := own_form hown
      simp only [Value.slice.injEq] at hv
      obtain ⟨rfl, -, rfl⟩ := hv
      obtain ⟨g, rfl, -, -⟩ := hA (by omega)
      obtain ⟨u0, r0⟩ := own_cell hown (p := j * 2) (by omega)
      obtain ⟨u1, r1⟩ := own_cell hown (p := j * 2 + 1) (by omega)
      have z0 := hown.frozenAt (j * 2)
      have z1 := hown.frozenAt (j * 2 + 1)
      have s1 := hown.stored (j * 2) (.int .i64 (k + 2 * j))
      have s2 := s1.1.stored (j * 2 + 1) (.int .i64 (k + 2 * j + 1))
      have S := Lib.hid (And.intro s2.1 ((HG.out.step (v := .slice (some ⟨g, 0, none⟩) n c) s1.2 hb).step (v := .slice (some ⟨g, 0, none⟩) n c) s2.2 hb))
      have HL := Lib.hid hown.1
      clear s1 s2
      go_wp2
      go_roundw
      case rel => exact ⟨j + 1, _, by omega, by go_num, by go_num, S.out.1, by rw [sp_set2 HL.out hlt HY.out, mkSp_take hlt], S.out.2⟩
      case measure => simp [intOf]; omega
    · go_wp2
      go_ret
      have e : j = n := by omega
      subst e
      have hx := HY.out
      rw [List.take_of_length_le (by rw [hown.1]; omega), List.take_of_length_le (by rw [mkSp_len]; exact Nat.le_refl _)] at hx
      subst hx
      exact ⟨rfl, hown, HG.out⟩

set_option maxHeartbeats 1000000 in
theorem heldSpanS_any (A : Option Addr) (n c lo hi : Nat) (k : Int) (w : World) (hr : RdP w lo hi A (mkSp k n)) (hn : n ≤ 2000000) (h0 : 0 ≤ k) (hk : k ≤ 2000000) :
    Calls Tryz.prog 31 #[.slice A n c, .int .i64 k] w fun e w' => e = .returned (.int .i64 (k + 2 * n)) ∧ w = w' := by
  go_enter Tryz.func31, Tryz.ntmps31
  go_wp2
  go_loop [1, 4, 5] (fun q u i => ∃ j : Nat, j ≤ n ∧ i = .int .i64 j ∧ q = .int .i64 (k + 2 * j)) (fun _ _ i => n - (intOf i).toNat)
  case atStart => exact ⟨0, Nat.zero_le _, rfl, by simp⟩
  case round =>
    obtain ⟨j, hj, rfl, rfl⟩ := hrel
    by_cases hlt : j < n
    · obtain ⟨b, off, f, t, rfl, -, -, hz, q0, q1⟩ := hr.sp (k := j) (by rw [mkSp_len]; exact hlt)
      rw [mkSp_get hlt] at hz
      simp only [Option.some.injEq, Prod.mk.injEq] at hz
      obtain ⟨rfl, rfl⟩ := hz
      go_wp2
      go_round
      case rel => exact ⟨j + 1, by omega, by go_num, by go_num⟩
      case measure => simp [intOf]; omega
    · go_wp2
      go_ret
      exact ⟨ret_int (by omega), rfl⟩
end Go.Proofs.YtkjjacbfogpegaaGreatDoor

namespace Go.Proofs.YtkjjacbfogpegaaGreatDoor
open Go.RowKit Go.Sort

section
variable {P : Program} (w : World)
/-- append onto a slice of the call's own, at a step of a region that draws its order -/
theorem step_append_ownP {ops : Array Oper} {o : Oper} {a : Act} {K : Act → World → Prop} {Q : Exit → Act → World → Prop} {E : Prop} (hgd : o.guard = none) (s x : Operand) (t : TypeId)
    (ho : o.op = .call { callee := .builtin .append, args := #[s, x], argTypes := #[t, t] })
    (base : Nat) (e : TypeId) (i : TypeInfo) (z : Value) (size bytes : Nat) (ht : P.underlying t = some (.slice e)) (hi : P.info? e = some i) (hz : i.zero = some z)
    (hsize : i.size = size) (hby : i.bytes = bytes) (hzs : z.cells.size = size) (hsz : 0 < size)
    (v : Value) (n : Nat) (xs : List Value) (hs : a.eval s = v) (hown : w.ownsRow base e size v n xs)
    (ad : Addr) (m c : Nat) (news : List Value) (hx : a.eval x = .slice (some ad) m c) (hl : news.length = m * size) (hnews : ∀ j u, news[j]? = some u → w.cell? (ad.add j) = some u) (h1 : ∀ u ∈ news, u.oneCell' = true)
    (h63 : n + m ≤ maxLen) (hbytes : (n + m) * bytes ≤ 140737488355328) (hbase : base ≤ w.heap.size)
    (h : ∀ v' w', w'.ownsRow base e size v' (n + m) (xs ++ news) → w.grownBy w' v.ownBlock → K (a.put o.dst v') w') :
    if Region.wanted o (yielded ops a.tmps) = true then Oper.wp P o a w K Q else E := by
  have hw : Region.wanted o (yielded ops a.tmps) = true := by simp [Region.wanted, hgd]
  rw [if_pos hw]
  exact wp_append_own w s x t ho base e i z size bytes ht hi hz hsize hby hzs hsz v n xs hs hown ad m c news hx hl hnews h1 h63 hbytes hbase (fun v' w' h2 h3 _ => h v' w' h2 h3)
end
end Go.Proofs.YtkjjacbfogpegaaGreatDoor
