/- Formulas: what they say, their sizes, and new copies of them. -/
import Derived.Test.YtcmhgjldkgnblaaGreatDoorFormS
namespace Go.Proofs.YtcmhgjldkgnblaaGreatDoor
open Go.RowKit Go.Sort

structure Fm where
  A : Option Addr
  c : Nat
  ws : List ByteArray
  fr : Int
  to_ : Int
abbrev Fm.cells (x : Fm) : List Value := [.slice x.A x.ws.length x.c, .int .i64 x.fr, .int .i64 x.to_]
abbrev Fm.val (x : Fm) : Value := .agg #[.slice x.A x.ws.length x.c, .int .i64 x.fr, .int .i64 x.to_]
/-- what a formula says -/
def Fm.p (x : Fm) : List ByteArray × Int × Int := (x.ws, x.fr, x.to_)
def Fm.ok' (x : Fm) : Prop := x.ws.length ≤ x.c ∧ x.c ≤ maxLen
def Fm.ok (x : Fm) : Prop := (∀ s ∈ x.ws, s.size ≤ maxLen) ∧ x.ws.length ≤ x.c ∧ x.c ≤ maxLen
theorem fm_len (x : Fm) : x.cells.length = 3 := rfl
def RdF (w : World) (lo hi : Nat) (A : Option Addr) (l : List Fm) : Prop := Rd w lo hi 3 Fm.cells A l ∧ ∀ x ∈ l, RdT w lo hi x.A x.ws
theorem RdF.up {w w' : World} {lo hi : Nat} {A : Option Addr} {l : List Fm} (h : RdF w lo hi A l) (hu : Up w w') (hB : hi ≤ w.heap.size) : RdF w' lo hi A l :=
  ⟨h.1.up hu hB, fun x hx => (h.2 x hx).up hu hB⟩
theorem RdF.at_ {w : World} {lo hi : Nat} {A : Option Addr} {l : List Fm} (h : RdF w lo hi A l) {k : Nat} (hk : k < l.length) :
    ∃ b off x, A = some ⟨b, off, none⟩ ∧ lo ≤ b ∧ b < hi ∧ l[k]? = some x ∧ RdT w lo hi x.A x.ws ∧ w.cell? ⟨b, off + k * 3, none⟩ = some (.slice x.A x.ws.length x.c) ∧ w.cell? ⟨b, off + k * 3 + 1, none⟩ = some (.int .i64 x.fr) ∧ w.cell? ⟨b, off + k * 3 + 2, none⟩ = some (.int .i64 x.to_) := by
  obtain ⟨b, off, x, e, h1, h2, h3, h4⟩ := Rd.at_ h.1 hk
  exact ⟨b, off, x, e, h1, h2, h3, h.2 x (List.mem_of_getElem? h3), h4 0 _ rfl, h4 1 _ rfl, h4 2 _ rfl⟩

set_option maxHeartbeats 1000000 in
theorem szFormula_any (x : Fm) (lo hi : Nat) (left : Int) (w : World) (hr : RdT w lo hi x.A x.ws) (hhi : hi ≤ w.heap.size) (hok : x.ok) (h0 : 0 ≤ left) (hl : left ≤ 2000000) :
    Calls Tryz.prog 10 #[x.val, .int .i64 left] w fun e w' => e = .returned (.int .i64 (szSL x.ws left)) ∧ Up w w' := by
  have hb := Up.alloc w (.cells #[.slice x.A x.ws.length x.c, .int .i64 x.fr, .int .i64 x.to_] 30)
  have HS := Lib.hid (szStringS_any x.A x.ws x.c lo hi left _ (hr.up hb hhi) hok.1 (Nat.le_trans hok.2.1 hok.2.2) h0 hl)
  have hle := szSL_le x.ws left h0
  by_cases h1 : szSL x.ws left < 0
  · have HE := Lib.hid (hle.2 h1)
    have hle1 := hle.1
    clear hle hok
    go_enter Tryz.func10, Tryz.ntmps10
    go_wp2_with (go_at_call 5; refine HS.out.mono ?_; rintro e w1 ⟨rfl, rfl⟩)
    go_ret
    exact ⟨ret_int HE.out.symm, hb⟩
  · have hle1 := hle.1
    clear hle hok
    go_enter Tryz.func10, Tryz.ntmps10
    go_wp2_with (go_at_call 5; refine HS.out.mono ?_; rintro e w1 ⟨rfl, rfl⟩)
    go_ret
    exact ⟨rfl, hb⟩

set_option maxHeartbeats 2000000 in
theorem toFormula_any (x : Fm) (lo hi : Nat) (w : World) (hr : RdT w lo hi x.A x.ws) (hhi : hi ≤ w.heap.size) (hn : x.ws.length ≤ 2000000) :
    Calls Tryz.prog 12 #[x.val] w fun e w' => ∃ y : Fm, e = .returned y.val ∧ y.p = x.p ∧ y.ok' ∧ w'.ownsRow w.heap.size 9 1 (.slice y.A y.ws.length y.c) y.ws.length (y.ws.flatMap strC) ∧ Up w w' := by
  go_enter Tryz.func12, Tryz.ntmps12
  go_wp2_with fail
  refine (toStringS_any x.A x.ws x.c lo hi _ (Rd.up hr ?hu hhi) ?hs hn).mono ?_
  case hu => repeat (first | exact Up.alloc _ _ | refine Up.allocs ?_ _)
  case hs => simp; omega
  rintro e w2 ⟨v, rfl, hown, hup⟩
  obtain ⟨A', c', rfl, h1, h2, -, -⟩ := own_form hown
  have q0 := hup.cell (a := ⟨w.heap.size, 1, none⟩) (v := .int .i64 x.fr) (by go_simp)
  have q1 := hup.cell (a := ⟨w.heap.size, 2, none⟩) (v := .int .i64 x.to_) (by go_simp)
  have r0 := hup.cell (a := ⟨w.heap.size + 1, 0, none⟩) (v := .slice none 0 0) (by go_simp)
  have r1 := hup.cell (a := ⟨w.heap.size + 1, 1, none⟩) (v := .int .i64 0) (by go_simp)
  have r2 := hup.cell (a := ⟨w.heap.size + 1, 2, none⟩) (v := .int .i64 0) (by go_simp)
  have o0 := hup.cell (a := ⟨w.heap.size + 1 + 1, 0, none⟩) (v := .slice none 0 0) (by go_simp)
  have o1 := hup.cell (a := ⟨w.heap.size + 1 + 1, 1, none⟩) (v := .int .i64 0) (by go_simp)
  have o2 := hup.cell (a := ⟨w.heap.size + 1 + 1, 2, none⟩) (v := .int .i64 0) (by go_simp)
  have f0 : w2.frozen? ⟨w.heap.size + 1, 0, none⟩ = false := (Below.frozen hup (p := ⟨w.heap.size + 1, 0, none⟩) (by simp)).trans (by go_simp)
  have f1 : w2.frozen? ⟨w.heap.size + 1, 1, none⟩ = false := (Below.frozen hup (p := ⟨w.heap.size + 1, 1, none⟩) (by simp)).trans (by go_simp)
  have f2 : w2.frozen? ⟨w.heap.size + 1, 2, none⟩ = false := (Below.frozen hup (p := ⟨w.heap.size + 1, 2, none⟩) (by simp)).trans (by go_simp)
  have g0 : w2.frozen? ⟨w.heap.size + 1 + 1, 0, none⟩ = false := (Below.frozen hup (p := ⟨w.heap.size + 1 + 1, 0, none⟩) (by simp)).trans (by go_simp)
  have g1 : w2.frozen? ⟨w.heap.size + 1 + 1, 1, none⟩ = false := (Below.frozen hup (p := ⟨w.heap.size + 1 + 1, 1, none⟩) (by simp)).trans (by go_simp)
  have g2 : w2.frozen? ⟨w.heap.size + 1 + 1, 2, none⟩ = false := (Below.frozen hup (p := ⟨w.heap.size + 1 + 1, 2, none⟩) (by simp)).trans (by go_simp)
  have hsz : w.heap.size + 3 ≤ w2.heap.size := by have := hup.size; simp at this; omega
  have hwu : Up w w2 := Up.trans (by repeat (first | exact Up.alloc _ _ | refine Up.allocs ?_ _)) hup
  have hown1 := own_base (base' := w.heap.size + 3) hown (by simp)
  clear hup hown
  go_wp2
  refine bodyPost_ret (v := (Fm.mk A' c' x.ws x.fr x.to_).val) (by simp [results, Tryz.results12, go_sem, r0, r1, r2]) rfl ⟨⟨A', c', x.ws, x.fr, x.to_⟩, rfl, rfl, ⟨h1, h2⟩, own_base (base := w.heap.size + 3) ?_ (by omega), ?_⟩
  · iterate 6 refine ownsRow_setCell_below ?_ (by first | (simp; done) | (simp; omega)) _
    exact hown1
  · iterate 6 refine Up.setCell ?_ (by first | (simp; done) | (simp; omega)) _
    exact hwu

def eqF (a b : Fm) : Bool := decide (a.p = b.p)
theorem eqF_a {a b : Fm} (h : eqSs a.ws b.ws = false) : eqF a b = false := by
  unfold eqF; rw [decide_eq_false_iff_not]; intro e
  have : a.ws = b.ws := congrArg Prod.fst e
  rw [this, eqSs_self] at h; cases h
theorem eqF_b {a b : Fm} (h : (a.fr != b.fr) = true) : eqF a b = false := by
  unfold eqF; rw [decide_eq_false_iff_not]; intro e
  have : a.fr = b.fr := congrArg (fun x => x.2.1) e
  rw [this] at h; simp at h
theorem eqF_c {a b : Fm} (h : (a.to_ != b.to_) = true) : eqF a b = false := by
  unfold eqF; rw [decide_eq_false_iff_not]; intro e
  have : a.to_ = b.to_ := congrArg (fun x => x.2.2) e
  rw [this] at h; simp at h
theorem eqF_0 {a b : Fm} (h : eqSs a.ws b.ws = true) (h1 : (a.fr != b.fr) = false) (h2 : (a.to_ != b.to_) = false) : eqF a b = true := by
  unfold eqF; rw [decide_eq_true_iff]; unfold Fm.p
  unfold eqSs at h
  rw [of_decide_eq_true h, show a.fr = b.fr by simpa using h1, show a.to_ = b.to_ by simpa using h2]
set_option maxHeartbeats 1000000 in
theorem eqFormula_any (a b : Fm) (lo hi lo' hi' : Nat) (w : World) (hr : RdT w lo hi a.A a.ws) (hhi : hi ≤ w.heap.size) (hr' : RdT w lo' hi' b.A b.ws) (hhi' : hi' ≤ w.heap.size) (hn : a.ws.length ≤ 2000000) :
    Calls Tryz.prog 15 #[a.val, b.val] w fun e w' => e = .returned (.bool (eqF a b)) ∧ Up w w' := by
  have hub := (Up.alloc w (.cells #[.slice a.A a.ws.length a.c, .int .i64 a.fr, .int .i64 a.to_] 35)).allocs (.cells #[.slice b.A b.ws.length b.c, .int .i64 b.fr, .int .i64 b.to_] 35)
  have hq := eqStringS_any a.A b.A a.ws b.ws a.c b.c lo hi lo' hi' _ (hr.up hub hhi) (Nat.le_trans hhi hub.size) (hr'.up hub hhi') (Nat.le_trans hhi' hub.size) hn
  obtain ⟨bb, hbb⟩ : ∃ x, x = eqSs a.ws b.ws := ⟨_, rfl⟩
  rw [← hbb] at hq
  have HQ := Lib.hid hq
  have HB := Lib.hid hbb.symm
  clear hq hbb
  cases bb
  · have HE := Lib.hid (eqF_a HB.out)
    go_enter Tryz.func15, Tryz.ntmps15
    go_wp2_with fail
    refine HQ.out.mono ?_
    rintro e w1 ⟨rfl, hup⟩
    go_wp2
    go_ret
    exact ⟨ret_bool HE.out.symm, hub.trans hup⟩
  · rcases h1 : a.fr != b.fr with _ | _
    · rcases h2 : a.to_ != b.to_ with _ | _
      · have HE := Lib.hid (eqF_0 HB.out h1 h2)
        go_enter Tryz.func15, Tryz.ntmps15
        go_wp2_with fail
        refine HQ.out.mono ?_
        rintro e w1 ⟨rfl, hup⟩
        have c1 := hup.cell (a := ⟨w.heap.size, 1, none⟩) (v := .int .i64 a.fr) (by go_simp)
        have c2 := hup.cell (a := ⟨w.heap.size, 2, none⟩) (v := .int .i64 a.to_) (by go_simp)
        have d1 := hup.cell (a := ⟨w.heap.size + 1, 1, none⟩) (v := .int .i64 b.fr) (by go_simp)
        have d2 := hup.cell (a := ⟨w.heap.size + 1, 2, none⟩) (v := .int .i64 b.to_) (by go_simp)
        go_wp2
        go_ret
        exact ⟨ret_bool HE.out.symm, hub.trans hup⟩
      · have HE := Lib.hid (eqF_c h2)
        go_enter Tryz.func15, Tryz.ntmps15
        go_wp2_with fail
        refine HQ.out.mono ?_
        rintro e w1 ⟨rfl, hup⟩
        have c1 := hup.cell (a := ⟨w.heap.size, 1, none⟩) (v := .int .i64 a.fr) (by go_simp)
        have c2 := hup.cell (a := ⟨w.heap.size, 2, none⟩) (v := .int .i64 a.to_) (by go_simp)
        have d1 := hup.cell (a := ⟨w.heap.size + 1, 1, none⟩) (v := .int .i64 b.fr) (by go_simp)
        have d2 := hup.cell (a := ⟨w.heap.size + 1, 2, none⟩) (v := .int .i64 b.to_) (by go_simp)
        go_wp2
        go_ret
        exact ⟨ret_bool HE.out.symm, hub.trans hup⟩
    · have HE := Lib.hid (eqF_b h1)
      go_enter Tryz.func15, Tryz.ntmps15
      go_wp2_with fail
      refine HQ.out.mono ?_
      rintro e w1 ⟨rfl, hup⟩
      have c1 := hup.cell (a := ⟨w.heap.size, 1, none⟩) (v := .int .i64 a.fr) (by go_simp)
      have d1 := hup.cell (a := ⟨w.heap.size + 1, 1, none⟩) (v := .int .i64 b.fr) (by go_simp)
      go_wp2
      go_ret
      exact ⟨ret_bool HE.out.symm, hub.trans hup⟩
end Go.Proofs.YtcmhgjldkgnblaaGreatDoor
