/- What a copy was made from, its changes, and the cost of a stemma. -/
import Derived.Test.YtncmenfdnpmblaaDoorAnc
import Derived.Test.YtncmenfdnpmblaaDoorDiff
import Derived.Deep.RegionHeld3
namespace Go.Proofs.YtncmenfdnpmblaaDoor
open Go.RowKit Go.Sort

theorem arB_same {P : List PC} (h : arB P = true) {i : Nat} {x : PC} (hx : P[i]? = some x) : x.2.length = n0 P := by
  have h1 := arB_ok h hx
  simp only [okC, Bool.and_eq_true, decide_eq_true_eq] at h1
  exact h1.2.1
theorem arB_20 {P : List PC} (h : arB P = true) {i : Nat} {x : PC} (hx : P[i]? = some x) : x.2.length ≤ 20 := by
  have h1 := arB_ok h hx
  simp only [okC, Bool.and_eq_true, decide_eq_true_eq] at h1
  exact h1.2.2.1
theorem arB_8' {P : List PC} (h : arB P = true) : P.length ≤ 8 := by unfold arB at h; simp only [Bool.and_eq_true, decide_eq_true_eq] at h; exact h.2
theorem orB_same {o : List Int} {P : List PC} {i : Nat} {x : PC} (hA : arB P = true) (h : orB o P = true) (hx : P[i]? = some x) : x.2.length = o.length := by
  have h0 : P.length ≠ 0 := by have := (List.getElem?_eq_some_iff.1 hx).1; omega
  simp only [orB, Bool.and_eq_true, Bool.or_eq_true, decide_eq_true_eq] at h
  rcases h.1.2 with e | e
  · exact absurd e h0
  · rw [e]; exact arB_same hA hx
theorem orB_20 {o : List Int} {P : List PC} (h : orB o P = true) : o.length ≤ 20 := by
  simp only [orB, Bool.and_eq_true, decide_eq_true_eq] at h
  exact h.1.1
theorem dfI_comm (x y : Int) : dfI x y = dfI y x := by
  unfold dfI
  rw [Bool.eq_iff_iff]
  simp only [Bool.and_eq_true, bne_iff_ne]
  constructor <;> rintro ⟨⟨h1, h2⟩, h3⟩ <;> exact ⟨⟨h2, h1⟩, Ne.symm h3⟩
theorem dfB_comm (a b : List Int) (j : Nat) : dfB a b j = dfB b a j := by
  unfold dfB
  rcases a[j]? with _ | x <;> rcases b[j]? with _ | y <;> simp
  exact dfI_comm x y
/-- the readings of copy p, or the original's -/
def rdS (o : List Int) (P : List PC) (p : Int) : List Int := if p = -1 then o else match P[p.toNat]? with | some x => x.2 | none => []
theorem rdS_o (o : List Int) (P : List PC) : rdS o P (-1) = o := rfl
theorem rdS_c {o : List Int} {P : List PC} {k : Nat} {x : PC} (hx : P[k]? = some x) : rdS o P (k : Int) = x.2 := by
  unfold rdS; rw [if_neg (by omega)]; simp [hx]
theorem rdS_len {o : List Int} {P : List PC} (hA : arB P = true) (hO : orB o P = true) {p : Int} (h0 : -1 ≤ p) (h1 : p < P.length) : (rdS o P p).length = o.length := by
  by_cases e : p = -1
  · subst e; rfl
  · obtain ⟨k, rfl⟩ : ∃ k : Nat, p = (k : Int) := ⟨p.toNat, by omega⟩
    have hk : k < P.length := by omega
    rw [rdS_c (List.getElem?_eq_getElem hk)]
    exact orB_same hA hO (List.getElem?_eq_getElem hk)
/-- the places at which copy i differs from p -/
def chL (o : List Int) (P : List PC) (p i : Int) : List Int := pl (dfB (rdS o P p) (rdS o P i)) o.length
def dsN (o : List Int) (P : List PC) (p i : Int) : Nat := (chL o P p i).length
theorem ds_le (o : List Int) (P : List PC) (p i : Int) : dsN o P p i ≤ o.length := pl_len _ _
theorem ds_swap (o : List Int) (P : List PC) (p i : Int) : (pl (dfB (rdS o P i) (rdS o P p)) o.length).length = dsN o P p i := by
  unfold dsN chL
  rw [pl_congr (fun j _ => dfB_comm _ _ j)]
/-- the cost of the first k copies -/
def csN (o : List Int) (P : List PC) (ps : List Int) : Nat → Nat
  | 0 => 0
  | k + 1 => csN o P ps k + dsN o P (upS ps (k : Int)) (k : Int)
theorem cs_le (o : List Int) (P : List PC) (ps : List Int) : ∀ k, csN o P ps k ≤ o.length * k
  | 0 => by simp [csN]
  | k + 1 => by unfold csN; have := cs_le o P ps k; have := ds_le o P (upS ps (k : Int)) (k : Int); rw [Nat.mul_add]; omega

set_option maxRecDepth 100000 in
set_option maxHeartbeats 1000000 in
theorem readingsOf_ex (B : Option Addr) (o : List Int) (cb : Nat) (A : Option Addr) (l : List Cp) (c lo hi lo' hi' : Nat) (p : Int) (w : World) (hr' : RdI w lo' hi' B o) (hhi' : hi' ≤ w.heap.size) (hr : RdC w lo hi A l) (hhi : hi ≤ w.heap.size) (_hn : l.length ≤ 2000000) (h0 : -1 ≤ p) (h1 : p < l.length) :
    ∃ A2 rs c2 lo2 hi2, rs = rdS o (l.map Cp.p) p ∧ RdI w lo2 hi2 A2 rs ∧ hi2 ≤ w.heap.size ∧ ∀ w1, Up w w1 → Calls Tryd.prog 85 #[.slice B o.length cb, .slice A l.length c, .int .i64 p] w1 fun e w' => e = .returned (.slice A2 rs.length c2) ∧ w1 = w' := by
  by_cases e : p = -1
  · subst e
    refine ⟨B, o, cb, lo', hi', rfl, hr', hhi', fun w1 _ => ?_⟩
    go_enter Tryd.func85, Tryd.ntmps85
    go_wp2
    go_ret
    exact ⟨rfl, rfl⟩
  · obtain ⟨k, rfl⟩ : ∃ k : Nat, p = (k : Int) := ⟨p.toNat, by omega⟩
    have hk : k < l.length := by omega
    obtain ⟨b, off, x, rfl, -, -, hx, ix, q0, q1⟩ := hr.at_ hk
    refine ⟨x.A, x.rs, x.c, lo, hi, (rdS_c (getp hx)).symm, ix, hhi, fun w1 hu => ?_⟩
    have e' : ((k : Int) == -1) = false := by simp
    have y1 := hu.cell q1
    clear hx ix q0 q1 e
    go_enter Tryd.func85, Tryd.ntmps85
    go_wp2
    go_ret
    exact ⟨rfl, rfl⟩
set_option maxRecDepth 100000 in
set_option maxHeartbeats 1000000 in
theorem source_ex (B : Option Addr) (o : List Int) (cb : Nat) (A : Option Addr) (l : List Cp) (c lo hi lo' hi' : Nat) (p : Int) (w : World) (hr' : RdI w lo' hi' B o) (hhi' : hi' ≤ w.heap.size) (hr : RdC w lo hi A l) (hhi : hi ≤ w.heap.size) (_hn : l.length ≤ 2000000) (h0 : -1 ≤ p) (h1 : p < l.length) :
    ∃ A2 rs c2 lo2 hi2, rs = rdS o (l.map Cp.p) p ∧ RdI w lo2 hi2 A2 rs ∧ hi2 ≤ w.heap.size ∧ ∀ w1, Up w w1 → Calls Tryd.prog 54 #[.slice B o.length cb, .slice A l.length c, .int .i64 p] w1 fun e w' => e = .returned (.slice A2 rs.length c2) ∧ w1 = w' := by
  by_cases e : p = -1
  · subst e
    refine ⟨B, o, cb, lo', hi', rfl, hr', hhi', fun w1 _ => ?_⟩
    go_enter Tryd.func54, Tryd.ntmps54
    go_wp2
    go_ret
    exact ⟨rfl, rfl⟩
  · obtain ⟨k, rfl⟩ : ∃ k : Nat, p = (k : Int) := ⟨p.toNat, by omega⟩
    have hk : k < l.length := by omega
    obtain ⟨b, off, x, rfl, -, -, hx, ix, q0, q1⟩ := hr.at_ hk
    refine ⟨x.A, x.rs, x.c, lo, hi, (rdS_c (getp hx)).symm, ix, hhi, fun w1 hu => ?_⟩
    have e' : ((k : Int) == -1) = false := by simp
    have y1 := hu.cell q1
    clear hx ix q0 q1 e
    go_enter Tryd.func54, Tryd.ntmps54
    go_wp2
    go_ret
    exact ⟨rfl, rfl⟩

set_option maxRecDepth 100000 in
set_option maxHeartbeats 4000000 in
theorem changesOn_any (B : Option Addr) (o : List Int) (cb : Nat) (A : Option Addr) (l : List Cp) (c lo hi lo' hi' : Nat) (p : Int) (i : Nat) (w : World) (hr' : RdI w lo' hi' B o) (hhi' : hi' ≤ w.heap.size) (hr : RdC w lo hi A l) (hhi : hi ≤ w.heap.size) (hf : Fit l c) (hA : arB (l.map Cp.p) = true) (hO : orB o (l.map Cp.p) = true) (h0 : -1 ≤ p) (h1 : p < l.length) (hil : i < l.length) :
    Calls Tryd.prog 52 #[.slice B o.length cb, .slice A l.length c, .int .i64 p, .int .i64 (i : Int)] w fun e w' => ∃ v, e = .returned v ∧ w'.ownsRow w.heap.size 2 1 v (chL o (l.map Cp.p) p (i : Int)).length ((chL o (l.map Cp.p) p (i : Int)).flatMap intCells) ∧ Up w w' := by
  obtain ⟨A2, rs, c2, lo2, hi2, hrs, hr2, hhi2, hcall⟩ := readingsOf_ex B o cb A l c lo hi lo' hi' p w hr' hhi' hr hhi hf.2.2.1 h0 h1
  obtain ⟨b, off, x, rfl, -, -, hx, ix, q0, q1⟩ := hr.at_ hil
  have hn := hf.2.2.1
  have e1 : rs.length = o.length := by rw [hrs]; exact rdS_len hA hO h0 (by simpa using h1)
  have e2 : x.rs.length = o.length := orB_same hA hO (getp hx)
  have ho20 := orB_20 hO
  have HE := Lib.hid (show pl (dfB rs x.rs) rs.length = chL o (l.map Cp.p) p (i : Int) by unfold chL; rw [rdS_c (getp hx), ← hrs, e1]; rfl)
  obtain ⟨xn, xA, xc, xrs⟩ := x
  simp only at q0 q1 e2 HE ix
  have hD := fun (w5 : World) (h5 : Up w w5) => (differences_any A2 xA rs xrs c2 xc lo2 hi2 lo hi w5 (hr2.up h5 hhi2) (Nat.le_trans hhi2 h5.size) (ix.up h5 hhi) (Nat.le_trans hhi h5.size) (by omega) (by omega)).mono
    (fun e w' ⟨v, h1, h2, h3⟩ => (⟨v, h1, own_base h2 h5.size, h5.trans h3⟩ : ∃ v, e = Ending.returned v ∧ w'.ownsRow w.heap.size 2 1 v (pl (dfB rs xrs) rs.length).length ((pl (dfB rs xrs) rs.length).flatMap intCells) ∧ Up w w'))
  rw [HE.out] at hD
  have HD := Lib.hid hD
  have HS := Lib.hid hcall
  have hd : Up w w.drew := (Up.refl _).drew
  clear hD hcall hrs hr2 hx ix hA hO e1 e2 hf
  go_enter Tryd.func52, Tryd.ntmps52
  go_wp2_with fail
  go_region_held3 (fun w' => Up w w' ∧ w'.cell? ⟨b, off + i * 2 + 1, none⟩ = some (.slice xA xrs.length xc))
    (first | exact ⟨Up.refl _, q1⟩ | exact ⟨hd, q1⟩ | exact ⟨by assumption, by assumption⟩)
    (first
      | (go_at_call 85
         with_reducible refine (HS.out _ (by assumption)).mono ?_
         rintro e w5 ⟨rfl, rfl⟩)
      | (go_at_call 74
         with_reducible refine (HD.out _ (by assumption)).mono ?_
         rintro e w5 ⟨v, rfl, ho, hup5⟩
         have g1 := hup5.cell q1))
  clear g1 q1 q0
  go_wp2
  go_ret
  exact ⟨_, rfl, ho, hup5⟩
end Go.Proofs.YtncmenfdnpmblaaDoor
