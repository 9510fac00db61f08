/- CountDifferences: the program's and the reference's walks. -/
import Derived.Test.YtncmenfdnpmblaaDoorCode
namespace Go.Proofs.YtncmenfdnpmblaaDoor
open Go.RowKit Go.Sort

theorem arB_len {P : List PC} (h : arB P = true) {i j : Nat} {x y : PC} (hx : P[i]? = some x) (hy : P[j]? = some y) : x.2.length = y.2.length := by
  have h1 := arB_ok h hx
  have h2 := arB_ok h hy
  simp only [okC, Bool.and_eq_true, decide_eq_true_eq] at h1 h2
  rw [h1.2.1, h2.2.1]
/-- the number of differences of two copies -/
def dfN (P : List PC) (i k : Int) : Int := match P[i.toNat]?, P[k.toNat]? with | some x, some y => ((pl (dfB x.2 y.2) x.2.length).length : Nat) | _, _ => 0
def cdA (P : List PC) (i k : Int) : Int := if cdB true P [i, k] = 0 then dfN P i k else 0
theorem cdA_no {P : List PC} {i k : Int} (h : (cdB true P [i, k] != 0) = true) : cdA P i k = 0 := by unfold cdA; rw [if_neg (by simpa using h)]
theorem cdA_yes {P : List PC} {i k : Int} (h : cdB true P [i, k] = 0) {x y : PC} (hx : P[i.toNat]? = some x) (hy : P[k.toNat]? = some y) : cdA P i k = ((pl (dfB x.2 y.2) x.2.length).length : Nat) := by
  unfold cdA dfN; rw [if_pos h, hx, hy]
theorem ret_int2 {k k' : IntKind} {a b a' b' : Int} (h : a = b) (h' : a' = b') : Ending.returned (.tuple #[.int k a, .int k' a']) = .returned (.tuple #[.int k b, .int k' b']) := by rw [h, h']

set_option maxRecDepth 100000 in
set_option maxHeartbeats 2000000 in
theorem specCountDiff_any (A : Option Addr) (l : List Cp) (c lo hi : Nat) (i k : Int) (w : World) (hr : RdC w lo hi A l) (hhi : hi ≤ w.heap.size) (hf : Fit l c) :
    Calls Tryd.prog 36 #[.slice A l.length c, .int .i64 i, .int .i64 k] w fun e w' => e = .returned (.tuple #[.int .i64 (cdA (l.map Cp.p) i k), .int .i64 (cdB true (l.map Cp.p) [i, k])]) ∧ Up w w' := by
  have HC := Lib.hid (l22Code_any true A l c lo hi i k w hr hhi hf)
  have hn := hf.2.2.1
  have hrs := hf.2.1
  clear hf
  by_cases h0 : cdB true (l.map Cp.p) [i, k] = 0
  · have h0' : (cdB true (l.map Cp.p) [i, k] != 0) = false := by simpa using h0
    obtain ⟨hA, -, hix⟩ := cd_inv h0
    have hi1 := hix i (by simp)
    have hk1 := hix k (by simp)
    simp only [List.length_map] at hi1 hk1
    have H0 := Lib.hid h0
    clear h0 hix
    obtain ⟨i, rfl⟩ := Int.eq_ofNat_of_zero_le hi1.1
    obtain ⟨k, rfl⟩ := Int.eq_ofNat_of_zero_le hk1.1
    have hil : i < l.length := by omega
    have hkl : k < l.length := by omega
    go_enter Tryd.func36, Tryd.ntmps36
    go_wp2_with fail
    refine HC.out.mono ?_
    rintro e w1 ⟨rfl, hup⟩
    obtain ⟨b, off, x, rfl, -, -, hx, ix, p0, p1⟩ := (hr.up hup hhi).at_ hil
    obtain ⟨b', off', y, he, -, -, hy, iy, q0, q1⟩ := (hr.up hup hhi).at_ hkl
    cases he
    have hlen : x.rs.length = y.rs.length := arB_len hA (getp hx) (getp hy)
    have HL := Lib.hid hlen
    have HE := Lib.hid (cdA_yes (i := (i : Int)) (k := (k : Int)) H0.out (by simpa using getp hx) (by simpa using getp hy))
    have HX := hrs x (List.mem_of_getElem? hx)
    have hh := Nat.le_trans hhi hup.size
    have cD : ∀ dd os, Calls Tryd.prog 55 #[.slice x.A x.rs.length x.c, .slice y.A y.rs.length y.c] (grow (redrawn w1 dd) os) fun e w'' => e = .returned (.int .i64 ((pl (dfB x.rs y.rs) x.rs.length).length : Nat)) ∧ ∃ p : Regrown, w'' = grow (redrawn w1 p.d) p.os :=
      fun dd os => Calls.regrown_of (l22Differences_any x.A y.A x.rs y.rs x.c y.c lo hi lo hi _ (ix.up (below_regrown _ _ _) hh) (Nat.le_trans hh (below_regrown _ _ _).size) (iy.up (below_regrown _ _ _) hh) (Nat.le_trans hh (below_regrown _ _ _).size) (by rw [HL.out]; exact Nat.le_refl _) HX)
    have P1 := cell_regrown p1
    have Q1 := cell_regrown q1
    clear hx hy hlen ix iy p0 q0 p1 q1 hA
    go_wp2_with fail
    refine wp_region_quiet_below (by kernel_rfl) (by kernel_rfl) ?_
    repeat (quiet_step ((go_at_call 55; exact cD _ _)))
    refine wpQuiet_nil ?_
    intro w2 hw2
    obtain ⟨⟨dq, osq⟩, hw2⟩ := hw2
    have hup2 : Up w1 w2 := by rw [hw2]; exact below_regrown _ _ _
    clear hw2 P1 Q1 cD h0'
    go_wp2
    go_ret2
    exact ⟨ret_int2 HE.out.symm H0.out.symm, hup.trans hup2⟩
  · have h0' : (cdB true (l.map Cp.p) [i, k] != 0) = true := by simpa using h0
    have H := Lib.hid (cdA_no h0')
    clear h0
    go_enter Tryd.func36, Tryd.ntmps36
    go_wp2_with (go_at_call 75; refine HC.out.mono ?_; rintro e w1 ⟨rfl, hup⟩)
    go_ret2
    exact ⟨ret_int2 H.out.symm rfl, by assumption⟩

theorem two_rd (w : World) (i k : Int) : RdI (w.alloc (.cells #[.int .i64 i, .int .i64 k] 2)) w.heap.size (w.heap.size + 1) (some ⟨w.heap.size, 0, none⟩) [i, k] := fun _ => by
  refine ⟨w.heap.size, 0, rfl, Nat.le_refl _, by omega, fun j x hx q u hu => ?_⟩
  match j, hx with
  | 0, hx => match q, hu with
    | 0, hu => simp at hx; subst hx; simp at hu; subst hu; simp
  | 1, hx => match q, hu with
    | 0, hu => simp at hx; subst hx; simp at hu; subst hu; simp

set_option maxRecDepth 100000 in
set_option maxHeartbeats 2000000 in
theorem implCountDiff_any (A : Option Addr) (l : List Cp) (c lo hi : Nat) (i k : Int) (w : World) (hr : RdC w lo hi A l) (hhi : hi ≤ w.heap.size) (hf : Fit l c) :
    Calls Tryd.prog 35 #[.slice A l.length c, .int .i64 i, .int .i64 k] w fun e w' => e = .returned (.tuple #[.int .i64 (cdA (l.map Cp.p) i k), .int .i64 (cdB true (l.map Cp.p) [i, k])]) ∧ Up w w' := by
  have hu0 := Up.alloc w (.cells #[.int .i64 i, .int .i64 k] 2)
  have HC := Lib.hid (checkCopies_any A (some ⟨w.heap.size, 0, none⟩) l [i, k] c 2 lo hi w.heap.size (w.heap.size + 1) _ (hr.up hu0 hhi) (Nat.le_trans hhi hu0.size) hf (two_rd w i k) (by simp) (by simp))
  have hn := hf.2.2.1
  have hrs := hf.2.1
  clear hf
  by_cases h0 : cdB true (l.map Cp.p) [i, k] = 0
  · have h0' : (cdB true (l.map Cp.p) [i, k] != 0) = false := by simpa using h0
    obtain ⟨hA, -, hix⟩ := cd_inv h0
    have hi1 := hix i (by simp)
    have hk1 := hix k (by simp)
    simp only [List.length_map] at hi1 hk1
    have H0 := Lib.hid h0
    clear h0 hix
    obtain ⟨i, rfl⟩ := Int.eq_ofNat_of_zero_le hi1.1
    obtain ⟨k, rfl⟩ := Int.eq_ofNat_of_zero_le hk1.1
    have hil : i < l.length := by omega
    have hkl : k < l.length := by omega
    go_enter Tryd.func35, Tryd.ntmps35
    go_wp2_with fail
    refine HC.out.mono ?_
    rintro e w1 ⟨rfl, hup⟩
    have hupx := hu0.trans hup
    obtain ⟨b, off, x, rfl, -, -, hx, ix, p0, p1⟩ := (hr.up hupx hhi).at_ hil
    obtain ⟨b', off', y, he, -, -, hy, iy, q0, q1⟩ := (hr.up hupx hhi).at_ hkl
    cases he
    have hlen : x.rs.length = y.rs.length := arB_len hA (getp hx) (getp hy)
    have HL := Lib.hid hlen
    have HE := Lib.hid (cdA_yes (i := (i : Int)) (k := (k : Int)) H0.out (by simpa using getp hx) (by simpa using getp hy))
    have HX := hrs x (List.mem_of_getElem? hx)
    have hh := Nat.le_trans hhi hupx.size
    have HIX := Lib.hid ix
    have HIY := Lib.hid iy
    clear hx hy hlen ix iy p0 q0 hA
    go_wp2_with fail
    go_still_tail 10, (by kernel_rfl)
    change wpList _ _ _ _ _ w1.drew
    go_wp2_with fail
    have hdrew : Up w1 w1.drew := (Up.refl w1).drew
    refine (differences_any x.A y.A x.rs y.rs x.c y.c lo hi lo hi _ (HIX.out.up hdrew hh) (Nat.le_trans hh hdrew.size) (HIY.out.up hdrew hh) (Nat.le_trans hh hdrew.size) (by rw [HL.out]; exact Nat.le_refl _) HX).mono ?_
    rintro e w2 ⟨v, rfl, ho, hup2⟩
    obtain ⟨A', c', rfl, -, -, -, -⟩ := own_form ho
    clear ho h0'
    go_wp2
    go_ret2
    exact ⟨ret_int2 HE.out.symm H0.out.symm, hupx.trans (hdrew.trans hup2)⟩
  · have h0' : (cdB true (l.map Cp.p) [i, k] != 0) = true := by simpa using h0
    have H := Lib.hid (cdA_no h0')
    clear h0
    go_enter Tryd.func35, Tryd.ntmps35
    go_wp2_with (go_at_call 73; refine HC.out.mono ?_; rintro e w1 ⟨rfl, hup⟩)
    go_ret2
    exact ⟨ret_int2 H.out.symm rfl, hu0.trans (by assumption)⟩
end Go.Proofs.YtncmenfdnpmblaaDoor
