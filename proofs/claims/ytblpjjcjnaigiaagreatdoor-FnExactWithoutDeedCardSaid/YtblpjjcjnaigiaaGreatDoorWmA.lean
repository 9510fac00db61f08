/- Marks on lists of records that the call itself made, and whether they are still held. -/
import Derived.Test.YtblpjjcjnaigiaaGreatDoorOwA
import Derived.Test.YtblpjjcjnaigiaaGreatDoorVl
import Derived.Test.YtblpjjcjnaigiaaGreatDoorMark0
namespace Go.Proofs.YtblpjjcjnaigiaaGreatDoor
open Go.RowKit Go.Sort

theorem grown_up {w w' : World} (u : Up w w') (row : Option Nat) : w.grownBy w' row := World.grownBy.but (a := w) ⟨u.os, u.tape, u.output, u.size, fun i hi _ => u.block i hi⟩ _
def mk1Nm (q0 : Int) : Nm := ⟨mtext q0, q0 + 1, q0 + 1 + 1⟩
def mkNm (k : Int) (n : Nat) : List Nm := (List.range n).map fun (j : Nat) => mk1Nm (k + 3 * (j : Int))
theorem mkNm_len (k : Int) (n : Nat) : (mkNm k n).length = n := by simp [mkNm]
theorem mkNm_get {k : Int} {n j : Nat} (h : j < n) : (mkNm k n)[j]? = some (mk1Nm (k + 3 * (j : Int))) := by simp [mkNm, h]
set_option maxRecDepth 20000 in
set_option maxHeartbeats 2000000 in
theorem markReignS_any (A : Option Addr) (n c base : Nat) (xs : List Value) (k : Int) (w : World) (hown : w.ownsRow base 120 3 (.slice A n c) n xs) (hn : n ≤ 2000000) (h0 : 1 ≤ k) (hk : k ≤ 60000000) :
    Calls Tryz.prog 127 #[.slice A n c, .int .i64 k] w fun e w' => e = .returned (.int .i64 (k + 3 * n)) ∧ MkA w w' [⟨120, 3, .slice A n c, n, xs⟩] [⟨120, 3, .slice A n c, n, (mkNm k n).flatMap Nm.cells⟩] := by
  have HW := Lib.hid hown
  go_enter Tryz.func127, Tryz.ntmps127
  go_wp2
  go_loopw [1, 5] (fun q i wr => ∃ j : Nat, ∃ ys, j ≤ n ∧ i = .int .i64 j ∧ q = .int .i64 (k + 3 * j) ∧ wr.ownsRow base 120 3 (.slice A n c) n ys ∧ ys.take (j * 3) = ((mkNm k n).take j).flatMap Nm.cells ∧ w.grownBy wr (Value.slice A n c).ownBlock) (fun _ i _ => n - (intOf i).toNat)
  case atStart => exact ⟨0, xs, Nat.zero_le _, rfl, by simp, hown, by simp, World.grownBy.refl w _⟩
  case round =>
    obtain ⟨j, ys, hj, rfl, rfl, hown, hys, hg⟩ := hrel
    have HY := Lib.hid hys
    have G := Lib.hid hg
    clear hys hg
    by_cases hlt : j < n
    · obtain ⟨A', c', hv, -, -, hA, -⟩ := own_form hown
      simp only [Value.slice.injEq] at hv
      obtain ⟨rfl, -, rfl⟩ := hv
      obtain ⟨g, rfl, -, -⟩ := hA (by omega)
      have hqb : 1 ≤ k + 3 * (j : Int) ∧ k + 3 * (j : Int) ≤ 80000000 := by omega
      have HL := Lib.hid hown.1
      obtain ⟨q0, hq⟩ : ∃ q0, q0 = k + 3 * (j : Int) := ⟨_, rfl⟩
      have HQ := Lib.hid hq
      rw [← hq] at hqb ⊢
      clear hq
      obtain ⟨u0, r0⟩ := own_cell hown (p := j * 3) (by omega)
      have z0 := hown.frozenAt (j * 3)
      obtain ⟨u1, r1⟩ := own_cell hown (p := j * 3 + 1) (by omega)
      have z1 := hown.frozenAt (j * 3 + 1)
      obtain ⟨u2, r2⟩ := own_cell hown (p := j * 3 + 2) (by omega)
      have z2 := hown.frozenAt (j * 3 + 2)
      have S := Lib.hid (And.intro hown G.out)
      go_wp2_with fail
      refine (markText_any _ _ (by omega) (by omega)).mono ?_
      rintro e w1 ⟨rfl, hup⟩
      clear r0 z0 r1 z1 r2 z2 hown
      have hown := own_up S.out.1 hup
      have G := Lib.hid (S.out.2.trans (grown_up hup _))
      clear S hup
      obtain ⟨u0, r0⟩ := own_cell hown (p := j * 3) (by omega)
      have z0 := hown.frozenAt (j * 3)
      obtain ⟨u1, r1⟩ := own_cell hown (p := j * 3 + 1) (by omega)
      have z1 := hown.frozenAt (j * 3 + 1)
      obtain ⟨u2, r2⟩ := own_cell hown (p := j * 3 + 2) (by omega)
      have z2 := hown.frozenAt (j * 3 + 2)
      have s0 := hown.stored (j * 3) (.string (mtext (q0)))
      have s1 := s0.1.stored (j * 3 + 1) (.int .i64 (q0 + 1))
      have s2 := s1.1.stored (j * 3 + 2) (.int .i64 (q0 + 1 + 1))
      have S := Lib.hid (And.intro s2.1 (((G.out.trans s0.2).trans s1.2).trans s2.2))
      clear s0 s1 s2
      go_wp2
      go_roundw
      case rel => exact ⟨j + 1, _, by omega, by go_num, congrArg (Value.int .i64) (by have := HQ.out; omega), S.out.1, setReign (l := mkNm k n) (d := mk1Nm q0) (by rw [mkNm_len]; exact HL.out) (by rw [HQ.out]; exact mkNm_get hlt) HY.out, S.out.2⟩
      case measure => simp [intOf]; omega
    · go_wp2
      go_ret
      have e : j = n := by omega
      subst e
      have hx := HY.out
      rw [List.take_of_length_le (by rw [hown.1]; omega), List.take_of_length_le (by rw [mkNm_len]; exact Nat.le_refl _)] at hx
      subst hx
      exact ⟨rfl, MkA.leaf (r := ⟨120, 3, .slice A j c, j, xs⟩) HW.out hown G.out⟩
set_option maxRecDepth 20000 in
set_option maxHeartbeats 2000000 in
theorem heldReignS_any (A : Option Addr) (n c lo hi : Nat) (k : Int) (w : World) (hr : RdNm w lo hi A (mkNm k n)) (hhi : hi ≤ w.heap.size) (hn : n ≤ 2000000) (h0 : 1 ≤ k) (hk : k ≤ 60000000) :
    Calls Tryz.prog 131 #[.slice A n c, .int .i64 k] w fun e w' => e = .returned (.int .i64 (k + 3 * n)) ∧ Up w w' := by
  have hss : ∀ s : ByteArray, (s.toList != s.toList) = false := fun s => by simp
  have hii : ∀ i : Int, (i != i) = false := fun s => by simp
  go_enter Tryz.func131, Tryz.ntmps131
  go_wp2
  go_loopw [1, 4, 5] (fun q u i wr => ∃ j : Nat, j ≤ n ∧ i = .int .i64 j ∧ q = .int .i64 (k + 3 * j) ∧ Up w wr) (fun _ _ i _ => n - (intOf i).toNat)
  case atStart => exact ⟨0, Nat.zero_le _, rfl, by simp, Up.refl _⟩
  case round =>
    obtain ⟨j, hj, rfl, rfl, hup⟩ := hrel
    by_cases hlt : j < n
    · obtain ⟨b, off, d, rfl, -, -, hd, p0, p1, p2⟩ := (hr.up hup hhi).nm (k := j) (by rw [mkNm_len]; exact hlt)
      rw [mkNm_get hlt] at hd
      have hd' := (Option.some.inj hd).symm
      clear hd
      have hqb : 1 ≤ k + 3 * (j : Int) ∧ k + 3 * (j : Int) ≤ 80000000 := by omega
      obtain ⟨q0, hq⟩ : ∃ q0, q0 = k + 3 * (j : Int) := ⟨_, rfl⟩
      have HQ := Lib.hid hq
      rw [← hq] at hqb hd' ⊢
      clear hq
      subst hd'
      simp only [mk1Nm] at p0 p1 p2
      have P0 := cell_regrown p0
      go_wp2_with fail
      refine wp_region_quiet_below (by kernel_rfl) (by kernel_rfl) ?_
      repeat (quiet_step ((go_at_call 84; exact Calls.regrown_of (markText_any _ _ (by omega) (by omega)))))
      refine wpQuiet_nil ?_
      intro v1 hv
      obtain ⟨⟨dq, osq⟩, hv⟩ := hv
      have up1 : Up wr v1 := by rw [hv]; exact below_regrown _ _ _
      clear hv P0
      replace p0 := up1.cell p0
      replace p1 := up1.cell p1
      replace p2 := up1.cell p2
      go_wp2
      go_roundw
      case rel => exact ⟨j + 1, by omega, by go_num, congrArg (Value.int .i64) (by have := HQ.out; omega), (hup.trans up1)⟩
      case measure => simp [intOf]; omega
    · go_wp2
      go_ret
      exact ⟨ret_int (by omega), hup⟩
set_option maxRecDepth 20000 in
set_option maxHeartbeats 2000000 in
theorem markPersonS_any (A : Option Addr) (n c base : Nat) (xs : List Value) (k : Int) (w : World) (hown : w.ownsRow base 123 3 (.slice A n c) n xs) (hn : n ≤ 2000000) (h0 : 1 ≤ k) (hk : k ≤ 60000000) :
    Calls Tryz.prog 128 #[.slice A n c, .int .i64 k] w fun e w' => e = .returned (.int .i64 (k + 3 * n)) ∧ MkA w w' [⟨123, 3, .slice A n c, n, xs⟩] [⟨123, 3, .slice A n c, n, (mkNm k n).flatMap Nm.cells⟩] := by
  have HW := Lib.hid hown
  go_enter Tryz.func128, Tryz.ntmps128
  go_wp2
  go_loopw [1, 5] (fun q i wr => ∃ j : Nat, ∃ ys, j ≤ n ∧ i = .int .i64 j ∧ q = .int .i64 (k + 3 * j) ∧ wr.ownsRow base 123 3 (.slice A n c) n ys ∧ ys.take (j * 3) = ((mkNm k n).take j).flatMap Nm.cells ∧ w.grownBy wr (Value.slice A n c).ownBlock) (fun _ i _ => n - (intOf i).toNat)
  case atStart => exact ⟨0, xs, Nat.zero_le _, rfl, by simp, hown, by simp, World.grownBy.refl w _⟩
  case round =>
    obtain ⟨j, ys, hj, rfl, rfl, hown, hys, hg⟩ := hrel
    have HY := Lib.hid hys
    have G := Lib.hid hg
    clear hys hg
    by_cases hlt : j < n
    · obtain ⟨A', c', hv, -, -, hA, -⟩ := own_form hown
      simp only [Value.slice.injEq] at hv
      obtain ⟨rfl, -, rfl⟩ := hv
      obtain ⟨g, rfl, -, -⟩ := hA (by omega)
      have hqb : 1 ≤ k + 3 * (j : Int) ∧ k + 3 * (j : Int) ≤ 80000000 := by omega
      have HL := Lib.hid hown.1
      obtain ⟨q0, hq⟩ : ∃ q0, q0 = k + 3 * (j : Int) := ⟨_, rfl⟩
      have HQ := Lib.hid hq
      rw [← hq] at hqb ⊢
      clear hq
      obtain ⟨u0, r0⟩ := own_cell hown (p := j * 3) (by omega)
      have z0 := hown.frozenAt (j * 3)
      obtain ⟨u1, r1⟩ := own_cell hown (p := j * 3 + 1) (by omega)
      have z1 := hown.frozenAt (j * 3 + 1)
      obtain ⟨u2, r2⟩ := own_cell hown (p := j * 3 + 2) (by omega)
      have z2 := hown.frozenAt (j * 3 + 2)
      have S := Lib.hid (And.intro hown G.out)
      go_wp2_with fail
      refine (markText_any _ _ (by omega) (by omega)).mono ?_
      rintro e w1 ⟨rfl, hup⟩
      clear r0 z0 r1 z1 r2 z2 hown
      have hown := own_up S.out.1 hup
      have G := Lib.hid (S.out.2.trans (grown_up hup _))
      clear S hup
      obtain ⟨u0, r0⟩ := own_cell hown (p := j * 3) (by omega)
      have z0 := hown.frozenAt (j * 3)
      obtain ⟨u1, r1⟩ := own_cell hown (p := j * 3 + 1) (by omega)
      have z1 := hown.frozenAt (j * 3 + 1)
      obtain ⟨u2, r2⟩ := own_cell hown (p := j * 3 + 2) (by omega)
      have z2 := hown.frozenAt (j * 3 + 2)
      have s0 := hown.stored (j * 3) (.string (mtext (q0)))
      have s1 := s0.1.stored (j * 3 + 1) (.int .i64 (q0 + 1))
      have s2 := s1.1.stored (j * 3 + 2) (.int .i64 (q0 + 1 + 1))
      have S := Lib.hid (And.intro s2.1 (((G.out.trans s0.2).trans s1.2).trans s2.2))
      clear s0 s1 s2
      go_wp2
      go_roundw
      case rel => exact ⟨j + 1, _, by omega, by go_num, congrArg (Value.int .i64) (by have := HQ.out; omega), S.out.1, setPerson (l := mkNm k n) (d := mk1Nm q0) (by rw [mkNm_len]; exact HL.out) (by rw [HQ.out]; exact mkNm_get hlt) HY.out, S.out.2⟩
      case measure => simp [intOf]; omega
    · go_wp2
      go_ret
      have e : j = n := by omega
      subst e
      have hx := HY.out
      rw [List.take_of_length_le (by rw [hown.1]; omega), List.take_of_length_le (by rw [mkNm_len]; exact Nat.le_refl _)] at hx
      subst hx
      exact ⟨rfl, MkA.leaf (r := ⟨123, 3, .slice A j c, j, xs⟩) HW.out hown G.out⟩
set_option maxRecDepth 20000 in
set_option maxHeartbeats 2000000 in
theorem heldPersonS_any (A : Option Addr) (n c lo hi : Nat) (k : Int) (w : World) (hr : RdNm w lo hi A (mkNm k n)) (hhi : hi ≤ w.heap.size) (hn : n ≤ 2000000) (h0 : 1 ≤ k) (hk : k ≤ 60000000) :
    Calls Tryz.prog 132 #[.slice A n c, .int .i64 k] w fun e w' => e = .returned (.int .i64 (k + 3 * n)) ∧ Up w w' := by
  have hss : ∀ s : ByteArray, (s.toList != s.toList) = false := fun s => by simp
  have hii : ∀ i : Int, (i != i) = false := fun s => by simp
  go_enter Tryz.func132, Tryz.ntmps132
  go_wp2
  go_loopw [1, 4, 5] (fun q u i wr => ∃ j : Nat, j ≤ n ∧ i = .int .i64 j ∧ q = .int .i64 (k + 3 * j) ∧ Up w wr) (fun _ _ i _ => n - (intOf i).toNat)
  case atStart => exact ⟨0, Nat.zero_le _, rfl, by simp, Up.refl _⟩
  case round =>
    obtain ⟨j, hj, rfl, rfl, hup⟩ := hrel
    by_cases hlt : j < n
    · obtain ⟨b, off, d, rfl, -, -, hd, p0, p1, p2⟩ := (hr.up hup hhi).nm (k := j) (by rw [mkNm_len]; exact hlt)
      rw [mkNm_get hlt] at hd
      have hd' := (Option.some.inj hd).symm
      clear hd
      have hqb : 1 ≤ k + 3 * (j : Int) ∧ k + 3 * (j : Int) ≤ 80000000 := by omega
      obtain ⟨q0, hq⟩ : ∃ q0, q0 = k + 3 * (j : Int) := ⟨_, rfl⟩
      have HQ := Lib.hid hq
      rw [← hq] at hqb hd' ⊢
      clear hq
      subst hd'
      simp only [mk1Nm] at p0 p1 p2
      have P0 := cell_regrown p0
      go_wp2_with fail
      refine wp_region_quiet_below (by kernel_rfl) (by kernel_rfl) ?_
      repeat (quiet_step ((go_at_call 84; exact Calls.regrown_of (markText_any _ _ (by omega) (by omega)))))
      refine wpQuiet_nil ?_
      intro v1 hv
      obtain ⟨⟨dq, osq⟩, hv⟩ := hv
      have up1 : Up wr v1 := by rw [hv]; exact below_regrown _ _ _
      clear hv P0
      replace p0 := up1.cell p0
      replace p1 := up1.cell p1
      replace p2 := up1.cell p2
      go_wp2
      go_roundw
      case rel => exact ⟨j + 1, by omega, by go_num, congrArg (Value.int .i64) (by have := HQ.out; omega), (hup.trans up1)⟩
      case measure => simp [intOf]; omega
    · go_wp2
      go_ret
      exact ⟨ret_int (by omega), hup⟩
set_option maxRecDepth 20000 in
set_option maxHeartbeats 2000000 in
theorem markMarkS_any (A : Option Addr) (n c base : Nat) (xs : List Value) (k : Int) (w : World) (hown : w.ownsRow base 134 3 (.slice A n c) n xs) (hn : n ≤ 2000000) (h0 : 1 ≤ k) (hk : k ≤ 60000000) :
    Calls Tryz.prog 83 #[.slice A n c, .int .i64 k] w fun e w' => e = .returned (.int .i64 (k + 3 * n)) ∧ MkA w w' [⟨134, 3, .slice A n c, n, xs⟩] [⟨134, 3, .slice A n c, n, (mkNm k n).flatMap Nm.cells⟩] := by
  have HW := Lib.hid hown
  go_enter Tryz.func83, Tryz.ntmps83
  go_wp2
  go_loopw [1, 5] (fun q i wr => ∃ j : Nat, ∃ ys, j ≤ n ∧ i = .int .i64 j ∧ q = .int .i64 (k + 3 * j) ∧ wr.ownsRow base 134 3 (.slice A n c) n ys ∧ ys.take (j * 3) = ((mkNm k n).take j).flatMap Nm.cells ∧ w.grownBy wr (Value.slice A n c).ownBlock) (fun _ i _ => n - (intOf i).toNat)
  case atStart => exact ⟨0, xs, Nat.zero_le _, rfl, by simp, hown, by simp, World.grownBy.refl w _⟩
  case round =>
    obtain ⟨j, ys, hj, rfl, rfl, hown, hys, hg⟩ := hrel
    have HY := Lib.hid hys
    have G := Lib.hid hg
    clear hys hg
    by_cases hlt : j < n
    · obtain ⟨A', c', hv, -, -, hA, -⟩ := own_form hown
      simp only [Value.slice.injEq] at hv
      obtain ⟨rfl, -, rfl⟩ := hv
      obtain ⟨g, rfl, -, -⟩ := hA (by omega)
      have hqb : 1 ≤ k + 3 * (j : Int) ∧ k + 3 * (j : Int) ≤ 80000000 := by omega
      have HL := Lib.hid hown.1
      obtain ⟨q0, hq⟩ : ∃ q0, q0 = k + 3 * (j : Int) := ⟨_, rfl⟩
      have HQ := Lib.hid hq
      rw [← hq] at hqb ⊢
      clear hq
      obtain ⟨u0, r0⟩ := own_cell hown (p := j * 3) (by omega)
      have z0 := hown.frozenAt (j * 3)
      obtain ⟨u1, r1⟩ := own_cell hown (p := j * 3 + 1) (by omega)
      have z1 := hown.frozenAt (j * 3 + 1)
      obtain ⟨u2, r2⟩ := own_cell hown (p := j * 3 + 2) (by omega)
      have z2 := hown.frozenAt (j * 3 + 2)
      have S := Lib.hid (And.intro hown G.out)
      go_wp2_with fail
      refine (markText_any _ _ (by omega) (by omega)).mono ?_
      rintro e w1 ⟨rfl, hup⟩
      clear r0 z0 r1 z1 r2 z2 hown
      have hown := own_up S.out.1 hup
      have G := Lib.hid (S.out.2.trans (grown_up hup _))
      clear S hup
      obtain ⟨u0, r0⟩ := own_cell hown (p := j * 3) (by omega)
      have z0 := hown.frozenAt (j * 3)
      obtain ⟨u1, r1⟩ := own_cell hown (p := j * 3 + 1) (by omega)
      have z1 := hown.frozenAt (j * 3 + 1)
      obtain ⟨u2, r2⟩ := own_cell hown (p := j * 3 + 2) (by omega)
      have z2 := hown.frozenAt (j * 3 + 2)
      have s0 := hown.stored (j * 3) (.string (mtext (q0)))
      have s1 := s0.1.stored (j * 3 + 1) (.int .i64 (q0 + 1))
      have s2 := s1.1.stored (j * 3 + 2) (.int .i64 (q0 + 1 + 1))
      have S := Lib.hid (And.intro s2.1 (((G.out.trans s0.2).trans s1.2).trans s2.2))
      clear s0 s1 s2
      go_wp2
      go_roundw
      case rel => exact ⟨j + 1, _, by omega, by go_num, congrArg (Value.int .i64) (by have := HQ.out; omega), S.out.1, setMark (l := mkNm k n) (d := mk1Nm q0) (by rw [mkNm_len]; exact HL.out) (by rw [HQ.out]; exact mkNm_get hlt) HY.out, S.out.2⟩
      case measure => simp [intOf]; omega
    · go_wp2
      go_ret
      have e : j = n := by omega
      subst e
      have hx := HY.out
      rw [List.take_of_length_le (by rw [hown.1]; omega), List.take_of_length_le (by rw [mkNm_len]; exact Nat.le_refl _)] at hx
      subst hx
      exact ⟨rfl, MkA.leaf (r := ⟨134, 3, .slice A j c, j, xs⟩) HW.out hown G.out⟩
set_option maxRecDepth 20000 in
set_option maxHeartbeats 2000000 in
theorem heldMarkS_any (A : Option Addr) (n c lo hi : Nat) (k : Int) (w : World) (hr : RdNm w lo hi A (mkNm k n)) (hhi : hi ≤ w.heap.size) (hn : n ≤ 2000000) (h0 : 1 ≤ k) (hk : k ≤ 60000000) :
    Calls Tryz.prog 92 #[.slice A n c, .int .i64 k] w fun e w' => e = .returned (.int .i64 (k + 3 * n)) ∧ Up w w' := by
  have hss : ∀ s : ByteArray, (s.toList != s.toList) = false := fun s => by simp
  have hii : ∀ i : Int, (i != i) = false := fun s => by simp
  go_enter Tryz.func92, Tryz.ntmps92
  go_wp2
  go_loopw [1, 4, 5] (fun q u i wr => ∃ j : Nat, j ≤ n ∧ i = .int .i64 j ∧ q = .int .i64 (k + 3 * j) ∧ Up w wr) (fun _ _ i _ => n - (intOf i).toNat)
  case atStart => exact ⟨0, Nat.zero_le _, rfl, by simp, Up.refl _⟩
  case round =>
    obtain ⟨j, hj, rfl, rfl, hup⟩ := hrel
    by_cases hlt : j < n
    · obtain ⟨b, off, d, rfl, -, -, hd, p0, p1, p2⟩ := (hr.up hup hhi).nm (k := j) (by rw [mkNm_len]; exact hlt)
      rw [mkNm_get hlt] at hd
      have hd' := (Option.some.inj hd).symm
      clear hd
      have hqb : 1 ≤ k + 3 * (j : Int) ∧ k + 3 * (j : Int) ≤ 80000000 := by omega
      obtain ⟨q0, hq⟩ : ∃ q0, q0 = k + 3 * (j : Int) := ⟨_, rfl⟩
      have HQ := Lib.hid hq
      rw [← hq] at hqb hd' ⊢
      clear hq
      subst hd'
      simp only [mk1Nm] at p0 p1 p2
      have P0 := cell_regrown p0
      go_wp2_with fail
      refine wp_region_quiet_below (by kernel_rfl) (by kernel_rfl) ?_
      repeat (quiet_step ((go_at_call 84; exact Calls.regrown_of (markText_any _ _ (by omega) (by omega)))))
      refine wpQuiet_nil ?_
      intro v1 hv
      obtain ⟨⟨dq, osq⟩, hv⟩ := hv
      have up1 : Up wr v1 := by rw [hv]; exact below_regrown _ _ _
      clear hv P0
      replace p0 := up1.cell p0
      replace p1 := up1.cell p1
      replace p2 := up1.cell p2
      go_wp2
      go_roundw
      case rel => exact ⟨j + 1, by omega, by go_num, congrArg (Value.int .i64) (by have := HQ.out; omega), (hup.trans up1)⟩
      case measure => simp [intOf]; omega
    · go_wp2
      go_ret
      exact ⟨ret_int (by omega), hup⟩
def mk1Tm (q0 : Int) : Tm := ⟨mtext q0, mtext (q0 + 1), q0 + 1 + 1, q0 + 1 + 1 + 1⟩
def mkTm (k : Int) (n : Nat) : List Tm := (List.range n).map fun (j : Nat) => mk1Tm (k + 4 * (j : Int))
theorem mkTm_len (k : Int) (n : Nat) : (mkTm k n).length = n := by simp [mkTm]
theorem mkTm_get {k : Int} {n j : Nat} (h : j < n) : (mkTm k n)[j]? = some (mk1Tm (k + 4 * (j : Int))) := by simp [mkTm, h]
set_option maxRecDepth 20000 in
set_option maxHeartbeats 2000000 in
theorem markTermS_any (A : Option Addr) (n c base : Nat) (xs : List Value) (k : Int) (w : World) (hown : w.ownsRow base 126 4 (.slice A n c) n xs) (hn : n ≤ 2000000) (h0 : 1 ≤ k) (hk : k ≤ 60000000) :
    Calls Tryz.prog 129 #[.slice A n c, .int .i64 k] w fun e w' => e = .returned (.int .i64 (k + 4 * n)) ∧ MkA w w' [⟨126, 4, .slice A n c, n, xs⟩] [⟨126, 4, .slice A n c, n, (mkTm k n).flatMap Tm.cells⟩] := by
  have HW := Lib.hid hown
  go_enter Tryz.func129, Tryz.ntmps129
  go_wp2
  go_loopw [1, 5] (fun q i wr => ∃ j : Nat, ∃ ys, j ≤ n ∧ i = .int .i64 j ∧ q = .int .i64 (k + 4 * j) ∧ wr.ownsRow base 126 4 (.slice A n c) n ys ∧ ys.take (j * 4) = ((mkTm k n).take j).flatMap Tm.cells ∧ w.grownBy wr (Value.slice A n c).ownBlock) (fun _ i _ => n - (intOf i).toNat)
  case atStart => exact ⟨0, xs, Nat.zero_le _, rfl, by simp, hown, by simp, World.grownBy.refl w _⟩
  case round =>
    obtain ⟨j, ys, hj, rfl, rfl, hown, hys, hg⟩ := hrel
    have HY := Lib.hid hys
    have G := Lib.hid hg
    clear hys hg
    by_cases hlt : j < n
    · obtain ⟨A', c', hv, -, -, hA, -⟩ := own_form hown
      simp only [Value.slice.injEq] at hv
      obtain ⟨rfl, -, rfl⟩ := hv
      obtain ⟨g, rfl, -, -⟩ := hA (by omega)
      have hqb : 1 ≤ k + 4 * (j : Int) ∧ k + 4 * (j : Int) ≤ 80000000 := by omega
      have HL := Lib.hid hown.1
      obtain ⟨q0, hq⟩ : ∃ q0, q0 = k + 4 * (j : Int) := ⟨_, rfl⟩
      have HQ := Lib.hid hq
      rw [← hq] at hqb ⊢
      clear hq
      obtain ⟨u0, r0⟩ := own_cell hown (p := j * 4) (by omega)
      have z0 := hown.frozenAt (j * 4)
      obtain ⟨u1, r1⟩ := own_cell hown (p := j * 4 + 1) (by omega)
      have z1 := hown.frozenAt (j * 4 + 1)
      obtain ⟨u2, r2⟩ := own_cell hown (p := j * 4 + 2) (by omega)
      have z2 := hown.frozenAt (j * 4 + 2)
      obtain ⟨u3, r3⟩ := own_cell hown (p := j * 4 + 3) (by omega)
      have z3 := hown.frozenAt (j * 4 + 3)
      have S := Lib.hid (And.intro hown G.out)
      go_wp2_with fail
      refine (markText_any _ _ (by omega) (by omega)).mono ?_
      rintro e w1 ⟨rfl, hup⟩
      clear r0 z0 r1 z1 r2 z2 r3 z3 hown
      have hown := own_up S.out.1 hup
      have G := Lib.hid (S.out.2.trans (grown_up hup _))
      clear S hup
      obtain ⟨u0, r0⟩ := own_cell hown (p := j * 4) (by omega)
      have z0 := hown.frozenAt (j * 4)
      obtain ⟨u1, r1⟩ := own_cell hown (p := j * 4 + 1) (by omega)
      have z1 := hown.frozenAt (j * 4 + 1)
      obtain ⟨u2, r2⟩ := own_cell hown (p := j * 4 + 2) (by omega)
      have z2 := hown.frozenAt (j * 4 + 2)
      obtain ⟨u3, r3⟩ := own_cell hown (p := j * 4 + 3) (by omega)
      have z3 := hown.frozenAt (j * 4 + 3)
      have s0 := hown.stored (j * 4) (.string (mtext (q0)))
      have S := Lib.hid (And.intro s0.1 (G.out.trans s0.2))
      clear s0
      go_wp2_with fail
      refine (markText_any _ _ (by omega) (by omega)).mono ?_
      rintro e w2 ⟨rfl, hup⟩
      clear r0 z0 r1 z1 r2 z2 r3 z3 hown
      have hown := own_up S.out.1 hup
      have G := Lib.hid (S.out.2.trans (grown_up hup _))
      clear S hup
      obtain ⟨u0, r0⟩ := own_cell hown (p := j * 4) (by omega)
      have z0 := hown.frozenAt (j * 4)
      obtain ⟨u1, r1⟩ := own_cell hown (p := j * 4 + 1) (by omega)
      have z1 := hown.frozenAt (j * 4 + 1)
      obtain ⟨u2, r2⟩ := own_cell hown (p := j * 4 + 2) (by omega)
      have z2 := hown.frozenAt (j * 4 + 2)
      obtain ⟨u3, r3⟩ := own_cell hown (p := j * 4 + 3) (by omega)
      have z3 := hown.frozenAt (j * 4 + 3)
      have s0 := hown.stored (j * 4 + 1) (.string (mtext (q0 + 1)))
      have s1 := s0.1.stored (j * 4 + 2) (.int .i64 (q0 + 1 + 1))
      have s2 := s1.1.stored (j * 4 + 3) (.int .i64 (q0 + 1 + 1 + 1))
      have S := Lib.hid (And.intro s2.1 (((G.out.trans s0.2).trans s1.2).trans s2.2))
      clear s0 s1 s2
      go_wp2
      go_roundw
      case rel => exact ⟨j + 1, _, by omega, by go_num, congrArg (Value.int .i64) (by have := HQ.out; omega), S.out.1, setTerm (l := mkTm k n) (d := mk1Tm q0) (by rw [mkTm_len]; exact HL.out) (by rw [HQ.out]; exact mkTm_get hlt) HY.out, S.out.2⟩
      case measure => simp [intOf]; omega
    · go_wp2
      go_ret
      have e : j = n := by omega
      subst e
      have hx := HY.out
      rw [List.take_of_length_le (by rw [hown.1]; omega), List.take_of_length_le (by rw [mkTm_len]; exact Nat.le_refl _)] at hx
      subst hx
      exact ⟨rfl, MkA.leaf (r := ⟨126, 4, .slice A j c, j, xs⟩) HW.out hown G.out⟩
set_option maxRecDepth 20000 in
set_option maxHeartbeats 2000000 in
theorem heldTermS_any (A : Option Addr) (n c lo hi : Nat) (k : Int) (w : World) (hr : RdTm w lo hi A (mkTm k n)) (hhi : hi ≤ w.heap.size) (hn : n ≤ 2000000) (h0 : 1 ≤ k) (hk : k ≤ 60000000) :
    Calls Tryz.prog 133 #[.slice A n c, .int .i64 k] w fun e w' => e = .returned (.int .i64 (k + 4 * n)) ∧ Up w w' := by
  have hss : ∀ s : ByteArray, (s.toList != s.toList) = false := fun s => by simp
  have hii : ∀ i : Int, (i != i) = false := fun s => by simp
  go_enter Tryz.func133, Tryz.ntmps133
  go_wp2
  go_loopw [1, 4, 5] (fun q u i wr => ∃ j : Nat, j ≤ n ∧ i = .int .i64 j ∧ q = .int .i64 (k + 4 * j) ∧ Up w wr) (fun _ _ i _ => n - (intOf i).toNat)
  case atStart => exact ⟨0, Nat.zero_le _, rfl, by simp, Up.refl _⟩
  case round =>
    obtain ⟨j, hj, rfl, rfl, hup⟩ := hrel
    by_cases hlt : j < n
    · obtain ⟨b, off, d, rfl, -, -, hd, p0, p1, p2, p3⟩ := (hr.up hup hhi).tm (k := j) (by rw [mkTm_len]; exact hlt)
      rw [mkTm_get hlt] at hd
      have hd' := (Option.some.inj hd).symm
      clear hd
      have hqb : 1 ≤ k + 4 * (j : Int) ∧ k + 4 * (j : Int) ≤ 80000000 := by omega
      obtain ⟨q0, hq⟩ : ∃ q0, q0 = k + 4 * (j : Int) := ⟨_, rfl⟩
      have HQ := Lib.hid hq
      rw [← hq] at hqb hd' ⊢
      clear hq
      subst hd'
      simp only [mk1Tm] at p0 p1 p2 p3
      have P0 := cell_regrown p0
      go_wp2_with fail
      refine wp_region_quiet_below (by kernel_rfl) (by kernel_rfl) ?_
      repeat (quiet_step ((go_at_call 84; exact Calls.regrown_of (markText_any _ _ (by omega) (by omega)))))
      refine wpQuiet_nil ?_
      intro v1 hv
      obtain ⟨⟨dq, osq⟩, hv⟩ := hv
      have up1 : Up wr v1 := by rw [hv]; exact below_regrown _ _ _
      clear hv P0
      replace p0 := up1.cell p0
      replace p1 := up1.cell p1
      replace p2 := up1.cell p2
      replace p3 := up1.cell p3
      have P1 := cell_regrown p1
      go_wp2_with fail
      refine wp_region_quiet_below (by kernel_rfl) (by kernel_rfl) ?_
      repeat (quiet_step ((go_at_call 84; exact Calls.regrown_of (markText_any _ _ (by omega) (by omega)))))
      refine wpQuiet_nil ?_
      intro v2 hv
      obtain ⟨⟨dq, osq⟩, hv⟩ := hv
      have up2 : Up v1 v2 := by rw [hv]; exact below_regrown _ _ _
      clear hv P1
      replace p1 := up2.cell p1
      replace p2 := up2.cell p2
      replace p3 := up2.cell p3
      go_wp2
      go_roundw
      case rel => exact ⟨j + 1, by omega, by go_num, congrArg (Value.int .i64) (by have := HQ.out; omega), ((hup.trans up1).trans up2)⟩
      case measure => simp [intOf]; omega
    · go_wp2
      go_ret
      exact ⟨ret_int (by omega), hup⟩
def mk1I3 (q0 : Int) : I3 := ⟨q0, q0 + 1, q0 + 1 + 1⟩
def mkI3 (k : Int) (n : Nat) : List I3 := (List.range n).map fun (j : Nat) => mk1I3 (k + 3 * (j : Int))
theorem mkI3_len (k : Int) (n : Nat) : (mkI3 k n).length = n := by simp [mkI3]
theorem mkI3_get {k : Int} {n j : Nat} (h : j < n) : (mkI3 k n)[j]? = some (mk1I3 (k + 3 * (j : Int))) := by simp [mkI3, h]
set_option maxRecDepth 20000 in
set_option maxHeartbeats 2000000 in
theorem markWayS_any (A : Option Addr) (n c base : Nat) (xs : List Value) (k : Int) (w : World) (hown : w.ownsRow base 129 3 (.slice A n c) n xs) (hn : n ≤ 2000000) (h0 : 1 ≤ k) (hk : k ≤ 60000000) :
    Calls Tryz.prog 130 #[.slice A n c, .int .i64 k] w fun e w' => e = .returned (.int .i64 (k + 3 * n)) ∧ MkA w w' [⟨129, 3, .slice A n c, n, xs⟩] [⟨129, 3, .slice A n c, n, (mkI3 k n).flatMap I3.cells⟩] := by
  have HW := Lib.hid hown
  go_enter Tryz.func130, Tryz.ntmps130
  go_wp2
  go_loopw [1, 5] (fun q i wr => ∃ j : Nat, ∃ ys, j ≤ n ∧ i = .int .i64 j ∧ q = .int .i64 (k + 3 * j) ∧ wr.ownsRow base 129 3 (.slice A n c) n ys ∧ ys.take (j * 3) = ((mkI3 k n).take j).flatMap I3.cells ∧ w.grownBy wr (Value.slice A n c).ownBlock) (fun _ i _ => n - (intOf i).toNat)
  case atStart => exact ⟨0, xs, Nat.zero_le _, rfl, by simp, hown, by simp, World.grownBy.refl w _⟩
  case round =>
    obtain ⟨j, ys, hj, rfl, rfl, hown, hys, hg⟩ := hrel
    have HY := Lib.hid hys
    have G := Lib.hid hg
    clear hys hg
    by_cases hlt : j < n
    · obtain ⟨A', c', hv, -, -, hA, -⟩ := own_form hown
      simp only [Value.slice.injEq] at hv
      obtain ⟨rfl, -, rfl⟩ := hv
      obtain ⟨g, rfl, -, -⟩ := hA (by omega)
      have hqb : 1 ≤ k + 3 * (j : Int) ∧ k + 3 * (j : Int) ≤ 80000000 := by omega
      have HL := Lib.hid hown.1
      obtain ⟨q0, hq⟩ : ∃ q0, q0 = k + 3 * (j : Int) := ⟨_, rfl⟩
      have HQ := Lib.hid hq
      rw [← hq] at hqb ⊢
      clear hq
      obtain ⟨u0, r0⟩ := own_cell hown (p := j * 3) (by omega)
      have z0 := hown.frozenAt (j * 3)
      obtain ⟨u1, r1⟩ := own_cell hown (p := j * 3 + 1) (by omega)
      have z1 := hown.frozenAt (j * 3 + 1)
      obtain ⟨u2, r2⟩ := own_cell hown (p := j * 3 + 2) (by omega)
      have z2 := hown.frozenAt (j * 3 + 2)
      have s0 := hown.stored (j * 3) (.int .i64 (q0))
      have s1 := s0.1.stored (j * 3 + 1) (.int .i64 (q0 + 1))
      have s2 := s1.1.stored (j * 3 + 2) (.int .i64 (q0 + 1 + 1))
      have S := Lib.hid (And.intro s2.1 (((G.out.trans s0.2).trans s1.2).trans s2.2))
      clear s0 s1 s2
      go_wp2
      go_roundw
      case rel => exact ⟨j + 1, _, by omega, by go_num, congrArg (Value.int .i64) (by have := HQ.out; omega), S.out.1, setWay (l := mkI3 k n) (d := mk1I3 q0) (by rw [mkI3_len]; exact HL.out) (by rw [HQ.out]; exact mkI3_get hlt) HY.out, S.out.2⟩
      case measure => simp [intOf]; omega
    · go_wp2
      go_ret
      have e : j = n := by omega
      subst e
      have hx := HY.out
      rw [List.take_of_length_le (by rw [hown.1]; omega), List.take_of_length_le (by rw [mkI3_len]; exact Nat.le_refl _)] at hx
      subst hx
      exact ⟨rfl, MkA.leaf (r := ⟨129, 3, .slice A j c, j, xs⟩) HW.out hown G.out⟩
set_option maxRecDepth 20000 in
set_option maxHeartbeats 2000000 in
theorem heldWayS_any (A : Option Addr) (n c lo hi : Nat) (k : Int) (w : World) (hr : RdI3 w lo hi A (mkI3 k n)) (hhi : hi ≤ w.heap.size) (hn : n ≤ 2000000) (h0 : 1 ≤ k) (hk : k ≤ 60000000) :
    Calls Tryz.prog 134 #[.slice A n c, .int .i64 k] w fun e w' => e = .returned (.int .i64 (k + 3 * n)) ∧ Up w w' := by
  have hss : ∀ s : ByteArray, (s.toList != s.toList) = false := fun s => by simp
  have hii : ∀ i : Int, (i != i) = false := fun s => by simp
  go_enter Tryz.func134, Tryz.ntmps134
  go_wp2
  go_loopw [1, 4, 5] (fun q u i wr => ∃ j : Nat, j ≤ n ∧ i = .int .i64 j ∧ q = .int .i64 (k + 3 * j) ∧ Up w wr) (fun _ _ i _ => n - (intOf i).toNat)
  case atStart => exact ⟨0, Nat.zero_le _, rfl, by simp, Up.refl _⟩
  case round =>
    obtain ⟨j, hj, rfl, rfl, hup⟩ := hrel
    by_cases hlt : j < n
    · obtain ⟨b, off, d, rfl, -, -, hd, p0, p1, p2⟩ := (hr.up hup hhi).i3 (k := j) (by rw [mkI3_len]; exact hlt)
      rw [mkI3_get hlt] at hd
      have hd' := (Option.some.inj hd).symm
      clear hd
      have hqb : 1 ≤ k + 3 * (j : Int) ∧ k + 3 * (j : Int) ≤ 80000000 := by omega
      obtain ⟨q0, hq⟩ : ∃ q0, q0 = k + 3 * (j : Int) := ⟨_, rfl⟩
      have HQ := Lib.hid hq
      rw [← hq] at hqb hd' ⊢
      clear hq
      subst hd'
      simp only [mk1I3] at p0 p1 p2
      go_wp2
      go_roundw
      case rel => exact ⟨j + 1, by omega, by go_num, congrArg (Value.int .i64) (by have := HQ.out; omega), hup⟩
      case measure => simp [intOf]; omega
    · go_wp2
      go_ret
      exact ⟨ret_int (by omega), hup⟩
set_option maxRecDepth 20000 in
set_option maxHeartbeats 2000000 in
theorem markStayS_any (A : Option Addr) (n c base : Nat) (xs : List Value) (k : Int) (w : World) (hown : w.ownsRow base 132 3 (.slice A n c) n xs) (hn : n ≤ 2000000) (h0 : 1 ≤ k) (hk : k ≤ 60000000) :
    Calls Tryz.prog 82 #[.slice A n c, .int .i64 k] w fun e w' => e = .returned (.int .i64 (k + 3 * n)) ∧ MkA w w' [⟨132, 3, .slice A n c, n, xs⟩] [⟨132, 3, .slice A n c, n, (mkI3 k n).flatMap I3.cells⟩] := by
  have HW := Lib.hid hown
  go_enter Tryz.func82, Tryz.ntmps82
  go_wp2
  go_loopw [1, 5] (fun q i wr => ∃ j : Nat, ∃ ys, j ≤ n ∧ i = .int .i64 j ∧ q = .int .i64 (k + 3 * j) ∧ wr.ownsRow base 132 3 (.slice A n c) n ys ∧ ys.take (j * 3) = ((mkI3 k n).take j).flatMap I3.cells ∧ w.grownBy wr (Value.slice A n c).ownBlock) (fun _ i _ => n - (intOf i).toNat)
  case atStart => exact ⟨0, xs, Nat.zero_le _, rfl, by simp, hown, by simp, World.grownBy.refl w _⟩
  case round =>
    obtain ⟨j, ys, hj, rfl, rfl, hown, hys, hg⟩ := hrel
    have HY := Lib.hid hys
    have G := Lib.hid hg
    clear hys hg
    by_cases hlt : j < n
    · obtain ⟨A', c', hv, -, -, hA, -⟩ := own_form hown
      simp only [Value.slice.injEq] at hv
      obtain ⟨rfl, -, rfl⟩ := hv
      obtain ⟨g, rfl, -, -⟩ := hA (by omega)
      have hqb : 1 ≤ k + 3 * (j : Int) ∧ k + 3 * (j : Int) ≤ 80000000 := by omega
      have HL := Lib.hid hown.1
      obtain ⟨q0, hq⟩ : ∃ q0, q0 = k + 3 * (j : Int) := ⟨_, rfl⟩
      have HQ := Lib.hid hq
      rw [← hq] at hqb ⊢
      clear hq
      obtain ⟨u0, r0⟩ := own_cell hown (p := j * 3) (by omega)
      have z0 := hown.frozenAt (j * 3)
      obtain ⟨u1, r1⟩ := own_cell hown (p := j * 3 + 1) (by omega)
      have z1 := hown.frozenAt (j * 3 + 1)
      obtain ⟨u2, r2⟩ := own_cell hown (p := j * 3 + 2) (by omega)
      have z2 := hown.frozenAt (j * 3 + 2)
      have s0 := hown.stored (j * 3) (.int .i64 (q0))
      have s1 := s0.1.stored (j * 3 + 1) (.int .i64 (q0 + 1))
      have s2 := s1.1.stored (j * 3 + 2) (.int .i64 (q0 + 1 + 1))
      have S := Lib.hid (And.intro s2.1 (((G.out.trans s0.2).trans s1.2).trans s2.2))
      clear s0 s1 s2
      go_wp2
      go_roundw
      case rel => exact ⟨j + 1, _, by omega, by go_num, congrArg (Value.int .i64) (by have := HQ.out; omega), S.out.1, setStay (l := mkI3 k n) (d := mk1I3 q0) (by rw [mkI3_len]; exact HL.out) (by rw [HQ.out]; exact mkI3_get hlt) HY.out, S.out.2⟩
      case measure => simp [intOf]; omega
    · go_wp2
      go_ret
      have e : j = n := by omega
      subst e
      have hx := HY.out
      rw [List.take_of_length_le (by rw [hown.1]; omega), List.take_of_length_le (by rw [mkI3_len]; exact Nat.le_refl _)] at hx
      subst hx
      exact ⟨rfl, MkA.leaf (r := ⟨132, 3, .slice A j c, j, xs⟩) HW.out hown G.out⟩
set_option maxRecDepth 20000 in
set_option maxHeartbeats 2000000 in
theorem heldStayS_any (A : Option Addr) (n c lo hi : Nat) (k : Int) (w : World) (hr : RdI3 w lo hi A (mkI3 k n)) (hhi : hi ≤ w.heap.size) (hn : n ≤ 2000000) (h0 : 1 ≤ k) (hk : k ≤ 60000000) :
    Calls Tryz.prog 91 #[.slice A n c, .int .i64 k] w fun e w' => e = .returned (.int .i64 (k + 3 * n)) ∧ Up w w' := by
  have hss : ∀ s : ByteArray, (s.toList != s.toList) = false := fun s => by simp
  have hii : ∀ i : Int, (i != i) = false := fun s => by simp
  go_enter Tryz.func91, Tryz.ntmps91
  go_wp2
  go_loopw [1, 4, 5] (fun q u i wr => ∃ j : Nat, j ≤ n ∧ i = .int .i64 j ∧ q = .int .i64 (k + 3 * j) ∧ Up w wr) (fun _ _ i _ => n - (intOf i).toNat)
  case atStart => exact ⟨0, Nat.zero_le _, rfl, by simp, Up.refl _⟩
  case round =>
    obtain ⟨j, hj, rfl, rfl, hup⟩ := hrel
    by_cases hlt : j < n
    · obtain ⟨b, off, d, rfl, -, -, hd, p0, p1, p2⟩ := (hr.up hup hhi).i3 (k := j) (by rw [mkI3_len]; exact hlt)
      rw [mkI3_get hlt] at hd
      have hd' := (Option.some.inj hd).symm
      clear hd
      have hqb : 1 ≤ k + 3 * (j : Int) ∧ k + 3 * (j : Int) ≤ 80000000 := by omega
      obtain ⟨q0, hq⟩ : ∃ q0, q0 = k + 3 * (j : Int) := ⟨_, rfl⟩
      have HQ := Lib.hid hq
      rw [← hq] at hqb hd' ⊢
      clear hq
      subst hd'
      simp only [mk1I3] at p0 p1 p2
      go_wp2
      go_roundw
      case rel => exact ⟨j + 1, by omega, by go_num, congrArg (Value.int .i64) (by have := HQ.out; omega), hup⟩
      case measure => simp [intOf]; omega
    · go_wp2
      go_ret
      exact ⟨ret_int (by omega), hup⟩
def mk1Cl (q0 : Int) : Cl := ⟨q0, q0 + 1, q0 + 1 + 1, q0 + 1 + 1 + 1, q0 + 1 + 1 + 1 + 1, q0 + 1 + 1 + 1 + 1 + 1, q0 + 1 + 1 + 1 + 1 + 1 + 1, mtext (q0 + 1 + 1 + 1 + 1 + 1 + 1 + 1)⟩
def mkCl (k : Int) (n : Nat) : List Cl := (List.range n).map fun (j : Nat) => mk1Cl (k + 8 * (j : Int))
theorem mkCl_len (k : Int) (n : Nat) : (mkCl k n).length = n := by simp [mkCl]
theorem mkCl_get {k : Int} {n j : Nat} (h : j < n) : (mkCl k n)[j]? = some (mk1Cl (k + 8 * (j : Int))) := by simp [mkCl, h]
set_option maxRecDepth 20000 in
set_option maxHeartbeats 2000000 in
theorem markClauseS_any (A : Option Addr) (n c base : Nat) (xs : List Value) (k : Int) (w : World) (hown : w.ownsRow base 137 8 (.slice A n c) n xs) (hn : n ≤ 2000000) (h0 : 1 ≤ k) (hk : k ≤ 60000000) :
    Calls Tryz.prog 85 #[.slice A n c, .int .i64 k] w fun e w' => e = .returned (.int .i64 (k + 8 * n)) ∧ MkA w w' [⟨137, 8, .slice A n c, n, xs⟩] [⟨137, 8, .slice A n c, n, (mkCl k n).flatMap Cl.cells⟩] := by
  have HW := Lib.hid hown
  go_enter Tryz.func85, Tryz.ntmps85
  go_wp2
  go_loopw [1, 5] (fun q i wr => ∃ j : Nat, ∃ ys, j ≤ n ∧ i = .int .i64 j ∧ q = .int .i64 (k + 8 * j) ∧ wr.ownsRow base 137 8 (.slice A n c) n ys ∧ ys.take (j * 8) = ((mkCl k n).take j).flatMap Cl.cells ∧ w.grownBy wr (Value.slice A n c).ownBlock) (fun _ i _ => n - (intOf i).toNat)
  case atStart => exact ⟨0, xs, Nat.zero_le _, rfl, by simp, hown, by simp, World.grownBy.refl w _⟩
  case round =>
    obtain ⟨j, ys, hj, rfl, rfl, hown, hys, hg⟩ := hrel
    have HY := Lib.hid hys
    have G := Lib.hid hg
    clear hys hg
    by_cases hlt : j < n
    · obtain ⟨A', c', hv, -, -, hA, -⟩ := own_form hown
      simp only [Value.slice.injEq] at hv
      obtain ⟨rfl, -, rfl⟩ := hv
      obtain ⟨g, rfl, -, -⟩ := hA (by omega)
      have hqb : 1 ≤ k + 8 * (j : Int) ∧ k + 8 * (j : Int) ≤ 80000000 := by omega
      have HL := Lib.hid hown.1
      obtain ⟨q0, hq⟩ : ∃ q0, q0 = k + 8 * (j : Int) := ⟨_, rfl⟩
      have HQ := Lib.hid hq
      rw [← hq] at hqb ⊢
      clear hq
      obtain ⟨u0, r0⟩ := own_cell hown (p := j * 8) (by omega)
      have z0 := hown.frozenAt (j * 8)
      obtain ⟨u1, r1⟩ := own_cell hown (p := j * 8 + 1) (by omega)
      have z1 := hown.frozenAt (j * 8 + 1)
      obtain ⟨u2, r2⟩ := own_cell hown (p := j * 8 + 2) (by omega)
      have z2 := hown.frozenAt (j * 8 + 2)
      obtain ⟨u3, r3⟩ := own_cell hown (p := j * 8 + 3) (by omega)
      have z3 := hown.frozenAt (j * 8 + 3)
      obtain ⟨u4, r4⟩ := own_cell hown (p := j * 8 + 4) (by omega)
      have z4 := hown.frozenAt (j * 8 + 4)
      obtain ⟨u5, r5⟩ := own_cell hown (p := j * 8 + 5) (by omega)
      have z5 := hown.frozenAt (j * 8 + 5)
      obtain ⟨u6, r6⟩ := own_cell hown (p := j * 8 + 6) (by omega)
      have z6 := hown.frozenAt (j * 8 + 6)
      obtain ⟨u7, r7⟩ := own_cell hown (p := j * 8 + 7) (by omega)
      have z7 := hown.frozenAt (j * 8 + 7)
      have s0 := hown.stored (j * 8) (.int .i64 (q0))
      have s1 := s0.1.stored (j * 8 + 1) (.int .i64 (q0 + 1))
      have s2 := s1.1.stored (j * 8 + 2) (.int .i64 (q0 + 1 + 1))
      have s3 := s2.1.stored (j * 8 + 3) (.int .i64 (q0 + 1 + 1 + 1))
      have s4 := s3.1.stored (j * 8 + 4) (.int .i64 (q0 + 1 + 1 + 1 + 1))
      have s5 := s4.1.stored (j * 8 + 5) (.int .i64 (q0 + 1 + 1 + 1 + 1 + 1))
      have s6 := s5.1.stored (j * 8 + 6) (.int .i64 (q0 + 1 + 1 + 1 + 1 + 1 + 1))
      have S := Lib.hid (And.intro s6.1 (((((((G.out.trans s0.2).trans s1.2).trans s2.2).trans s3.2).trans s4.2).trans s5.2).trans s6.2))
      clear s0 s1 s2 s3 s4 s5 s6
      go_wp2_with fail
      refine (markText_any _ _ (by omega) (by omega)).mono ?_
      rintro e w1 ⟨rfl, hup⟩
      clear r0 z0 r1 z1 r2 z2 r3 z3 r4 z4 r5 z5 r6 z6 r7 z7 hown
      have hown := own_up S.out.1 hup
      have G := Lib.hid (S.out.2.trans (grown_up hup _))
      clear S hup
      obtain ⟨u0, r0⟩ := own_cell hown (p := j * 8) (by omega)
      have z0 := hown.frozenAt (j * 8)
      obtain ⟨u1, r1⟩ := own_cell hown (p := j * 8 + 1) (by omega)
      have z1 := hown.frozenAt (j * 8 + 1)
      obtain ⟨u2, r2⟩ := own_cell hown (p := j * 8 + 2) (by omega)
      have z2 := hown.frozenAt (j * 8 + 2)
      obtain ⟨u3, r3⟩ := own_cell hown (p := j * 8 + 3) (by omega)
      have z3 := hown.frozenAt (j * 8 + 3)
      obtain ⟨u4, r4⟩ := own_cell hown (p := j * 8 + 4) (by omega)
      have z4 := hown.frozenAt (j * 8 + 4)
      obtain ⟨u5, r5⟩ := own_cell hown (p := j * 8 + 5) (by omega)
      have z5 := hown.frozenAt (j * 8 + 5)
      obtain ⟨u6, r6⟩ := own_cell hown (p := j * 8 + 6) (by omega)
      have z6 := hown.frozenAt (j * 8 + 6)
      obtain ⟨u7, r7⟩ := own_cell hown (p := j * 8 + 7) (by omega)
      have z7 := hown.frozenAt (j * 8 + 7)
      have s0 := hown.stored (j * 8 + 7) (.string (mtext (q0 + 1 + 1 + 1 + 1 + 1 + 1 + 1)))
      have S := Lib.hid (And.intro s0.1 (G.out.trans s0.2))
      clear s0
      go_wp2
      go_roundw
      case rel => exact ⟨j + 1, _, by omega, by go_num, congrArg (Value.int .i64) (by have := HQ.out; omega), S.out.1, setClause (l := mkCl k n) (d := mk1Cl q0) (by rw [mkCl_len]; exact HL.out) (by rw [HQ.out]; exact mkCl_get hlt) HY.out, S.out.2⟩
      case measure => simp [intOf]; omega
    · go_wp2
      go_ret
      have e : j = n := by omega
      subst e
      have hx := HY.out
      rw [List.take_of_length_le (by rw [hown.1]; omega), List.take_of_length_le (by rw [mkCl_len]; exact Nat.le_refl _)] at hx
      subst hx
      exact ⟨rfl, MkA.leaf (r := ⟨137, 8, .slice A j c, j, xs⟩) HW.out hown G.out⟩
set_option maxRecDepth 20000 in
set_option maxHeartbeats 2000000 in
theorem heldClauseS_any (A : Option Addr) (n c lo hi : Nat) (k : Int) (w : World) (hr : RdCl w lo hi A (mkCl k n)) (hhi : hi ≤ w.heap.size) (hn : n ≤ 2000000) (h0 : 1 ≤ k) (hk : k ≤ 60000000) :
    Calls Tryz.prog 93 #[.slice A n c, .int .i64 k] w fun e w' => e = .returned (.int .i64 (k + 8 * n)) ∧ Up w w' := by
  have hss : ∀ s : ByteArray, (s.toList != s.toList) = false := fun s => by simp
  have hii : ∀ i : Int, (i != i) = false := fun s => by simp
  go_enter Tryz.func93, Tryz.ntmps93
  go_wp2
  go_loopw [1, 4, 5] (fun q u i wr => ∃ j : Nat, j ≤ n ∧ i = .int .i64 j ∧ q = .int .i64 (k + 8 * j) ∧ Up w wr) (fun _ _ i _ => n - (intOf i).toNat)
  case atStart => exact ⟨0, Nat.zero_le _, rfl, by simp, Up.refl _⟩
  case round =>
    obtain ⟨j, hj, rfl, rfl, hup⟩ := hrel
    by_cases hlt : j < n
    · obtain ⟨b, off, d, rfl, -, -, hd, p0, p1, p2, p3, p4, p5, p6, p7⟩ := (hr.up hup hhi).cl (k := j) (by rw [mkCl_len]; exact hlt)
      rw [mkCl_get hlt] at hd
      have hd' := (Option.some.inj hd).symm
      clear hd
      have hqb : 1 ≤ k + 8 * (j : Int) ∧ k + 8 * (j : Int) ≤ 80000000 := by omega
      obtain ⟨q0, hq⟩ : ∃ q0, q0 = k + 8 * (j : Int) := ⟨_, rfl⟩
      have HQ := Lib.hid hq
      rw [← hq] at hqb hd' ⊢
      clear hq
      subst hd'
      simp only [mk1Cl] at p0 p1 p2 p3 p4 p5 p6 p7
      have P7 := cell_regrown p7
      go_wp2_with fail
      refine wp_region_quiet_below (by kernel_rfl) (by kernel_rfl) ?_
      repeat (quiet_step ((go_at_call 84; exact Calls.regrown_of (markText_any _ _ (by omega) (by omega)))))
      refine wpQuiet_nil ?_
      intro v1 hv
      obtain ⟨⟨dq, osq⟩, hv⟩ := hv
      have up1 : Up wr v1 := by rw [hv]; exact below_regrown _ _ _
      clear hv P7
      replace p7 := up1.cell p7
      go_wp2
      go_roundw
      case rel => exact ⟨j + 1, by omega, by go_num, congrArg (Value.int .i64) (by have := HQ.out; omega), (hup.trans up1)⟩
      case measure => simp [intOf]; omega
    · go_wp2
      go_ret
      exact ⟨ret_int (by omega), hup⟩
def mk1Wi (q0 : Int) : Wi := ⟨mtext q0, mtext (q0 + 1)⟩
def mkWi (k : Int) (n : Nat) : List Wi := (List.range n).map fun (j : Nat) => mk1Wi (k + 2 * (j : Int))
theorem mkWi_len (k : Int) (n : Nat) : (mkWi k n).length = n := by simp [mkWi]
theorem mkWi_get {k : Int} {n j : Nat} (h : j < n) : (mkWi k n)[j]? = some (mk1Wi (k + 2 * (j : Int))) := by simp [mkWi, h]
set_option maxRecDepth 20000 in
set_option maxHeartbeats 2000000 in
theorem markWitnessS_any (A : Option Addr) (n c base : Nat) (xs : List Value) (k : Int) (w : World) (hown : w.ownsRow base 140 2 (.slice A n c) n xs) (hn : n ≤ 2000000) (h0 : 1 ≤ k) (hk : k ≤ 60000000) :
    Calls Tryz.prog 86 #[.slice A n c, .int .i64 k] w fun e w' => e = .returned (.int .i64 (k + 2 * n)) ∧ MkA w w' [⟨140, 2, .slice A n c, n, xs⟩] [⟨140, 2, .slice A n c, n, (mkWi k n).flatMap Wi.cells⟩] := by
  have HW := Lib.hid hown
  go_enter Tryz.func86, Tryz.ntmps86
  go_wp2
  go_loopw [1, 5] (fun q i wr => ∃ j : Nat, ∃ ys, j ≤ n ∧ i = .int .i64 j ∧ q = .int .i64 (k + 2 * j) ∧ wr.ownsRow base 140 2 (.slice A n c) n ys ∧ ys.take (j * 2) = ((mkWi k n).take j).flatMap Wi.cells ∧ w.grownBy wr (Value.slice A n c).ownBlock) (fun _ i _ => n - (intOf i).toNat)
  case atStart => exact ⟨0, xs, Nat.zero_le _, rfl, by simp, hown, by simp, World.grownBy.refl w _⟩
  case round =>
    obtain ⟨j, ys, hj, rfl, rfl, hown, hys, hg⟩ := hrel
    have HY := Lib.hid hys
    have G := Lib.hid hg
    clear hys hg
    by_cases hlt : j < n
    · obtain ⟨A', c', hv, -, -, hA, -⟩ := own_form hown
      simp only [Value.slice.injEq] at hv
      obtain ⟨rfl, -, rfl⟩ := hv
      obtain ⟨g, rfl, -, -⟩ := hA (by omega)
      have hqb : 1 ≤ k + 2 * (j : Int) ∧ k + 2 * (j : Int) ≤ 80000000 := by omega
      have HL := Lib.hid hown.1
      obtain ⟨q0, hq⟩ : ∃ q0, q0 = k + 2 * (j : Int) := ⟨_, rfl⟩
      have HQ := Lib.hid hq
      rw [← hq] at hqb ⊢
      clear hq
      obtain ⟨u0, r0⟩ := own_cell hown (p := j * 2) (by omega)
      have z0 := hown.frozenAt (j * 2)
      obtain ⟨u1, r1⟩ := own_cell hown (p := j * 2 + 1) (by omega)
      have z1 := hown.frozenAt (j * 2 + 1)
      have S := Lib.hid (And.intro hown G.out)
      go_wp2_with fail
      refine (markText_any _ _ (by omega) (by omega)).mono ?_
      rintro e w1 ⟨rfl, hup⟩
      clear r0 z0 r1 z1 hown
      have hown := own_up S.out.1 hup
      have G := Lib.hid (S.out.2.trans (grown_up hup _))
      clear S hup
      obtain ⟨u0, r0⟩ := own_cell hown (p := j * 2) (by omega)
      have z0 := hown.frozenAt (j * 2)
      obtain ⟨u1, r1⟩ := own_cell hown (p := j * 2 + 1) (by omega)
      have z1 := hown.frozenAt (j * 2 + 1)
      have s0 := hown.stored (j * 2) (.string (mtext (q0)))
      have S := Lib.hid (And.intro s0.1 (G.out.trans s0.2))
      clear s0
      go_wp2_with fail
      refine (markText_any _ _ (by omega) (by omega)).mono ?_
      rintro e w2 ⟨rfl, hup⟩
      clear r0 z0 r1 z1 hown
      have hown := own_up S.out.1 hup
      have G := Lib.hid (S.out.2.trans (grown_up hup _))
      clear S hup
      obtain ⟨u0, r0⟩ := own_cell hown (p := j * 2) (by omega)
      have z0 := hown.frozenAt (j * 2)
      obtain ⟨u1, r1⟩ := own_cell hown (p := j * 2 + 1) (by omega)
      have z1 := hown.frozenAt (j * 2 + 1)
      have s0 := hown.stored (j * 2 + 1) (.string (mtext (q0 + 1)))
      have S := Lib.hid (And.intro s0.1 (G.out.trans s0.2))
      clear s0
      go_wp2
      go_roundw
      case rel => exact ⟨j + 1, _, by omega, by go_num, congrArg (Value.int .i64) (by have := HQ.out; omega), S.out.1, setWitness (l := mkWi k n) (d := mk1Wi q0) (by rw [mkWi_len]; exact HL.out) (by rw [HQ.out]; exact mkWi_get hlt) HY.out, S.out.2⟩
      case measure => simp [intOf]; omega
    · go_wp2
      go_ret
      have e : j = n := by omega
      subst e
      have hx := HY.out
      rw [List.take_of_length_le (by rw [hown.1]; omega), List.take_of_length_le (by rw [mkWi_len]; exact Nat.le_refl _)] at hx
      subst hx
      exact ⟨rfl, MkA.leaf (r := ⟨140, 2, .slice A j c, j, xs⟩) HW.out hown G.out⟩
set_option maxRecDepth 20000 in
set_option maxHeartbeats 2000000 in
theorem heldWitnessS_any (A : Option Addr) (n c lo hi : Nat) (k : Int) (w : World) (hr : RdWi w lo hi A (mkWi k n)) (hhi : hi ≤ w.heap.size) (hn : n ≤ 2000000) (h0 : 1 ≤ k) (hk : k ≤ 60000000) :
    Calls Tryz.prog 94 #[.slice A n c, .int .i64 k] w fun e w' => e = .returned (.int .i64 (k + 2 * n)) ∧ Up w w' := by
  have hss : ∀ s : ByteArray, (s.toList != s.toList) = false := fun s => by simp
  have hii : ∀ i : Int, (i != i) = false := fun s => by simp
  go_enter Tryz.func94, Tryz.ntmps94
  go_wp2
  go_loopw [1, 4, 5] (fun q u i wr => ∃ j : Nat, j ≤ n ∧ i = .int .i64 j ∧ q = .int .i64 (k + 2 * j) ∧ Up w wr) (fun _ _ i _ => n - (intOf i).toNat)
  case atStart => exact ⟨0, Nat.zero_le _, rfl, by simp, Up.refl _⟩
  case round =>
    obtain ⟨j, hj, rfl, rfl, hup⟩ := hrel
    by_cases hlt : j < n
    · obtain ⟨b, off, d, rfl, -, -, hd, p0, p1⟩ := (hr.up hup hhi).wi (k := j) (by rw [mkWi_len]; exact hlt)
      rw [mkWi_get hlt] at hd
      have hd' := (Option.some.inj hd).symm
      clear hd
      have hqb : 1 ≤ k + 2 * (j : Int) ∧ k + 2 * (j : Int) ≤ 80000000 := by omega
      obtain ⟨q0, hq⟩ : ∃ q0, q0 = k + 2 * (j : Int) := ⟨_, rfl⟩
      have HQ := Lib.hid hq
      rw [← hq] at hqb hd' ⊢
      clear hq
      subst hd'
      simp only [mk1Wi] at p0 p1
      have P0 := cell_regrown p0
      go_wp2_with fail
      refine wp_region_quiet_below (by kernel_rfl) (by kernel_rfl) ?_
      repeat (quiet_step ((go_at_call 84; exact Calls.regrown_of (markText_any _ _ (by omega) (by omega)))))
      refine wpQuiet_nil ?_
      intro v1 hv
      obtain ⟨⟨dq, osq⟩, hv⟩ := hv
      have up1 : Up wr v1 := by rw [hv]; exact below_regrown _ _ _
      clear hv P0
      replace p0 := up1.cell p0
      replace p1 := up1.cell p1
      have P1 := cell_regrown p1
      go_wp2_with fail
      refine wp_region_quiet_below (by kernel_rfl) (by kernel_rfl) ?_
      repeat (quiet_step ((go_at_call 84; exact Calls.regrown_of (markText_any _ _ (by omega) (by omega)))))
      refine wpQuiet_nil ?_
      intro v2 hv
      obtain ⟨⟨dq, osq⟩, hv⟩ := hv
      have up2 : Up v1 v2 := by rw [hv]; exact below_regrown _ _ _
      clear hv P1
      replace p1 := up2.cell p1
      go_wp2
      go_roundw
      case rel => exact ⟨j + 1, by omega, by go_num, congrArg (Value.int .i64) (by have := HQ.out; omega), ((hup.trans up1).trans up2)⟩
      case measure => simp [intOf]; omega
    · go_wp2
      go_ret
      exact ⟨ret_int (by omega), hup⟩
end Go.Proofs.YtblpjjcjnaigiaaGreatDoor
