/- The law package's helpers over []string. -/
import Derived.Test.YtehoaoeahfmfpaaMark0
namespace Go.Proofs.Ytehoaoeahfmfpaa
open Go.RowKit Go.Sort

abbrev strCells (z : ByteArray) : List Value := [.string z]
abbrev RdS (w : World) (lo hi : Nat) (A : Option Addr) (l : List ByteArray) : Prop := Rd w lo hi 1 strCells A l
theorem str_len (z : ByteArray) : (strCells z).length = 1 := rfl
theorem Rd.str {w : World} {lo hi : Nat} {A : Option Addr} {l : List ByteArray} (h : RdS w lo hi A l) {k : Nat} (hk : k < l.length) :
    ∃ b off z, A = some ⟨b, off, none⟩ ∧ lo ≤ b ∧ b < hi ∧ l[k]? = some z ∧ w.cell? ⟨b, off + k, none⟩ = some (.string z) := by
  obtain ⟨b, off, d, e, h1, h2, h3, h4⟩ := Rd.at_ h hk
  have := h4 0 _ rfl
  rw [Nat.mul_one] at this
  exact ⟨b, off, d, e, h1, h2, h3, this⟩

def eqSs (l m : List ByteArray) : Bool := decide (l = m)
theorem eqSs_self (l : List ByteArray) : eqSs l l = true := by simp [eqSs]
theorem eqSs_len {l m : List ByteArray} (h : l.length ≠ m.length) : eqSs l m = false := by unfold eqSs; rw [decide_eq_false_iff_not]; rintro rfl; exact h rfl
theorem eqSs_ne {l m : List ByteArray} {k : Nat} {a b : ByteArray} (ha : l[k]? = some a) (hb : m[k]? = some b) (h : (!a.toList == b.toList) = true) : eqSs l m = false := by
  unfold eqSs; rw [decide_eq_false_iff_not]; rintro rfl
  rw [ha] at hb; cases hb
  simp at h
theorem eqSs_eq {l m : List ByteArray} (h : l.take l.length = m.take l.length) (hl : l.length = m.length) : eqSs l m = true := by
  unfold eqSs; rw [decide_eq_true_iff]
  rwa [List.take_of_length_le (Nat.le_refl _), hl, List.take_of_length_le (Nat.le_refl _)] at h
set_option maxHeartbeats 1000000 in
theorem eqStringS_any (A B : Option Addr) (l m : List ByteArray) (c c' lo hi lo' hi' : Nat) (w : World) (hr : RdS w lo hi A l) (hhi : hi ≤ w.heap.size) (hr' : RdS w lo' hi' B m) (hhi' : hi' ≤ w.heap.size) (hn : l.length ≤ 2000000) :
    Calls Try.prog 45 #[.slice A l.length c, .slice B m.length c'] w fun e w' => e = .returned (.bool (eqSs l m)) ∧ Up w w' := by
  by_cases hne : l.length = m.length
  · have HL := Lib.hid hne
    have hb0 : ((l.length : Int) != (m.length : Int)) = false := by simp [hne]
    have hlm : l.length ≤ m.length := by omega
    clear hne
    go_enter Try.func45, Try.ntmps45
    go_wp2
    go_loopw [5] (fun i wr => ∃ k : Nat, k ≤ l.length ∧ i = .int .i64 k ∧ l.take k = m.take k ∧ Up w wr) (fun i _ => l.length - (intOf i).toNat)
    case atStart => exact ⟨0, Nat.zero_le _, rfl, by simp, Up.refl _⟩
    case round =>
      obtain ⟨k, hk, rfl, ht, hup⟩ := hrel
      have HT := Lib.hid ht
      clear ht
      by_cases hlt : k < l.length
      · have hlt' : k < m.length := by omega
        obtain ⟨b1, o1, d1, rfl, -, -, hd1, p0⟩ := (hr.up hup hhi).str hlt
        obtain ⟨b2, o2, d2, rfl, -, -, hd2, q0⟩ := (hr'.up hup hhi').str hlt'
        have HD1 := Lib.hid hd1
        have HD2 := Lib.hid hd2
        clear hd1 hd2
        have P0 := cell_regrown p0
        have Q0 := cell_regrown q0
        go_wp2_with fail
        refine wp_region_quiet_below (by kernel_rfl) (by kernel_rfl) ?_
        repeat (quiet_step (fail))
        refine wpQuiet_nil ?_
        intro w2 hw2
        obtain ⟨⟨dq, osq⟩, hw2⟩ := hw2
        have hup2 : Up wr w2 := by rw [hw2]; exact below_regrown _ _ _
        clear hw2 P0 Q0
        go_wp2
        · have hq : (!d1.toList == d2.toList) = true := by assumption
          go_ret
          exact ⟨ret_bool (eqSs_ne HD1.out HD2.out hq).symm, hup.trans hup2⟩
        · have hq : (!d1.toList == d2.toList) = false := by assumption
          have hq' : d1 = d2 := bytes_inj.1 (by simpa using hq)
          have HQ := Lib.hid hq'
          clear hq'
          go_roundw
          case rel => exact ⟨k + 1, by omega, by go_num, take_succ_eq HT.out HD1.out (by rw [HQ.out]; exact HD2.out), hup.trans hup2⟩
          case measure => simp [intOf]; omega
      · go_wp2
        go_ret
        exact ⟨ret_bool (eqSs_eq (by rw [show k = l.length by omega] at HT; exact HT.out) HL.out).symm, hup⟩
  · have hb0 : ((l.length : Int) != (m.length : Int)) = true := by rw [bne_iff_ne]; omega
    have H := Lib.hid hne
    clear hne
    go_enter Try.func45, Try.ntmps45
    go_wp2
    go_ret
    exact ⟨ret_bool (eqSs_len H.out).symm, Up.refl _⟩

def mkS (k : Int) (n : Nat) : List ByteArray := (List.range n).map fun (j : Nat) => mtext (k + (j : Int))
theorem mkS_len (k : Int) (n : Nat) : (mkS k n).length = n := by simp [mkS]
theorem mkS_take {k : Int} {n j : Nat} (h : j < n) : ((mkS k n).take (j + 1)).flatMap strCells = ((mkS k n).take j).flatMap strCells ++ [.string (mtext (k + j))] := by
  rw [take_flat_succ _ (x := mtext (k + (j : Int))) (by simp [mkS, h])]
theorem mkS_get {k : Int} {n j : Nat} (h : j < n) : (mkS k n)[j]? = some (mtext (k + (j : Int))) := by simp [mkS, h]

set_option maxHeartbeats 1000000 in
theorem markStringS_any (A : Option Addr) (n c base : Nat) (xs : List Value) (k : Int) (w : World) (hown : w.ownsRow base 9 1 (.slice A n c) n xs) (hn : n ≤ 2000000) (h0 : 1 ≤ k) (hk : k ≤ 2000000) :
    Calls Try.prog 33 #[.slice A n c, .int .i64 k] w fun e w' => e = .returned (.int .i64 (k + n)) ∧ w'.ownsRow base 9 1 (.slice A n c) n ((mkS k n).flatMap strCells) ∧ w.grownBy w' (Value.slice A n c).ownBlock := by
  go_enter Try.func33, Try.ntmps33
  go_wp2
  go_loopw [1, 5] (fun q i wr => ∃ j : Nat, ∃ ys, j ≤ n ∧ i = .int .i64 j ∧ q = .int .i64 (k + j) ∧ wr.ownsRow base 9 1 (.slice A n c) n ys ∧ ys.take j = ((mkS k n).take j).flatMap strCells ∧ w.grownBy wr (Value.slice A n c).ownBlock) (fun _ i _ => n - (intOf i).toNat)
  case atStart => exact ⟨0, xs, Nat.zero_le _, rfl, by simp, hown, by simp, World.grownBy.refl w _⟩
  case round =>
    obtain ⟨j, ys, hj, rfl, rfl, hown, hys, hg⟩ := hrel
    have HY := Lib.hid hys
    have HG := Lib.hid hg
    clear hys hg
    by_cases hlt : j < n
    · obtain ⟨A', c', hv, -, -, hA, -⟩ := own_form hown
      simp only [Value.slice.injEq] at hv
      obtain ⟨rfl, -, rfl⟩ := hv
      obtain ⟨g, rfl, -, -⟩ := hA (by omega)
      go_wp2_with fail
      refine (markText_any _ _ (by omega) (by omega)).mono ?_
      rintro e w1 ⟨rfl, hup1⟩
      have o1 := own_up hown hup1
      obtain ⟨u0, r0⟩ := own_cell o1 (p := j) (by omega)
      have z0 := o1.frozenAt j
      have S1 := Lib.hid (o1.stored j (.string (mtext (k + (j : Int)))))
      have L1 := Lib.hid o1.1
      have G1 := Lib.hid ((HG.out.trans ((World.grownBy.but (a := wr) ⟨hup1.os, hup1.tape, hup1.output, hup1.size, fun i hi _ => hup1.block i hi⟩ _))).trans S1.out.2)
      clear o1 hown
      go_wp2
      go_roundw
      case rel => exact ⟨j + 1, _, by omega, by go_num, by go_num, S1.out.1, by rw [take_set_succ (by rw [L1.out]; omega), HY.out, mkS_take hlt], G1.out⟩
      case measure => simp [intOf]; omega
    · go_wp2
      go_ret
      have e : j = n := by omega
      subst e
      have hx := HY.out
      rw [List.take_of_length_le (by rw [hown.1]; omega), List.take_of_length_le (by rw [mkS_len]; exact Nat.le_refl _)] at hx
      subst hx
      exact ⟨rfl, hown, HG.out⟩

set_option maxHeartbeats 1000000 in
theorem heldStringS_any (A : Option Addr) (n c lo hi : Nat) (k : Int) (w : World) (hr : RdS w lo hi A (mkS k n)) (hhi : hi ≤ w.heap.size) (hn : n ≤ 2000000) (h0 : 1 ≤ k) (hk : k ≤ 2000000) :
    Calls Try.prog 41 #[.slice A n c, .int .i64 k] w fun e w' => e = .returned (.int .i64 (k + n)) ∧ Up w w' := by
  go_enter Try.func41, Try.ntmps41
  go_wp2
  go_loopw [1, 4, 5] (fun q u i wr => ∃ j : Nat, j ≤ n ∧ i = .int .i64 j ∧ q = .int .i64 (k + j) ∧ Up w wr) (fun _ _ i _ => n - (intOf i).toNat)
  case atStart => exact ⟨0, Nat.zero_le _, rfl, by simp, Up.refl _⟩
  case round =>
    obtain ⟨j, hj, rfl, rfl, hup⟩ := hrel
    by_cases hlt : j < n
    · obtain ⟨b, off, z, rfl, -, -, hz, q0⟩ := (hr.up hup hhi).str (k := j) (by rw [mkS_len]; exact hlt)
      rw [mkS_get hlt] at hz
      obtain rfl : mtext (k + (j : Int)) = z := by simpa using hz
      clear hz
      have Q0 := cell_regrown q0
      go_wp2_with fail
      refine wp_region_quiet_below (by kernel_rfl) (by kernel_rfl) ?_
      repeat (quiet_step ((go_at_call 30; exact Calls.regrown_of (markText_any _ _ (by omega) (by omega)))))
      refine wpQuiet_nil ?_
      intro w2 hw2
      obtain ⟨⟨dq, osq⟩, hw2⟩ := hw2
      have hup2 : Up wr w2 := by rw [hw2]; exact below_regrown _ _ _
      clear hw2 Q0 q0
      go_wp2
      go_roundw
      case rel => exact ⟨j + 1, by omega, by go_num, by go_num, hup.trans hup2⟩
      case measure => simp [intOf]; omega
    · go_wp2
      go_ret
      exact ⟨ret_int (by omega), hup⟩
end Go.Proofs.Ytehoaoeahfmfpaa
