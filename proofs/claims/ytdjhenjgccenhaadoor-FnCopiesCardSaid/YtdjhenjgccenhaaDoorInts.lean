/- The law package's helpers over []int64, and markText. -/
import Derived.Test.YtdjhenjgccenhaaDoorProg
import Derived.Test.YtdjhenjgccenhaaDoorLib
namespace Go.Proofs.YtdjhenjgccenhaaDoor
open Go.RowKit Go.Sort

abbrev intCells (z : Int) : List Value := [.int .i64 z]
abbrev RdI (w : World) (lo hi : Nat) (A : Option Addr) (l : List Int) : Prop := Rd w lo hi 1 intCells A l
theorem int_len (z : Int) : (intCells z).length = 1 := rfl
theorem Rd.int {w : World} {lo hi : Nat} {A : Option Addr} {l : List Int} (h : RdI w lo hi A l) {k : Nat} (hk : k < l.length) :
    ∃ b off z, A = some ⟨b, off, none⟩ ∧ lo ≤ b ∧ b < hi ∧ l[k]? = some z ∧ w.cell? ⟨b, off + k, none⟩ = some (.int .i64 z) := by
  obtain ⟨b, off, d, e, h1, h2, h3, h4⟩ := Rd.at_ h hk
  have := h4 0 _ rfl
  rw [Nat.mul_one] at this
  exact ⟨b, off, d, e, h1, h2, h3, this⟩

def eqIs (l m : List Int) : Bool := decide (l = m)
theorem eqIs_len {l m : List Int} (h : l.length ≠ m.length) : eqIs l m = false := by unfold eqIs; rw [decide_eq_false_iff_not]; rintro rfl; exact h rfl
theorem eqIs_ne {l m : List Int} {k : Nat} {a b : Int} (ha : l[k]? = some a) (hb : m[k]? = some b) (h : (a != b) = true) : eqIs l m = false := by
  unfold eqIs; rw [decide_eq_false_iff_not]; rintro rfl
  rw [ha] at hb; cases hb
  simp at h
theorem eqIs_eq {l m : List Int} (h : l.take l.length = m.take l.length) (hl : l.length = m.length) : eqIs l m = true := by
  unfold eqIs; rw [decide_eq_true_iff]
  rwa [List.take_of_length_le (Nat.le_refl _), hl, List.take_of_length_le (Nat.le_refl _)] at h
theorem eqIs_self (l : List Int) : eqIs l l = true := by simp [eqIs]
set_option maxHeartbeats 1000000 in
theorem eqInt64S_any (A B : Option Addr) (l m : List Int) (c c' lo hi lo' hi' : Nat) (w : World) (hr : RdI w lo hi A l) (hhi : hi ≤ w.heap.size) (hr' : RdI w lo' hi' B m) (hhi' : hi' ≤ w.heap.size) (hn : l.length ≤ 2000000) :
    Calls Tryd.prog 24 #[.slice A l.length c, .slice B m.length c'] w fun e w' => e = .returned (.bool (eqIs l m)) ∧ Up w w' := by
  by_cases hne : l.length = m.length
  · have HL := Lib.hid hne
    have hb0 : ((l.length : Int) != (m.length : Int)) = false := by simp [hne]
    have hlm : l.length ≤ m.length := by omega
    clear hne
    go_enter Tryd.func24, Tryd.ntmps24
    go_wp2
    go_loopw [5] (fun i wr => ∃ k : Nat, k ≤ l.length ∧ i = .int .i64 k ∧ l.take k = m.take k ∧ Up w wr) (fun i _ => l.length - (intOf i).toNat)
    case atStart => exact ⟨0, Nat.zero_le _, rfl, by simp, Up.refl _⟩
    case round =>
      obtain ⟨k, hk, rfl, ht, hup⟩ := hrel
      have HT := Lib.hid ht
      clear ht
      by_cases hlt : k < l.length
      · have hlt' : k < m.length := by omega
        obtain ⟨b1, o1, d1, rfl, -, -, hd1, p0⟩ := (hr.up hup hhi).int hlt
        obtain ⟨b2, o2, d2, rfl, -, -, hd2, q0⟩ := (hr'.up hup hhi').int hlt'
        have HD1 := Lib.hid hd1
        have HD2 := Lib.hid hd2
        clear hd1 hd2
        have P0 := cell_regrown p0
        have Q0 := cell_regrown q0
        go_wp2_with fail
        refine wp_region_quiet_below (by kernel_rfl) (by kernel_rfl) ?_
        repeat (quiet_step (fail))
        refine wpQuiet_nil ?_
        intro w2 hw2
        obtain ⟨⟨dq, osq⟩, hw2⟩ := hw2
        have hup2 : Up wr w2 := by rw [hw2]; exact below_regrown _ _ _
        clear hw2 P0 Q0
        go_wp2
        · have hq : (d1 != d2) = true := by assumption
          go_ret
          exact ⟨ret_bool (eqIs_ne HD1.out HD2.out hq).symm, hup.trans hup2⟩
        · have hq : (d1 != d2) = false := by assumption
          go_roundw
          case rel => exact ⟨k + 1, by omega, by go_num, take_succ_eq HT.out HD1.out (by rw [show d1 = d2 by simpa using hq]; exact HD2.out), hup.trans hup2⟩
          case measure => simp [intOf]; omega
      · go_wp2
        go_ret
        exact ⟨ret_bool (eqIs_eq (by rw [show k = l.length by omega] at HT; exact HT.out) HL.out).symm, hup⟩
  · have hb0 : ((l.length : Int) != (m.length : Int)) = true := by rw [bne_iff_ne]; omega
    have H := Lib.hid hne
    clear hne
    go_enter Tryd.func24, Tryd.ntmps24
    go_wp2
    go_ret
    exact ⟨ret_bool (eqIs_len H.out).symm, Up.refl _⟩

def mkI (k : Int) (n : Nat) : List Int := (List.range n).map fun (j : Nat) => k + (j : Int)
theorem mkI_len (k : Int) (n : Nat) : (mkI k n).length = n := by simp [mkI]
theorem mkI_take {k : Int} {n j : Nat} (h : j < n) : ((mkI k n).take (j + 1)).flatMap intCells = ((mkI k n).take j).flatMap intCells ++ [.int .i64 (k + j)] := by
  rw [take_flat_succ _ (x := k + (j : Int)) (by simp [mkI, h])]
theorem mkI_get {k : Int} {n j : Nat} (h : j < n) : (mkI k n)[j]? = some (k + (j : Int)) := by simp [mkI, h]

set_option maxHeartbeats 1000000 in
theorem markInt64S_any (A : Option Addr) (n c base : Nat) (xs : List Value) (k : Int) (w : World) (hown : w.ownsRow base 2 1 (.slice A n c) n xs) (hn : n ≤ 2000000) (h0 : 0 ≤ k) (hk : k ≤ 2000000) :
    Calls Tryd.prog 26 #[.slice A n c, .int .i64 k] w fun e w' => e = .returned (.int .i64 (k + n)) ∧ w'.ownsRow base 2 1 (.slice A n c) n ((mkI k n).flatMap intCells) ∧ w.grownBy w' (Value.slice A n c).ownBlock := by
  go_enter Tryd.func26, Tryd.ntmps26
  go_wp2
  go_loopw [1, 5] (fun q i wr => ∃ j : Nat, ∃ ys, j ≤ n ∧ i = .int .i64 j ∧ q = .int .i64 (k + j) ∧ wr.ownsRow base 2 1 (.slice A n c) n ys ∧ ys.take j = ((mkI k n).take j).flatMap intCells ∧ w.grownBy wr (Value.slice A n c).ownBlock) (fun _ i _ => n - (intOf i).toNat)
  case atStart => exact ⟨0, xs, Nat.zero_le _, rfl, by simp, hown, by simp, World.grownBy.refl w _⟩
  case round =>
    obtain ⟨j, ys, hj, rfl, rfl, hown, hys, hg⟩ := hrel
    have HY := Lib.hid hys
    have HG := Lib.hid hg
    clear hys hg
    by_cases hlt : j < n
    · obtain ⟨A', c', hv, -, -, hA, -⟩ := own_form hown
      simp only [Value.slice.injEq] at hv
      obtain ⟨rfl, -, rfl⟩ := hv
      obtain ⟨g, rfl, -, -⟩ := hA (by omega)
      obtain ⟨u0, r0⟩ := own_cell hown (p := j) (by omega)
      have z0 := hown.frozenAt j
      go_wp2
      go_roundw
      case rel => exact ⟨j + 1, _, by omega, by go_num, by go_num, (hown.stored j _).1, by rw [take_set_succ (by rw [hown.1]; omega), HY.out, mkI_take hlt], HG.out.trans (hown.stored j _).2⟩
      case measure => simp [intOf]; omega
    · go_wp2
      go_ret
      have e : j = n := by omega
      subst e
      have hx := HY.out
      rw [List.take_of_length_le (by rw [hown.1]; omega), List.take_of_length_le (by rw [mkI_len]; exact Nat.le_refl _)] at hx
      subst hx
      exact ⟨rfl, hown, HG.out⟩

set_option maxHeartbeats 1000000 in
theorem heldInt64S_any (A : Option Addr) (n c lo hi : Nat) (k : Int) (w : World) (hr : RdI w lo hi A (mkI k n)) (hn : n ≤ 2000000) (h0 : 0 ≤ k) (hk : k ≤ 2000000) :
    Calls Tryd.prog 27 #[.slice A n c, .int .i64 k] w fun e w' => e = .returned (.int .i64 (k + n)) ∧ w = w' := by
  go_enter Tryd.func27, Tryd.ntmps27
  go_wp2
  go_loop [1, 4, 5] (fun q u i => ∃ j : Nat, j ≤ n ∧ i = .int .i64 j ∧ q = .int .i64 (k + j)) (fun _ _ i => n - (intOf i).toNat)
  case atStart => exact ⟨0, Nat.zero_le _, rfl, by simp⟩
  case round =>
    obtain ⟨j, hj, rfl, rfl⟩ := hrel
    by_cases hlt : j < n
    · obtain ⟨b, off, z, rfl, -, -, hz, q0⟩ := hr.int (k := j) (by rw [mkI_len]; exact hlt)
      rw [mkI_get hlt] at hz
      obtain rfl : k + (j : Int) = z := by simpa using hz
      clear hz
      go_wp2
      go_round
      case rel => exact ⟨j + 1, by omega, by go_num, by go_num⟩
      case measure => simp [intOf]; omega
    · go_wp2
      go_ret
      exact ⟨ret_int (by omega), rfl⟩
end Go.Proofs.YtdjhenjgccenhaaDoor
