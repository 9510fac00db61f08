/- Numbers that follow from a code, as the laws draw them; and the drawn texts of logs. -/
import Derived.Test.YtngananoidplmaaGreatDoorDamage
import Derived.Test.YtngananoidplmaaGreatDoorDrawL
import Derived.Test.YtngananoidplmaaGreatDoorLogS
import Derived.Laws.BitsAllLaws
namespace Go.Proofs.YtngananoidplmaaGreatDoor
open Go.RowKit Go.Sort

/-- a thrower of dice: its code, its place, its state -/
def Dic (w : World) (g : Nat) (A : Option Addr) (L : List UInt8) (c lo : Nat) : Prop :=
  ∃ (at_ : Nat) (h : Int), at_ ≤ L.length ∧ w.cell? ⟨g, 0, none⟩ = some (.slice A L.length c) ∧ w.cell? ⟨g, 1, none⟩ = some (.int .i64 (at_ : Int)) ∧ w.cell? ⟨g, 2, none⟩ = some (.int .u64 h) ∧
    w.frozen? ⟨g, 1, none⟩ = false ∧ w.frozen? ⟨g, 2, none⟩ = false ∧ RdY w lo g A L

set_option maxRecDepth 100000 in
set_option maxHeartbeats 2000000 in
theorem roll_any (A : Option Addr) (L : List UInt8) (c lo hi : Nat) (sd : Int) (w : World) (hr : RdY w lo hi A L) (hhi : hi ≤ w.heap.size) (hn : L.length ≤ 2000000) :
    Calls Tryz.prog 16 #[.slice A L.length c, .int .u64 sd] w fun e w' => e = .returned (.pointer (some ⟨w.heap.size, 0, none⟩)) ∧ w.heap.size < w'.heap.size ∧ Dic w' w.heap.size A L c lo ∧ Up w w' := by
  go_enter Tryz.func16, Tryz.ntmps16
  go_wp2
  obtain ⟨h0, hh0⟩ : ∃ x, x = IntKind.u64.wrap (IntKind.u64.wrap (sd * 9419) + (L.length : Int)) := ⟨_, rfl⟩
  obtain ⟨w1, hw1⟩ : ∃ x, x = w.alloc (.cells #[.slice A L.length c, .int .i64 0, .int .u64 h0] 65) := ⟨_, rfl⟩
  have c0 : w1.cell? ⟨w.heap.size, 0, none⟩ = some (.slice A L.length c) := by rw [hw1]; go_simp
  have c1 : w1.cell? ⟨w.heap.size, 1, none⟩ = some (.int .i64 0) := by rw [hw1]; go_simp
  have c2 : w1.cell? ⟨w.heap.size, 2, none⟩ = some (.int .u64 h0) := by rw [hw1]; go_simp
  have f1 : w1.frozen? ⟨w.heap.size, 1, none⟩ = false := by rw [hw1]; go_simp
  have f2 : w1.frozen? ⟨w.heap.size, 2, none⟩ = false := by rw [hw1]; go_simp
  have hu1 : Up w w1 := by rw [hw1]; exact Up.alloc _ _
  have hs1 : w.heap.size < w1.heap.size := by rw [hw1]; simp
  rw [← hh0, ← hw1]
  clear hw1 hh0
  go_loopw [6] (fun i wr => ∃ (k : Nat) (h : Int), k ≤ L.length ∧ i = .int .i64 k ∧ wr.cell? ⟨w.heap.size, 0, none⟩ = some (.slice A L.length c) ∧ wr.cell? ⟨w.heap.size, 1, none⟩ = some (.int .i64 0) ∧ wr.cell? ⟨w.heap.size, 2, none⟩ = some (.int .u64 h) ∧ wr.frozen? ⟨w.heap.size, 1, none⟩ = false ∧ wr.frozen? ⟨w.heap.size, 2, none⟩ = false ∧ w.heap.size < wr.heap.size ∧ Up w wr) (fun i _ => L.length - (intOf i).toNat)
  case atStart => exact ⟨0, h0, Nat.zero_le _, rfl, c0, c1, c2, f1, f2, hs1, hu1⟩
  case round =>
    clear c0 c1 c2 f1 f2 hs1 hu1
    obtain ⟨k, h, hk, rfl, c0, c1, c2, f1, f2, hs, hup⟩ := hrel
    by_cases hlt : k < L.length
    · have hd1 : decide ((k : Int) < (L.length : Int)) = true := by simp; omega
      obtain ⟨b, off, z, rfl, -, -, -, q0⟩ := (hr.up hup hhi).byt hlt
      have hz := z.toNat_lt
      go_wp2
      go_still_tail 15, (by kernel_rfl)
      change wpList _ _ _ _ _ wr.drew
      go_wp2
      go_roundw
      case rel => exact ⟨k + 1, IntKind.u64.wrap (IntKind.u64.wrap (IntKind.u64.wrap (h * 1099511628211) + (z.toNat : Int)) + 5), by omega, by go_num, by go_simp, by go_simp, by go_simp, by go_simp, by go_simp, by simp; exact hs, (hup.drew).setCell (Nat.le_refl _) _⟩
      case measure => simp [intOf]; omega
    · have hd1 : decide ((k : Int) < (L.length : Int)) = false := by simp; omega
      have hRD : RdY wr lo w.heap.size A L := (hr.up hup hhi).wide (Nat.le_refl _) hhi
      go_wp2
      go_ret
      exact ⟨rfl, hs, ⟨0, h, Nat.zero_le _, c0, c1, c2, f1, f2, hRD⟩, hup⟩

theorem wrapU (x : Int) : 0 ≤ IntKind.u64.wrap x ∧ IntKind.u64.wrap x < 18446744073709551616 := by
  rw [IntKind.wrap_u64]
  exact ⟨Int.emod_nonneg _ (by decide), Int.emod_lt_of_pos _ (by decide)⟩
theorem and24 (x : Int) : ∃ q : Nat, q ≤ 16777215 ∧ wrap64 (bits .and .u64 (IntKind.u64.wrap x / 8589934592) 16777215) = (q : Int) := by
  obtain ⟨h0, h1⟩ := wrapU x
  have h2 : 0 ≤ IntKind.u64.wrap x / 8589934592 := Int.ediv_nonneg h0 (by decide)
  have h3 : IntKind.u64.wrap x / 8589934592 < 18446744073709551616 := by omega
  rw [u64_and _ _ h2 h3 (by decide) (by decide)]
  have hle : (IntKind.u64.wrap x / 8589934592).toNat &&& (16777215 : Int).toNat ≤ 16777215 := Nat.le_trans Nat.and_le_right (by decide)
  generalize (IntKind.u64.wrap x / 8589934592).toNat &&& (16777215 : Int).toNat = q at *
  exact ⟨q, hle, IntWalk.wrap64_in _ ⟨by omega, by omega⟩⟩

set_option maxRecDepth 100000 in
set_option maxHeartbeats 4000000 in
theorem below_any (A : Option Addr) (L : List UInt8) (c lo g : Nat) (n : Nat) (w : World) (hs : Dic w g A L c lo) (hg : g < w.heap.size) (hL : L.length ≤ 2000000) (hn : 1 ≤ n) (hn2 : n ≤ 2000000) :
    Calls Tryz.prog 17 #[.pointer (some ⟨g, 0, none⟩), .int .i64 (n : Int)] w fun e w' => ∃ z : Nat, e = .returned (.int .i64 (z : Int)) ∧ z < n ∧ Mk g (g + 1) w w' := by
  obtain ⟨at_, h, hat, c0, c1, c2, f1, f2, hr⟩ := hs
  obtain ⟨q, hq, hqe⟩ := and24 (IntKind.u64.wrap (h * 6364136223846793005) + 1442695040888963407)
  have HQ := Lib.hid hqe
  clear hqe
  have hRR := hr
  go_enter Tryz.func17, Tryz.ntmps17
  go_wp2_with fail
  rw [HQ.out]
  obtain ⟨w1, hw1⟩ : ∃ x, x = w.setCell ⟨g, 2, none⟩ (.int .u64 (IntKind.u64.wrap (IntKind.u64.wrap (h * 6364136223846793005) + 1442695040888963407))) := ⟨_, rfl⟩
  have d0 : w1.cell? ⟨g, 0, none⟩ = some (.slice A L.length c) := by rw [hw1]; go_simp
  have d1 : w1.cell? ⟨g, 1, none⟩ = some (.int .i64 (at_ : Int)) := by rw [hw1]; go_simp
  have e1 : w1.frozen? ⟨g, 1, none⟩ = false := by rw [hw1]; go_simp
  have m1 : Mk g (g + 1) w w1 := by rw [hw1]; exact mk_set Mk.refl _ _ (Nat.le_refl _) (Nat.lt_succ_self _)
  have hr1 : RdY w1 lo g A L := m1.rd hr (Nat.le_of_lt hg) (.inl (Nat.le_refl _))
  rw [← hw1]
  clear hw1 HQ
  have D0 := cell_regrown d0
  have D1 := cell_regrown d1
  have hg1 : g < w1.heap.size := Nat.lt_of_lt_of_le hg m1.size
  have hnz : ((n : Int) == 0) = false := by simp; omega
  have hn0 : ¬ (n : Int) = 0 := by omega
  by_cases hal : at_ < L.length
  · have ha1 : decide ((at_ : Int) < (L.length : Int)) = true := by simp; omega
    obtain ⟨b, off, z, rfl, -, hbl, -, q0⟩ := hr1.byt hal
    have hz := z.toNat_lt
    go_wp2_with fail
    refine wp_region_quiet_below (by kernel_rfl) (by kernel_rfl) ?_
    repeat (first | go_big_quiet_step (fail) | quiet_step (fail))
    refine wpQuiet_nil ?_
    intro w2 hw2
    obtain ⟨⟨dqa, osqa⟩, hw2⟩ := hw2
    have hu2 : Up w1 w2 := by rw [hw2]; exact below_regrown _ _ _
    clear hw2
    have D0' := cell_regrown (hu2.cell d0)
    have D1' := cell_regrown (hu2.cell d1)
    have Q0' := cell_regrown (hu2.cell q0)
    clear D0 D1
    go_wp2_with fail
    refine wp_region_quiet_below (by kernel_rfl) (by kernel_rfl) ?_
    repeat (first | go_big_quiet_step (fail) | quiet_step (fail))
    refine wpQuiet_nil ?_
    intro w3 hw3
    obtain ⟨⟨dqb, osqb⟩, hw3⟩ := hw3
    have hu3 : Up w2 w3 := by rw [hw3]; exact below_regrown _ _ _
    clear hw3
    clear D0' D1' Q0'
    have hu13 := hu2.trans hu3
    have x1 := hu13.cell d1
    have y1 : w3.frozen? ⟨g, 1, none⟩ = false := (Below.frozen hu13 (p := ⟨g, 1, none⟩) hg1).trans e1
    have M3 := Lib.hid (m1.trans (Mk.up (b0 := g) (b1 := g + 1) hu13))
    obtain ⟨zz, hzz⟩ : ∃ zz : Nat, zz = (q + z.toNat) % n := ⟨_, rfl⟩
    have hzt : ((q : Int) + (z.toNat : Int)).tmod (n : Int) = (zz : Int) := by rw [Int.tmod_eq_emod_of_nonneg (by omega), hzz]; simp
    have hze : ((q : Int) + (z.toNat : Int)) % (n : Int) = (zz : Int) := by rw [hzz]; simp
    have hzl : zz < n := by rw [hzz]; exact Nat.mod_lt _ (by omega)
    clear hzz
    go_wp2
    go_ret
    exact ⟨zz, rfl, hzl, mk_set M3.out _ _ (Nat.le_refl _) (Nat.lt_succ_self _)⟩
  · have ha1 : decide ((at_ : Int) < (L.length : Int)) = false := by simp; omega
    go_wp2_with fail
    refine wp_region_quiet_below (by kernel_rfl) (by kernel_rfl) ?_
    repeat (first | go_big_quiet_step (fail) | quiet_step (fail))
    refine wpQuiet_nil ?_
    intro w2 hw2
    obtain ⟨⟨dqa, osqa⟩, hw2⟩ := hw2
    have hu2 : Up w1 w2 := by rw [hw2]; exact below_regrown _ _ _
    clear hw2
    clear D0 D1
    have M3 := Lib.hid (m1.trans (Mk.up (b0 := g) (b1 := g + 1) hu2))
    obtain ⟨zz, hzz⟩ : ∃ zz : Nat, zz = q % n := ⟨_, rfl⟩
    have hzt : ((q : Int)).tmod (n : Int) = (zz : Int) := by rw [Int.tmod_eq_emod_of_nonneg (by omega), hzz]; simp
    have hze : ((q : Int)) % (n : Int) = (zz : Int) := by rw [hzz]; simp
    have hzl : zz < n := by rw [hzz]; exact Nat.mod_lt _ (by omega)
    clear hzz
    go_wp2
    go_ret
    exact ⟨zz, rfl, hzl, M3.out⟩
end Go.Proofs.YtngananoidplmaaGreatDoor
