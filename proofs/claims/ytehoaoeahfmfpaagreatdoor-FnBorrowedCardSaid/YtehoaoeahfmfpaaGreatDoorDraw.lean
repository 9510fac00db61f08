/- The reference's source of numbers for draws: one block that alone changes. -/
import Derived.Test.YtehoaoeahfmfpaaGreatDoorMk
import Derived.Test.YtehoaoeahfmfpaaGreatDoorNormL
import Derived.StillTailTactics
namespace Go.Proofs.YtehoaoeahfmfpaaGreatDoor
open Go.RowKit Go.Sort

theorem grown_setA (w : World) (a : Addr) (u : Value) : w.grownBy (w.setCell a u) (some a.block) :=
  ⟨rfl, rfl, rfl, by simp, fun k _ hne => Below.heap_setCell w a u k (fun e => hne (by rw [e]))⟩
theorem mk_set {b0 b1 : Nat} {a w : World} (m : Mk b0 b1 a w) (p : Addr) (u : Value) (h0 : b0 ≤ p.block) (h1 : p.block < b1) : Mk b0 b1 a (w.setCell p u) :=
  m.step (v := .slice (some p) 0 0) (grown_setA w p u) (fun b hb => by simp [Value.ownBlock] at hb; omega)
/-- a source of numbers: its code, its place, its seed -/
def Src (w : World) (g : Nat) (A : Option Addr) (L : List UInt8) (c lo : Nat) : Prop :=
  ∃ at_ sd : Nat, at_ ≤ L.length ∧ sd < 2147483647 ∧ w.cell? ⟨g, 0, none⟩ = some (.slice A L.length c) ∧ w.cell? ⟨g, 1, none⟩ = some (.int .i64 (at_ : Int)) ∧ w.cell? ⟨g, 2, none⟩ = some (.int .i64 (sd : Int)) ∧
    w.frozen? ⟨g, 1, none⟩ = false ∧ w.frozen? ⟨g, 2, none⟩ = false ∧ RdY w lo g A L

set_option maxRecDepth 100000 in
set_option maxHeartbeats 2000000 in
theorem l01From_any (A : Option Addr) (L : List UInt8) (c lo hi : Nat) (w : World) (hr : RdY w lo hi A L) (hhi : hi ≤ w.heap.size) (_hn : L.length ≤ 2000000) :
    Calls Tryz.prog 54 #[.slice A L.length c] w fun e w' => e = .returned (.pointer (some ⟨w.heap.size, 0, none⟩)) ∧ w.heap.size < w'.heap.size ∧ Src w' w.heap.size A L c lo ∧ Up w w' := by
  go_enter Tryz.func54, Tryz.ntmps54
  go_wp2
  obtain ⟨w1, hw1⟩ : ∃ x, x = w.alloc (.cells #[.slice A L.length c, .int .i64 0, .int .i64 34001] 100) := ⟨_, rfl⟩
  have c0 : w1.cell? ⟨w.heap.size, 0, none⟩ = some (.slice A L.length c) := by rw [hw1]; go_simp
  have c1 : w1.cell? ⟨w.heap.size, 1, none⟩ = some (.int .i64 0) := by rw [hw1]; go_simp
  have c2 : w1.cell? ⟨w.heap.size, 2, none⟩ = some (.int .i64 ((34001 : Nat) : Int)) := by rw [hw1]; go_simp
  have f1 : w1.frozen? ⟨w.heap.size, 1, none⟩ = false := by rw [hw1]; go_simp
  have f2 : w1.frozen? ⟨w.heap.size, 2, none⟩ = false := by rw [hw1]; go_simp
  have hu1 : Up w w1 := by rw [hw1]; exact Up.alloc _ _
  have hs1 : w.heap.size < w1.heap.size := by rw [hw1]; simp
  rw [← hw1]
  clear hw1
  go_loopw [4] (fun i wr => ∃ k sd : Nat, k ≤ L.length ∧ i = .int .i64 k ∧ sd < 2147483647 ∧ wr.cell? ⟨w.heap.size, 0, none⟩ = some (.slice A L.length c) ∧ wr.cell? ⟨w.heap.size, 1, none⟩ = some (.int .i64 0) ∧ wr.cell? ⟨w.heap.size, 2, none⟩ = some (.int .i64 (sd : Int)) ∧ wr.frozen? ⟨w.heap.size, 1, none⟩ = false ∧ wr.frozen? ⟨w.heap.size, 2, none⟩ = false ∧ w.heap.size < wr.heap.size ∧ Up w wr) (fun i _ => L.length - (intOf i).toNat)
  case atStart => exact ⟨0, 34001, Nat.zero_le _, rfl, by decide, c0, c1, c2, f1, f2, hs1, hu1⟩
  case round =>
    clear c0 c1 c2 f1 f2 hs1 hu1
    obtain ⟨k, sd, hk, rfl, hsd, c0, c1, c2, f1, f2, hs, hup⟩ := hrel
    by_cases hlt : k < L.length ∧ k < 64
    · obtain ⟨hl1, hl2⟩ := hlt
      have hd1 : decide ((k : Int) < (L.length : Int)) = true := by simp; omega
      have hd2 : decide ((k : Int) < 64) = true := by simp; omega
      obtain ⟨b, off, z, rfl, -, -, -, q0⟩ := (hr.up hup hhi).byt hl1
      have hz := z.toNat_lt
      obtain ⟨r, hr0⟩ : ∃ r, r = (sd * 67 + z.toNat) % 2147483647 := ⟨_, rfl⟩
      have hrl : r < 2147483647 := by rw [hr0]; exact Nat.mod_lt _ (by decide)
      have htm : ((sd : Int) * 67 + (z.toNat : Int)).tmod 2147483647 = (r : Int) := by
        rw [Int.tmod_eq_emod_of_nonneg (by omega), hr0]; omega
      have hte : ((sd : Int) * 67 + (z.toNat : Int)) % 2147483647 = (r : Int) := by rw [hr0]; omega
      clear hr0
      go_wp2
      go_still_tail 13, (by kernel_rfl)
      change wpList _ _ _ _ _ wr.drew
      go_wp2
      go_roundw
      case rel => exact ⟨k + 1, r, by omega, by go_num, hrl, by go_simp, by go_simp, by go_simp, by go_simp, by go_simp, by simp; exact hs, (hup.drew).setCell (Nat.le_refl _) _⟩
      case measure => simp [intOf]; omega
    · have hRD : RdY wr lo w.heap.size A L := (hr.up hup hhi).wide (Nat.le_refl _) hhi
      rcases Nat.lt_or_ge k L.length with hl1 | hl1
      · have hd1 : decide ((k : Int) < (L.length : Int)) = true := by simp; omega
        have hd2 : decide ((k : Int) < 64) = false := by simp; omega
        go_wp2
        go_ret
        exact ⟨rfl, hs, ⟨0, sd, Nat.zero_le _, hsd, c0, c1, c2, f1, f2, hRD⟩, hup⟩
      · have hd1 : decide ((k : Int) < (L.length : Int)) = false := by simp; omega
        go_wp2
        go_ret
        exact ⟨rfl, hs, ⟨0, sd, Nat.zero_le _, hsd, c0, c1, c2, f1, f2, hRD⟩, hup⟩

/-- the number that is handed out: below n, and 0 where n is 1 or less -/
def NxB (n z : Int) : Prop := 0 ≤ z ∧ (z < n ∨ (n ≤ 1 ∧ z = 0))

set_option maxRecDepth 100000 in
set_option maxHeartbeats 4000000 in
theorem l01Next_any (A : Option Addr) (L : List UInt8) (c lo g : Nat) (n : Int) (w : World) (hs : Src w g A L c lo) (hg : g < w.heap.size) (hL : L.length ≤ 2000000) (hn : n ≤ 2000000) :
    Calls Tryz.prog 63 #[.pointer (some ⟨g, 0, none⟩), .int .i64 n] w fun e w' => ∃ z : Int, e = .returned (.int .i64 z) ∧ NxB n z ∧ Src w' g A L c lo ∧ Mk g (g + 1) w w' := by
  by_cases hn1 : n ≤ 1
  · have hd1 : decide (n ≤ 1) = true := by simpa using hn1
    go_enter Tryz.func63, Tryz.ntmps63
    go_wp2
    go_ret
    exact ⟨0, rfl, ⟨Int.le_refl _, .inr ⟨hn1, rfl⟩⟩, hs, Mk.refl⟩
  · have hd1 : decide (n ≤ 1) = false := by simpa using hn1
    obtain ⟨at_, sd, hat, hsd, c0, c1, c2, f1, f2, hr⟩ := hs
    obtain ⟨r, hr0⟩ : ∃ r, r = (sd * 48271 + 67) % 2147483647 := ⟨_, rfl⟩
    have hrl : r < 2147483647 := by rw [hr0]; exact Nat.mod_lt _ (by decide)
    have htm : ((sd : Int) * 48271 + 67).tmod 2147483647 = (r : Int) := by rw [Int.tmod_eq_emod_of_nonneg (by omega), hr0]; omega
    have hte : ((sd : Int) * 48271 + 67) % 2147483647 = (r : Int) := by rw [hr0]; omega
    obtain ⟨q, hq0⟩ : ∃ q, q = r / 43 := ⟨_, rfl⟩
    have hql : q ≤ 50000000 := by omega
    have hqm : (r : Int).tdiv 43 = (q : Int) := by rw [Int.tdiv_eq_ediv_of_nonneg (by omega), hq0]; omega
    have hqe : (r : Int) / 43 = (q : Int) := by rw [hq0]; omega
    clear hr0 hq0
    obtain ⟨w1, hw1⟩ : ∃ x, x = w.setCell ⟨g, 2, none⟩ (.int .i64 (r : Int)) := ⟨_, rfl⟩
    have d0 : w1.cell? ⟨g, 0, none⟩ = some (.slice A L.length c) := by rw [hw1]; go_simp
    have d1 : w1.cell? ⟨g, 1, none⟩ = some (.int .i64 (at_ : Int)) := by rw [hw1]; go_simp
    have d2 : w1.cell? ⟨g, 2, none⟩ = some (.int .i64 (r : Int)) := by rw [hw1]; go_simp
    have e1 : w1.frozen? ⟨g, 1, none⟩ = false := by rw [hw1]; go_simp
    have e2 : w1.frozen? ⟨g, 2, none⟩ = false := by rw [hw1]; go_simp
    have m1 : Mk g (g + 1) w w1 := by rw [hw1]; exact mk_set Mk.refl _ _ (Nat.le_refl _) (Nat.lt_succ_self _)
    have hr1 : RdY w1 lo g A L := m1.rd hr (Nat.le_of_lt hg) (.inl (Nat.le_refl _))
    go_enter Tryz.func63, Tryz.ntmps63
    go_wp2_with fail
    rw [← hw1]
    clear hw1
    have hn2 : 1 < n := by omega
    have D0 := cell_regrown d0
    have D1 := cell_regrown d1
    by_cases hal : at_ < L.length
    · have ha1 : decide ((at_ : Int) < (L.length : Int)) = true := by simp; omega
      obtain ⟨b, off, z, rfl, -, hbl, -, q0⟩ := hr1.byt hal
      have hbg : (⟨g, 1, none⟩ : Addr).block ≠ (⟨b, off + at_, none⟩ : Addr).block := by show g ≠ b; omega
      have hz := z.toNat_lt
      go_wp2_with fail
      refine wp_region_quiet_below (by kernel_rfl) (by kernel_rfl) ?_
      repeat (first | go_big_quiet_step (fail) | quiet_step (fail))
      refine wpQuiet_nil ?_
      intro w2 hw2
      obtain ⟨⟨dqa, osqa⟩, hw2⟩ := hw2
      have hu2 : Up w1 w2 := by rw [hw2]; exact below_regrown _ _ _
      clear hw2
      have D0' := cell_regrown (hu2.cell d0)
      have D1' := cell_regrown (hu2.cell d1)
      have Q0' := cell_regrown (hu2.cell q0)
      clear D0 D1
      go_wp2_with fail
      refine wp_region_quiet_below (by kernel_rfl) (by kernel_rfl) ?_
      repeat (first | go_big_quiet_step (fail) | quiet_step (fail))
      refine wpQuiet_nil ?_
      intro w3 hw3
      obtain ⟨⟨dqb, osqb⟩, hw3⟩ := hw3
      have hu3 : Up w2 w3 := by rw [hw3]; exact below_regrown _ _ _
      clear hw3
      clear D0' D1' Q0'
      have hu13 := hu2.trans hu3
      have x0 := hu13.cell d0
      have x1 := hu13.cell d1
      have x2 := hu13.cell d2
      have xq := hu13.cell q0
      have hg1 : g < w1.heap.size := Nat.lt_of_lt_of_le hg m1.size
      have y1 : w3.frozen? ⟨g, 1, none⟩ = false := (Below.frozen hu13 (p := ⟨g, 1, none⟩) hg1).trans e1
      have y2 : w3.frozen? ⟨g, 2, none⟩ = false := (Below.frozen hu13 (p := ⟨g, 2, none⟩) hg1).trans e2
      obtain ⟨w4, hw4⟩ : ∃ x, x = w3.setCell ⟨g, 1, none⟩ (.int .i64 ((at_ : Int) + 1)) := ⟨_, rfl⟩
      have m4 : Mk g (g + 1) w w4 := by rw [hw4]; exact mk_set (m1.trans (Mk.up hu13)) _ _ (Nat.le_refl _) (Nat.lt_succ_self _)
      have t0 : w4.cell? ⟨g, 0, none⟩ = some (.slice (some ⟨b, off, none⟩) L.length c) := by rw [hw4]; go_simp
      have t1 : w4.cell? ⟨g, 1, none⟩ = some (.int .i64 ((at_ : Int) + 1)) := by rw [hw4]; go_simp
      have t2 : w4.cell? ⟨g, 2, none⟩ = some (.int .i64 (r : Int)) := by rw [hw4]; go_simp
      have s1 : w4.frozen? ⟨g, 1, none⟩ = false := by rw [hw4]; go_simp
      have s2 : w4.frozen? ⟨g, 2, none⟩ = false := by rw [hw4]; go_simp
      have hr4 : RdY w4 lo g (some ⟨b, off, none⟩) L := m4.rd hr (Nat.le_of_lt hg) (.inl (Nat.le_refl _))
      have hS4 : Src w4 g (some ⟨b, off, none⟩) L c lo := ⟨at_ + 1, r, by omega, hrl, t0, by rw [t1]; rfl, t2, s1, s2, hr4⟩
      have qb : w4.cell? ⟨b, off + at_, none⟩ = some (.int .u8 (z.toNat : Int)) := by rw [hw4]; exact (World.cell?_of_block (Below.heap_setCell _ _ _ b (fun e => hbg e.symm))).trans xq
      rcases Decidable.em (n ≤ 256) with h256 | h256
      · have hA : decide (n ≤ 256) = true := by simpa using h256
        rcases Nat.mod_two_eq_zero_or_one (at_ + 1) with hp | hp
        · have hp1 : ((at_ : Int) + 1).tmod 2 = 0 := by rw [Int.tmod_eq_emod_of_nonneg (by omega)]; omega
          have hp2 : ((at_ : Int) + 1) % 2 = 0 := by omega
          have T0 := cell_regrown t0
          have T1 := cell_regrown t1
          have TQ := cell_regrown qb
          clear hp
          go_wp2_with fail
          rw [← hw4]
          clear hw4
          refine wp_region_quiet_below (by kernel_rfl) (by kernel_rfl) ?_
          repeat (first | go_big_quiet_step (fail) | quiet_step (fail))
          refine wpQuiet_nil ?_
          intro w5 hw5
          obtain ⟨⟨dqc, osqc⟩, hw5⟩ := hw5
          have hu5 : Up w4 w5 := by rw [hw5]; exact below_regrown _ _ _
          clear hw5
          have hS5 : Src w5 g (some ⟨b, off, none⟩) L c lo := by
            obtain ⟨a', s', g1, g2, g3, g4, g5, g6, g7, g8⟩ := hS4
            have hg4 : g < w4.heap.size := Nat.lt_of_lt_of_le hg m4.size
            exact ⟨a', s', g1, g2, hu5.cell g3, hu5.cell g4, hu5.cell g5, (Below.frozen hu5 (p := ⟨g, 1, none⟩) hg4).trans g6, (Below.frozen hu5 (p := ⟨g, 2, none⟩) hg4).trans g7, g8.up hu5 (Nat.le_of_lt hg4)⟩
          have hM5 := m4.trans (Mk.up (b0 := g) (b1 := g + 1) hu5)
          obtain ⟨zz, hzz⟩ : ∃ zz : Int, zz = (z.toNat : Int) % n := ⟨_, rfl⟩
          have hzt : ((z.toNat : Int)).tmod n = zz := by rw [Int.tmod_eq_emod_of_nonneg (by omega), hzz]
          have hz0 : 0 ≤ zz := by rw [hzz]; exact Int.emod_nonneg _ (by omega)
          have hz1 : zz < n := by rw [hzz]; exact Int.emod_lt_of_pos _ (by omega)
          have hzz' := hzz.symm
          have hnz : (n == 0) = false := by simp; omega
          have hn0 : ¬ n = 0 := by omega
          clear hzz
          clear T0 T1 TQ
          go_wp2
          go_ret
          exact ⟨zz, rfl, ⟨hz0, .inl hz1⟩, hS5, hM5⟩
        · have hp1 : ((at_ : Int) + 1).tmod 2 = 1 := by rw [Int.tmod_eq_emod_of_nonneg (by omega)]; omega
          have hp2 : ((at_ : Int) + 1) % 2 = 1 := by omega
          obtain ⟨zz, hzz⟩ : ∃ zz : Int, zz = ((q : Int) + (z.toNat : Int)) % n := ⟨_, rfl⟩
          have hzt : (((q : Int) + (z.toNat : Int))).tmod n = zz := by rw [Int.tmod_eq_emod_of_nonneg (by omega), hzz]
          have hz0 : 0 ≤ zz := by rw [hzz]; exact Int.emod_nonneg _ (by omega)
          have hz1 : zz < n := by rw [hzz]; exact Int.emod_lt_of_pos _ (by omega)
          have hzz' := hzz.symm
          have hnz : (n == 0) = false := by simp; omega
          have hn0 : ¬ n = 0 := by omega
          clear hzz
          subst hw4
          go_wp2
          go_ret
          exact ⟨zz, rfl, ⟨hz0, .inl hz1⟩, hS4, m4⟩
      · have hA : decide (n ≤ 256) = false := by simpa using h256
        obtain ⟨zz, hzz⟩ : ∃ zz : Int, zz = ((q : Int) + (z.toNat : Int)) % n := ⟨_, rfl⟩
        have hzt : (((q : Int) + (z.toNat : Int))).tmod n = zz := by rw [Int.tmod_eq_emod_of_nonneg (by omega), hzz]
        have hz0 : 0 ≤ zz := by rw [hzz]; exact Int.emod_nonneg _ (by omega)
        have hz1 : zz < n := by rw [hzz]; exact Int.emod_lt_of_pos _ (by omega)
        have hzz' := hzz.symm
        have hnz : (n == 0) = false := by simp; omega
        have hn0 : ¬ n = 0 := by omega
        clear hzz
        subst hw4
        go_wp2
        go_ret
        exact ⟨zz, rfl, ⟨hz0, .inl hz1⟩, hS4, m4⟩
    · have ha1 : decide ((at_ : Int) < (L.length : Int)) = false := by simp; omega
      go_wp2_with fail
      refine wp_region_quiet_below (by kernel_rfl) (by kernel_rfl) ?_
      repeat (first | go_big_quiet_step (fail) | quiet_step (fail))
      refine wpQuiet_nil ?_
      intro w2 hw2
      obtain ⟨⟨dqa, osqa⟩, hw2⟩ := hw2
      have hu2 : Up w1 w2 := by rw [hw2]; exact below_regrown _ _ _
      clear hw2
      clear D0 D1
      have y1 : w2.frozen? ⟨g, 1, none⟩ = false := (Below.frozen hu2 (p := ⟨g, 1, none⟩) (Nat.lt_of_lt_of_le hg m1.size)).trans e1
      have y2 : w2.frozen? ⟨g, 2, none⟩ = false := (Below.frozen hu2 (p := ⟨g, 2, none⟩) (Nat.lt_of_lt_of_le hg m1.size)).trans e2
      have hS : Src w2 g A L c lo := ⟨at_, r, hat, hrl, hu2.cell d0, hu2.cell d1, hu2.cell d2, y1, y2, hr1.up hu2 (Nat.le_trans (Nat.le_of_lt hg) m1.size)⟩
      have hM := m1.trans (Mk.up (b0 := g) (b1 := g + 1) hu2)
      obtain ⟨zz, hzz⟩ : ∃ zz : Int, zz = (q : Int) % n := ⟨_, rfl⟩
      have hzt : (q : Int).tmod n = zz := by rw [Int.tmod_eq_emod_of_nonneg (by omega), hzz]
      have hz0 : 0 ≤ zz := by rw [hzz]; exact Int.emod_nonneg _ (by omega)
      have hz1 : zz < n := by rw [hzz]; exact Int.emod_lt_of_pos _ (by omega)
      have hzz' := hzz.symm
      have hnz : (n == 0) = false := by simp; omega
      have hn0 : ¬ n = 0 := by omega
      clear hzz
      go_wp2
      go_ret
      exact ⟨zz, rfl, ⟨hz0, .inl hz1⟩, hS, hM⟩

theorem NxB.lt {n z : Int} (h : NxB n z) (hn : 1 ≤ n) : 0 ≤ z ∧ z < n := ⟨h.1, by rcases h.2 with h2 | h2 <;> omega⟩

set_option maxRecDepth 100000 in
set_option maxHeartbeats 2000000 in
theorem l01Pick_any (A : Option Addr) (L : List UInt8) (c lo g : Nat) (A2 : Option Addr) (I : List Int) (c2 lo2 hi2 : Nat) (w : World) (hs : Src w g A L c lo) (hg : g < w.heap.size) (hL : L.length ≤ 2000000) (hr : RdI w lo2 hi2 A2 I) (hhi : hi2 ≤ w.heap.size) (hd : hi2 ≤ g ∨ g + 1 ≤ lo2) (h0 : 0 < I.length) (hI : I.length ≤ 1000) :
    Calls Tryz.prog 56 #[.pointer (some ⟨g, 0, none⟩), .slice A2 I.length c2] w fun e w' => ∃ z : Int, e = .returned (.int .i64 z) ∧ z ∈ I ∧ Src w' g A L c lo ∧ Mk g (g + 1) w w' := by
  have HN := Lib.hid (l01Next_any A L c lo g (I.length : Int) w hs hg hL (by omega))
  go_enter Tryz.func56, Tryz.ntmps56
  go_wp2_with fail
  refine HN.out.mono ?_
  rintro e w1 ⟨z, rfl, hz, hs1, m1⟩
  obtain ⟨hz0, hz1⟩ := hz.lt (by omega)
  obtain ⟨k, rfl⟩ := Int.eq_ofNat_of_zero_le hz0
  have hk : k < I.length := by omega
  obtain ⟨b, off, x, rfl, -, -, hx, q0⟩ := (m1.rd hr hhi hd).int hk
  have HX := Lib.hid hx
  have HS := Lib.hid hs1
  clear hx hs1 hz
  go_wp2
  go_ret
  exact ⟨x, rfl, List.mem_of_getElem? HX.out, HS.out, m1⟩
end Go.Proofs.YtehoaoeahfmfpaaGreatDoor
