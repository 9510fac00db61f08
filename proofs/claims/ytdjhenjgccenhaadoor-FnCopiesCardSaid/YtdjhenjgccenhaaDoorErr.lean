/- The errors of a copy: the program's and the reference's walks. -/
import Derived.Test.YtdjhenjgccenhaaDoorDiff
import Derived.Test.YtdjhenjgccenhaaDoorOrig
namespace Go.Proofs.YtdjhenjgccenhaaDoor
open Go.RowKit Go.Sort

set_option maxRecDepth 100000 in
set_option maxHeartbeats 2000000 in
theorem errClosure_any (A B : Option Addr) (xn : ByteArray) (a b : List Int) (ca cb lo hi lo' hi' va vb j : Nat) (w : World) (hr : RdI w lo hi A a) (hr' : RdI w lo' hi' B b)
    (c1 : w.cell? ⟨va, 1, none⟩ = some (.slice A a.length ca)) (_c0 : w.cell? ⟨va, 0, none⟩ = some (.string xn)) (c2 : w.cell? ⟨vb, 0, none⟩ = some (.slice B b.length cb)) (hj : j < a.length) (hj' : j < b.length) (_hja : a.length ≤ 2000000) :
    Calls Tryd.prog 101 #[.int .i64 (j : Int), .pointer (some ⟨va, 0, none⟩), .pointer (some ⟨vb, 0, none⟩)] w fun e w' => e = .returned (.bool (dfB a b j)) ∧ Up w w' := by
  obtain ⟨b1, o1, x, rfl, -, -, hx, p0⟩ := hr.int hj
  obtain ⟨b2, o2, y, rfl, -, -, hy, q0⟩ := hr'.int hj'
  have HD := Lib.hid (dfB_of hx hy)
  clear hx hy
  have C1 := cell_regrown c1
  have C2 := cell_regrown c2
  have P0 := cell_regrown p0
  have Q0 := cell_regrown q0
  go_enter Tryd.func101, Tryd.ntmps101
  go_wp2_with fail
  refine wp_region_quiet_below (by kernel_rfl) (by kernel_rfl) ?_
  repeat (quiet_step ((go_at_call 80; exact Calls.regrown_of (differ_any _ _ _))))
  refine wpQuiet_nil ?_
  intro w2 hw2
  obtain ⟨⟨dq, osq⟩, hw2⟩ := hw2
  have hup2 : Up w w2 := by rw [hw2]; exact below_regrown _ _ _
  clear hw2 P0 Q0 C1 C2
  go_wp2
  go_ret
  exact ⟨ret_bool HD.out.symm, hup2⟩

set_option maxHeartbeats 1000000 in
theorem errorsOf_any (A B : Option Addr) (xn : ByteArray) (a b : List Int) (ca cb lo hi lo' hi' : Nat) (w : World) (hr : RdI w lo hi A a) (hhi : hi ≤ w.heap.size) (hr' : RdI w lo' hi' B b) (hhi' : hi' ≤ w.heap.size) (hab : b.length ≤ a.length) (hja : a.length ≤ 2000000) :
    Calls Tryd.prog 76 #[.slice B b.length cb, .agg #[.string xn, .slice A a.length ca]] w fun e w' => ∃ v, e = .returned v ∧ w'.ownsRow w.heap.size 2 1 v (pl (dfB a b) b.length).length ((pl (dfB a b) b.length).flatMap intCells) ∧ Up w w' := by
  have hu := ((Up.refl w).allocs (.cells #[.slice B b.length cb] 32)).allocs (.cells #[.string xn, .slice A a.length ca] 43)
  have k1 : ((w.alloc (.cells #[.slice B b.length cb] 32)).alloc (.cells #[.string xn, .slice A a.length ca] 43)).cell? ⟨w.heap.size, 0, none⟩ = some (.slice B b.length cb) := by go_simp
  have k2 : ((w.alloc (.cells #[.slice B b.length cb] 32)).alloc (.cells #[.string xn, .slice A a.length ca] 43)).cell? ⟨w.heap.size + 1, 0, none⟩ = some (.string xn) := by go_simp
  have k3 : ((w.alloc (.cells #[.slice B b.length cb] 32)).alloc (.cells #[.string xn, .slice A a.length ca] 43)).cell? ⟨w.heap.size + 1, 1, none⟩ = some (.slice A a.length ca) := by go_simp
  have HP := placesWith_any b.length 101 #[.pointer (some ⟨w.heap.size + 1, 0, none⟩), .pointer (some ⟨w.heap.size, 0, none⟩)] (dfB a b) _ (by omega) (fun _ _ => by kernel_rfl)
    (fun j hj w1 hu1 => errClosure_any A B xn a b ca cb lo hi lo' hi' _ _ j w1 (hr.up (hu.trans hu1) hhi) (hr'.up (hu.trans hu1) hhi') (hu1.cell k3) (hu1.cell k2) (hu1.cell k1) (by omega) hj hja)
  have H := Lib.hid HP
  clear HP k1 k2 k3
  go_enter Tryd.func76, Tryd.ntmps76
  go_wp2_with (go_at_call 78; refine H.out.mono ?_; rintro e w2 ⟨v, rfl, ho, hup⟩)
  go_ret
  exact ⟨_, rfl, own_base ho hu.size, hu.trans hup⟩

set_option maxRecDepth 100000 in
set_option maxHeartbeats 4000000 in
theorem l22Errors_any (A B : Option Addr) (xn : ByteArray) (a b : List Int) (ca cb lo hi lo' hi' : Nat) (w : World) (hr : RdI w lo hi A a) (hhi : hi ≤ w.heap.size) (hr' : RdI w lo' hi' B b) (hhi' : hi' ≤ w.heap.size) (hab : b.length ≤ a.length) (hja : a.length ≤ 2000000) (hb : b.all rdB = true) :
    Calls Tryd.prog 75 #[.slice B b.length cb, .agg #[.string xn, .slice A a.length ca]] w fun e w' => ∃ v, e = .returned v ∧ w'.ownsRow w.heap.size 2 1 v (pl (dfB a b) b.length).length ((pl (dfB a b) b.length).flatMap intCells) ∧ Up w w' := by
  obtain ⟨i0, hi0, hz0, hz1, hz2⟩ := info_parts infoInt
  have HB := Lib.hid hb
  clear hb
  go_enter Tryd.func75, Tryd.ntmps75
  go_wp2
  have hu0 := (Up.refl w).allocs (.cells #[.string xn, .slice A a.length ca] 43)
  have c1 : (w.alloc (.cells #[.string xn, .slice A a.length ca] 43)).cell? ⟨w.heap.size, 1, none⟩ = some (.slice A a.length ca) := by go_simp
  have e1 : (w.alloc (.cells #[.string xn, .slice A a.length ca] 43)).heap.size = w.heap.size + 1 := by simp
  rw [← e1]
  clear e1
  generalize w.alloc (.cells #[.string xn, .slice A a.length ca] 43) = W1 at *
  have hown0 := World.ownsRow_lit (base := W1.heap.size) (e := 2) (size := 1) W1 #[] 0 (Nat.le_refl _) (by simp [maxLen]) rfl
  have hup0 := (Up.refl W1).allocs (.cells #[] 2)
  obtain ⟨v0, hv0⟩ : ∃ v, v = Value.slice (some ⟨W1.heap.size, 0, none⟩) 0 0 := ⟨_, rfl⟩
  rw [← hv0] at hown0 ⊢
  generalize W1.alloc (.cells #[] 2) = w2 at *
  clear hv0
  go_loopw [5, 6] (fun o i wr => ∃ k : Nat, k ≤ b.length ∧ i = .int .i64 k ∧ wr.ownsRow W1.heap.size 2 1 o (pl (dfB a b) k).length ((pl (dfB a b) k).flatMap intCells) ∧ Up W1 wr) (fun _ i _ => b.length - (intOf i).toNat)
  case atStart => exact ⟨0, Nat.zero_le _, rfl, hown0, hup0⟩
  case round =>
    obtain ⟨k, hk, rfl, hown, hup⟩ := hrel
    by_cases hlt : k < b.length
    · have hlta : k < a.length := by omega
      have hc1 := hup.cell c1
      obtain ⟨b1, o1, x, rfl, -, -, hx, p0⟩ := (hr.up (hu0.trans hup) hhi).int hlta
      obtain ⟨b2, o2, y, rfl, -, -, hy, q0⟩ := (hr'.up (hu0.trans hup) hhi').int hlt
      have HD := Lib.hid (dfB_of hx hy)
      have hyr : rdB y = true := List.all_eq_true.1 HB.out y (List.mem_of_getElem? hy)
      have hy0 : y ≠ 0 := by intro h; rw [h] at hyr; simp [rdB, inB] at hyr
      have HY0 := Lib.hid hy0
      have hpl := pl_len (dfB a b) k
      clear hx hy hyr hy0
      have P0 := cell_regrown p0
      have Q0 := cell_regrown q0
      have C1 := cell_regrown hc1
      by_cases h1 : x = 0
      · have h1' : (x != 0) = false := by simpa using h1
        have H := Lib.hid h1
        clear h1
        go_wp2_with fail
        refine wp_region_quiet_below (by kernel_rfl) (by kernel_rfl) ?_
        repeat (first | go_big_quiet_step (fail) | quiet_step (fail))
        refine wpQuiet_nil ?_
        intro w3 hw3
        obtain ⟨⟨dq, osq⟩, hw3⟩ := hw3
        have hup2 : Up wr w3 := by rw [hw3]; exact below_regrown _ _ _
        have hown3 := own_up hown hup2
        clear hw3 P0 Q0 C1 h1' p0 q0 hc1 hown
        go_wp2
        go_roundw
        case rel => exact ⟨k + 1, by omega, by go_num, by rw [pl_no (by rw [HD.out]; simp [dfI, H.out])]; exact hown3, hup.trans hup2⟩
        case measure => simp [intOf]; omega
      · have h1' : (x != 0) = true := by simpa using h1
        have H1 := Lib.hid h1
        clear h1
        go_wp2_with fail
        refine wp_region_quiet_below (by kernel_rfl) (by kernel_rfl) ?_
        repeat (first | go_big_quiet_step (fail) | quiet_step (fail))
        refine wpQuiet_nil ?_
        intro w3 hw3
        obtain ⟨⟨dq, osq⟩, hw3⟩ := hw3
        have hup2 : Up wr w3 := by rw [hw3]; exact below_regrown _ _ _
        have hown3 := own_up hown hup2
        have hupx := hup.trans hup2
        clear hw3 P0 Q0 C1 h1' p0 q0 hc1 hown
        by_cases hq : (x != y) = true
        · have HP : dfB a b k = true := by rw [HD.out]; simp [dfI, H1.out, HY0.out]; simpa using hq
          have HPP := Lib.hid HP
          clear HP
          have n1 : (pl (dfB a b) k).length + 1 ≤ maxLen := by unfold maxLen; omega
          have n2 : ((pl (dfB a b) k).length + 1) * 8 ≤ 140737488355328 := by omega
          have n3 : W1.heap.size ≤ (w3.alloc (.cells #[.int .i64 (k : Int)] 2)).heap.size := (hupx.allocs _).size
          go_wp2_with ((at_builtin; refine wpList_append_own _ rfl _ _ 32 rfl W1.heap.size 2 i0 _ 1 8 Tryd.underlying32 hi0 hz0 hz1 hz2 rfl (by decide) _ _ _ rfl (hown3.alloc _) ⟨w3.heap.size, 0, none⟩ 1 1 [.int .i64 (k : Int)] rfl rfl (cell_one_new _ _ _) (by simp [Value.oneCell']) n1 n2 n3 ?_))
          intro v' w4 hown' hgrow _
          have ho := pl_step HPP.out hown'
          have hu := (hupx.allocs (.cells #[.int .i64 (k : Int)] 2)).grown hgrow (fun k hk => (hown3.lt k hk).1)
          clear hown' hgrow hq
          go_wp2
          go_roundw
          case rel => exact ⟨k + 1, by omega, by go_num, ho, hu⟩
          case measure => simp [intOf]; omega
        · have hq' : (x != y) = false := by simpa using hq
          have HQ := Lib.hid hq'
          clear hq
          go_wp2
          go_roundw
          case rel => exact ⟨k + 1, by omega, by go_num, by rw [pl_no (by rw [HD.out]; unfold dfI; rw [HQ.out]; simp)]; exact hown3, hupx⟩
          case measure => simp [intOf]; omega
    · have e : k = b.length := by omega
      subst e
      go_wp2
      go_ret
      exact ⟨_, rfl, own_base hown hu0.size, hu0.trans hup⟩
end Go.Proofs.YtdjhenjgccenhaaDoor
