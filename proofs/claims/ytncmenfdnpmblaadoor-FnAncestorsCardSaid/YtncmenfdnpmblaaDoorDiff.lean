/- Differences, the codes of copies and indices, and CountDifferences: the program's and the reference's walks. -/
import Derived.Test.YtncmenfdnpmblaaDoorPlaces
namespace Go.Proofs.YtncmenfdnpmblaaDoor
open Go.RowKit Go.Sort

set_option maxRecDepth 100000 in
set_option maxHeartbeats 2000000 in
theorem diffClosure_any (A B : Option Addr) (a b : List Int) (ca cb lo hi lo' hi' va vb j : Nat) (w : World) (hr : RdI w lo hi A a) (hr' : RdI w lo' hi' B b)
    (c1 : w.cell? ⟨va, 0, none⟩ = some (.slice A a.length ca)) (c2 : w.cell? ⟨vb, 0, none⟩ = some (.slice B b.length cb)) (hj : j < a.length) (hj' : j < b.length) (_hja : a.length ≤ 2000000) :
    Calls Tryd.prog 96 #[.int .i64 (j : Int), .pointer (some ⟨va, 0, none⟩), .pointer (some ⟨vb, 0, none⟩)] w fun e w' => e = .returned (.bool (dfB a b j)) ∧ Up w w' := by
  obtain ⟨b1, o1, x, rfl, -, -, hx, p0⟩ := hr.int hj
  obtain ⟨b2, o2, y, rfl, -, -, hy, q0⟩ := hr'.int hj'
  have HD := Lib.hid (dfB_of hx hy)
  clear hx hy
  have C1 := cell_regrown c1
  have C2 := cell_regrown c2
  have P0 := cell_regrown p0
  have Q0 := cell_regrown q0
  go_enter Tryd.func96, Tryd.ntmps96
  go_wp2_with fail
  refine wp_region_quiet_below (by kernel_rfl) (by kernel_rfl) ?_
  repeat (quiet_step ((go_at_call 97; exact Calls.regrown_of (differ_any _ _ _))))
  refine wpQuiet_nil ?_
  intro w2 hw2
  obtain ⟨⟨dq, osq⟩, hw2⟩ := hw2
  have hup2 : Up w w2 := by rw [hw2]; exact below_regrown _ _ _
  clear hw2 P0 Q0 C1 C2
  go_wp2
  go_ret
  exact ⟨ret_bool HD.out.symm, hup2⟩

set_option maxHeartbeats 1000000 in
theorem differences_any (A B : Option Addr) (a b : List Int) (ca cb lo hi lo' hi' : Nat) (w : World) (hr : RdI w lo hi A a) (hhi : hi ≤ w.heap.size) (hr' : RdI w lo' hi' B b) (hhi' : hi' ≤ w.heap.size) (hab : a.length ≤ b.length) (hja : a.length ≤ 2000000) :
    Calls Tryd.prog 74 #[.slice A a.length ca, .slice B b.length cb] w fun e w' => ∃ v, e = .returned v ∧ w'.ownsRow w.heap.size 2 1 v (pl (dfB a b) a.length).length ((pl (dfB a b) a.length).flatMap intCells) ∧ Up w w' := by
  have hu := ((Up.refl w).allocs (.cells #[.slice A a.length ca] 25)).allocs (.cells #[.slice B b.length cb] 25)
  have k1 : ((w.alloc (.cells #[.slice A a.length ca] 25)).alloc (.cells #[.slice B b.length cb] 25)).cell? ⟨w.heap.size, 0, none⟩ = some (.slice A a.length ca) := by go_simp
  have k2 : ((w.alloc (.cells #[.slice A a.length ca] 25)).alloc (.cells #[.slice B b.length cb] 25)).cell? ⟨w.heap.size + 1, 0, none⟩ = some (.slice B b.length cb) := by go_simp
  have HP := placesWith_any a.length 96 #[.pointer (some ⟨w.heap.size, 0, none⟩), .pointer (some ⟨w.heap.size + 1, 0, none⟩)] (dfB a b) _ hja (fun _ _ => by kernel_rfl)
    (fun j hj w1 hu1 => diffClosure_any A B a b ca cb lo hi lo' hi' _ _ j w1 (hr.up (hu.trans hu1) hhi) (hr'.up (hu.trans hu1) hhi') (hu1.cell k1) (hu1.cell k2) hj (by omega) hja)
  have H := Lib.hid HP
  clear HP k1 k2
  go_enter Tryd.func74, Tryd.ntmps74
  go_wp2_with (go_at_call 95; refine H.out.mono ?_; rintro e w2 ⟨v, rfl, ho, hup⟩)
  go_ret
  exact ⟨_, rfl, own_base ho hu.size, hu.trans hup⟩

set_option maxRecDepth 100000 in
set_option maxHeartbeats 2000000 in
theorem l22Differences_any (A B : Option Addr) (a b : List Int) (ca cb lo hi lo' hi' : Nat) (w : World) (hr : RdI w lo hi A a) (hhi : hi ≤ w.heap.size) (hr' : RdI w lo' hi' B b) (hhi' : hi' ≤ w.heap.size) (hab : a.length ≤ b.length) (hja : a.length ≤ 2000000) :
    Calls Tryd.prog 55 #[.slice A a.length ca, .slice B b.length cb] w fun e w' => e = .returned (.int .i64 ((pl (dfB a b) a.length).length : Nat)) ∧ Up w w' := by
  go_enter Tryd.func55, Tryd.ntmps55
  go_wp2
  go_loopw [5, 6] (fun n i wr => ∃ k : Nat, k ≤ a.length ∧ i = .int .i64 k ∧ n = .int .i64 ((pl (dfB a b) k).length : Nat) ∧ Up w wr) (fun _ i _ => a.length - (intOf i).toNat)
  case atStart => exact ⟨0, Nat.zero_le _, rfl, rfl, Up.refl _⟩
  case round =>
    obtain ⟨k, hk, rfl, rfl, hup⟩ := hrel
    by_cases hlt : k < a.length
    · have hltb : k < b.length := by omega
      obtain ⟨b1, o1, x, rfl, -, -, hx, p0⟩ := (hr.up hup hhi).int hlt
      obtain ⟨b2, o2, y, rfl, -, -, hy, q0⟩ := (hr'.up hup hhi').int hltb
      have HD := Lib.hid (dfB_of hx hy)
      have hpl := pl_len (dfB a b) k
      clear hx hy
      have P0 := cell_regrown p0
      have Q0 := cell_regrown q0
      by_cases h1 : x = 0
      · have h1' : (x != 0) = false := by simpa using h1
        have H := Lib.hid h1
        clear h1
        go_wp2_with fail
        refine wp_region_quiet_below (by kernel_rfl) (by kernel_rfl) ?_
        repeat (first | go_big_quiet_step (fail) | quiet_step (fail))
        refine wpQuiet_nil ?_
        intro w2 hw2
        obtain ⟨⟨dq, osq⟩, hw2⟩ := hw2
        have hup2 : Up wr w2 := by rw [hw2]; exact below_regrown _ _ _
        clear hw2 P0 Q0 h1' p0 q0
        go_wp2
        go_roundw
        case rel => exact ⟨k + 1, by omega, by go_num, by rw [pl_no (by rw [HD.out]; simp [dfI, H.out])], hup.trans hup2⟩
        case measure => simp [intOf]; omega
      · have h1' : (x != 0) = true := by simpa using h1
        by_cases h2 : y = 0
        · have h2' : (y != 0) = false := by simpa using h2
          have H := Lib.hid h2
          clear h1 h2
          go_wp2_with fail
          refine wp_region_quiet_below (by kernel_rfl) (by kernel_rfl) ?_
          repeat (first | go_big_quiet_step (fail) | quiet_step (fail))
          refine wpQuiet_nil ?_
          intro w2 hw2
          obtain ⟨⟨dq, osq⟩, hw2⟩ := hw2
          have hup2 : Up wr w2 := by rw [hw2]; exact below_regrown _ _ _
          clear hw2 P0 Q0 h1' h2' p0 q0
          go_wp2
          go_roundw
          case rel => exact ⟨k + 1, by omega, by go_num, by rw [pl_no (by rw [HD.out]; simp [dfI, H.out])], hup.trans hup2⟩
          case measure => simp [intOf]; omega
        · have h2' : (y != 0) = true := by simpa using h2
          have H1 := Lib.hid h1
          have H2 := Lib.hid h2
          clear h1 h2
          go_wp2_with fail
          refine wp_region_quiet_below (by kernel_rfl) (by kernel_rfl) ?_
          repeat (first | go_big_quiet_step (fail) | quiet_step (fail))
          refine wpQuiet_nil ?_
          intro w2 hw2
          obtain ⟨⟨dq, osq⟩, hw2⟩ := hw2
          have hup2 : Up wr w2 := by rw [hw2]; exact below_regrown _ _ _
          clear hw2 P0 Q0 h1' h2' p0 q0
          go_wp2
          · have hq : (x != y) = true := by assumption
            have HQ := Lib.hid hq
            clear hq
            go_roundw
            case rel => exact ⟨k + 1, by omega, by go_num, by rw [pl_yes (by rw [HD.out]; simp [dfI, H1.out, H2.out]; simpa using HQ.out)]; simp, hup.trans hup2⟩
            case measure => simp [intOf]; omega
          · have hq : (x != y) = false := by assumption
            have HQ := Lib.hid hq
            clear hq
            go_roundw
            case rel => exact ⟨k + 1, by omega, by go_num, by rw [pl_no (by rw [HD.out]; unfold dfI; rw [HQ.out]; simp)], hup.trans hup2⟩
            case measure => simp [intOf]; omega
    · have e : k = a.length := by omega
      subst e
      go_wp2
      go_ret
      exact ⟨rfl, hup⟩
end Go.Proofs.YtncmenfdnpmblaaDoor
