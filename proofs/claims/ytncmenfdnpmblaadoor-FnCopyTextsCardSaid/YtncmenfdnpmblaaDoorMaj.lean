/- MajorityText: the reference's and the program's walks. -/
import Derived.Test.YtncmenfdnpmblaaDoorMajL
import Derived.Test.YtncmenfdnpmblaaDoorCntD
namespace Go.Proofs.YtncmenfdnpmblaaDoor
open Go.RowKit Go.Sort

theorem rd_num {P : List PC} (h : arB P = true) {i p : Nat} {x : PC} {z : Int} (hx : P[i]? = some x) (hz : x.2[p]? = some z) : ∃ r : Nat, z = (r : Int) ∧ r < 10 := by
  have := arB_ok h hx
  simp only [okC, Bool.and_eq_true] at this
  have := List.all_eq_true.1 this.2.2.2.1 z (List.mem_of_getElem? hz)
  simp [numB, inB] at this
  exact ⟨z.toNat, by omega, by omega⟩
theorem ret_vi' {k : IntKind} {v : Value} {a b : Int} (h : a = b) : Ending.returned (.tuple #[v, .int k a]) = .returned (.tuple #[v, .int k b]) := by rw [h]

set_option maxRecDepth 100000 in
set_option maxHeartbeats 4000000 in
theorem specMajority_any (A : Option Addr) (l : List Cp) (c lo hi : Nat) (w : World) (hr : RdC w lo hi A l) (hhi : hi ≤ w.heap.size) (hf : Fit l c) :
    Calls Tryd.prog 39 #[.slice A l.length c] w fun e w' => ∃ v, e = .returned (.tuple #[v, .int .i64 (mjE (l.map Cp.p))]) ∧ w'.ownsRow w.heap.size 2 1 v (mjL (l.map Cp.p)).length ((mjL (l.map Cp.p)).flatMap intCells) ∧ Up w w' := by
  obtain ⟨i0, hi0, hz0, hz1, hz2⟩ := info_parts infoInt
  have HA := Lib.hid (specAre A l c lo hi w hr hhi hf)
  have hn := hf.2.2.1
  have HRS := Lib.hid hf.2.1
  clear hf
  rcases h1 : arB (l.map Cp.p) with _ | _
  · have HM := Lib.hid (mj_no h1)
    go_enter Tryd.func39, Tryd.ntmps39
    go_wp2_with (go_at_call 59; refine HA.out.mono ?_; rintro e w1 ⟨rfl, hup⟩)
    go_ret2
    exact ⟨_, ret_vi' HM.out.2.symm, by rw [HM.out.1]; exact World.ownsRow_nil _ _ _ _, by assumption⟩
  · have HM := Lib.hid (mj_yes h1)
    have H1 := Lib.hid h1
    go_enter Tryd.func39, Tryd.ntmps39
    go_wp2_with fail
    refine HA.out.mono ?_
    rintro e w1 ⟨rfl, hup⟩
    go_wp2
    clear h1
    have hown0 := World.ownsRow_lit (base := w.heap.size) (e := 2) (size := 1) w1 #[] 0 hup.size (by simp [maxLen]) rfl
    have hup0 := hup.allocs (.cells #[] 2)
    obtain ⟨v0, hv0⟩ : ∃ v, v = Value.slice (some ⟨w1.heap.size, 0, none⟩) 0 0 := ⟨_, rfl⟩
    rw [← hv0] at hown0 ⊢
    generalize w1.alloc (.cells #[] 2) = w2 at *
    clear hv0
    go_loopw [4, 5, 6, 7, 8, 9, 10] (fun o i _ _ _ _ _ wr => ∃ k : Nat, k ≤ n0 (l.map Cp.p) ∧ i = .int .i64 k ∧ wr.ownsRow w.heap.size 2 1 o k ((mjP (l.map Cp.p) k).flatMap intCells) ∧ Up w wr) (fun _ i _ _ _ _ _ _ => n0 (l.map Cp.p) - (intOf i).toNat)
    case atStart => exact ⟨0, Nat.zero_le _, rfl, hown0, hup0⟩
    case round =>
      obtain ⟨k, hk, rfl, hown, hupr⟩ := hrel
      by_cases hl : 0 < l.length
      · have hl' : decide ((0 : Int) < (l.length : Int)) = true := by simp; omega
        obtain ⟨b', off', d0, rfl, -, -, hd0, hin0, p0, p1⟩ := (hr.up hupr hhi).at_ (k := 0) hl
        have hs2 := HRS.out d0 (List.mem_of_getElem? hd0)
        have HN0 := Lib.hid (n0_of hd0)
        have hk' : k ≤ d0.rs.length := by rw [← HN0.out]; exact hk
        simp only [Nat.zero_mul, Nat.add_zero] at p0 p1
        by_cases hlt : k < d0.rs.length
        · have HD0 := Lib.hid hd0
          clear hd0 hin0
          go_wp2_with fail
          go_loop [6, 7, 8, 9, 10] (fun be mo re _ _ => ∃ r : Nat, 1 ≤ r ∧ r ≤ 10 ∧ re = .int .i64 r ∧ be = .int .i64 ((bst (mjC (l.map Cp.p) k) r : Nat) : Int) ∧ mo = .int .i64 ((mjC (l.map Cp.p) k (bst (mjC (l.map Cp.p) k) r) : Nat) : Int)) (fun _ _ re _ _ => 10 - (intOf re).toNat)
          case atStart => exact ⟨1, Nat.le_refl _, by omega, rfl, by rw [bst_one]; rfl, by rw [bst_one]; rfl⟩
          case round =>
            obtain ⟨r, hr1, hr2, rfl, rfl, rfl⟩ := hrel
            by_cases hr9 : r ≤ 9
            · go_wp2_with fail
              go_loop [9, 10] (fun co i => ∃ q : Nat, q ≤ l.length ∧ i = .int .i64 q ∧ co = .int .i64 ((mjN ((l.map Cp.p).take q) k r : Nat) : Int)) (fun _ i => l.length - (intOf i).toNat)
              case atStart => exact ⟨0, Nat.zero_le _, rfl, by simp [mjN]⟩
              case round =>
                obtain ⟨q, hq, rfl, rfl⟩ := hrel
                have hb := mjN_le (l.map Cp.p) k (r : Int) q
                by_cases hlq : q < l.length
                · obtain ⟨b5, o5, y, he, -, -, hy, iy, t0, t1⟩ := (hr.up hupr hhi).at_ hlq
                  cases he
                  have hlen := arB_len H1.out (getp hy) (getp HD0.out)
                  have hky : k < y.rs.length := by simp only [Cp.p] at hlen; omega
                  have hsy := HRS.out y (List.mem_of_getElem? hy)
                  obtain ⟨b6, o6, z, hA6, -, -, hz, u0⟩ := iy.int hky
                  have HST := Lib.hid (mjN_step (getp hy) (show y.p.2[k]? = some z from hz) (r : Int))
                  obtain ⟨yn, yA, yc, yrs⟩ := y
                  simp only at hA6 t0 t1 hky hsy
                  subst hA6
                  clear hlen hy hz iy
                  rcases hzr : z == (r : Int) with _ | _
                  · have HZR := Lib.hid hzr
                    go_wp2
                    go_round
                    case rel => exact ⟨q + 1, by omega, by go_num, by rw [HST.out, HZR.out]; rfl⟩
                    case measure => simp [intOf]; omega
                  · have HZR := Lib.hid hzr
                    go_wp2
                    go_round
                    case rel => exact ⟨q + 1, by omega, by go_num, by rw [HST.out, HZR.out]; rfl⟩
                    case measure => simp [intOf]; omega
                · have HE := Lib.hid (show mjN ((l.map Cp.p).take q) k r = mjC (l.map Cp.p) k r by
                    rw [List.take_of_length_le (by simp; omega)]; unfold mjC; rw [if_neg (by omega)])
                  rw [HE.out] at hb ⊢
                  by_cases hgt : mjC (l.map Cp.p) k (bst (mjC (l.map Cp.p) k) r) < mjC (l.map Cp.p) k r
                  · go_wp2
                    go_round
                    case rel => exact ⟨r + 1, by omega, by omega, by go_num, by rw [bst_yes hgt], by rw [bst_yes hgt]⟩
                    case measure => simp [intOf]; omega
                  · go_wp2
                    go_round
                    case rel => exact ⟨r + 1, by omega, by omega, by go_num, by rw [bst_no hgt], by rw [bst_no hgt]⟩
                    case measure => simp [intOf]; omega
            · obtain rfl : r = 10 := by omega
              have n1 : k + 1 ≤ maxLen := by unfold maxLen; omega
              have n2 : (k + 1) * 8 ≤ 140737488355328 := by omega
              have n3 : w.heap.size ≤ (wr.alloc (.cells #[.int .i64 (mjA (l.map Cp.p) k)] 2)).heap.size := (hupr.allocs _).size
              rw [show ((bst (mjC (l.map Cp.p) k) 10 : Nat) : Int) = mjA (l.map Cp.p) k from rfl]
              go_wp2_with ((at_builtin; refine wpList_append_own _ rfl _ _ 25 rfl w.heap.size 2 i0 _ 1 8 Tryd.underlying25 hi0 hz0 hz1 hz2 rfl (by decide) _ _ _ rfl (hown.alloc _) ⟨wr.heap.size, 0, none⟩ 1 1 [.int .i64 (mjA (l.map Cp.p) k)] rfl rfl (cell_one_new _ _ _) (by simp [Value.oneCell']) n1 n2 n3 ?_))
              intro v' w4 hown' hgrow _
              have ho := mjP_step hown'
              have hu := (hupr.allocs (.cells #[.int .i64 (mjA (l.map Cp.p) k)] 2)).grown hgrow (fun k hk => (hown.lt k hk).1)
              clear hown' hgrow
              go_wp2
              go_roundw
              case rel => exact ⟨k + 1, by rw [HN0.out]; omega, by go_num, ho, hu⟩
              case measure => rw [HN0.out]; simp [intOf]; omega
        · have HK := Lib.hid (show k = n0 (l.map Cp.p) by rw [HN0.out]; omega)
          have hk2 : decide ((k : Int) < (d0.rs.length : Int)) = false := by simp; omega
          clear hd0 hin0
          go_wp2
          go_ret2
          exact ⟨_, ret_vi' HM.out.2.symm, by rw [HM.out.1, mjP_len, ← HK.out]; exact hown, hupr⟩
      · have hl' : decide ((0 : Int) < (l.length : Int)) = false := by rw [decide_eq_false_iff_not]; omega
        have h0 : n0 (l.map Cp.p) = 0 := by rw [List.eq_nil_of_length_eq_zero (show l.length = 0 by omega)]; rfl
        have H0 := Lib.hid (show k = n0 (l.map Cp.p) by omega)
        clear h0
        go_wp2
        go_ret2
        exact ⟨_, ret_vi' HM.out.2.symm, by rw [HM.out.1, mjP_len, ← H0.out]; exact hown, hupr⟩
end Go.Proofs.YtncmenfdnpmblaaDoor
