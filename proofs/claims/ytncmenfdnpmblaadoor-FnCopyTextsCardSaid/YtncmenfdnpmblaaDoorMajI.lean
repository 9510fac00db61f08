/- MajorityText: the program's walk. -/
import Derived.Test.YtncmenfdnpmblaaDoorMaj
namespace Go.Proofs.YtncmenfdnpmblaaDoor
open Go.RowKit Go.Sort

theorem infoGoInt : (Tryd.prog.info? 3).map (fun i => (i.zero, i.size, i.bytes)) = some (some (.int .i64 0), 1, 8) := by kernel_rfl

set_option maxRecDepth 100000 in
set_option maxHeartbeats 4000000 in
theorem implMajority_any (A : Option Addr) (l : List Cp) (c lo hi : Nat) (w : World) (hr : RdC w lo hi A l) (hhi : hi ≤ w.heap.size) (hf : Fit l c) :
    Calls Tryd.prog 38 #[.slice A l.length c] w fun e w' => ∃ v, e = .returned (.tuple #[v, .int .i64 (mjE (l.map Cp.p))]) ∧ w'.ownsRow w.heap.size 2 1 v (mjL (l.map Cp.p)).length ((mjL (l.map Cp.p)).flatMap intCells) ∧ Up w w' := by
  obtain ⟨i0, hi0, hz0, hz1, hz2⟩ := info_parts infoInt
  obtain ⟨j0, hj0, jz0, jz1, jz2⟩ := info_parts infoGoInt
  have HA := Lib.hid (implAre A l c lo hi w hr hhi hf)
  have hn := hf.2.2.1
  have HRS := Lib.hid hf.2.1
  clear hf
  rcases h1 : arB (l.map Cp.p) with _ | _
  · have HM := Lib.hid (mj_no h1)
    go_enter Tryd.func38, Tryd.ntmps38
    go_wp2_with (go_at_call 40; refine HA.out.mono ?_; rintro e w1 ⟨rfl, hup⟩)
    go_ret2
    exact ⟨_, ret_vi' HM.out.2.symm, by rw [HM.out.1]; exact World.ownsRow_nil _ _ _ _, by assumption⟩
  · have HM := Lib.hid (mj_yes h1)
    have H1 := Lib.hid h1
    by_cases hl : 0 < l.length
    · have hl' : ((l.length : Int) == 0) = false := by rw [beq_eq_false_iff_ne]; omega
      go_enter Tryd.func38, Tryd.ntmps38
      go_wp2_with fail
      refine HA.out.mono ?_
      rintro e w1 ⟨rfl, hup⟩
      have hown0 := World.ownsRow_lit (base := w.heap.size) (e := 2) (size := 1) w1 #[] 0 hup.size (by simp [maxLen]) rfl
      have hup0 := hup.allocs (.cells #[] 2)
      obtain ⟨b', off', d0, rfl, -, -, hd0, hin0, p0, p1⟩ := (hr.up hup0 hhi).at_ (k := 0) hl
      have hs2 := HRS.out d0 (List.mem_of_getElem? hd0)
      have HN0 := Lib.hid (n0_of hd0)
      have HD0 := Lib.hid hd0
      simp only [Nat.zero_mul, Nat.add_zero] at p0 p1
      obtain ⟨dn0, dA0, dc0, drs0⟩ := d0
      simp only at p0 p1 hs2 HN0
      clear hd0 hin0
      go_wp2
      clear h1 p0 p1
      obtain ⟨v0, hv0⟩ : ∃ v, v = Value.slice (some ⟨w1.heap.size, 0, none⟩) 0 0 := ⟨_, rfl⟩
      rw [← hv0] at hown0 ⊢
      generalize w1.alloc (.cells #[] 2) = w2 at *
      clear hv0
      go_loopw [4, 5, 6, 8, 9, 10, 11, 24, 30, 49] (fun o _ _ _ _ _ _ i _ _ wr => ∃ k : Nat, k ≤ drs0.length ∧ i = .int .i64 k ∧ wr.ownsRow w.heap.size 2 1 o k ((mjP (l.map Cp.p) k).flatMap intCells) ∧ Up w wr) (fun _ _ _ _ _ _ _ i _ _ _ => drs0.length - (intOf i).toNat)
      case atStart => exact ⟨0, Nat.zero_le _, rfl, hown0, hup0⟩
      case round =>
        obtain ⟨k, hk, rfl, hown, hupr⟩ := hrel
        obtain ⟨wo, rfl⟩ : ∃ x, x = wr := ⟨_, rfl⟩
        by_cases hlt : k < drs0.length
        · go_wp2_with ((refine wpList_make_full _ rfl _ _ 93 rfl wo.heap.size 3 j0 _ 1 Tryd.underlying93 hj0 jz0 jz1 _ _ _ _ 10 rfl rfl rfl rfl ?b2 ?b3 ?b4 ?_))
          case b2 => rw [jz2]; omega
          case b3 => unfold maxLen; omega
          case b4 => exact Nat.le_refl _
          intro w3 hown3 hg3
          have hup3 : Up wo w3 := (Up.refl wo).grown hg3 (fun k h => by cases h)
          obtain ⟨g, hgg⟩ : ∃ g, g = wo.heap.size := ⟨_, rfl⟩
          have hwg : wo.heap.size ≤ g := by rw [hgg]; exact Nat.le_refl _
          have HZ0 := Lib.hid (show (madeCells #[Value.int IntKind.i64 0] 10).toList = (mjT ((l.map Cp.p).take 0) k).flatMap intCells by rw [mjT_zero, toList_madeCells_one]; rfl)
          rw [HZ0.out] at hown3
          rw [← hgg] at hown3 ⊢
          clear hg3
          have HG := Lib.hid hgg
          clear hgg
          go_wp2
          go_loopw [8, 30] (fun _ i wi => ∃ q : Nat, q ≤ l.length ∧ i = .int .i64 q ∧ wi.ownsRow wo.heap.size 3 1 (.slice (some ⟨g, 0, none⟩) 10 10) 10 ((mjT ((l.map Cp.p).take q) k).flatMap intCells) ∧ Up wo wi) (fun _ i _ => l.length - (intOf i).toNat)
          case atStart => exact ⟨0, Nat.zero_le _, rfl, own_base hown3 hwg, hup3⟩
          case round =>
            obtain ⟨q, hq, rfl, hownc, hupi⟩ := hrel
            have hupx := hupr.trans hupi
            by_cases hlq : q < l.length
            · obtain ⟨b5, o5, y, he, -, -, hy, iy, t0, t1⟩ := (hr.up hupx hhi).at_ hlq
              cases he
              have hlen := arB_len H1.out (getp hy) (getp HD0.out)
              have hky : k < y.rs.length := by simp only [Cp.p] at hlen; omega
              have hsy := HRS.out y (List.mem_of_getElem? hy)
              obtain ⟨yn, yA, yc, yrs⟩ := y
              simp only at hky hsy iy t0 t1
              have hua := Up.alloc wr (.cells #[.string yn, .slice yA yrs.length yc] 49)
              obtain ⟨b6, o6, z, rfl, -, -, hz, u0⟩ := (iy.up hua (Nat.le_trans hhi hupx.size)).int hky
              obtain ⟨r, rfl, hr10⟩ := rd_num H1.out (getp hy) (show (Cp.p ⟨yn, _, yc, yrs⟩).2[k]? = some z from hz)
              have HST := Lib.hid (mjT_step (getp hy) (show (Cp.p ⟨yn, some ⟨b6, o6, none⟩, yc, yrs⟩).2[k]? = some (r : Int) from hz) hr10)
              have hb := mjN_le (l.map Cp.p) k (r : Int) q
              have hownc' := own_up hownc hua
              have e1 := hownc'.cellAt r (by omega)
              rw [cells_at (mjT_get hr10)] at e1
              have z1 := hownc'.frozenAt r
              clear hlen hy hz iy
              go_wp2
              go_roundw
              case rel => exact ⟨q + 1, by omega, by go_num, by rw [← HST.out, ← cells_set]; exact (hownc'.stored r _).1, (hupi.trans hua).setCell hwg _⟩
              case measure => simp [intOf]; omega
            · have HE := Lib.hid (show (l.map Cp.p).take q = l.map Cp.p from List.take_of_length_le (by simp; omega))
              rw [HE.out] at hownc
              have z0 := hownc.frozenAt 0
              have e0 := hownc.cellAt 0 (by omega)
              rw [cells_at (mjT_get (by omega))] at e0
              have hownd := (hownc.stored 0 (.int .i64 0)).1
              rw [cells_set, mjT_end] at hownd
              have hupd := hupi.setCell (p := ⟨g, 0 + 0, none⟩) hwg (.int .i64 0)
              go_wp2
              generalize wr.setCell _ _ = w5 at *
              go_loop [9, 10, 11, 49] (fun be _ _ i => ∃ r : Nat, r ≤ 10 ∧ i = .int .i64 r ∧ be = .int .i64 ((bst (mjC (l.map Cp.p) k) r : Nat) : Int)) (fun _ _ _ i => 10 - (intOf i).toNat)
              case atStart => exact ⟨0, by omega, rfl, rfl⟩
              case round =>
                obtain ⟨r, hr1, rfl, rfl⟩ := hrel
                by_cases hr9 : r < 10
                · have hbl := bst_le (mjC (l.map Cp.p) k) r
                  have e1 := hownd.cellAt r (by omega)
                  rw [cells_at (mjU_get hr9)] at e1
                  have e2 := hownd.cellAt (bst (mjC (l.map Cp.p) k) r) (by omega)
                  rw [cells_at (mjU_get (by omega))] at e2
                  by_cases hgt : mjC (l.map Cp.p) k (bst (mjC (l.map Cp.p) k) r) < mjC (l.map Cp.p) k r
                  · go_wp2
                    go_round
                    case rel => exact ⟨r + 1, by omega, by go_num, by rw [bst_yes hgt]⟩
                    case measure => simp [intOf]; omega
                  · go_wp2
                    go_round
                    case rel => exact ⟨r + 1, by omega, by go_num, by rw [bst_no hgt]⟩
                    case measure => simp [intOf]; omega
                · obtain rfl : r = 10 := by omega
                  have hown5 := own_up hown hupd
                  have hup5 := hupr.trans hupd
                  have n1 : k + 1 ≤ maxLen := by unfold maxLen; omega
                  have n2 : (k + 1) * 8 ≤ 140737488355328 := by omega
                  have n3 : w.heap.size ≤ (w5.alloc (.cells #[.int .i64 (mjA (l.map Cp.p) k)] 2)).heap.size := (hup5.allocs _).size
                  rw [show ((bst (mjC (l.map Cp.p) k) 10 : Nat) : Int) = mjA (l.map Cp.p) k from rfl]
                  go_wp2_with ((at_builtin; refine wpList_append_own _ rfl _ _ 25 rfl w.heap.size 2 i0 _ 1 8 Tryd.underlying25 hi0 hz0 hz1 hz2 rfl (by decide) _ _ _ rfl (hown5.alloc _) ⟨w5.heap.size, 0, none⟩ 1 1 [.int .i64 (mjA (l.map Cp.p) k)] rfl rfl (cell_one_new _ _ _) (by simp [Value.oneCell']) n1 n2 n3 ?_))
                  intro v' w6 hown' hgrow _
                  have ho := mjP_step hown'
                  have hu := (hup5.allocs (.cells #[.int .i64 (mjA (l.map Cp.p) k)] 2)).grown hgrow (fun k hk => (hown5.lt k hk).1)
                  clear hown' hgrow
                  go_wp2
                  go_roundw
                  case rel => exact ⟨k + 1, by omega, by go_num, ho, hu⟩
                  case measure => simp [intOf]; omega
        · have HK := Lib.hid (show k = n0 (l.map Cp.p) by rw [HN0.out]; omega)
          go_wp2
          go_ret2
          exact ⟨_, ret_vi' HM.out.2.symm, by rw [HM.out.1, mjP_len, ← HK.out]; exact hown, hupr⟩
    · have hl' : ((l.length : Int) == 0) = true := by rw [beq_iff_eq]; omega
      have h0 : n0 (l.map Cp.p) = 0 := by rw [List.eq_nil_of_length_eq_zero (show l.length = 0 by omega)]; rfl
      have H0 := Lib.hid h0
      clear h0
      go_enter Tryd.func38, Tryd.ntmps38
      go_wp2_with fail
      refine HA.out.mono ?_
      rintro e w1 ⟨rfl, hup⟩
      go_wp2
      go_ret2
      exact ⟨_, ret_vi' HM.out.2.symm, by rw [HM.out.1, H0.out]; exact World.ownsRow_nil _ _ _ _, hup⟩
theorem mj_len (P : List PC) : (mjL P).length ≤ 20 := by
  unfold mjL
  split
  · rename_i h
    rw [mjP_len]
    rcases P with _ | ⟨x, P⟩
    · simp [n0]
    · have := arB_ok h (k := 0) (d := x) rfl
      simp only [okC, Bool.and_eq_true, decide_eq_true_eq] at this
      show x.2.length ≤ 20
      exact this.2.2.1
  · simp
end Go.Proofs.YtncmenfdnpmblaaDoor
