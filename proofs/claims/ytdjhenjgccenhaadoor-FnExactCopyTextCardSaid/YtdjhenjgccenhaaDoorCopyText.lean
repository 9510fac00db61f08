/- The walk of the law FnExactCopyText. -/
import Derived.Test.YtdjhenjgccenhaaDoorCtext
import Derived.Deep.RegionHeld3
namespace Go.Proofs.YtdjhenjgccenhaaDoor
open Go.RowKit Go.Sort

theorem szC_all {x : Cp} {left : Int} (_h : 0 ≤ left) (hz : ¬ szC x left < 0) : (x.rs.length : Int) ≤ left := by
  by_cases h1 : left < x.name.size
  · rw [szC_a h1] at hz; omega
  · rw [szC_b h1] at hz
    by_cases h2 : left - x.name.size < x.rs.length
    · rw [szI_a h2] at hz; omega
    · omega
set_option maxRecDepth 100000 in
set_option maxHeartbeats 4000000 in
theorem fnExactCopyText_walk (x0 : Cp) (w : World) (hr0 : RdI w 0 w.heap.size x0.A x0.rs) (hok0 : x0.ok) :
    Calls Tryd.prog 12 #[x0.val] w fun e w' => e = .returned (.bool true) ∧ Up w w' := by
  obtain ⟨left0, eL0⟩ : ∃ z, z = szC x0 1048576 := ⟨_, rfl⟩
  have HS0 := fun wx : World => szCopy_any x0 hok0 1048576 wx (by omega) (by omega)
  simp only [← eL0] at HS0
  have H0 := Lib.hid HS0
  have EL0 := Lib.hid eL0
  clear HS0 eL0
  have ub := Up.alloc w (.cells #[.string x0.name, .slice x0.A x0.rs.length x0.c] 60)
  by_cases hz0 : left0 < 0
  · have hdz0 : decide (left0 < 0) = true := by simpa using hz0
    go_enter Tryd.func12, Tryd.ntmps12
    go_wp2_with fail
    refine (H0.out _).mono ?_
    rintro e w1 ⟨rfl, u1'⟩
    have u1 := ub.trans u1'
    go_wp2
    go_ret
    exact ⟨rfl, u1⟩
  · have hdz0 : decide (left0 < 0) = false := by simpa using hz0
    have hrs := szC_all (x := x0) (left := 1048576) (by omega) (by have h := EL0.out; omega)
    have hnm := hok0.1
    have HN := Lib.hid hnm
    clear hok0 hnm
    go_enter Tryd.func12, Tryd.ntmps12
    go_wp2_with fail
    refine (H0.out _).mono ?_
    rintro e w1 ⟨rfl, u1'⟩
    have u1 := ub.trans u1'
    have c0 := u1'.cell (a := ⟨w.heap.size, 0, none⟩) (v := .string x0.name) (by go_simp)
    have c1 := u1'.cell (a := ⟨w.heap.size, 1, none⟩) (v := .slice x0.A x0.rs.length x0.c) (by go_simp)
    clear u1'
    go_wp2_with fail
    refine (toCopy_any x0 0 w.heap.size _ (hr0.up u1 (Nat.le_refl _)) u1.size (by omega)).mono ?_
    rintro e w2 ⟨y1, rfl, hp1, -, ho1, u2⟩
    have hq1 := specCopyText_any y1 _ _ w2 (Rd.own int_len ho1) (Nat.le_refl _) (by rw [show y1.name = x0.name from congrArg Prod.fst hp1]; exact HN.out) (by rw [show y1.rs = x0.rs from congrArg Prod.snd hp1]; omega)
    rw [hp1] at hq1
    have HQ1 := Lib.hid hq1
    clear hq1 hp1 ho1
    go_wp2_with fail
    refine HQ1.out.mono ?_
    rintro e w3 ⟨rfl, u3⟩
    have hU3 := u1.trans (u2.trans u3)
    have d0 := (u2.trans u3).cell c0
    have d1 := (u2.trans u3).cell c1
    clear c0 c1
    go_wp2_with fail
    refine (toCopy_any x0 0 w.heap.size _ (hr0.up hU3 (Nat.le_refl _)) hU3.size (by omega)).mono ?_
    rintro e w4 ⟨y2, rfl, hp2, -, ho2, u4⟩
    have r2 := Rd.own int_len ho2
    have HP2 := Lib.hid hp2
    have hy2 : y2.rs.length ≤ 2000000 := by rw [show y2.rs = x0.rs from congrArg Prod.snd hp2]; omega
    have ub4 := Up.alloc w4 (.cells #[.string y2.name, .slice y2.A y2.rs.length y2.c] 43)
    have hq2 := implCopyText_any y2 _ _ _ (r2.up ub4 (Nat.le_refl _)) ub4.size (by rw [show y2.name = x0.name from congrArg Prod.fst hp2]; exact HN.out) hy2
    rw [hp2] at hq2
    have HQ2 := Lib.hid hq2
    clear hq2 hp2 ho2
    go_wp2_with fail
    refine HQ2.out.mono ?_
    rintro e w5 ⟨rfl, u5'⟩
    have u5 := ub4.trans u5'
    have g0 := u5'.cell (a := ⟨w4.heap.size, 0, none⟩) (v := .string y2.name) (by go_simp)
    have g1 := u5'.cell (a := ⟨w4.heap.size, 1, none⟩) (v := .slice y2.A y2.rs.length y2.c) (by go_simp)
    clear u5'
    have hU5 := hU3.trans (u4.trans u5)
    have e0 := (u4.trans u5).cell d0
    have e1 := (u4.trans u5).cell d1
    clear d0 d1
    have hz4 := u5.size
    have HT := Lib.hid (fun (w6 : World) (h6 : Up w5 w6) => toCopy_any x0 0 w.heap.size w6 (hr0.up (hU5.trans h6) (Nat.le_refl _)) (hU5.trans h6).size (by omega))
    have hd : Up w5 w5.drew := (Up.refl _).drew
    go_wp2_with fail
    go_region_held3 (fun w' => Up w5 w' ∧ w'.cell? ⟨w4.heap.size, 0, none⟩ = some (.string y2.name) ∧ w'.cell? ⟨w4.heap.size, 1, none⟩ = some (.slice y2.A y2.rs.length y2.c) ∧ w'.cell? ⟨w.heap.size, 0, none⟩ = some (.string x0.name) ∧ w'.cell? ⟨w.heap.size, 1, none⟩ = some (.slice x0.A x0.rs.length x0.c))
      (first | exact ⟨Up.refl _, g0, g1, e0, e1⟩ | exact ⟨hd, g0, g1, e0, e1⟩ | exact ⟨by assumption, by assumption, by assumption, by assumption, by assumption⟩)
      (first
        | (go_at_call 48
           with_reducible refine (HT.out _ (by assumption)).mono ?_
           rintro e w6 ⟨y3, rfl, hp3, -, ho3, u6⟩
           have hS := Up.trans (by assumption) u6
           have k0 := hS.cell g0
           have k1 := hS.cell g1
           have k2 := hS.cell e0
           have k3 := hS.cell e1
           have r3 := Rd.own int_len ho3
           have heq : eqC y2 y3 = true := by unfold eqC; rw [HP2.out, hp3]; simp
           have HEQ := Lib.hid heq
           have R3 := Lib.hid r3
           have HQ3 := Lib.hid (fun (wx : World) (hx : Up w6 wx) => eqCopy_any y2 y3 _ _ _ _ wx (r2.up (u5.trans (hS.trans hx)) (Nat.le_refl _)) (Nat.le_trans hz4 (hS.trans hx).size) (R3.out.up hx (Nat.le_refl _)) hx.size hy2)
           rw [HEQ.out] at HQ3
           have hZ : Up w6 w6 := Up.refl _
           have hZd : Up w6 w6.drew := (Up.refl _).drew
           clear hp3 ho3 heq r3)
        | (go_at_call 33
           with_reducible refine (HQ3.out _ (by assumption)).mono ?_
           rintro e w7 ⟨rfl, u7⟩
           have hW := hS.trans (Up.trans (by assumption) u7)
           have k4 := hW.cell g0
           have k5 := hW.cell g1
           have k6 := hW.cell e0
           have k7 := hW.cell e1))
    have hfin := hU5.trans hW
    clear k0 k1 k2 k3 k4 k5 k6 k7 g0 g1 e0 e1
    go_wp2
    go_ret
    exact ⟨rfl, hfin⟩
end Go.Proofs.YtdjhenjgccenhaaDoor
