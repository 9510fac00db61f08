/- The two new desks, and the walk of the law FnExactNewDesk. -/
import Derived.Test.YtehoaoeahfmfpaaDeskM
import Derived.Test.YtehoaoeahfmfpaaDeskH
namespace Go.Proofs.Ytehoaoeahfmfpaa
open Go.RowKit Go.Sort

set_option maxRecDepth 100000 in
set_option maxHeartbeats 1000000 in
theorem implNew_any (w : World) : Calls Try.prog 5 #[] w fun e w' => ∃ g, e = .returned (dV g) ∧ w'.ownsRow w.heap.size 9 1 (plV g) 1 [.string chy] ∧ Up w w' := by
  have HO := Lib.hid (World.ownsRow_lit (base := w.heap.size) (e := 9) (size := 1) (w.alloc (dB (w.heap.size + 1))) #[.string chy] 1 (by simp) (by decide) rfl)
  go_enter Try.func5, Try.ntmps5
  go_wp2
  refine bodyPost_ret (v := dV (w.heap.size + 1)) (by simp [results, Try.results5, go_sem]) rfl ⟨w.heap.size + 1, rfl, ?_, ((Up.refl w).allocs _).allocs _⟩
  have := HO.out
  simpa using this
set_option maxRecDepth 100000 in
set_option maxHeartbeats 1000000 in
theorem specNew_any (w : World) : Calls Try.prog 4 #[] w fun e w' => ∃ g, e = .returned (dV g) ∧ w'.ownsRow w.heap.size 9 1 (plV g) 1 [.string chy] ∧ Up w w' := by
  have HO := Lib.hid (World.ownsRow_lit (base := w.heap.size) (e := 9) (size := 1) ((w.alloc (dB (w.heap.size + 1 + 1))).alloc (dB (w.heap.size + 1 + 1))) #[.string chy] 1 (by simp; omega) (by decide) rfl)
  go_enter Try.func4, Try.ntmps4
  go_wp2
  refine bodyPost_ret (v := dV (w.heap.size + 1 + 1)) (by simp [results, Try.results4, go_sem]) rfl ⟨w.heap.size + 1 + 1, rfl, ?_, (((Up.refl w).allocs _).allocs _).allocs _⟩
  have := HO.out
  simpa using this
theorem own_chy {w : World} {base g : Nat} {s : ByteArray} (h : w.ownsRow base 9 1 (plV g) 1 [.string s]) : w.cell? ⟨g, 0, none⟩ = some (.string s) := by
  have hr : RdS w base w.heap.size (some ⟨g, 0, none⟩) [s] := Rd.own (l := [s]) str_len h
  obtain ⟨b, off, z, e, -, -, hz, q⟩ := hr.str (k := 0) (by simp)
  cases e
  simp at hz; subst hz; exact q

set_option maxRecDepth 100000 in
set_option maxHeartbeats 2000000 in
theorem fnExactNewDesk_walk (w : World) : Calls Try.prog 3 #[] w fun e w' => e = .returned (.bool true) ∧ Up w w' := by
  go_enter Try.func3, Try.ntmps3
  go_wp2_with fail
  refine (specNew_any w).mono ?_
  rintro e w1 ⟨gs, rfl, os, u1⟩
  have X := Lib.hid (BD.new w1 gs)
  have ux := Up.alloc w1 (dB gs)
  have ks := own_chy os
  have gslt := own_lt1 os
  have hsz : (w1.alloc (dB gs)).heap.size = w1.heap.size + 1 := by simp
  have HSZ := Lib.hid hsz
  clear os hsz
  go_wp2_with fail
  refine (implNew_any (w1.alloc (dB gs))).mono ?_
  rintro e w2 ⟨gi, rfl, oi, u2⟩
  have Y := Lib.hid (BD.new w2 gi)
  have uy := Up.alloc w2 (dB gi)
  have ki := own_chy oi
  have gilt := own_lt1 oi
  have gige : w1.heap.size + 1 ≤ gi := by
    obtain ⟨A, c, e, -, -, hA, -⟩ := own_form oi
    cases e
    obtain ⟨g1, e2, hg, -⟩ := hA (by decide)
    cases e2; rw [HSZ.out] at hg; exact hg
  have OI := Lib.hid (own_up oi uy)
  have X3 := Lib.hid ((X.out.up u2).up uy)
  have Us := (ux.trans u2).trans uy
  have ks3 := Us.cell ks
  have ki3 := uy.cell ki
  have UA := u1.trans Us
  obtain ⟨x0, x1, x2, x3, x4, x5, x6, x7, x8, x9, x10, x11⟩ := X3.out
  obtain ⟨y0, y1, y2, y3, y4, y5, y6, y7, y8, y9, y10, y11⟩ := Y.out
  clear oi
  go_wp2_with fail
  generalize w2.alloc (dB gi) = w3 at *
  refine (eqDesk_d gi gs chy w3 ki3 ks3).mono ?_
  rintro e w4 ⟨rfl, u4⟩
  obtain ⟨x0, x1, x2, x3, x4, x5, x6, x7, x8, x9, x10, x11⟩ := X3.out.up u4
  obtain ⟨y0, y1, y2, y3, y4, y5, y6, y7, y8, y9, y10, y11⟩ := Y.out.up u4
  go_wp2_with fail
  refine (markDesk_d gi _ _ 1 w4 (own_up OI.out u4) (by decide) (by decide)).mono ?_
  rintro e w5 ⟨rfl, o5, m5⟩
  have X5 := Lib.hid ((X3.out.up u4).mk m5 (.inl (by omega)))
  have Y5 := Lib.hid ((Y.out.up u4).mk m5 (.inr (by omega)))
  have ks5 := m5.cell (u4.cell ks3) (.inl (by show gs < gi; omega))
  have hr5 : RdS w5 (w1.alloc (dB gs)).heap.size w5.heap.size (some ⟨gi, 0, none⟩) (mkS 1 1) := Rd.own (l := mkS 1 1) str_len (by rw [mkS_len]; exact o5)
  have HR5 := Lib.hid hr5
  have UB : Up w w5 := (UA.trans u4).mk m5 (by have := u1.size; omega)
  obtain ⟨x0, x1, x2, x3, x4, x5, x6, x7, x8, x9, x10, x11⟩ := X5.out
  obtain ⟨y0, y1, y2, y3, y4, y5, y6, y7, y8, y9, y10, y11⟩ := Y5.out
  clear o5 hr5
  go_wp2_with fail
  refine (heldDesk_d gi _ _ 1 w5 HR5.out (Nat.le_refl _) (by decide) (by decide)).mono ?_
  rintro e w6 ⟨rfl, u6⟩
  obtain ⟨x0, x1, x2, x3, x4, x5, x6, x7, x8, x9, x10, x11⟩ := X5.out.up u6
  obtain ⟨y0, y1, y2, y3, y4, y5, y6, y7, y8, y9, y10, y11⟩ := Y5.out.up u6
  go_wp2_with fail
  refine (implNew_any w6).mono ?_
  rintro e w7 ⟨gh, rfl, oh, u7⟩
  have Z := Lib.hid (BD.new w7 gh)
  have uz := Up.alloc w7 (dB gh)
  have U7 := (u6.trans u7).trans uz
  have kh := uz.cell (own_chy oh)
  have ks7 := U7.cell ks5
  have X7 := Lib.hid (X5.out.up U7)
  have Y7 := Lib.hid (Y5.out.up U7)
  obtain ⟨x0, x1, x2, x3, x4, x5, x6, x7, x8, x9, x10, x11⟩ := X7.out
  obtain ⟨y0, y1, y2, y3, y4, y5, y6, y7, y8, y9, y10, y11⟩ := Y7.out
  obtain ⟨z0, z1, z2, z3, z4, z5, z6, z7, z8, z9, z10, z11⟩ := Z.out
  clear oh
  go_wp2_with fail
  generalize w7.alloc (dB gh) = w8 at *
  refine (eqDesk_d gh gs chy w8 kh ks7).mono ?_
  rintro e w9 ⟨rfl, u9⟩
  obtain ⟨y0, y1, y2, y3, y4, y5, y6, y7, y8, y9, y10, y11⟩ := Y7.out.up u9
  have U9 := U7.trans u9
  have HR9 := Lib.hid (HR5.out.up U9 (Nat.le_refl _))
  have hs9 := U9.size
  go_wp2_with fail
  refine (heldDesk_d gi _ _ 1 w9 HR9.out hs9 (by decide) (by decide)).mono ?_
  rintro e w10 ⟨rfl, u10⟩
  go_wp2
  go_ret
  exact ⟨rfl, (UB.trans U9).trans u10⟩
end Go.Proofs.Ytehoaoeahfmfpaa
