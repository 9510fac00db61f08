/- The law package's marks over the new desk. -/
import Derived.Test.YtehoaoeahfmfpaaDeskQ
namespace Go.Proofs.Ytehoaoeahfmfpaa
open Go.RowKit Go.Sort

theorem BW.mk {w w' : World} {b g a0 a1 : Nat} (h : BW w b g) (m : Mk a0 a1 w w') (hd : b < a0 ∨ a1 ≤ b) : BW w' b g := by
  obtain ⟨h0, h1, h2, h3, h4, h5, h6, h7, h8, h9⟩ := h
  exact ⟨m.cell h0 hd, m.cell h1 hd, m.cell h2 hd, m.cell h3 hd, m.cell h4 hd, m.cell h5 hd, m.cell h6 hd, m.cell h7 hd, m.cell h8 hd, m.cell h9 hd⟩
theorem BD.mk {w w' : World} {b g a0 a1 : Nat} (h : BD w b g) (m : Mk a0 a1 w w') (hd : b < a0 ∨ a1 ≤ b) : BD w' b g := by
  obtain ⟨h0, h1, h2, h3, h4, h5, h6, h7, h8, h9, h10, h11⟩ := h
  exact ⟨m.cell h0 hd, m.cell h1 hd, m.cell h2 hd, m.cell h3 hd, m.cell h4 hd, m.cell h5 hd, m.cell h6 hd, m.cell h7 hd, m.cell h8 hd, m.cell h9 hd, m.cell h10 hd, m.cell h11 hd⟩
theorem in_pl (g : Nat) : In (plV g) g (g + 1) := fun b hb => by simp [Value.ownBlock] at hb; omega
theorem own_lt1 {w : World} {base g : Nat} {xs : List Value} (h : w.ownsRow base 9 1 (plV g) 1 xs) : g < w.heap.size := by
  obtain ⟨A, c, e, -, -, hA, -⟩ := own_form h
  cases e
  obtain ⟨g1, e2, -, hg1⟩ := hA (by decide)
  cases e2; exact hg1
set_option maxHeartbeats 400000 in
theorem markChancery_d (k : Int) (w : World) : Calls Try.prog 25 #[cV, .int .i64 k] w fun e w' => e = .returned (.int .i64 k) ∧ Up w w' := by
  go_enter Try.func25, Try.ntmps25
  go_wp2_with (go_at_call 51; refine (markReign_nil _ _).mono ?_; rintro e w' ⟨rfl, rfl⟩)
  go_ret
  exact ⟨rfl, (Up.refl w).allocs _⟩
set_option maxHeartbeats 400000 in
theorem markPeople_d (k : Int) (w : World) : Calls Try.prog 26 #[pV, .int .i64 k] w fun e w' => e = .returned (.int .i64 k) ∧ Up w w' := by
  go_enter Try.func26, Try.ntmps26
  go_wp2_with (first | (go_at_call 52; refine (markPerson_nil _ _).mono ?_; rintro e w' ⟨rfl, rfl⟩) | (go_at_call 53; refine (markTerm_nil _ _).mono ?_; rintro e w' ⟨rfl, rfl⟩))
  go_ret
  exact ⟨rfl, (Up.refl w).allocs _⟩
set_option maxHeartbeats 400000 in
theorem markLand_d (g base : Nat) (xs : List Value) (k : Int) (w : World) (hown : w.ownsRow base 9 1 (plV g) 1 xs) (h0 : 1 ≤ k) (hk : k ≤ 1000) :
    Calls Try.prog 27 #[lV g, .int .i64 k] w fun e w' => e = .returned (.int .i64 (k + 1)) ∧ w'.ownsRow base 9 1 (plV g) 1 ((mkS k 1).flatMap strCells) ∧ Mk g (g + 1) w w' := by
  have hu := Up.alloc w (lB g)
  have hg := own_lt1 hown
  have HO := Lib.hid (own_up hown hu)
  have c1 : (w.alloc (lB g)).cell? ⟨w.heap.size, 1, none⟩ = some nilV := by go_simp
  have HA := Lib.hid (markStringS_any (some ⟨g, 0, none⟩) 1 1 base xs k _ HO.out (by decide) h0 (by omega))
  clear hown
  go_enter Try.func27, Try.ntmps27
  go_wp2_with fail
  refine HA.out.mono ?_
  rintro e w2 ⟨rfl, o2, gr⟩
  have m2 : Mk g (g + 1) (w.alloc (lB g)) w2 := Mk.refl.step gr (in_pl g)
  have d1 := m2.cell c1 (.inr hg)
  have O2 := Lib.hid o2
  clear gr o2
  go_wp2_with (go_at_call 54; refine (markWay_nil _ _).mono ?_; rintro e w' ⟨rfl, rfl⟩)
  go_ret
  exact ⟨rfl, O2.out, (Mk.up hu).trans m2⟩
set_option maxHeartbeats 1000000 in
theorem markWorld_d (g base : Nat) (xs : List Value) (k : Int) (w : World) (hown : w.ownsRow base 9 1 (plV g) 1 xs) (h0 : 1 ≤ k) (hk : k ≤ 1000) :
    Calls Try.prog 12 #[wV g, .int .i64 k] w fun e w' => e = .returned (.int .i64 (k + 1)) ∧ w'.ownsRow base 9 1 (plV g) 1 ((mkS k 1).flatMap strCells) ∧ Mk g (g + 1) w w' := by
  have hu := Up.alloc w (wB g)
  have hg := own_lt1 hown
  have X := Lib.hid (BW.new w g)
  have HO := Lib.hid hown
  obtain ⟨x0, x1, x2, x3, x4, x5, x6, x7, x8, x9⟩ := X.out
  clear hown
  go_enter Try.func12, Try.ntmps12
  go_wp2_with fail
  generalize w.alloc (wB g) = w1 at *
  refine (markChancery_d k w1).mono ?_
  rintro e w2 ⟨rfl, u2⟩
  obtain ⟨x0, x1, x2, x3, x4, x5, x6, x7, x8, x9⟩ := X.out.up u2
  go_wp2_with fail
  refine (markPeople_d k w2).mono ?_
  rintro e w3 ⟨rfl, u3⟩
  obtain ⟨x0, x1, x2, x3, x4, x5, x6, x7, x8, x9⟩ := (X.out.up u2).up u3
  go_wp2_with fail
  refine (markLand_d g base xs k w3 (own_up HO.out ((hu.trans u2).trans u3)) h0 hk).mono ?_
  rintro e w4 ⟨rfl, o4, m4⟩
  obtain ⟨x0, x1, x2, x3, x4, x5, x6, x7, x8, x9⟩ := ((X.out.up u2).up u3).mk m4 (.inr hg)
  have O4 := Lib.hid o4
  clear o4
  go_wp2_with (first
    | (go_at_call 28; refine (markStay_nil _ _).mono ?_; rintro e w' ⟨rfl, rfl⟩)
    | (go_at_call 29; refine (markMark_nil _ _).mono ?_; rintro e w' ⟨rfl, rfl⟩))
  go_ret
  exact ⟨rfl, O4.out, (Mk.up ((hu.trans u2).trans u3)).trans m4⟩
set_option maxHeartbeats 1000000 in
theorem markDesk_d (g base : Nat) (xs : List Value) (k : Int) (w : World) (hown : w.ownsRow base 9 1 (plV g) 1 xs) (h0 : 1 ≤ k) (hk : k ≤ 1000) :
    Calls Try.prog 7 #[dV g, .int .i64 k] w fun e w' => e = .returned (.int .i64 (k + 1)) ∧ w'.ownsRow base 9 1 (plV g) 1 ((mkS k 1).flatMap strCells) ∧ Mk g (g + 1) w w' := by
  have hu := Up.alloc w (dB g)
  have hg := own_lt1 hown
  have X := Lib.hid (BD.new w g)
  have HO := Lib.hid (own_up hown hu)
  obtain ⟨x0, x1, x2, x3, x4, x5, x6, x7, x8, x9, x10, x11⟩ := X.out
  clear hown
  go_enter Try.func7, Try.ntmps7
  go_wp2_with fail
  generalize w.alloc (dB g) = w1 at *
  refine (markWorld_d g base xs k w1 HO.out h0 hk).mono ?_
  rintro e w4 ⟨rfl, o4, m4⟩
  obtain ⟨x0, x1, x2, x3, x4, x5, x6, x7, x8, x9, x10, x11⟩ := X.out.mk m4 (.inr hg)
  have O4 := Lib.hid o4
  clear o4
  go_wp2_with (first
    | (go_at_call 13; refine (markDeed_nil _ _).mono ?_; rintro e w' ⟨rfl, rfl⟩)
    | (go_at_call 14; refine (markDecision_nil _ _).mono ?_; rintro e w' ⟨rfl, rfl⟩))
  go_ret
  exact ⟨rfl, O4.out, (Mk.up hu).trans m4⟩
end Go.Proofs.Ytehoaoeahfmfpaa
