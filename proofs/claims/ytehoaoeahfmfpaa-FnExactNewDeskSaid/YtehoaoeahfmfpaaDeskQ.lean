/- The law package's helpers over the new desk. -/
import Derived.Test.YtehoaoeahfmfpaaDeskN
import Derived.Test.YtehoaoeahfmfpaaStrs
import Derived.Test.YtehoaoeahfmfpaaMk
namespace Go.Proofs.Ytehoaoeahfmfpaa
open Go.RowKit Go.Sort

abbrev cV : Value := .agg #[nilV, .int .i64 420000, .int .i64 430000]
abbrev pV : Value := .agg #[nilV, nilV]
abbrev plV (g : Nat) : Value := .slice (some ⟨g, 0, none⟩) 1 1
abbrev lV (g : Nat) : Value := .agg #[plV g, nilV]
abbrev wV (g : Nat) : Value := .agg #[nilV, .int .i64 420000, .int .i64 430000, nilV, nilV, plV g, nilV, nilV, nilV, nilV]
abbrev dV (g : Nat) : Value := .agg #[nilV, .int .i64 420000, .int .i64 430000, nilV, nilV, plV g, nilV, nilV, nilV, nilV, nilV, nilV]
abbrev chy : ByteArray := ⟨#[99, 104, 97, 110, 99, 101, 114, 121]⟩
abbrev cB : Obj := .cells #[nilV, .int .i64 420000, .int .i64 430000] 24
abbrev pB : Obj := .cells #[nilV, nilV] 28
abbrev lB (g : Nat) : Obj := .cells #[plV g, nilV] 32
abbrev wB (g : Nat) : Obj := .cells #[nilV, .int .i64 420000, .int .i64 430000, nilV, nilV, plV g, nilV, nilV, nilV, nilV] 36
abbrev dB (g : Nat) : Obj := .cells #[nilV, .int .i64 420000, .int .i64 430000, nilV, nilV, plV g, nilV, nilV, nilV, nilV, nilV, nilV] 40
set_option maxHeartbeats 400000 in
theorem eqChancery_d (w : World) : Calls Try.prog 18 #[cV, cV] w fun e w' => e = .returned (.bool true) ∧ (w.alloc cB).alloc cB = w' := by
  go_enter Try.func18, Try.ntmps18
  go_wp2_with (go_at_call 42; refine (eqReign_nil _).mono ?_; rintro e w' ⟨rfl, rfl⟩)
  go_ret
  exact ⟨rfl, rfl⟩
set_option maxHeartbeats 400000 in
theorem eqPeople_d (w : World) : Calls Try.prog 19 #[pV, pV] w fun e w' => e = .returned (.bool true) ∧ (w.alloc pB).alloc pB = w' := by
  go_enter Try.func19, Try.ntmps19
  go_wp2_with (first | (go_at_call 43; refine (eqPerson_nil _).mono ?_; rintro e w' ⟨rfl, rfl⟩) | (go_at_call 44; refine (eqTerm_nil _).mono ?_; rintro e w' ⟨rfl, rfl⟩))
  go_ret
  exact ⟨rfl, rfl⟩
/-- a box of the struct at block b -/
def BW (w : World) (b g : Nat) : Prop := w.cell? ⟨b, 0, none⟩ = some (nilV) ∧ w.cell? ⟨b, 1, none⟩ = some (.int .i64 420000) ∧ w.cell? ⟨b, 2, none⟩ = some (.int .i64 430000) ∧ w.cell? ⟨b, 3, none⟩ = some (nilV) ∧ w.cell? ⟨b, 4, none⟩ = some (nilV) ∧ w.cell? ⟨b, 5, none⟩ = some (plV g) ∧ w.cell? ⟨b, 6, none⟩ = some (nilV) ∧ w.cell? ⟨b, 7, none⟩ = some (nilV) ∧ w.cell? ⟨b, 8, none⟩ = some (nilV) ∧ w.cell? ⟨b, 9, none⟩ = some (nilV)
theorem BW.up {w w' : World} {b g : Nat} (h : BW w b g) (u : Up w w') : BW w' b g := by
  obtain ⟨h0, h1, h2, h3, h4, h5, h6, h7, h8, h9⟩ := h
  exact ⟨u.cell h0, u.cell h1, u.cell h2, u.cell h3, u.cell h4, u.cell h5, u.cell h6, u.cell h7, u.cell h8, u.cell h9⟩
theorem BW.new (w : World) (g : Nat) : BW (w.alloc (wB g)) w.heap.size g := by
  refine ⟨?_, ?_, ?_, ?_, ?_, ?_, ?_, ?_, ?_, ?_⟩ <;> go_simp
/-- a box of the struct at block b -/
def BD (w : World) (b g : Nat) : Prop := w.cell? ⟨b, 0, none⟩ = some (nilV) ∧ w.cell? ⟨b, 1, none⟩ = some (.int .i64 420000) ∧ w.cell? ⟨b, 2, none⟩ = some (.int .i64 430000) ∧ w.cell? ⟨b, 3, none⟩ = some (nilV) ∧ w.cell? ⟨b, 4, none⟩ = some (nilV) ∧ w.cell? ⟨b, 5, none⟩ = some (plV g) ∧ w.cell? ⟨b, 6, none⟩ = some (nilV) ∧ w.cell? ⟨b, 7, none⟩ = some (nilV) ∧ w.cell? ⟨b, 8, none⟩ = some (nilV) ∧ w.cell? ⟨b, 9, none⟩ = some (nilV) ∧ w.cell? ⟨b, 10, none⟩ = some (nilV) ∧ w.cell? ⟨b, 11, none⟩ = some (nilV)
theorem BD.up {w w' : World} {b g : Nat} (h : BD w b g) (u : Up w w') : BD w' b g := by
  obtain ⟨h0, h1, h2, h3, h4, h5, h6, h7, h8, h9, h10, h11⟩ := h
  exact ⟨u.cell h0, u.cell h1, u.cell h2, u.cell h3, u.cell h4, u.cell h5, u.cell h6, u.cell h7, u.cell h8, u.cell h9, u.cell h10, u.cell h11⟩
theorem BD.new (w : World) (g : Nat) : BD (w.alloc (dB g)) w.heap.size g := by
  refine ⟨?_, ?_, ?_, ?_, ?_, ?_, ?_, ?_, ?_, ?_, ?_, ?_⟩ <;> go_simp
set_option maxHeartbeats 400000 in
theorem eqString_one (g g' : Nat) (s : ByteArray) (w : World) (h : w.cell? ⟨g, 0, none⟩ = some (.string s)) (h' : w.cell? ⟨g', 0, none⟩ = some (.string s)) :
    Calls Try.prog 45 #[plV g, plV g'] w fun e w' => e = .returned (.bool true) ∧ Up w w' := by
  have hr : ∀ b, w.cell? ⟨b, 0, none⟩ = some (.string s) → RdS w b (b + 1) (some ⟨b, 0, none⟩) [s] := fun b hb _ => ⟨b, 0, rfl, Nat.le_refl _, Nat.lt_succ_self _, fun i x hx j u hu => by
    have hi : i = 0 := by
      have := (List.getElem?_eq_some_iff.1 hx).1
      simp at this; omega
    subst hi
    have hj : j = 0 := by
      have := (List.getElem?_eq_some_iff.1 hu).1
      simp at this; omega
    subst hj
    simp at hx hu; subst hx; subst hu; exact hb⟩
  have e : eqSs [s] [s] = true := eqSs_self _
  exact (eqStringS_any (some ⟨g, 0, none⟩) (some ⟨g', 0, none⟩) [s] [s] 1 1 g (g + 1) g' (g' + 1) w (hr g h) (block_lt_of_cell h) (hr g' h') (block_lt_of_cell h') (by simp)).mono fun _ _ ⟨h1, h2⟩ => ⟨by rw [h1, e], h2⟩
set_option maxHeartbeats 400000 in
theorem eqLand_d (g g' : Nat) (s : ByteArray) (w : World) (h : w.cell? ⟨g, 0, none⟩ = some (.string s)) (h' : w.cell? ⟨g', 0, none⟩ = some (.string s)) :
    Calls Try.prog 20 #[lV g, lV g'] w fun e w' => e = .returned (.bool true) ∧ Up w w' := by
  have hu : Up w ((w.alloc (lB g)).alloc (lB g')) := ((Up.refl w).allocs _).allocs _
  have HA := Lib.hid (eqString_one g g' s _ (hu.cell h) (hu.cell h'))
  have c1 : ((w.alloc (lB g)).alloc (lB g')).cell? ⟨w.heap.size, 1, none⟩ = some nilV := by go_simp
  have c2 : ((w.alloc (lB g)).alloc (lB g')).cell? ⟨w.heap.size + 1, 1, none⟩ = some nilV := by go_simp
  go_enter Try.func20, Try.ntmps20
  go_wp2_with (first | (go_at_call 45; refine HA.out.mono ?_; rintro e w' ⟨rfl, hup⟩; have d1 := hup.cell c1; have d2 := hup.cell c2) | (go_at_call 46; refine (eqWay_nil _).mono ?_; rintro e w' ⟨rfl, rfl⟩))
  go_ret
  exact ⟨rfl, hu.trans hup⟩
set_option maxHeartbeats 2000000 in
theorem eqWorld_d (g g' : Nat) (s : ByteArray) (w : World) (h : w.cell? ⟨g, 0, none⟩ = some (.string s)) (h' : w.cell? ⟨g', 0, none⟩ = some (.string s)) :
    Calls Try.prog 9 #[wV g, wV g'] w fun e w' => e = .returned (.bool true) ∧ Up w w' := by
  have ua : Up w ((w.alloc (wB g)).alloc (wB g')) := ((Up.refl w).allocs _).allocs _
  have k1 := ua.cell h
  have k2 := ua.cell h'
  have X := Lib.hid ((BW.new w g).up (Up.alloc _ (wB g')))
  have Y := Lib.hid (show BW ((w.alloc (wB g)).alloc (wB g')) (w.heap.size + 1) g' by have := BW.new (w.alloc (wB g)) g'; simpa using this)
  obtain ⟨x0, x1, x2, x3, x4, x5, x6, x7, x8, x9⟩ := X.out
  obtain ⟨y0, y1, y2, y3, y4, y5, y6, y7, y8, y9⟩ := Y.out
  go_enter Try.func9, Try.ntmps9
  go_wp2_with fail
  generalize (w.alloc (wB g)).alloc (wB g') = w1 at *
  refine (eqChancery_d w1).mono ?_
  rintro e w2 ⟨rfl, rfl⟩
  have u2 : Up w1 ((w1.alloc cB).alloc cB) := ((Up.refl w1).allocs _).allocs _
  generalize (w1.alloc cB).alloc cB = w2 at *
  obtain ⟨x0, x1, x2, x3, x4, x5, x6, x7, x8, x9⟩ := X.out.up u2
  obtain ⟨y0, y1, y2, y3, y4, y5, y6, y7, y8, y9⟩ := Y.out.up u2
  go_wp2_with fail
  refine (eqPeople_d w2).mono ?_
  rintro e w3 ⟨rfl, rfl⟩
  have u3 : Up w1 ((w2.alloc pB).alloc pB) := (u2.allocs _).allocs _
  generalize (w2.alloc pB).alloc pB = w3 at *
  obtain ⟨x0, x1, x2, x3, x4, x5, x6, x7, x8, x9⟩ := X.out.up u3
  obtain ⟨y0, y1, y2, y3, y4, y5, y6, y7, y8, y9⟩ := Y.out.up u3
  go_wp2_with fail
  refine (eqLand_d g g' s w3 (u3.cell k1) (u3.cell k2)).mono ?_
  rintro e w4 ⟨rfl, u4⟩
  have u5 := u3.trans u4
  obtain ⟨x0, x1, x2, x3, x4, x5, x6, x7, x8, x9⟩ := X.out.up u5
  obtain ⟨y0, y1, y2, y3, y4, y5, y6, y7, y8, y9⟩ := Y.out.up u5
  go_wp2_with (first
    | (go_at_call 21; refine (eqStay_nil _).mono ?_; rintro e w' ⟨rfl, rfl⟩)
    | (go_at_call 22; refine (eqMark_nil _).mono ?_; rintro e w' ⟨rfl, rfl⟩))
  go_ret
  exact ⟨rfl, ua.trans u5⟩
set_option maxHeartbeats 2000000 in
theorem eqDesk_d (g g' : Nat) (s : ByteArray) (w : World) (h : w.cell? ⟨g, 0, none⟩ = some (.string s)) (h' : w.cell? ⟨g', 0, none⟩ = some (.string s)) :
    Calls Try.prog 6 #[dV g, dV g'] w fun e w' => e = .returned (.bool true) ∧ Up w w' := by
  have ua : Up w ((w.alloc (dB g)).alloc (dB g')) := ((Up.refl w).allocs _).allocs _
  have k1 := ua.cell h
  have k2 := ua.cell h'
  have X := Lib.hid ((BD.new w g).up (Up.alloc _ (dB g')))
  have Y := Lib.hid (show BD ((w.alloc (dB g)).alloc (dB g')) (w.heap.size + 1) g' by have := BD.new (w.alloc (dB g)) g'; simpa using this)
  obtain ⟨x0, x1, x2, x3, x4, x5, x6, x7, x8, x9, x10, x11⟩ := X.out
  obtain ⟨y0, y1, y2, y3, y4, y5, y6, y7, y8, y9, y10, y11⟩ := Y.out
  go_enter Try.func6, Try.ntmps6
  go_wp2_with fail
  generalize (w.alloc (dB g)).alloc (dB g') = w1 at *
  refine (eqWorld_d g g' s w1 k1 k2).mono ?_
  rintro e w2 ⟨rfl, u2⟩
  obtain ⟨x0, x1, x2, x3, x4, x5, x6, x7, x8, x9, x10, x11⟩ := X.out.up u2
  obtain ⟨y0, y1, y2, y3, y4, y5, y6, y7, y8, y9, y10, y11⟩ := Y.out.up u2
  go_wp2_with (first
    | (go_at_call 10; refine (eqDeed_nil _).mono ?_; rintro e w' ⟨rfl, rfl⟩)
    | (go_at_call 11; refine (eqDecision_nil _).mono ?_; rintro e w' ⟨rfl, rfl⟩))
  go_ret
  exact ⟨rfl, ua.trans u2⟩
end Go.Proofs.Ytehoaoeahfmfpaa
