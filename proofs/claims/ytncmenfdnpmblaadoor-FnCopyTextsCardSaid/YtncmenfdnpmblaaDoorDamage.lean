/- A text that is changed slightly: of its size alone something is said. -/
import Derived.Test.YtncmenfdnpmblaaDoorSrc
import Derived.Test.YtncmenfdnpmblaaDoorSplit
import Derived.Deep.RegionHeld3
namespace Go.Proofs.YtncmenfdnpmblaaDoor
open Go.RowKit Go.Sort

theorem run_str_at {P : Program} {t : TypeId} (ht : P.underlying t = some .string) (s : ByteArray) (k : Nat) (hk : k ≤ s.size) (w : World) :
    (Instr.sliceAt t (.string s) (some (.int .i64 (k : Int))) none none).run P w = .ok (.string (s.extract k s.size)) w := by
  rw [run_sliceAt_string w t _ _ _ _ ht, run_slice_string_l w t s ht .i64 (k : Int) (by omega) (by omega), show ((k : Int)).toNat = k by omega]
theorem ext_len (s : ByteArray) (a b : Nat) (h : b ≤ s.size) : (s.extract a b).size = b - a := by
  have := congrArg List.length (Lib.extract_data s a b)
  rw [dl_len, List.length_take, List.length_drop, dl_len] at this; omega
theorem app_size (a b : ByteArray) : (a ++ b).size = a.size + b.size := ByteArray.size_append ..
/-- eight words of one byte in a row -/
def Wd8 (W : World) (b : Nat) : Prop := ∀ z : Nat, z < 8 → ∃ s : ByteArray, W.cell? ⟨b, z, none⟩ = some (.string s) ∧ s.size ≤ 1
theorem Wd8.new (W : World) : Wd8 (W.alloc (.cells #[.string ⟨#[48]⟩, .string ⟨#[49]⟩, .string ⟨#[32]⟩, .string ⟨#[45]⟩, .string ⟨#[44]⟩, .string ⟨#[118]⟩, .string ⟨#[10]⟩, .string ⟨#[97]⟩] 9)) W.heap.size := by
  intro z hz
  have h8 : z = 0 ∨ z = 1 ∨ z = 2 ∨ z = 3 ∨ z = 4 ∨ z = 5 ∨ z = 6 ∨ z = 7 := by omega
  rcases h8 with rfl | rfl | rfl | rfl | rfl | rfl | rfl | rfl <;> exact ⟨_, by go_simp; rfl, by decide⟩
theorem Wd8.mk {W W' : World} {b g : Nat} (h : Wd8 W b) (m : Mk g (g + 1) W W') (hb : g < b) : Wd8 W' b := fun z hz => by
  obtain ⟨s, h1, h2⟩ := h z hz
  exact ⟨s, m.cell h1 (.inr hb), h2⟩

set_option maxRecDepth 100000 in
set_option maxHeartbeats 4000000 in
theorem l01Damage_any (A : Option Addr) (L : List UInt8) (c lo g : Nat) (t : ByteArray) (w : World) (hs : Src w g A L c lo) (hg : g < w.heap.size) (hL : L.length ≤ 2000000) (ht : t.size ≤ 1000000) :
    Calls Tryd.prog 70 #[.pointer (some ⟨g, 0, none⟩), .string t] w fun e w' => ∃ r : ByteArray, e = .returned (.string r) ∧ r.size ≤ t.size + 1 ∧ Src w' g A L c lo ∧ Mk g (g + 1) w w' := by
  go_enter Tryd.func70, Tryd.ntmps70
  go_wp2_with fail
  refine (l01Next_any A L c lo g ((t.size : Int) + 1) w hs hg hL (by omega)).mono ?_
  rintro e w1 ⟨kz, rfl, hkz, S1, m1⟩
  obtain ⟨hk0, hk1⟩ := hkz.lt (by omega)
  obtain ⟨k, rfl⟩ := Int.eq_ofNat_of_zero_le hk0
  have hkt : k ≤ t.size := by omega
  have hg1 := Nat.lt_of_lt_of_le hg m1.size
  have R1 := fun wx => run_str_to (P := Tryd.prog) (t := 9) Tryd.underlying9 t k hkt wx
  have R2 := fun wx => run_str_at (P := Tryd.prog) (t := 9) Tryd.underlying9 t k hkt wx
  have e1 := ext_len t 0 k hkt
  have e2 := ext_len t k t.size (Nat.le_refl _)
  obtain ⟨x1, hx1⟩ : ∃ x, x = t.extract 0 k := ⟨_, rfl⟩
  obtain ⟨x2, hx2⟩ : ∃ x, x = t.extract k t.size := ⟨_, rfl⟩
  simp only [← hx1] at R1 e1
  simp only [← hx2] at R2 e2
  have E12 := Lib.hid (And.intro e1 e2)
  have b1 : x1.size ≤ 1000000 := by omega
  have b2 : x2.size ≤ 1000000 := by omega
  have b3 : x1.size + x2.size = t.size := by omega
  have B3 := Lib.hid b3
  clear hx1 hx2 e1 e2 b3 hkz hk0 hk1 hs
  go_wp2_with fail
  refine (l01Next_any A L c lo g 8 w1 S1 hg1 hL (by omega)).mono ?_
  rintro e w2 ⟨zc, rfl, hzc, S2, m2⟩
  obtain ⟨hc0, hc1⟩ := hzc.lt (by omega)
  have hg2 := Nat.lt_of_lt_of_le hg1 m2.size
  have M2 := m1.trans m2
  clear hzc S1 m1 m2
  by_cases h3 : 3 ≤ zc
  · have h0 : (zc == 0) = false := by simp; omega
    have h1 : (zc == 1) = false := by simp; omega
    have h2 : (zc == 2) = false := by simp; omega
    clear R1 R2
    go_wp2
    go_ret
    exact ⟨t, rfl, by omega, S2, M2⟩
  · have h4 : zc = 0 ∨ zc = 1 ∨ zc = 2 := by omega
    rcases h4 with rfl | rfl | rfl
    · clear R2
      go_wp2
      go_ret
      exact ⟨_, rfl, by have := B3.out; first | omega | (simp; omega), S2, M2⟩
    · have ub := Up.alloc w2 (.cells #[.string ⟨#[48]⟩, .string ⟨#[49]⟩, .string ⟨#[32]⟩, .string ⟨#[45]⟩, .string ⟨#[44]⟩, .string ⟨#[118]⟩, .string ⟨#[10]⟩, .string ⟨#[97]⟩] 9)
      have hd := (Up.refl w2).drew
      have S2d := S2.up hd hg2
      have ubd := Up.alloc w2.drew (.cells #[.string ⟨#[48]⟩, .string ⟨#[49]⟩, .string ⟨#[32]⟩, .string ⟨#[45]⟩, .string ⟨#[44]⟩, .string ⟨#[118]⟩, .string ⟨#[10]⟩, .string ⟨#[97]⟩] 9)
      have S2a := (S2.up ub hg2).up ((Up.refl _).drew) (Nat.lt_of_lt_of_le hg2 ub.size)
      have HN := Lib.hid (l01Next_any A L c lo g 8 w2.drew S2d (by simpa using hg2) hL (by omega))
      have HNa := Lib.hid (l01Next_any A L c lo g 8 _ S2a (by simp; omega) hL (by omega))
      have W8 := Lib.hid (Wd8.new w2)
      clear S2d S2a
      go_wp2_with fail
      have hw28 : w2.drew.heap.size = w2.heap.size := by simp
      go_region_law (first
        | (go_simp; go_at_call 67; refine HN.out.mono ?_; rintro e w3 ⟨zp, rfl, hzp, S3, m3⟩; obtain ⟨hp0, hp1⟩ := hzp.lt (by omega); obtain ⟨zn, rfl⟩ := Int.eq_ofNat_of_zero_le hp0
           obtain ⟨sx, hsx, hsl⟩ := Wd8.new w3 zn (by omega)
           have q1 : ¬ 9223372036854775807 < x1.size + sx.size := by omega
           have q2 : ¬ 9223372036854775807 < x1.size + sx.size + x2.size := by omega
           have ux3 := Up.alloc w3 (.cells #[.string ⟨#[48]⟩, .string ⟨#[49]⟩, .string ⟨#[32]⟩, .string ⟨#[45]⟩, .string ⟨#[44]⟩, .string ⟨#[118]⟩, .string ⟨#[10]⟩, .string ⟨#[97]⟩] 9)
           have HF := Lib.hid (show Src (w3.alloc (.cells #[.string ⟨#[48]⟩, .string ⟨#[49]⟩, .string ⟨#[32]⟩, .string ⟨#[45]⟩, .string ⟨#[44]⟩, .string ⟨#[118]⟩, .string ⟨#[10]⟩, .string ⟨#[97]⟩] 9)) g A L c lo ∧ Mk g (g + 1) w (w3.alloc (.cells #[.string ⟨#[48]⟩, .string ⟨#[49]⟩, .string ⟨#[32]⟩, .string ⟨#[45]⟩, .string ⟨#[44]⟩, .string ⟨#[118]⟩, .string ⟨#[10]⟩, .string ⟨#[97]⟩] 9)) from
             ⟨S3.up ux3 (Nat.lt_of_lt_of_le hg2 (by have := m3.size; simp at this; omega)), (M2.trans (Mk.up hd)).trans (m3.trans (Mk.up ux3))⟩))
        | (go_simp; go_at_call 67; refine HNa.out.mono ?_; rintro e w3 ⟨zp, rfl, hzp, S3, m3⟩; obtain ⟨hp0, hp1⟩ := hzp.lt (by omega); obtain ⟨zn, rfl⟩ := Int.eq_ofNat_of_zero_le hp0
           obtain ⟨sx, hsx, hsl⟩ : ∃ s : ByteArray, w3.cell? ⟨w2.heap.size, zn, none⟩ = some (.string s) ∧ s.size ≤ 1 := by
             obtain ⟨s, h1, h2⟩ := W8.out zn (by omega)
             exact ⟨s, m3.cell (((Up.refl _).drew).cell h1) (.inr hg2), h2⟩
           have q1 : ¬ 9223372036854775807 < x1.size + sx.size := by omega
           have q2 : ¬ 9223372036854775807 < x1.size + sx.size + x2.size := by omega
           have HF := Lib.hid (show Src w3 g A L c lo ∧ Mk g (g + 1) w w3 from ⟨S3, (M2.trans (Mk.up (ub.trans ((Up.refl _).drew)))).trans m3⟩)))
      all_goals
        clear HN HNa R1 R2 S3 m3 hp0 hp1
        go_wp2
        go_ret
        exact ⟨_, rfl, by have := B3.out; rw [app_size, app_size]; omega, HF.out.1, HF.out.2⟩
    · by_cases hkl : k < t.size
      · have hd : decide ((k : Int) < (t.size : Int)) = true := by simp; omega
        have R3 := fun wx => run_str_from (P := Tryd.prog) (t := 9) Tryd.underlying9 t k (by omega) wx
        have e3 := ext_len t (k + 1) t.size (Nat.le_refl _)
        obtain ⟨x3, hx3⟩ : ∃ x, x = t.extract (k + 1) t.size := ⟨_, rfl⟩
        simp only [← hx3] at R3 e3
        have q1 : ¬ 9223372036854775807 < x1.size + x3.size := by omega
        have HS := Lib.hid (show (x1 ++ x3).size ≤ t.size + 1 by have h12 := E12.out; rw [app_size]; omega)
        have hwr : IntKind.i64.wrap ((k : Int) + 1) = (k : Int) + 1 := IntWalk.i64_in _ (by omega)
        clear hx3 e3 R2
        go_wp2_with fail
        refine wp_region_quiet_below (by kernel_rfl) (by kernel_rfl) ?_
        repeat (quiet_step (fail))
        refine wpQuiet_nil ?_
        intro w7 hw7
        obtain ⟨⟨dq, osq⟩, hw7⟩ := hw7
        have hu7 : Up w2 w7 := by rw [hw7]; exact below_regrown _ _ _
        clear hw7 R1 R3 hwr
        go_wp2
        go_ret
        exact ⟨_, rfl, HS.out, S2.up hu7 hg2, M2.trans (Mk.up hu7)⟩
      · have hd : decide ((k : Int) < (t.size : Int)) = false := by simp; omega
        clear R1 R2
        go_wp2
        go_ret
        exact ⟨t, rfl, by omega, S2, M2⟩
end Go.Proofs.YtncmenfdnpmblaaDoor
