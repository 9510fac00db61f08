/- The longest list of words in common, by the reference. -/
import Derived.Test.YtcmhgjldkgnblaaGreatDoorShareL
namespace Go.Proofs.YtcmhgjldkgnblaaGreatDoor
open Go.RowKit Go.Sort

theorem ret_ii {a b a' b' : Int} {k k' : IntKind} (h : a = b) (h' : a' = b') : Ending.returned (.tuple #[.int k a, .int k' a']) = .returned (.tuple #[.int k b, .int k' b']) := by rw [h, h']

set_option maxRecDepth 100000 in
set_option maxHeartbeats 4000000 in
theorem l10Shared_any (A B : Option Addr) (P Q : List ByteArray) (ca cb lo hi lo' hi' : Nat) (w : World) (hr : RdT w lo hi A P) (hhi : hi ≤ w.heap.size) (hr' : RdT w lo' hi' B Q) (hhi' : hi' ≤ w.heap.size)
    (hP : ∀ x ∈ P, x.size < 32) (hQ : ∀ x ∈ Q, x.size < 32) (hn : P.length ≤ 2000000) (hn' : Q.length ≤ 2000000) :
    Calls Tryz.prog 22 #[.slice A P.length ca, .slice B Q.length cb] w fun e w' => e = .returned (.tuple #[.int .i64 (shM P Q : Int), .int .i64 (shA P Q : Int)]) ∧ Up w w' := by
  have HP := Lib.hid hP
  have HQ := Lib.hid hQ
  clear hP hQ
  go_enter Tryz.func22, Tryz.ntmps22
  go_wp2
  have hup0 := Up.refl w
  go_loopw [6, 7, 8, 9, 10] (fun m a i _ _ wr => ∃ (k : Nat) (s : Nat × Nat), k ≤ P.length ∧ i = .int .i64 k ∧ s = allM P Q k ∧ m = .int .i64 s.1 ∧ a = .int .i64 s.2 ∧ Up w wr) (fun _ _ i _ _ _ => P.length - (intOf i).toNat)
  case atStart => exact ⟨0, (0, 0), Nat.zero_le _, rfl, rfl, rfl, rfl, hup0⟩
  case round =>
    obtain ⟨i, s, hi, rfl, hs, rfl, rfl, hup⟩ := hrel
    have hsl := allM_le P Q i
    rw [← hs] at hsl
    obtain ⟨hs1, hs2⟩ := hsl
    have HS := Lib.hid hs
    clear hs
    by_cases hlt : i < P.length
    · obtain ⟨wo, rfl⟩ : ∃ x, x = wr := ⟨_, rfl⟩
      go_wp2
      go_loopw [6, 7, 9, 10] (fun m a k _ wr => ∃ (q : Nat) (t : Nat × Nat), q ≤ Q.length ∧ k = .int .i64 q ∧ t = rowM P Q i q s ∧ m = .int .i64 t.1 ∧ a = .int .i64 t.2 ∧ Up wo wr) (fun _ _ k _ _ => Q.length - (intOf k).toNat)
      case atStart => exact ⟨0, s, Nat.zero_le _, rfl, rfl, rfl, rfl, Up.refl _⟩
      case round =>
        obtain ⟨q, t, hq, rfl, ht, rfl, rfl, hup2⟩ := hrel
        have htl := rowM_le (P := P) (Q := Q) (i := i) (n := P.length) q s hs1 (by omega) hi
        rw [← ht] at htl
        obtain ⟨ht1, ht2⟩ := htl
        have HT := Lib.hid ht
        clear ht
        by_cases hlt2 : q < Q.length
        · obtain ⟨wi, rfl⟩ : ∃ x, x = wr := ⟨_, rfl⟩
          go_wp2
          go_loopw [10] (fun n wr => ∃ (z : Nat), n = .int .i64 z ∧ i + z ≤ P.length ∧ z + cpl (P.drop (i + z)) (Q.drop (q + z)) = mlB P Q i q ∧ Up wi wr) (fun n _ => P.length - (intOf n).toNat)
          case atStart => exact ⟨0, rfl, by omega, by rw [Nat.zero_add]; rfl, Up.refl _⟩
          case round =>
            obtain ⟨z, rfl, hz, hm, hup3⟩ := hrel
            have HM := Lib.hid hm
            clear hm
            obtain ⟨p, hp⟩ : ∃ p, p = i + z := ⟨_, rfl⟩
            have hwr : IntKind.i64.wrap ((i : Int) + (z : Int)) = (p : Int) := by rw [IntWalk.i64_in _ (by omega)]; omega
            obtain ⟨r, hr0⟩ : ∃ r, r = q + z := ⟨_, rfl⟩
            have hwr2 : IntKind.i64.wrap ((q : Int) + (z : Int)) = (r : Int) := by rw [IntWalk.i64_in _ (by omega)]; omega
            rw [← hp, ← hr0] at HM
            have hupx := hup.trans (hup2.trans hup3)
            by_cases hp1 : p < P.length
            · have hpb : decide ((p : Int) < (P.length : Int)) = true := by simp; omega
              by_cases hr1 : r < Q.length
              · have hrb : decide ((r : Int) < (Q.length : Int)) = true := by simp; omega
                obtain ⟨b1, o1, x, rfl, -, -, hx, z0⟩ := (hr.up hupx hhi).txt hp1
                obtain ⟨b2, o2, y, rfl, -, -, hy, y0⟩ := (hr'.up hupx hhi').txt hr1
                have hxs := HP.out x (List.mem_of_getElem? hx)
                have hys := HQ.out y (List.mem_of_getElem? hy)
                have HX := Lib.hid hx
                have HY := Lib.hid hy
                have c1 : ∀ dd os, Calls Tryz.prog 32 #[.string x] (grow (redrawn wr dd) os) fun e w'' => e = .returned (.string (nrm x)) ∧ ∃ p : Regrown, w'' = grow (redrawn wr p.d) p.os :=
                  fun dd os => Calls.regrown_of (l10Normal_any x _ (by omega))
                have c2 : ∀ dd os, Calls Tryz.prog 32 #[.string y] (grow (redrawn wr dd) os) fun e w'' => e = .returned (.string (nrm y)) ∧ ∃ p : Regrown, w'' = grow (redrawn wr p.d) p.os :=
                  fun dd os => Calls.regrown_of (l10Normal_any y _ (by omega))
                have C1 := Lib.hid c1
                have C2 := Lib.hid c2
                clear c1 c2
                have Z0 := cell_regrown z0
                have Y0 := cell_regrown y0
                obtain ⟨u, hu⟩ : ∃ u, u = alkB x y := ⟨_, rfl⟩
                have hqq : ((nrm x).toList == (nrm y).toList) = u := by rw [hu]; rfl
                have HU := Lib.hid hu
                have HPE := Lib.hid hp
                have HRE := Lib.hid hr0
                clear hu hx hy hp hr0
                go_wp2_with fail
                refine wp_region_quiet_below (by kernel_rfl) (by kernel_rfl) ?_
                repeat (quiet_step ((go_at_call 32; first | (with_reducible exact C1.out _ _) | (with_reducible exact C2.out _ _))))
                refine wpQuiet_nil ?_
                intro w7 hw7
                obtain ⟨⟨dq, osq⟩, hw7⟩ := hw7
                have hup7 : Up wr w7 := by rw [hw7]; exact below_regrown _ _ _
                clear hw7 hwr hwr2
                clear Z0 Y0
                cases u
                · skip
                  have HZ := Lib.hid (show mlB P Q i q = z from by have h := HM.out; have h2 := cpl_no HX.out HY.out HU.out.symm; omega)
                  by_cases hgt : t.1 < z
                  · have hgb : decide ((t.1 : Int) < (z : Int)) = true := by simp; omega
                    go_wp2
                    go_roundw
                    case rel => exact ⟨q + 1, (z, i), by omega, by go_num, by rw [rowM_yes (by rw [← HT.out, HZ.out]; exact hgt), HZ.out], rfl, rfl, hup2.trans (hup3.trans hup7)⟩
                    case measure => simp [intOf]; omega
                  · have hgb : decide ((t.1 : Int) < (z : Int)) = false := by simp; omega
                    go_wp2
                    go_roundw
                    case rel => exact ⟨q + 1, t, by omega, by go_num, by rw [rowM_no (by rw [← HT.out, HZ.out]; exact hgt)]; exact HT.out, rfl, rfl, hup2.trans (hup3.trans hup7)⟩
                    case measure => simp [intOf]; omega
                · skip
                  go_wp2
                  go_roundw
                  case rel => exact ⟨z + 1, by go_num, by have := HPE.out; omega, by have h := HM.out; have h2 := cpl_yes HX.out HY.out HU.out.symm; rw [show i + (z + 1) = p + 1 by have := HPE.out; omega, show q + (z + 1) = r + 1 by have := HRE.out; omega]; omega, hup3.trans hup7⟩
                  case measure => simp [intOf]; have := HPE.out; omega
              · have hrb : decide ((r : Int) < (Q.length : Int)) = false := by simp; omega
                have HR1 := Lib.hid hr1
                have HPE := Lib.hid hp
                clear hp hr0
                go_wp2_with fail
                refine wp_region_quiet_below (by kernel_rfl) (by kernel_rfl) ?_
                repeat (first | go_big_quiet_step (fail) | quiet_step (fail))
                refine wpQuiet_nil ?_
                intro w7 hw7
                obtain ⟨⟨dq, osq⟩, hw7⟩ := hw7
                have hup7 : Up wr w7 := by rw [hw7]; exact below_regrown _ _ _
                clear hw7 hwr hwr2
                have HZ := Lib.hid (show mlB P Q i q = z from by have h := HM.out; have h2 := cpl_endQ (P := P) (Q := Q) (p := p) (q := r) (by have := HR1.out; omega); omega)
                by_cases hgt : t.1 < z
                · have hgb : decide ((t.1 : Int) < (z : Int)) = true := by simp; omega
                  go_wp2
                  go_roundw
                  case rel => exact ⟨q + 1, (z, i), by omega, by go_num, by rw [rowM_yes (by rw [← HT.out, HZ.out]; exact hgt), HZ.out], rfl, rfl, hup2.trans (hup3.trans hup7)⟩
                  case measure => simp [intOf]; omega
                · have hgb : decide ((t.1 : Int) < (z : Int)) = false := by simp; omega
                  go_wp2
                  go_roundw
                  case rel => exact ⟨q + 1, t, by omega, by go_num, by rw [rowM_no (by rw [← HT.out, HZ.out]; exact hgt)]; exact HT.out, rfl, rfl, hup2.trans (hup3.trans hup7)⟩
                  case measure => simp [intOf]; omega
            · have hpb : decide ((p : Int) < (P.length : Int)) = false := by simp; omega
              have HP1 := Lib.hid hp1
              clear hr0 hp
              go_wp2_with fail
              refine wp_region_quiet_below (by kernel_rfl) (by kernel_rfl) ?_
              repeat (first | go_big_quiet_step (fail) | quiet_step (fail))
              refine wpQuiet_nil ?_
              intro w7 hw7
              obtain ⟨⟨dq, osq⟩, hw7⟩ := hw7
              have hup7 : Up wr w7 := by rw [hw7]; exact below_regrown _ _ _
              clear hw7 hwr hwr2
              have HZ := Lib.hid (show mlB P Q i q = z from by have h := HM.out; have h2 := cpl_endP (P := P) (Q := Q) (p := p) (q := r) (by have := HP1.out; omega); omega)
              by_cases hgt : t.1 < z
              · have hgb : decide ((t.1 : Int) < (z : Int)) = true := by simp; omega
                go_wp2
                go_roundw
                case rel => exact ⟨q + 1, (z, i), by omega, by go_num, by rw [rowM_yes (by rw [← HT.out, HZ.out]; exact hgt), HZ.out], rfl, rfl, hup2.trans (hup3.trans hup7)⟩
                case measure => simp [intOf]; omega
              · have hgb : decide ((t.1 : Int) < (z : Int)) = false := by simp; omega
                go_wp2
                go_roundw
                case rel => exact ⟨q + 1, t, by omega, by go_num, by rw [rowM_no (by rw [← HT.out, HZ.out]; exact hgt)]; exact HT.out, rfl, rfl, hup2.trans (hup3.trans hup7)⟩
                case measure => simp [intOf]; omega
        · have HE := Lib.hid (show t = allM P Q (i + 1) by rw [HT.out, show q = Q.length by omega, HS.out]; rfl)
          go_wp2
          go_roundw
          case rel => exact ⟨i + 1, t, by omega, by go_num, HE.out, rfl, rfl, hup.trans hup2⟩
          case measure => simp [intOf]; omega
    · have HE := Lib.hid (show s = allM P Q P.length by rw [HS.out, show i = P.length by omega])
      go_wp2
      go_ret2
      exact ⟨ret_ii (by rw [HE.out]; rfl) (by rw [HE.out]; rfl), hup⟩
end Go.Proofs.YtcmhgjldkgnblaaGreatDoor
