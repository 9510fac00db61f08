/- The longest list of words in common, by the program. -/
import Derived.Test.YtcmhgjldkgnblaaGreatDoorShareS
import Derived.Test.YtcmhgjldkgnblaaGreatDoorFindF
namespace Go.Proofs.YtcmhgjldkgnblaaGreatDoor
open Go.RowKit Go.Sort

set_option maxRecDepth 100000 in
set_option maxHeartbeats 4000000 in
theorem sharedWords_any (A B : Option Addr) (P Q : List ByteArray) (ca cb lo hi lo' hi' : Nat) (w : World) (hr : RdT w lo hi A P) (hhi : hi ≤ w.heap.size) (hr' : RdT w lo' hi' B Q) (hhi' : hi' ≤ w.heap.size)
    (hok : ∀ x ∈ P, x.size ≤ maxLen) (hok' : ∀ x ∈ Q, x.size ≤ maxLen) (hn : P.length ≤ 2000000) (hn' : Q.length ≤ 2000000) :
    Calls Tryz.prog 23 #[.slice A P.length ca, .slice B Q.length cb] w fun e w' => e = .returned (.tuple #[.int .i64 (if phB P && phB Q then (shM P Q : Int) else 0), .int .i64 (if phB P && phB Q then 0 else 1)]) ∧ Up w w' := by
  have hnot : ∀ (x : Bool) (w : World), (Op.unary .not (.bool x)).run Tryz.prog w = .ok (.bool (!x)) w := fun _ _ => rfl
  obtain ⟨b1, hb1⟩ : ∃ b, b = phB P := ⟨_, rfl⟩
  obtain ⟨b2, hb2⟩ : ∃ b, b = phB Q := ⟨_, rfl⟩
  have C1 := isPhrase_any A P ca lo hi _ hr hhi hok (by omega)
  rw [← hb1] at C1
  have H1 := Lib.hid C1
  have HOK := Lib.hid hok'
  rw [← hb1, ← hb2]
  have HB1 := Lib.hid hb1
  clear C1 hok hok' hb1
  cases b1
  · clear hb2
    go_enter Tryz.func23, Tryz.ntmps23
    go_wp2_with fail
    refine H1.out.mono ?_
    rintro e w1 ⟨rfl, hu1⟩
    go_wp2
    go_ret2
    exact ⟨rfl, hu1⟩
  go_enter Tryz.func23, Tryz.ntmps23
  go_wp2_with fail
  refine H1.out.mono ?_
  rintro e w1 ⟨rfl, hu1⟩
  have C2 := isPhrase_any B Q cb lo' hi' w1 (hr'.up hu1 hhi') (Nat.le_trans hhi' hu1.size) HOK.out (by omega)
  rw [← hb2] at C2
  have H2 := Lib.hid C2
  have HB2 := Lib.hid hb2
  clear C2 hb2
  go_wp2_with fail
  refine H2.out.mono ?_
  rintro e w2 ⟨rfl, hu2⟩
  have hup0 := hu1.trans hu2
  cases b2
  · go_wp2
    go_ret2
    exact ⟨rfl, hup0⟩
  have HP := Lib.hid (phB_small HB1.out.symm).1
  have HQ := Lib.hid (phB_small HB2.out.symm).1
  clear H1 H2
  go_wp2
  go_loopw [6, 7, 8, 9, 20] (fun m _ _ _ i wr => ∃ (k : Nat) (s : Nat × Nat), k ≤ P.length ∧ i = .int .i64 k ∧ s = allM P Q k ∧ m = .int .i64 s.1 ∧ Up w wr) (fun _ _ _ _ i _ => P.length - (intOf i).toNat)
  case atStart => exact ⟨0, (0, 0), Nat.zero_le _, rfl, rfl, rfl, hup0⟩
  case round =>
    obtain ⟨i, s, hi, rfl, hs, rfl, hup⟩ := hrel
    have hsl := allM_le P Q i
    rw [← hs] at hsl
    obtain ⟨hs1, hs2⟩ := hsl
    have HS := Lib.hid hs
    clear hs
    by_cases hlt : i < P.length
    · obtain ⟨wo, rfl⟩ : ∃ x, x = wr := ⟨_, rfl⟩
      go_wp2
      go_loopw [6, 8, 9, 25] (fun m _ _ k wr => ∃ (q : Nat) (t : Nat × Nat), q ≤ Q.length ∧ k = .int .i64 q ∧ t = rowM P Q i q s ∧ m = .int .i64 t.1 ∧ Up wo wr) (fun _ _ _ k _ => Q.length - (intOf k).toNat)
      case atStart => exact ⟨0, s, Nat.zero_le _, rfl, rfl, rfl, Up.refl _⟩
      case round =>
        obtain ⟨q, t, hq, rfl, ht, rfl, hup2⟩ := hrel
        have htl := rowM_le (P := P) (Q := Q) (i := i) (n := P.length) q s hs1 (by omega) hi
        rw [← ht] at htl
        obtain ⟨ht1, ht2⟩ := htl
        have HT := Lib.hid ht
        clear ht
        by_cases hlt2 : q < Q.length
        · obtain ⟨wi, rfl⟩ : ∃ x, x = wr := ⟨_, rfl⟩
          go_wp2
          go_loopw [9] (fun n wr => ∃ (z : Nat), n = .int .i64 z ∧ i + z ≤ P.length ∧ z + cpl (P.drop (i + z)) (Q.drop (q + z)) = mlB P Q i q ∧ Up wi wr) (fun n _ => P.length - (intOf n).toNat)
          case atStart => exact ⟨0, rfl, by omega, by rw [Nat.zero_add]; rfl, Up.refl _⟩
          case round =>
            obtain ⟨z, rfl, hz, hm, hup3⟩ := hrel
            have HM := Lib.hid hm
            clear hm
            obtain ⟨p, hp⟩ : ∃ p, p = i + z := ⟨_, rfl⟩
            have hwr : IntKind.i64.wrap ((i : Int) + (z : Int)) = (p : Int) := by rw [IntWalk.i64_in _ (by omega)]; omega
            obtain ⟨r, hr0⟩ : ∃ r, r = q + z := ⟨_, rfl⟩
            have hwr2 : IntKind.i64.wrap ((q : Int) + (z : Int)) = (r : Int) := by rw [IntWalk.i64_in _ (by omega)]; omega
            rw [← hp, ← hr0] at HM
            have hupx := hup.trans (hup2.trans hup3)
            by_cases hp1 : p < P.length
            · have hpb : decide ((p : Int) < (P.length : Int)) = true := by simp; omega
              by_cases hr1 : r < Q.length
              · have hrb : decide ((r : Int) < (Q.length : Int)) = true := by simp; omega
                obtain ⟨b1, o1, x, rfl, -, -, hx, z0⟩ := (hr.up hupx hhi).txt hp1
                obtain ⟨b2, o2, y, rfl, -, -, hy, y0⟩ := (hr'.up hupx hhi').txt hr1
                have hxs := HP.out x (List.mem_of_getElem? hx)
                have hys := HQ.out y (List.mem_of_getElem? hy)
                have HX := Lib.hid hx
                have HY := Lib.hid hy
                have c1 : ∀ dd os, Calls Tryz.prog 33 #[.string x, .string y] (grow (redrawn wr dd) os) fun e w'' => e = .returned (.bool (alkB x y)) ∧ ∃ p : Regrown, w'' = grow (redrawn wr p.d) p.os :=
                  fun dd os => Calls.regrown_of (alike_any x y _ hxs hys)
                have Z0 := cell_regrown z0
                have Y0 := cell_regrown y0
                obtain ⟨u, hu⟩ : ∃ u, u = alkB x y := ⟨_, rfl⟩
                rw [← hu] at c1
                have C1 := Lib.hid c1
                clear c1
                have HU := Lib.hid hu
                have HPE := Lib.hid hp
                have HRE := Lib.hid hr0
                clear hu hx hy hp hr0
                go_wp2_with fail
                refine wp_region_quiet_below (by kernel_rfl) (by kernel_rfl) ?_
                repeat (quiet_step ((go_at_call 33; exact C1.out _ _)))
                refine wpQuiet_nil ?_
                intro w7 hw7
                obtain ⟨⟨dq, osq⟩, hw7⟩ := hw7
                have hup7 : Up wr w7 := by rw [hw7]; exact below_regrown _ _ _
                clear hw7 hwr hwr2
                clear Z0 Y0
                cases u
                · skip
                  have HZ := Lib.hid (show mlB P Q i q = z from by have h := HM.out; have h2 := cpl_no HX.out HY.out HU.out.symm; omega)
                  have hmx := Lib.hid (rowM_max P Q i q s)
                  go_wp2
                  go_roundw
                  case rel => exact ⟨q + 1, rowM P Q i (q + 1) s, by omega, by go_num, rfl, by rw [hmx.out, ← HT.out, HZ.out]; first | rfl | (congr 1; omega), hup2.trans (hup3.trans hup7)⟩
                  case measure => simp [intOf]; omega
                · skip
                  go_wp2
                  go_roundw
                  case rel => exact ⟨z + 1, by go_num, by have := HPE.out; omega, by have h := HM.out; have h2 := cpl_yes HX.out HY.out HU.out.symm; rw [show i + (z + 1) = p + 1 by have := HPE.out; omega, show q + (z + 1) = r + 1 by have := HRE.out; omega]; omega, hup3.trans hup7⟩
                  case measure => simp [intOf]; have := HPE.out; omega
              · have hrb : decide ((r : Int) < (Q.length : Int)) = false := by simp; omega
                have HR1 := Lib.hid hr1
                have HPE := Lib.hid hp
                clear hp hr0
                go_wp2_with fail
                refine wp_region_quiet_below (by kernel_rfl) (by kernel_rfl) ?_
                repeat (first | go_big_quiet_step (fail) | quiet_step (fail))
                refine wpQuiet_nil ?_
                intro w7 hw7
                obtain ⟨⟨dq, osq⟩, hw7⟩ := hw7
                have hup7 : Up wr w7 := by rw [hw7]; exact below_regrown _ _ _
                clear hw7 hwr hwr2
                have HZ := Lib.hid (show mlB P Q i q = z from by have h := HM.out; have h2 := cpl_endQ (P := P) (Q := Q) (p := p) (q := r) (by have := HR1.out; omega); omega)
                have hmx := Lib.hid (rowM_max P Q i q s)
                go_wp2
                go_roundw
                case rel => exact ⟨q + 1, rowM P Q i (q + 1) s, by omega, by go_num, rfl, by rw [hmx.out, ← HT.out, HZ.out]; first | rfl | (congr 1; omega), hup2.trans (hup3.trans hup7)⟩
                case measure => simp [intOf]; omega
            · have hpb : decide ((p : Int) < (P.length : Int)) = false := by simp; omega
              have HP1 := Lib.hid hp1
              clear hr0 hp
              go_wp2_with fail
              refine wp_region_quiet_below (by kernel_rfl) (by kernel_rfl) ?_
              repeat (first | go_big_quiet_step (fail) | quiet_step (fail))
              refine wpQuiet_nil ?_
              intro w7 hw7
              obtain ⟨⟨dq, osq⟩, hw7⟩ := hw7
              have hup7 : Up wr w7 := by rw [hw7]; exact below_regrown _ _ _
              clear hw7 hwr hwr2
              have HZ := Lib.hid (show mlB P Q i q = z from by have h := HM.out; have h2 := cpl_endP (P := P) (Q := Q) (p := p) (q := r) (by have := HP1.out; omega); omega)
              have hmx := Lib.hid (rowM_max P Q i q s)
              go_wp2
              go_roundw
              case rel => exact ⟨q + 1, rowM P Q i (q + 1) s, by omega, by go_num, rfl, by rw [hmx.out, ← HT.out, HZ.out]; first | rfl | (congr 1; omega), hup2.trans (hup3.trans hup7)⟩
              case measure => simp [intOf]; omega
        · have HE := Lib.hid (show t = allM P Q (i + 1) by rw [HT.out, show q = Q.length by omega, HS.out]; rfl)
          go_wp2
          go_roundw
          case rel => exact ⟨i + 1, t, by omega, by go_num, HE.out, rfl, hup.trans hup2⟩
          case measure => simp [intOf]; omega
    · have HE := Lib.hid (show s = allM P Q P.length by rw [HS.out, show i = P.length by omega])
      go_wp2
      go_ret2
      exact ⟨ret_ii (by rw [HE.out]; rfl) rfl, hup⟩
end Go.Proofs.YtcmhgjldkgnblaaGreatDoor
