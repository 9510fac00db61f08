/- The longest list of words in common, plainly. The longest list of words in common, by the reference. The longest list of words in common, by the program. BorrowedPassage: the reference's and the program's walks. -/
import Derived.Test.YtehoaoeahfmfpaaGreatDoorFind
import Derived.Test.YtehoaoeahfmfpaaGreatDoorFindF
namespace Go.Proofs.YtehoaoeahfmfpaaGreatDoor
open Go.RowKit Go.Sort

/-- how many words in front are alike -/
def cpl : List ByteArray → List ByteArray → Nat
  | x :: a, y :: b => if alkB x y = true then cpl a b + 1 else 0
  | _, _ => 0
theorem cpl_le : ∀ a b : List ByteArray, cpl a b ≤ a.length ∧ cpl a b ≤ b.length
  | [], b => by simp [cpl]
  | x :: a, [] => by simp [cpl]
  | x :: a, y :: b => by
    have := cpl_le a b
    unfold cpl; split <;> simp <;> omega
theorem cpl_yes {P Q : List ByteArray} {p q : Nat} {x y : ByteArray} (hx : P[p]? = some x) (hy : Q[q]? = some y) (h : alkB x y = true) : cpl (P.drop p) (Q.drop q) = 1 + cpl (P.drop (p + 1)) (Q.drop (q + 1)) := by
  rw [List.drop_eq_getElem_cons (List.getElem?_eq_some_iff.1 hx).1, List.drop_eq_getElem_cons (List.getElem?_eq_some_iff.1 hy).1, (List.getElem?_eq_some_iff.1 hx).2, (List.getElem?_eq_some_iff.1 hy).2, cpl, if_pos h]; omega
theorem cpl_no {P Q : List ByteArray} {p q : Nat} {x y : ByteArray} (hx : P[p]? = some x) (hy : Q[q]? = some y) (h : alkB x y = false) : cpl (P.drop p) (Q.drop q) = 0 := by
  rw [List.drop_eq_getElem_cons (List.getElem?_eq_some_iff.1 hx).1, List.drop_eq_getElem_cons (List.getElem?_eq_some_iff.1 hy).1, (List.getElem?_eq_some_iff.1 hx).2, (List.getElem?_eq_some_iff.1 hy).2, cpl, if_neg (by rw [h]; simp)]
theorem cpl_endP {P Q : List ByteArray} {p q : Nat} (h : P.length ≤ p) : cpl (P.drop p) (Q.drop q) = 0 := by
  rw [List.drop_eq_nil_of_le h]; rfl
theorem cpl_endQ {P Q : List ByteArray} {p q : Nat} (h : Q.length ≤ q) : cpl (P.drop p) (Q.drop q) = 0 := by
  rw [List.drop_eq_nil_of_le h]; cases P.drop p <;> rfl
theorem cpl_iff : ∀ (n : Nat) (a b : List ByteArray), n ≤ cpl a b ↔ n ≤ a.length ∧ n ≤ b.length ∧ (b.take n).map nrm = (a.take n).map nrm
  | 0, a, b => by simp
  | n + 1, [], b => by simp [cpl]
  | n + 1, x :: a, [] => by simp [cpl]
  | n + 1, x :: a, y :: b => by
    have ih := cpl_iff n a b
    unfold cpl
    by_cases h : alkB x y = true
    · rw [if_pos h]
      have hn := alkB_eq.1 h
      simp only [List.take_succ_cons, List.map_cons, List.length_cons, List.cons.injEq]
      constructor
      · intro h2
        have := ih.1 (by omega)
        exact ⟨by omega, by omega, hn.symm, this.2.2⟩
      · rintro ⟨h1, h2, -, h3⟩
        have := ih.2 ⟨by omega, by omega, h3⟩
        omega
    · rw [if_neg h]
      simp only [List.take_succ_cons, List.map_cons, List.length_cons, List.cons.injEq]
      constructor
      · intro h2; omega
      · rintro ⟨-, -, h3, -⟩
        exact absurd (alkB_eq.2 h3.symm) h
def mlB (P Q : List ByteArray) (i k : Nat) : Nat := cpl (P.drop i) (Q.drop k)
/-- the search in row i, from the best so far -/
def rowM (P Q : List ByteArray) (i : Nat) : Nat → Nat × Nat → Nat × Nat
  | 0, s => s
  | k + 1, s => if (rowM P Q i k s).1 < mlB P Q i k then (mlB P Q i k, i) else rowM P Q i k s
def allM (P Q : List ByteArray) : Nat → Nat × Nat
  | 0 => (0, 0)
  | i + 1 => rowM P Q i Q.length (allM P Q i)
theorem rowM_yes {P Q : List ByteArray} {i k : Nat} {s : Nat × Nat} (h : (rowM P Q i k s).1 < mlB P Q i k) : rowM P Q i (k + 1) s = (mlB P Q i k, i) := by rw [rowM, if_pos h]
theorem rowM_no {P Q : List ByteArray} {i k : Nat} {s : Nat × Nat} (h : ¬ (rowM P Q i k s).1 < mlB P Q i k) : rowM P Q i (k + 1) s = rowM P Q i k s := by rw [rowM, if_neg h]
theorem rowM_max (P Q : List ByteArray) (i k : Nat) (s : Nat × Nat) : (rowM P Q i (k + 1) s).1 = max (rowM P Q i k s).1 (mlB P Q i k) := by
  rw [rowM]; split
  · simp; omega
  · omega
theorem rowM_spec (P Q : List ByteArray) (i : Nat) : ∀ (k : Nat) (s : Nat × Nat), s.1 ≤ (rowM P Q i k s).1 ∧ (∀ k', k' < k → mlB P Q i k' ≤ (rowM P Q i k s).1) ∧ (rowM P Q i k s = s ∨ ((rowM P Q i k s).2 = i ∧ s.1 < (rowM P Q i k s).1 ∧ ∃ k', k' < k ∧ mlB P Q i k' = (rowM P Q i k s).1))
  | 0, s => ⟨Nat.le_refl _, fun k' h => absurd h (by omega), .inl rfl⟩
  | k + 1, s => by
    obtain ⟨h1, h2, h3⟩ := rowM_spec P Q i k s
    by_cases h : (rowM P Q i k s).1 < mlB P Q i k
    · rw [rowM_yes h]
      refine ⟨by simp only; omega, fun k' hk => ?_, .inr ⟨rfl, by simp only; omega, k, by omega, rfl⟩⟩
      by_cases e : k' = k
      · subst e; exact Nat.le_refl _
      · have := h2 k' (by omega); simp only; omega
    · rw [rowM_no h]
      refine ⟨h1, fun k' hk => ?_, ?_⟩
      · by_cases e : k' = k
        · subst e; omega
        · exact h2 k' (by omega)
      · rcases h3 with h3 | ⟨a, b, k', c, d⟩
        · exact .inl h3
        · exact .inr ⟨a, b, k', by omega, d⟩
theorem allM_spec (P Q : List ByteArray) : ∀ n : Nat, (∀ i k, i < n → k < Q.length → mlB P Q i k ≤ (allM P Q n).1) ∧ (allM P Q n = (0, 0) ∨ ((allM P Q n).2 < n ∧ 0 < (allM P Q n).1 ∧ (∃ k, k < Q.length ∧ mlB P Q (allM P Q n).2 k = (allM P Q n).1) ∧ ∀ i k, i < (allM P Q n).2 → k < Q.length → mlB P Q i k < (allM P Q n).1))
  | 0 => ⟨fun i k h => absurd h (by omega), .inl rfl⟩
  | n + 1 => by
    obtain ⟨h1, h2⟩ := allM_spec P Q n
    obtain ⟨g1, g2, g3⟩ := rowM_spec P Q n Q.length (allM P Q n)
    rw [allM]
    refine ⟨fun i k hi hk => ?_, ?_⟩
    · by_cases e : i = n
      · subst e; exact g2 k hk
      · exact Nat.le_trans (h1 i k (by omega) hk) g1
    · rcases g3 with e | ⟨a, b, k', c, d⟩
      · rw [e]
        rcases h2 with h2 | ⟨p1, p2, p3, p4⟩
        · exact .inl h2
        · exact .inr ⟨by omega, p2, p3, p4⟩
      · refine .inr ⟨by omega, by omega, ⟨k', c, by rw [a]; exact d⟩, fun i k hi hk => ?_⟩
        rw [a] at hi
        have := h1 i k hi hk
        omega
def shM (P Q : List ByteArray) : Nat := (allM P Q P.length).1
def shA (P Q : List ByteArray) : Nat := (allM P Q P.length).2
theorem mlB_le (P Q : List ByteArray) (i k : Nat) : mlB P Q i k ≤ P.length := by
  have := (cpl_le (P.drop i) (Q.drop k)).1
  rw [List.length_drop] at this; unfold mlB; omega
theorem rowM_le {P Q : List ByteArray} {i n : Nat} : ∀ (k : Nat) (s : Nat × Nat), s.1 ≤ P.length → s.2 ≤ n → i ≤ n → (rowM P Q i k s).1 ≤ P.length ∧ (rowM P Q i k s).2 ≤ n
  | 0, s, h, h', _ => ⟨h, h'⟩
  | k + 1, s, h, h', hi => by
    have ih := rowM_le (P := P) (Q := Q) (i := i) k s h h' hi
    by_cases e : (rowM P Q i k s).1 < mlB P Q i k
    · rw [rowM_yes e]; exact ⟨mlB_le P Q i k, hi⟩
    · rw [rowM_no e]; exact ih
theorem allM_le (P Q : List ByteArray) : ∀ n : Nat, (allM P Q n).1 ≤ P.length ∧ (allM P Q n).2 ≤ n
  | 0 => ⟨Nat.zero_le _, Nat.le_refl _⟩
  | n + 1 => by
    have ih := allM_le P Q n
    rw [allM]; exact rowM_le _ _ ih.1 (by omega) (by omega)
/-- where a part of a is found in b -/
theorem fd_iff {P Q : List ByteArray} {at_ n j : Nat} (h : at_ + n ≤ P.length) : fdB Q ((P.drop at_).take n) j = true ↔ n ≤ mlB P Q at_ j ∧ j + n ≤ Q.length := by
  unfold fdB mlB
  rw [sub_len h, Bool.and_eq_true, decide_eq_true_eq, cpl_iff]
  unfold alL
  rw [decide_eq_true_eq, List.length_drop, List.length_drop]
  constructor
  · rintro ⟨h1, h2⟩; exact ⟨⟨by omega, by omega, h2⟩, h1⟩
  · rintro ⟨⟨h1, h2, h3⟩, h4⟩; exact ⟨h4, h3⟩
theorem pl_nil_iff {p : Nat → Bool} {n : Nat} : pl p n = [] ↔ ∀ j, j < n → p j = false := by
  unfold pl
  rw [List.map_eq_nil_iff, List.filter_eq_nil_iff]
  constructor
  · intro h j hj; simpa using h j (by simpa using hj)
  · intro h j hj; simpa using h j (by simpa using hj)
theorem fd_empty {P Q : List ByteArray} {at_ : Nat} (h : at_ < shA P Q) (hm : 0 < shM P Q) : at_ + shM P Q ≤ P.length ∧ fdL Q ((P.drop at_).take (shM P Q)) = [] := by
  obtain ⟨-, h2⟩ := allM_spec P Q P.length
  rcases h2 with h2 | ⟨p1, p2, ⟨k, p3, p3'⟩, p4⟩
  · unfold shA at h; rw [h2] at h; simp at h
  · have hl := (cpl_le (P.drop (shA P Q)) (Q.drop k)).1
    rw [List.length_drop] at hl
    have e : cpl (P.drop (shA P Q)) (Q.drop k) = shM P Q := p3'
    have hle : at_ + shM P Q ≤ P.length := by omega
    refine ⟨hle, ?_⟩
    unfold fdL; rw [pl_nil_iff]
    intro j hj
    by_cases hf : fdB Q ((P.drop at_).take (shM P Q)) j = true
    · have := (fd_iff hle).1 hf
      have := p4 at_ j h hj
      unfold shM at *
      omega
    · simpa using hf
theorem fd_there {P Q : List ByteArray} (hm : 0 < shM P Q) : shA P Q + shM P Q ≤ P.length ∧ fdL Q ((P.drop (shA P Q)).take (shM P Q)) ≠ [] := by
  obtain ⟨-, h2⟩ := allM_spec P Q P.length
  rcases h2 with h2 | ⟨p1, p2, ⟨k, p3, p3'⟩, p4⟩
  · unfold shM at hm; rw [h2] at hm; simp at hm
  · have hl := cpl_le (P.drop (shA P Q)) (Q.drop k)
    rw [List.length_drop, List.length_drop] at hl
    have e : cpl (P.drop (shA P Q)) (Q.drop k) = shM P Q := p3'
    have hle : shA P Q + shM P Q ≤ P.length := by omega
    refine ⟨hle, fun hn => ?_⟩
    unfold fdL at hn; rw [pl_nil_iff] at hn
    have := hn k p3
    rw [(fd_iff hle).2 ⟨Nat.le_of_eq e.symm, by omega⟩] at this
    cases this
end Go.Proofs.YtehoaoeahfmfpaaGreatDoor

namespace Go.Proofs.YtehoaoeahfmfpaaGreatDoor
open Go.RowKit Go.Sort

theorem ret_ii {a b a' b' : Int} {k k' : IntKind} (h : a = b) (h' : a' = b') : Ending.returned (.tuple #[.int k a, .int k' a']) = .returned (.tuple #[.int k b, .int k' b']) := by rw [h, h']

set_option maxRecDepth 100000 in
set_option maxHeartbeats 4000000 in
theorem l10Shared_any (A B : Option Addr) (P Q : List ByteArray) (ca cb lo hi lo' hi' : Nat) (w : World) (hr : RdT w lo hi A P) (hhi : hi ≤ w.heap.size) (hr' : RdT w lo' hi' B Q) (hhi' : hi' ≤ w.heap.size)
    (hP : ∀ x ∈ P, x.size < 32) (hQ : ∀ x ∈ Q, x.size < 32) (hn : P.length ≤ 2000000) (hn' : Q.length ≤ 2000000) :
    Calls Tryz.prog 61 #[.slice A P.length ca, .slice B Q.length cb] w fun e w' => e = .returned (.tuple #[.int .i64 (shM P Q : Int), .int .i64 (shA P Q : Int)]) ∧ Up w w' := by
  have HP := Lib.hid hP
  have HQ := Lib.hid hQ
  clear hP hQ
  go_enter Tryz.func61, Tryz.ntmps61
  go_wp2
  have hup0 := Up.refl w
  go_loopw [6, 7, 8, 9, 10] (fun m a i _ _ wr => ∃ (k : Nat) (s : Nat × Nat), k ≤ P.length ∧ i = .int .i64 k ∧ s = allM P Q k ∧ m = .int .i64 s.1 ∧ a = .int .i64 s.2 ∧ Up w wr) (fun _ _ i _ _ _ => P.length - (intOf i).toNat)
  case atStart => exact ⟨0, (0, 0), Nat.zero_le _, rfl, rfl, rfl, rfl, hup0⟩
  case round =>
    obtain ⟨i, s, hi, rfl, hs, rfl, rfl, hup⟩ := hrel
    have hsl := allM_le P Q i
    rw [← hs] at hsl
    obtain ⟨hs1, hs2⟩ := hsl
    have HS := Lib.hid hs
    clear hs
    by_cases hlt : i < P.length
    · obtain ⟨wo, rfl⟩ : ∃ x, x = wr := ⟨_, rfl⟩
      go_wp2
      go_loopw [6, 7, 9, 10] (fun m a k _ wr => ∃ (q : Nat) (t : Nat × Nat), q ≤ Q.length ∧ k = .int .i64 q ∧ t = rowM P Q i q s ∧ m = .int .i64 t.1 ∧ a = .int .i64 t.2 ∧ Up wo wr) (fun _ _ k _ _ => Q.length - (intOf k).toNat)
      case atStart => exact ⟨0, s, Nat.zero_le _, rfl, rfl, rfl, rfl, Up.refl _⟩
      case round =>
        obtain ⟨q, t, hq, rfl, ht, rfl, rfl, hup2⟩ := hrel
        have htl := rowM_le (P := P) (Q := Q) (i := i) (n := P.length) q s hs1 (by omega) hi
        rw [← ht] at htl
        obtain ⟨ht1, ht2⟩ := htl
        have HT := Lib.hid ht
        clear ht
        by_cases hlt2 : q < Q.length
        · obtain ⟨wi, rfl⟩ : ∃ x, x = wr := ⟨_, rfl⟩
          go_wp2
          go_loopw [10] (fun n wr => ∃ (z : Nat), n = .int .i64 z ∧ i + z ≤ P.length ∧ z + cpl (P.drop (i + z)) (Q.drop (q + z)) = mlB P Q i q ∧ Up wi wr) (fun n _ => P.length - (intOf n).toNat)
          case atStart => exact ⟨0, rfl, by omega, by rw [Nat.zero_add]; rfl, Up.refl _⟩
          case round =>
            obtain ⟨z, rfl, hz, hm, hup3⟩ := hrel
            have HM := Lib.hid hm
            clear hm
            obtain ⟨p, hp⟩ : ∃ p, p = i + z := ⟨_, rfl⟩
            have hwr : IntKind.i64.wrap ((i : Int) + (z : Int)) = (p : Int) := by rw [IntWalk.i64_in _ (by omega)]; omega
            obtain ⟨r, hr0⟩ : ∃ r, r = q + z := ⟨_, rfl⟩
            have hwr2 : IntKind.i64.wrap ((q : Int) + (z : Int)) = (r : Int) := by rw [IntWalk.i64_in _ (by omega)]; omega
            rw [← hp, ← hr0] at HM
            have hupx := hup.trans (hup2.trans hup3)
            by_cases hp1 : p < P.length
            · have hpb : decide ((p : Int) < (P.length : Int)) = true := by simp; omega
              by_cases hr1 : r < Q.length
              · have hrb : decide ((r : Int) < (Q.length : Int)) = true := by simp; omega
                obtain ⟨b1, o1, x, rfl, -, -, hx, z0⟩ := (hr.up hupx hhi).txt hp1
                obtain ⟨b2, o2, y, rfl, -, -, hy, y0⟩ := (hr'.up hupx hhi').txt hr1
                have hxs := HP.out x (List.mem_of_getElem? hx)
                have hys := HQ.out y (List.mem_of_getElem? hy)
                have HX := Lib.hid hx
                have HY := Lib.hid hy
                have c1 : ∀ dd os, Calls Tryz.prog 89 #[.string x] (grow (redrawn wr dd) os) fun e w'' => e = .returned (.string (nrm x)) ∧ ∃ p : Regrown, w'' = grow (redrawn wr p.d) p.os :=
                  fun dd os => Calls.regrown_of (l10Normal_any x _ (by omega))
                have c2 : ∀ dd os, Calls Tryz.prog 89 #[.string y] (grow (redrawn wr dd) os) fun e w'' => e = .returned (.string (nrm y)) ∧ ∃ p : Regrown, w'' = grow (redrawn wr p.d) p.os :=
                  fun dd os => Calls.regrown_of (l10Normal_any y _ (by omega))
                have C1 := Lib.hid c1
                have C2 := Lib.hid c2
                clear c1 c2
                have Z0 := cell_regrown z0
                have Y0 := cell_regrown y0
                obtain ⟨u, hu⟩ : ∃ u, u = alkB x y := ⟨_, rfl⟩
                have hqq : ((nrm x).toList == (nrm y).toList) = u := by rw [hu]; rfl
                have HU := Lib.hid hu
                have HPE := Lib.hid hp
                have HRE := Lib.hid hr0
                clear hu hx hy hp hr0
                go_wp2_with fail
                refine wp_region_quiet_below (by kernel_rfl) (by kernel_rfl) ?_
                repeat (quiet_step ((go_at_call 89; first | (with_reducible exact C1.out _ _) | (with_reducible exact C2.out _ _))))
                refine wpQuiet_nil ?_
                intro w7 hw7
                obtain ⟨⟨dq, osq⟩, hw7⟩ := hw7
                have hup7 : Up wr w7 := by rw [hw7]; exact below_regrown _ _ _
                clear hw7 hwr hwr2
                clear Z0 Y0
                cases u
                · skip
                  have HZ := Lib.hid (show mlB P Q i q = z from by have h := HM.out; have h2 := cpl_no HX.out HY.out HU.out.symm; omega)
                  by_cases hgt : t.1 < z
                  · have hgb : decide ((t.1 : Int) < (z : Int)) = true := by simp; omega
                    go_wp2
                    go_roundw
                    case rel => exact ⟨q + 1, (z, i), by omega, by go_num, by rw [rowM_yes (by rw [← HT.out, HZ.out]; exact hgt), HZ.out], rfl, rfl, hup2.trans (hup3.trans hup7)⟩
                    case measure => simp [intOf]; omega
                  · have hgb : decide ((t.1 : Int) < (z : Int)) = false := by simp; omega
                    go_wp2
                    go_roundw
                    case rel => exact ⟨q + 1, t, by omega, by go_num, by rw [rowM_no (by rw [← HT.out, HZ.out]; exact hgt)]; exact HT.out, rfl, rfl, hup2.trans (hup3.trans hup7)⟩
                    case measure => simp [intOf]; omega
                · skip
                  go_wp2
                  go_roundw
                  case rel => exact ⟨z + 1, by go_num, by have := HPE.out; omega, by have h := HM.out; have h2 := cpl_yes HX.out HY.out HU.out.symm; rw [show i + (z + 1) = p + 1 by have := HPE.out; omega, show q + (z + 1) = r + 1 by have := HRE.out; omega]; omega, hup3.trans hup7⟩
                  case measure => simp [intOf]; have := HPE.out; omega
              · have hrb : decide ((r : Int) < (Q.length : Int)) = false := by simp; omega
                have HR1 := Lib.hid hr1
                have HPE := Lib.hid hp
                clear hp hr0
                go_wp2_with fail
                refine wp_region_quiet_below (by kernel_rfl) (by kernel_rfl) ?_
                repeat (first | go_big_quiet_step (fail) | quiet_step (fail))
                refine wpQuiet_nil ?_
                intro w7 hw7
                obtain ⟨⟨dq, osq⟩, hw7⟩ := hw7
                have hup7 : Up wr w7 := by rw [hw7]; exact below_regrown _ _ _
                clear hw7 hwr hwr2
                have HZ := Lib.hid (show mlB P Q i q = z from by have h := HM.out; have h2 := cpl_endQ (P := P) (Q := Q) (p := p) (q := r) (by have := HR1.out; omega); omega)
                by_cases hgt : t.1 < z
                · have hgb : decide ((t.1 : Int) < (z : Int)) = true := by simp; omega
                  go_wp2
                  go_roundw
                  case rel => exact ⟨q + 1, (z, i), by omega, by go_num, by rw [rowM_yes (by rw [← HT.out, HZ.out]; exact hgt), HZ.out], rfl, rfl, hup2.trans (hup3.trans hup7)⟩
                  case measure => simp [intOf]; omega
                · have hgb : decide ((t.1 : Int) < (z : Int)) = false := by simp; omega
                  go_wp2
                  go_roundw
                  case rel => exact ⟨q + 1, t, by omega, by go_num, by rw [rowM_no (by rw [← HT.out, HZ.out]; exact hgt)]; exact HT.out, rfl, rfl, hup2.trans (hup3.trans hup7)⟩
                  case measure => simp [intOf]; omega
            · have hpb : decide ((p : Int) < (P.length : Int)) = false := by simp; omega
              have HP1 := Lib.hid hp1
              clear hr0 hp
              go_wp2_with fail
              refine wp_region_quiet_below (by kernel_rfl) (by kernel_rfl) ?_
              repeat (first | go_big_quiet_step (fail) | quiet_step (fail))
              refine wpQuiet_nil ?_
              intro w7 hw7
              obtain ⟨⟨dq, osq⟩, hw7⟩ := hw7
              have hup7 : Up wr w7 := by rw [hw7]; exact below_regrown _ _ _
              clear hw7 hwr hwr2
              have HZ := Lib.hid (show mlB P Q i q = z from by have h := HM.out; have h2 := cpl_endP (P := P) (Q := Q) (p := p) (q := r) (by have := HP1.out; omega); omega)
              by_cases hgt : t.1 < z
              · have hgb : decide ((t.1 : Int) < (z : Int)) = true := by simp; omega
                go_wp2
                go_roundw
                case rel => exact ⟨q + 1, (z, i), by omega, by go_num, by rw [rowM_yes (by rw [← HT.out, HZ.out]; exact hgt), HZ.out], rfl, rfl, hup2.trans (hup3.trans hup7)⟩
                case measure => simp [intOf]; omega
              · have hgb : decide ((t.1 : Int) < (z : Int)) = false := by simp; omega
                go_wp2
                go_roundw
                case rel => exact ⟨q + 1, t, by omega, by go_num, by rw [rowM_no (by rw [← HT.out, HZ.out]; exact hgt)]; exact HT.out, rfl, rfl, hup2.trans (hup3.trans hup7)⟩
                case measure => simp [intOf]; omega
        · have HE := Lib.hid (show t = allM P Q (i + 1) by rw [HT.out, show q = Q.length by omega, HS.out]; rfl)
          go_wp2
          go_roundw
          case rel => exact ⟨i + 1, t, by omega, by go_num, HE.out, rfl, rfl, hup.trans hup2⟩
          case measure => simp [intOf]; omega
    · have HE := Lib.hid (show s = allM P Q P.length by rw [HS.out, show i = P.length by omega])
      go_wp2
      go_ret2
      exact ⟨ret_ii (by rw [HE.out]; rfl) (by rw [HE.out]; rfl), hup⟩
end Go.Proofs.YtehoaoeahfmfpaaGreatDoor

namespace Go.Proofs.YtehoaoeahfmfpaaGreatDoor
open Go.RowKit Go.Sort

set_option maxRecDepth 100000 in
set_option maxHeartbeats 4000000 in
theorem sharedWords_any (A B : Option Addr) (P Q : List ByteArray) (ca cb lo hi lo' hi' : Nat) (w : World) (hr : RdT w lo hi A P) (hhi : hi ≤ w.heap.size) (hr' : RdT w lo' hi' B Q) (hhi' : hi' ≤ w.heap.size)
    (hok : ∀ x ∈ P, x.size ≤ maxLen) (hok' : ∀ x ∈ Q, x.size ≤ maxLen) (hn : P.length ≤ 2000000) (hn' : Q.length ≤ 2000000) :
    Calls Tryz.prog 28 #[.slice A P.length ca, .slice B Q.length cb] w fun e w' => e = .returned (.tuple #[.int .i64 (if phB P && phB Q then (shM P Q : Int) else 0), .int .i64 (if phB P && phB Q then 0 else 1)]) ∧ Up w w' := by
  have hnot : ∀ (x : Bool) (w : World), (Op.unary .not (.bool x)).run Tryz.prog w = .ok (.bool (!x)) w := fun _ _ => rfl
  obtain ⟨b1, hb1⟩ : ∃ b, b = phB P := ⟨_, rfl⟩
  obtain ⟨b2, hb2⟩ : ∃ b, b = phB Q := ⟨_, rfl⟩
  have C1 := isPhrase_any A P ca lo hi _ hr hhi hok (by omega)
  rw [← hb1] at C1
  have H1 := Lib.hid C1
  have HOK := Lib.hid hok'
  rw [← hb1, ← hb2]
  have HB1 := Lib.hid hb1
  clear C1 hok hok' hb1
  cases b1
  · clear hb2
    go_enter Tryz.func28, Tryz.ntmps28
    go_wp2_with fail
    refine H1.out.mono ?_
    rintro e w1 ⟨rfl, hu1⟩
    go_wp2
    go_ret2
    exact ⟨rfl, hu1⟩
  go_enter Tryz.func28, Tryz.ntmps28
  go_wp2_with fail
  refine H1.out.mono ?_
  rintro e w1 ⟨rfl, hu1⟩
  have C2 := isPhrase_any B Q cb lo' hi' w1 (hr'.up hu1 hhi') (Nat.le_trans hhi' hu1.size) HOK.out (by omega)
  rw [← hb2] at C2
  have H2 := Lib.hid C2
  have HB2 := Lib.hid hb2
  clear C2 hb2
  go_wp2_with fail
  refine H2.out.mono ?_
  rintro e w2 ⟨rfl, hu2⟩
  have hup0 := hu1.trans hu2
  cases b2
  · go_wp2
    go_ret2
    exact ⟨rfl, hup0⟩
  have HP := Lib.hid (phB_small HB1.out.symm).1
  have HQ := Lib.hid (phB_small HB2.out.symm).1
  clear H1 H2
  go_wp2
  go_loopw [6, 7, 8, 9, 20] (fun m _ _ _ i wr => ∃ (k : Nat) (s : Nat × Nat), k ≤ P.length ∧ i = .int .i64 k ∧ s = allM P Q k ∧ m = .int .i64 s.1 ∧ Up w wr) (fun _ _ _ _ i _ => P.length - (intOf i).toNat)
  case atStart => exact ⟨0, (0, 0), Nat.zero_le _, rfl, rfl, rfl, hup0⟩
  case round =>
    obtain ⟨i, s, hi, rfl, hs, rfl, hup⟩ := hrel
    have hsl := allM_le P Q i
    rw [← hs] at hsl
    obtain ⟨hs1, hs2⟩ := hsl
    have HS := Lib.hid hs
    clear hs
    by_cases hlt : i < P.length
    · obtain ⟨wo, rfl⟩ : ∃ x, x = wr := ⟨_, rfl⟩
      go_wp2
      go_loopw [6, 8, 9, 25] (fun m _ _ k wr => ∃ (q : Nat) (t : Nat × Nat), q ≤ Q.length ∧ k = .int .i64 q ∧ t = rowM P Q i q s ∧ m = .int .i64 t.1 ∧ Up wo wr) (fun _ _ _ k _ => Q.length - (intOf k).toNat)
      case atStart => exact ⟨0, s, Nat.zero_le _, rfl, rfl, rfl, Up.refl _⟩
      case round =>
        obtain ⟨q, t, hq, rfl, ht, rfl, hup2⟩ := hrel
        have htl := rowM_le (P := P) (Q := Q) (i := i) (n := P.length) q s hs1 (by omega) hi
        rw [← ht] at htl
        obtain ⟨ht1, ht2⟩ := htl
        have HT := Lib.hid ht
        clear ht
        by_cases hlt2 : q < Q.length
        · obtain ⟨wi, rfl⟩ : ∃ x, x = wr := ⟨_, rfl⟩
          go_wp2
          go_loopw [9] (fun n wr => ∃ (z : Nat), n = .int .i64 z ∧ i + z ≤ P.length ∧ z + cpl (P.drop (i + z)) (Q.drop (q + z)) = mlB P Q i q ∧ Up wi wr) (fun n _ => P.length - (intOf n).toNat)
          case atStart => exact ⟨0, rfl, by omega, by rw [Nat.zero_add]; rfl, Up.refl _⟩
          case round =>
            obtain ⟨z, rfl, hz, hm, hup3⟩ := hrel
            have HM := Lib.hid hm
            clear hm
            obtain ⟨p, hp⟩ : ∃ p, p = i + z := ⟨_, rfl⟩
            have hwr : IntKind.i64.wrap ((i : Int) + (z : Int)) = (p : Int) := by rw [IntWalk.i64_in _ (by omega)]; omega
            obtain ⟨r, hr0⟩ : ∃ r, r = q + z := ⟨_, rfl⟩
            have hwr2 : IntKind.i64.wrap ((q : Int) + (z : Int)) = (r : Int) := by rw [IntWalk.i64_in _ (by omega)]; omega
            rw [← hp, ← hr0] at HM
            have hupx := hup.trans (hup2.trans hup3)
            by_cases hp1 : p < P.length
            · have hpb : decide ((p : Int) < (P.length : Int)) = true := by simp; omega
              by_cases hr1 : r < Q.length
              · have hrb : decide ((r : Int) < (Q.length : Int)) = true := by simp; omega
                obtain ⟨b1, o1, x, rfl, -, -, hx, z0⟩ := (hr.up hupx hhi).txt hp1
                obtain ⟨b2, o2, y, rfl, -, -, hy, y0⟩ := (hr'.up hupx hhi').txt hr1
                have hxs := HP.out x (List.mem_of_getElem? hx)
                have hys := HQ.out y (List.mem_of_getElem? hy)
                have HX := Lib.hid hx
                have HY := Lib.hid hy
                have c1 : ∀ dd os, Calls Tryz.prog 78 #[.string x, .string y] (grow (redrawn wr dd) os) fun e w'' => e = .returned (.bool (alkB x y)) ∧ ∃ p : Regrown, w'' = grow (redrawn wr p.d) p.os :=
                  fun dd os => Calls.regrown_of (alike_any x y _ hxs hys)
                have Z0 := cell_regrown z0
                have Y0 := cell_regrown y0
                obtain ⟨u, hu⟩ : ∃ u, u = alkB x y := ⟨_, rfl⟩
                rw [← hu] at c1
                have C1 := Lib.hid c1
                clear c1
                have HU := Lib.hid hu
                have HPE := Lib.hid hp
                have HRE := Lib.hid hr0
                clear hu hx hy hp hr0
                go_wp2_with fail
                refine wp_region_quiet_below (by kernel_rfl) (by kernel_rfl) ?_
                repeat (quiet_step ((go_at_call 78; exact C1.out _ _)))
                refine wpQuiet_nil ?_
                intro w7 hw7
                obtain ⟨⟨dq, osq⟩, hw7⟩ := hw7
                have hup7 : Up wr w7 := by rw [hw7]; exact below_regrown _ _ _
                clear hw7 hwr hwr2
                clear Z0 Y0
                cases u
                · skip
                  have HZ := Lib.hid (show mlB P Q i q = z from by have h := HM.out; have h2 := cpl_no HX.out HY.out HU.out.symm; omega)
                  have hmx := Lib.hid (rowM_max P Q i q s)
                  go_wp2
                  go_roundw
                  case rel => exact ⟨q + 1, rowM P Q i (q + 1) s, by omega, by go_num, rfl, by rw [hmx.out, ← HT.out, HZ.out]; first | rfl | (congr 1; omega), hup2.trans (hup3.trans hup7)⟩
                  case measure => simp [intOf]; omega
                · skip
                  go_wp2
                  go_roundw
                  case rel => exact ⟨z + 1, by go_num, by have := HPE.out; omega, by have h := HM.out; have h2 := cpl_yes HX.out HY.out HU.out.symm; rw [show i + (z + 1) = p + 1 by have := HPE.out; omega, show q + (z + 1) = r + 1 by have := HRE.out; omega]; omega, hup3.trans hup7⟩
                  case measure => simp [intOf]; have := HPE.out; omega
              · have hrb : decide ((r : Int) < (Q.length : Int)) = false := by simp; omega
                have HR1 := Lib.hid hr1
                have HPE := Lib.hid hp
                clear hp hr0
                go_wp2_with fail
                refine wp_region_quiet_below (by kernel_rfl) (by kernel_rfl) ?_
                repeat (first | go_big_quiet_step (fail) | quiet_step (fail))
                refine wpQuiet_nil ?_
                intro w7 hw7
                obtain ⟨⟨dq, osq⟩, hw7⟩ := hw7
                have hup7 : Up wr w7 := by rw [hw7]; exact below_regrown _ _ _
                clear hw7 hwr hwr2
                have HZ := Lib.hid (show mlB P Q i q = z from by have h := HM.out; have h2 := cpl_endQ (P := P) (Q := Q) (p := p) (q := r) (by have := HR1.out; omega); omega)
                have hmx := Lib.hid (rowM_max P Q i q s)
                go_wp2
                go_roundw
                case rel => exact ⟨q + 1, rowM P Q i (q + 1) s, by omega, by go_num, rfl, by rw [hmx.out, ← HT.out, HZ.out]; first | rfl | (congr 1; omega), hup2.trans (hup3.trans hup7)⟩
                case measure => simp [intOf]; omega
            · have hpb : decide ((p : Int) < (P.length : Int)) = false := by simp; omega
              have HP1 := Lib.hid hp1
              clear hr0 hp
              go_wp2_with fail
              refine wp_region_quiet_below (by kernel_rfl) (by kernel_rfl) ?_
              repeat (first | go_big_quiet_step (fail) | quiet_step (fail))
              refine wpQuiet_nil ?_
              intro w7 hw7
              obtain ⟨⟨dq, osq⟩, hw7⟩ := hw7
              have hup7 : Up wr w7 := by rw [hw7]; exact below_regrown _ _ _
              clear hw7 hwr hwr2
              have HZ := Lib.hid (show mlB P Q i q = z from by have h := HM.out; have h2 := cpl_endP (P := P) (Q := Q) (p := p) (q := r) (by have := HP1.out; omega); omega)
              have hmx := Lib.hid (rowM_max P Q i q s)
              go_wp2
              go_roundw
              case rel => exact ⟨q + 1, rowM P Q i (q + 1) s, by omega, by go_num, rfl, by rw [hmx.out, ← HT.out, HZ.out]; first | rfl | (congr 1; omega), hup2.trans (hup3.trans hup7)⟩
              case measure => simp [intOf]; omega
        · have HE := Lib.hid (show t = allM P Q (i + 1) by rw [HT.out, show q = Q.length by omega, HS.out]; rfl)
          go_wp2
          go_roundw
          case rel => exact ⟨i + 1, t, by omega, by go_num, HE.out, rfl, hup.trans hup2⟩
          case measure => simp [intOf]; omega
    · have HE := Lib.hid (show s = allM P Q P.length by rw [HS.out, show i = P.length by omega])
      go_wp2
      go_ret2
      exact ⟨ret_ii (by rw [HE.out]; rfl) rfl, hup⟩
end Go.Proofs.YtehoaoeahfmfpaaGreatDoor

namespace Go.Proofs.YtehoaoeahfmfpaaGreatDoor
open Go.RowKit Go.Sort

def bpC (P Q : List ByteArray) (n : Int) : Int := if (phB P && phB Q) = false then 1 else if inB n 1 60 = false then 2 else if (shM P Q : Int) < n then 4 else 0
def bpA (P Q : List ByteArray) (n : Int) : Int := if bpC P Q n = 0 then (shA P Q : Int) else 0
def bpM (P Q : List ByteArray) (n : Int) : Int := if bpC P Q n = 0 then (shM P Q : Int) else 0
theorem bp_1 {P Q : List ByteArray} {n : Int} (h : (phB P && phB Q) = false) : bpC P Q n = 1 ∧ bpA P Q n = 0 ∧ bpM P Q n = 0 := by simp [bpA, bpM, bpC, h]
theorem bp_2 {P Q : List ByteArray} {n : Int} (h : (phB P && phB Q) = true) (h2 : inB n 1 60 = false) : bpC P Q n = 2 ∧ bpA P Q n = 0 ∧ bpM P Q n = 0 := by simp [bpA, bpM, bpC, h, h2]
theorem bp_4 {P Q : List ByteArray} {n : Int} (h : (phB P && phB Q) = true) (h2 : inB n 1 60 = true) (h3 : (shM P Q : Int) < n) : bpC P Q n = 4 ∧ bpA P Q n = 0 ∧ bpM P Q n = 0 := by simp [bpA, bpM, bpC, h, h2, h3]
theorem bp_0 {P Q : List ByteArray} {n : Int} (h : (phB P && phB Q) = true) (h2 : inB n 1 60 = true) (h3 : ¬ (shM P Q : Int) < n) : bpC P Q n = 0 ∧ bpA P Q n = shA P Q ∧ bpM P Q n = shM P Q := by simp [bpA, bpM, bpC, h, h2, h3]
theorem ret_iii {a b c a' b' c' : Int} (h : a = a' ∧ b = b' ∧ c = c') : Ending.returned (.tuple #[.int .i64 a, .int .i64 b, .int .i64 c]) = .returned (.tuple #[.int .i64 a', .int .i64 b', .int .i64 c']) := by rw [h.1, h.2.1, h.2.2]

set_option maxRecDepth 100000 in
set_option maxHeartbeats 4000000 in
theorem specBorrowed_any (A B : Option Addr) (P Q : List ByteArray) (ca cb lo hi lo' hi' : Nat) (n : Int) (w : World) (hr : RdT w lo hi A P) (hhi : hi ≤ w.heap.size) (hr' : RdT w lo' hi' B Q) (hhi' : hi' ≤ w.heap.size)
    (hok : ∀ x ∈ P, x.size ≤ maxLen) (hok' : ∀ x ∈ Q, x.size ≤ maxLen) (hn : P.length ≤ 2000000) (hn' : Q.length ≤ 2000000) :
    Calls Tryz.prog 20 #[.slice A P.length ca, .slice B Q.length cb, .int .i64 n] w fun e w' => e = .returned (.tuple #[.int .i64 (bpA P Q n), .int .i64 (bpM P Q n), .int .i64 (bpC P Q n)]) ∧ Up w w' := by
  have hnot : ∀ (x : Bool) (w : World), (Op.unary .not (.bool x)).run Tryz.prog w = .ok (.bool (!x)) w := fun _ _ => rfl
  obtain ⟨b1, hb1⟩ : ∃ b, b = phB P := ⟨_, rfl⟩
  obtain ⟨b2, hb2⟩ : ∃ b, b = phB Q := ⟨_, rfl⟩
  obtain ⟨b3, hb3⟩ : ∃ b, b = inB n 1 60 := ⟨_, rfl⟩
  have C1 := l10Phrase_any A P ca lo hi _ hr hok (by omega)
  have C2 := l10Phrase_any B Q cb lo' hi' _ hr' hok' (by omega)
  have C3 := l01In_any n 1 60 w
  rw [← hb1] at C1
  rw [← hb2] at C2
  rw [← hb3] at C3
  have H1 := Lib.hid C1
  have H2 := Lib.hid C2
  have H3 := Lib.hid C3
  have HB1 := Lib.hid hb1
  have HB2 := Lib.hid hb2
  have HB3 := Lib.hid hb3
  clear C1 C2 C3 hb1 hb2 hb3 hok hok'
  have HE : Hid ((phB P && phB Q) = (b1 && b2)) := Lib.hid (by rw [HB1.out, HB2.out])
  cases b1
  · have HF := Lib.hid (bp_1 (n := n) (HE.out.trans rfl))
    go_enter Tryz.func20, Tryz.ntmps20
    go_wp2_with fail
    refine H1.out.mono ?_
    rintro e w1 ⟨rfl, rfl⟩
    go_wp2
    go_ret3
    exact ⟨ret_iii ⟨HF.out.2.1.symm, HF.out.2.2.symm, HF.out.1.symm⟩, Up.refl _⟩
  · cases b2
    · have HF := Lib.hid (bp_1 (n := n) (HE.out.trans rfl))
      go_enter Tryz.func20, Tryz.ntmps20
      go_wp2_with fail
      refine H1.out.mono ?_
      rintro e w1 ⟨rfl, rfl⟩
      go_wp2_with fail
      refine H2.out.mono ?_
      rintro e w2 ⟨rfl, rfl⟩
      go_wp2
      go_ret3
      exact ⟨ret_iii ⟨HF.out.2.1.symm, HF.out.2.2.symm, HF.out.1.symm⟩, Up.refl _⟩
    · obtain ⟨p1, p2⟩ := phB_small HB1.out.symm
      obtain ⟨q1, q2⟩ := phB_small HB2.out.symm
      have HS := Lib.hid (l10Shared_any A B P Q ca cb lo hi lo' hi' w hr hhi hr' hhi' p1 q1 (by omega) (by omega))
      have hsm := (allM_le P Q P.length).1
      obtain ⟨M, hM⟩ : ∃ M, M = shM P Q := ⟨_, rfl⟩
      obtain ⟨N, hN⟩ : ∃ N, N = shA P Q := ⟨_, rfl⟩
      rw [← hM, ← hN] at HS
      have hMl : M ≤ P.length := by rw [hM]; exact hsm
      have HM := Lib.hid hM
      have HN := Lib.hid hN
      clear p1 q1 hsm hM hN
      cases b3
      · have HF := Lib.hid (bp_2 (HE.out.trans rfl) HB3.out.symm)
        go_enter Tryz.func20, Tryz.ntmps20
        go_wp2_with fail
        refine H1.out.mono ?_
        rintro e w1 ⟨rfl, rfl⟩
        go_wp2_with fail
        refine H2.out.mono ?_
        rintro e w2 ⟨rfl, rfl⟩
        go_wp2_with fail
        refine H3.out.mono ?_
        rintro e w3 ⟨rfl, rfl⟩
        go_wp2
        go_ret3
        exact ⟨ret_iii ⟨HF.out.2.1.symm, HF.out.2.2.symm, HF.out.1.symm⟩, Up.refl _⟩
      · by_cases hlt : (M : Int) < n
        · have HF := Lib.hid (bp_4 (HE.out.trans rfl) HB3.out.symm (by rw [← HM.out]; exact hlt))
          go_enter Tryz.func20, Tryz.ntmps20
          go_wp2_with fail
          refine H1.out.mono ?_
          rintro e w1 ⟨rfl, rfl⟩
          go_wp2_with fail
          refine H2.out.mono ?_
          rintro e w2 ⟨rfl, rfl⟩
          go_wp2_with fail
          refine H3.out.mono ?_
          rintro e w3 ⟨rfl, rfl⟩
          go_wp2_with fail
          refine HS.out.mono ?_
          rintro e w4 ⟨rfl, hu4⟩
          go_wp2
          go_ret3
          exact ⟨ret_iii ⟨HF.out.2.1.symm, HF.out.2.2.symm, HF.out.1.symm⟩, hu4⟩
        · have HF := Lib.hid (bp_0 (HE.out.trans rfl) HB3.out.symm (by rw [← HM.out]; exact hlt))
          go_enter Tryz.func20, Tryz.ntmps20
          go_wp2_with fail
          refine H1.out.mono ?_
          rintro e w1 ⟨rfl, rfl⟩
          go_wp2_with fail
          refine H2.out.mono ?_
          rintro e w2 ⟨rfl, rfl⟩
          go_wp2_with fail
          refine H3.out.mono ?_
          rintro e w3 ⟨rfl, rfl⟩
          go_wp2_with fail
          refine HS.out.mono ?_
          rintro e w4 ⟨rfl, hu4⟩
          go_wp2
          go_ret3
          exact ⟨ret_iii ⟨by rw [HN.out]; exact HF.out.2.1.symm, by rw [HM.out]; exact HF.out.2.2.symm, HF.out.1.symm⟩, hu4⟩

set_option maxRecDepth 100000 in
set_option maxHeartbeats 4000000 in
theorem implBorrowed_any (A B : Option Addr) (P Q : List ByteArray) (ca cb lo hi lo' hi' : Nat) (n : Int) (w : World) (hr : RdT w lo hi A P) (hhi : hi ≤ w.heap.size) (hr' : RdT w lo' hi' B Q) (hhi' : hi' ≤ w.heap.size)
    (hok : ∀ x ∈ P, x.size ≤ maxLen) (hok' : ∀ x ∈ Q, x.size ≤ maxLen) (hn : P.length ≤ 2000000) (hn' : Q.length ≤ 2000000) (hca : P.length ≤ ca) (hcb : Q.length ≤ cb) :
    Calls Tryz.prog 19 #[.slice A P.length ca, .slice B Q.length cb, .int .i64 n] w fun e w' => e = .returned (.tuple #[.int .i64 (bpA P Q n), .int .i64 (bpM P Q n), .int .i64 (bpC P Q n)]) ∧ Up w w' := by
  have hnot : ∀ (x : Bool) (w : World), (Op.unary .not (.bool x)).run Tryz.prog w = .ok (.bool (!x)) w := fun _ _ => rfl
  obtain ⟨b0, hb0⟩ : ∃ b, b = (phB P && phB Q) := ⟨_, rfl⟩
  obtain ⟨b3, hb3⟩ : ∃ b, b = inB n 1 60 := ⟨_, rfl⟩
  have C1 := sharedWords_any A B P Q ca cb lo hi lo' hi' w hr hhi hr' hhi' hok hok' hn hn'
  have C3 := fun wx => within_any n 1 60 wx
  rw [← hb0] at C1
  simp only [← hb3] at C3
  have hsm := (allM_le P Q P.length).1
  obtain ⟨M, hM⟩ : ∃ M, M = shM P Q := ⟨_, rfl⟩
  obtain ⟨N, hN⟩ : ∃ N, N = shA P Q := ⟨_, rfl⟩
  rw [← hM] at C1
  have hMl : M ≤ P.length := by rw [hM]; exact hsm
  have H3 := Lib.hid C3
  have HB0 := Lib.hid hb0
  have HB3 := Lib.hid hb3
  have HM := Lib.hid hM
  have HN := Lib.hid hN
  clear C3 hb0 hb3 hok hok' hsm hM hN
  cases b0
  · have HF := Lib.hid (bp_1 (n := n) HB0.out.symm)
    have H1 := Lib.hid C1
    clear C1
    go_enter Tryz.func19, Tryz.ntmps19
    go_wp2_with fail
    refine H1.out.mono ?_
    rintro e w1 ⟨rfl, hu1⟩
    go_wp2
    go_ret3
    exact ⟨ret_iii ⟨HF.out.2.1.symm, HF.out.2.2.symm, HF.out.1.symm⟩, hu1⟩
  simp only [if_true] at C1
  have H1 := Lib.hid C1
  clear C1
  cases b3
  · have HF := Lib.hid (bp_2 HB0.out.symm HB3.out.symm)
    go_enter Tryz.func19, Tryz.ntmps19
    go_wp2_with fail
    refine H1.out.mono ?_
    rintro e w1 ⟨rfl, hu1⟩
    go_wp2_with fail
    refine (H3.out _).mono ?_
    rintro e w3 ⟨rfl, rfl⟩
    go_wp2
    go_ret3
    exact ⟨ret_iii ⟨HF.out.2.1.symm, HF.out.2.2.symm, HF.out.1.symm⟩, hu1⟩
  by_cases hlt : (M : Int) < n
  · have HF := Lib.hid (bp_4 HB0.out.symm HB3.out.symm (by rw [← HM.out]; exact hlt))
    go_enter Tryz.func19, Tryz.ntmps19
    go_wp2_with fail
    refine H1.out.mono ?_
    rintro e w1 ⟨rfl, hu1⟩
    go_wp2_with fail
    refine (H3.out _).mono ?_
    rintro e w3 ⟨rfl, rfl⟩
    go_wp2
    go_ret3
    exact ⟨ret_iii ⟨HF.out.2.1.symm, HF.out.2.2.symm, HF.out.1.symm⟩, hu1⟩
  have HF := Lib.hid (bp_0 HB0.out.symm HB3.out.symm (by rw [← HM.out]; exact hlt))
  have hbb := HB0.out.symm
  rw [Bool.and_eq_true] at hbb
  obtain ⟨p1, p2⟩ := phB_small hbb.1
  obtain ⟨q1, q2⟩ := phB_small hbb.2
  have hn1 := (inB_iff.1 HB3.out.symm).1
  have hM0 : 0 < M := by omega
  have HP1 := Lib.hid p1
  have HQ1 := Lib.hid q1
  have hth := fd_there (P := P) (Q := Q) (by rw [← HM.out]; exact hM0)
  rw [← HM.out, ← HN.out] at hth
  obtain ⟨hNM, hne⟩ := hth
  have HNE := Lib.hid hne
  have HEM := Lib.hid (fun at_ (h : at_ < N) => by
    have := fd_empty (P := P) (Q := Q) (at_ := at_) (by rw [← HN.out]; exact h) (by rw [← HM.out]; exact hM0)
    rw [← HM.out] at this
    exact this.2)
  clear p1 q1 hbb hne hn1
  go_enter Tryz.func19, Tryz.ntmps19
  go_wp2_with fail
  refine H1.out.mono ?_
  rintro e w1 ⟨rfl, hu1⟩
  go_wp2_with fail
  refine (H3.out _).mono ?_
  rintro e w3 ⟨rfl, rfl⟩
  go_wp2
  go_loopw [11] (fun a wr => ∃ k : Nat, k ≤ N ∧ a = .int .i64 k ∧ Up w wr) (fun a _ => N - (intOf a).toNat)
  case atStart => exact ⟨0, Nat.zero_le _, rfl, hu1⟩
  case round =>
    obtain ⟨k, hk, rfl, hup⟩ := hrel
    obtain ⟨b, off, x, rfl, -, -, -, -⟩ := (hr.up hup hhi).txt (show k < P.length by omega)
    obtain ⟨A2, hA2, hcut⟩ := run_sliceMid (P := Tryz.prog) (t := 23) Tryz.underlying23 (fun _ => rfl) b off P.length ca k (k + M) (by omega) (by omega)
    obtain rfl : A2 = some ⟨b, off + k, none⟩ := by
      rcases hA2 with e | e
      · exact e
      · omega
    have hcut2 : ∀ wx, (Instr.sliceAt 23 (.slice (some ⟨b, off, none⟩) P.length ca) (some (.int .i64 (k : Int))) (some (.int .i64 ((k : Int) + (M : Int)))) none).run Tryz.prog wx = .ok (.slice (some ⟨b, off + k, none⟩) M (ca - k)) wx := fun wx => by
      have := hcut .i64 .i64 (k : Int) ((k : Int) + (M : Int)) wx rfl (by omega)
      rwa [show k + M - k = M by omega] at this
    have hsl := sub_len (l := P) (j := k) (m := M) (by omega)
    have hC := findWords_any B (some ⟨b, off + k, none⟩) Q ((P.drop k).take M) cb (ca - k) lo' hi' lo hi wr (hr'.up hup hhi') (Nat.le_trans hhi' hup.size) (Rd.sub (hr.up hup hhi) k M) (Nat.le_trans hhi hup.size) HQ1.out (fun x hx => HP1.out x (sub_mem hx)) (by omega) (by omega) hcb
    rw [hsl] at hC
    obtain ⟨L, hL⟩ : ∃ L, L = fdL Q ((P.drop k).take M) := ⟨_, rfl⟩
    rw [← hL] at hC
    have HC := Lib.hid hC
    have HL := Lib.hid hL
    have hLl : L.length ≤ 60 := by rw [hL]; exact Nat.le_trans (pl_len _ _) q2
    clear hC hcut hsl hL
    go_wp2_with fail
    refine HC.out.mono ?_
    rintro e w5 ⟨v, rfl, hown, hu5⟩
    obtain ⟨A5, c5, rfl, -, -, -, -⟩ := own_form hown
    clear hown
    by_cases hkN : k < N
    · have he := HEM.out k hkN
      rw [← HL.out] at he
      have hl0 : ((L.length : Int) == 0) = true := by rw [he]; rfl
      clear he
      go_wp2
      go_roundw
      case rel => exact ⟨k + 1, by omega, by go_num, hup.trans hu5⟩
      case measure => simp [intOf]; omega
    · obtain rfl : k = N := by omega
      have hl0 : ((L.length : Int) == 0) = false := by
        rw [beq_eq_false_iff_ne]
        intro e
        have : L = [] := List.eq_nil_of_length_eq_zero (by omega)
        rw [HL.out] at this
        exact HNE.out this
      go_wp2
      go_ret3
      exact ⟨ret_iii ⟨by rw [HN.out]; exact HF.out.2.1.symm, by rw [HM.out]; exact HF.out.2.2.symm, HF.out.1.symm⟩, hup.trans hu5⟩
end Go.Proofs.YtehoaoeahfmfpaaGreatDoor
