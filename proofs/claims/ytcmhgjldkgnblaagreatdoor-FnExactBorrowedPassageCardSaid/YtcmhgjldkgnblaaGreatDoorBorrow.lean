/- BorrowedPassage: the reference's and the program's walks. -/
import Derived.Test.YtcmhgjldkgnblaaGreatDoorShareI
namespace Go.Proofs.YtcmhgjldkgnblaaGreatDoor
open Go.RowKit Go.Sort

def bpC (P Q : List ByteArray) (n : Int) : Int := if (phB P && phB Q) = false then 1 else if inB n 1 60 = false then 2 else if (shM P Q : Int) < n then 4 else 0
def bpA (P Q : List ByteArray) (n : Int) : Int := if bpC P Q n = 0 then (shA P Q : Int) else 0
def bpM (P Q : List ByteArray) (n : Int) : Int := if bpC P Q n = 0 then (shM P Q : Int) else 0
theorem bp_1 {P Q : List ByteArray} {n : Int} (h : (phB P && phB Q) = false) : bpC P Q n = 1 ∧ bpA P Q n = 0 ∧ bpM P Q n = 0 := by simp [bpA, bpM, bpC, h]
theorem bp_2 {P Q : List ByteArray} {n : Int} (h : (phB P && phB Q) = true) (h2 : inB n 1 60 = false) : bpC P Q n = 2 ∧ bpA P Q n = 0 ∧ bpM P Q n = 0 := by simp [bpA, bpM, bpC, h, h2]
theorem bp_4 {P Q : List ByteArray} {n : Int} (h : (phB P && phB Q) = true) (h2 : inB n 1 60 = true) (h3 : (shM P Q : Int) < n) : bpC P Q n = 4 ∧ bpA P Q n = 0 ∧ bpM P Q n = 0 := by simp [bpA, bpM, bpC, h, h2, h3]
theorem bp_0 {P Q : List ByteArray} {n : Int} (h : (phB P && phB Q) = true) (h2 : inB n 1 60 = true) (h3 : ¬ (shM P Q : Int) < n) : bpC P Q n = 0 ∧ bpA P Q n = shA P Q ∧ bpM P Q n = shM P Q := by simp [bpA, bpM, bpC, h, h2, h3]
theorem ret_iii {a b c a' b' c' : Int} (h : a = a' ∧ b = b' ∧ c = c') : Ending.returned (.tuple #[.int .i64 a, .int .i64 b, .int .i64 c]) = .returned (.tuple #[.int .i64 a', .int .i64 b', .int .i64 c']) := by rw [h.1, h.2.1, h.2.2]

set_option maxRecDepth 100000 in
set_option maxHeartbeats 4000000 in
theorem specBorrowed_any (A B : Option Addr) (P Q : List ByteArray) (ca cb lo hi lo' hi' : Nat) (n : Int) (w : World) (hr : RdT w lo hi A P) (hhi : hi ≤ w.heap.size) (hr' : RdT w lo' hi' B Q) (hhi' : hi' ≤ w.heap.size)
    (hok : ∀ x ∈ P, x.size ≤ maxLen) (hok' : ∀ x ∈ Q, x.size ≤ maxLen) (hn : P.length ≤ 2000000) (hn' : Q.length ≤ 2000000) :
    Calls Tryz.prog 6 #[.slice A P.length ca, .slice B Q.length cb, .int .i64 n] w fun e w' => e = .returned (.tuple #[.int .i64 (bpA P Q n), .int .i64 (bpM P Q n), .int .i64 (bpC P Q n)]) ∧ Up w w' := by
  have hnot : ∀ (x : Bool) (w : World), (Op.unary .not (.bool x)).run Tryz.prog w = .ok (.bool (!x)) w := fun _ _ => rfl
  obtain ⟨b1, hb1⟩ : ∃ b, b = phB P := ⟨_, rfl⟩
  obtain ⟨b2, hb2⟩ : ∃ b, b = phB Q := ⟨_, rfl⟩
  obtain ⟨b3, hb3⟩ : ∃ b, b = inB n 1 60 := ⟨_, rfl⟩
  have C1 := l10Phrase_any A P ca lo hi _ hr hok (by omega)
  have C2 := l10Phrase_any B Q cb lo' hi' _ hr' hok' (by omega)
  have C3 := l01In_any n 1 60 w
  rw [← hb1] at C1
  rw [← hb2] at C2
  rw [← hb3] at C3
  have H1 := Lib.hid C1
  have H2 := Lib.hid C2
  have H3 := Lib.hid C3
  have HB1 := Lib.hid hb1
  have HB2 := Lib.hid hb2
  have HB3 := Lib.hid hb3
  clear C1 C2 C3 hb1 hb2 hb3 hok hok'
  have HE : Hid ((phB P && phB Q) = (b1 && b2)) := Lib.hid (by rw [HB1.out, HB2.out])
  cases b1
  · have HF := Lib.hid (bp_1 (n := n) (HE.out.trans rfl))
    go_enter Tryz.func6, Tryz.ntmps6
    go_wp2_with fail
    refine H1.out.mono ?_
    rintro e w1 ⟨rfl, rfl⟩
    go_wp2
    go_ret3
    exact ⟨ret_iii ⟨HF.out.2.1.symm, HF.out.2.2.symm, HF.out.1.symm⟩, Up.refl _⟩
  · cases b2
    · have HF := Lib.hid (bp_1 (n := n) (HE.out.trans rfl))
      go_enter Tryz.func6, Tryz.ntmps6
      go_wp2_with fail
      refine H1.out.mono ?_
      rintro e w1 ⟨rfl, rfl⟩
      go_wp2_with fail
      refine H2.out.mono ?_
      rintro e w2 ⟨rfl, rfl⟩
      go_wp2
      go_ret3
      exact ⟨ret_iii ⟨HF.out.2.1.symm, HF.out.2.2.symm, HF.out.1.symm⟩, Up.refl _⟩
    · obtain ⟨p1, p2⟩ := phB_small HB1.out.symm
      obtain ⟨q1, q2⟩ := phB_small HB2.out.symm
      have HS := Lib.hid (l10Shared_any A B P Q ca cb lo hi lo' hi' w hr hhi hr' hhi' p1 q1 (by omega) (by omega))
      have hsm := (allM_le P Q P.length).1
      obtain ⟨M, hM⟩ : ∃ M, M = shM P Q := ⟨_, rfl⟩
      obtain ⟨N, hN⟩ : ∃ N, N = shA P Q := ⟨_, rfl⟩
      rw [← hM, ← hN] at HS
      have hMl : M ≤ P.length := by rw [hM]; exact hsm
      have HM := Lib.hid hM
      have HN := Lib.hid hN
      clear p1 q1 hsm hM hN
      cases b3
      · have HF := Lib.hid (bp_2 (HE.out.trans rfl) HB3.out.symm)
        go_enter Tryz.func6, Tryz.ntmps6
        go_wp2_with fail
        refine H1.out.mono ?_
        rintro e w1 ⟨rfl, rfl⟩
        go_wp2_with fail
        refine H2.out.mono ?_
        rintro e w2 ⟨rfl, rfl⟩
        go_wp2_with fail
        refine H3.out.mono ?_
        rintro e w3 ⟨rfl, rfl⟩
        go_wp2
        go_ret3
        exact ⟨ret_iii ⟨HF.out.2.1.symm, HF.out.2.2.symm, HF.out.1.symm⟩, Up.refl _⟩
      · by_cases hlt : (M : Int) < n
        · have HF := Lib.hid (bp_4 (HE.out.trans rfl) HB3.out.symm (by rw [← HM.out]; exact hlt))
          go_enter Tryz.func6, Tryz.ntmps6
          go_wp2_with fail
          refine H1.out.mono ?_
          rintro e w1 ⟨rfl, rfl⟩
          go_wp2_with fail
          refine H2.out.mono ?_
          rintro e w2 ⟨rfl, rfl⟩
          go_wp2_with fail
          refine H3.out.mono ?_
          rintro e w3 ⟨rfl, rfl⟩
          go_wp2_with fail
          refine HS.out.mono ?_
          rintro e w4 ⟨rfl, hu4⟩
          go_wp2
          go_ret3
          exact ⟨ret_iii ⟨HF.out.2.1.symm, HF.out.2.2.symm, HF.out.1.symm⟩, hu4⟩
        · have HF := Lib.hid (bp_0 (HE.out.trans rfl) HB3.out.symm (by rw [← HM.out]; exact hlt))
          go_enter Tryz.func6, Tryz.ntmps6
          go_wp2_with fail
          refine H1.out.mono ?_
          rintro e w1 ⟨rfl, rfl⟩
          go_wp2_with fail
          refine H2.out.mono ?_
          rintro e w2 ⟨rfl, rfl⟩
          go_wp2_with fail
          refine H3.out.mono ?_
          rintro e w3 ⟨rfl, rfl⟩
          go_wp2_with fail
          refine HS.out.mono ?_
          rintro e w4 ⟨rfl, hu4⟩
          go_wp2
          go_ret3
          exact ⟨ret_iii ⟨by rw [HN.out]; exact HF.out.2.1.symm, by rw [HM.out]; exact HF.out.2.2.symm, HF.out.1.symm⟩, hu4⟩

set_option maxRecDepth 100000 in
set_option maxHeartbeats 4000000 in
theorem implBorrowed_any (A B : Option Addr) (P Q : List ByteArray) (ca cb lo hi lo' hi' : Nat) (n : Int) (w : World) (hr : RdT w lo hi A P) (hhi : hi ≤ w.heap.size) (hr' : RdT w lo' hi' B Q) (hhi' : hi' ≤ w.heap.size)
    (hok : ∀ x ∈ P, x.size ≤ maxLen) (hok' : ∀ x ∈ Q, x.size ≤ maxLen) (hn : P.length ≤ 2000000) (hn' : Q.length ≤ 2000000) (hca : P.length ≤ ca) (hcb : Q.length ≤ cb) :
    Calls Tryz.prog 8 #[.slice A P.length ca, .slice B Q.length cb, .int .i64 n] w fun e w' => e = .returned (.tuple #[.int .i64 (bpA P Q n), .int .i64 (bpM P Q n), .int .i64 (bpC P Q n)]) ∧ Up w w' := by
  have hnot : ∀ (x : Bool) (w : World), (Op.unary .not (.bool x)).run Tryz.prog w = .ok (.bool (!x)) w := fun _ _ => rfl
  obtain ⟨b0, hb0⟩ : ∃ b, b = (phB P && phB Q) := ⟨_, rfl⟩
  obtain ⟨b3, hb3⟩ : ∃ b, b = inB n 1 60 := ⟨_, rfl⟩
  have C1 := sharedWords_any A B P Q ca cb lo hi lo' hi' w hr hhi hr' hhi' hok hok' hn hn'
  have C3 := fun wx => within_any n 1 60 wx
  rw [← hb0] at C1
  simp only [← hb3] at C3
  have hsm := (allM_le P Q P.length).1
  obtain ⟨M, hM⟩ : ∃ M, M = shM P Q := ⟨_, rfl⟩
  obtain ⟨N, hN⟩ : ∃ N, N = shA P Q := ⟨_, rfl⟩
  rw [← hM] at C1
  have hMl : M ≤ P.length := by rw [hM]; exact hsm
  have H3 := Lib.hid C3
  have HB0 := Lib.hid hb0
  have HB3 := Lib.hid hb3
  have HM := Lib.hid hM
  have HN := Lib.hid hN
  clear C3 hb0 hb3 hok hok' hsm hM hN
  cases b0
  · have HF := Lib.hid (bp_1 (n := n) HB0.out.symm)
    have H1 := Lib.hid C1
    clear C1
    go_enter Tryz.func8, Tryz.ntmps8
    go_wp2_with fail
    refine H1.out.mono ?_
    rintro e w1 ⟨rfl, hu1⟩
    go_wp2
    go_ret3
    exact ⟨ret_iii ⟨HF.out.2.1.symm, HF.out.2.2.symm, HF.out.1.symm⟩, hu1⟩
  simp only [if_true] at C1
  have H1 := Lib.hid C1
  clear C1
  cases b3
  · have HF := Lib.hid (bp_2 HB0.out.symm HB3.out.symm)
    go_enter Tryz.func8, Tryz.ntmps8
    go_wp2_with fail
    refine H1.out.mono ?_
    rintro e w1 ⟨rfl, hu1⟩
    go_wp2_with fail
    refine (H3.out _).mono ?_
    rintro e w3 ⟨rfl, rfl⟩
    go_wp2
    go_ret3
    exact ⟨ret_iii ⟨HF.out.2.1.symm, HF.out.2.2.symm, HF.out.1.symm⟩, hu1⟩
  by_cases hlt : (M : Int) < n
  · have HF := Lib.hid (bp_4 HB0.out.symm HB3.out.symm (by rw [← HM.out]; exact hlt))
    go_enter Tryz.func8, Tryz.ntmps8
    go_wp2_with fail
    refine H1.out.mono ?_
    rintro e w1 ⟨rfl, hu1⟩
    go_wp2_with fail
    refine (H3.out _).mono ?_
    rintro e w3 ⟨rfl, rfl⟩
    go_wp2
    go_ret3
    exact ⟨ret_iii ⟨HF.out.2.1.symm, HF.out.2.2.symm, HF.out.1.symm⟩, hu1⟩
  have HF := Lib.hid (bp_0 HB0.out.symm HB3.out.symm (by rw [← HM.out]; exact hlt))
  have hbb := HB0.out.symm
  rw [Bool.and_eq_true] at hbb
  obtain ⟨p1, p2⟩ := phB_small hbb.1
  obtain ⟨q1, q2⟩ := phB_small hbb.2
  have hn1 := (inB_iff.1 HB3.out.symm).1
  have hM0 : 0 < M := by omega
  have HP1 := Lib.hid p1
  have HQ1 := Lib.hid q1
  have hth := fd_there (P := P) (Q := Q) (by rw [← HM.out]; exact hM0)
  rw [← HM.out, ← HN.out] at hth
  obtain ⟨hNM, hne⟩ := hth
  have HNE := Lib.hid hne
  have HEM := Lib.hid (fun at_ (h : at_ < N) => by
    have := fd_empty (P := P) (Q := Q) (at_ := at_) (by rw [← HN.out]; exact h) (by rw [← HM.out]; exact hM0)
    rw [← HM.out] at this
    exact this.2)
  clear p1 q1 hbb hne hn1
  go_enter Tryz.func8, Tryz.ntmps8
  go_wp2_with fail
  refine H1.out.mono ?_
  rintro e w1 ⟨rfl, hu1⟩
  go_wp2_with fail
  refine (H3.out _).mono ?_
  rintro e w3 ⟨rfl, rfl⟩
  go_wp2
  go_loopw [11] (fun a wr => ∃ k : Nat, k ≤ N ∧ a = .int .i64 k ∧ Up w wr) (fun a _ => N - (intOf a).toNat)
  case atStart => exact ⟨0, Nat.zero_le _, rfl, hu1⟩
  case round =>
    obtain ⟨k, hk, rfl, hup⟩ := hrel
    obtain ⟨b, off, x, rfl, -, -, -, -⟩ := (hr.up hup hhi).txt (show k < P.length by omega)
    obtain ⟨A2, hA2, hcut⟩ := run_sliceMid (P := Tryz.prog) (t := 22) Tryz.underlying22 (fun _ => rfl) b off P.length ca k (k + M) (by omega) (by omega)
    obtain rfl : A2 = some ⟨b, off + k, none⟩ := by
      rcases hA2 with e | e
      · exact e
      · omega
    have hcut2 : ∀ wx, (Instr.sliceAt 22 (.slice (some ⟨b, off, none⟩) P.length ca) (some (.int .i64 (k : Int))) (some (.int .i64 ((k : Int) + (M : Int)))) none).run Tryz.prog wx = .ok (.slice (some ⟨b, off + k, none⟩) M (ca - k)) wx := fun wx => by
      have := hcut .i64 .i64 (k : Int) ((k : Int) + (M : Int)) wx rfl (by omega)
      rwa [show k + M - k = M by omega] at this
    have hsl := sub_len (l := P) (j := k) (m := M) (by omega)
    have hC := findWords_any B (some ⟨b, off + k, none⟩) Q ((P.drop k).take M) cb (ca - k) lo' hi' lo hi wr (hr'.up hup hhi') (Nat.le_trans hhi' hup.size) (Rd.sub (hr.up hup hhi) k M) (Nat.le_trans hhi hup.size) HQ1.out (fun x hx => HP1.out x (sub_mem hx)) (by omega) (by omega) hcb
    rw [hsl] at hC
    obtain ⟨L, hL⟩ : ∃ L, L = fdL Q ((P.drop k).take M) := ⟨_, rfl⟩
    rw [← hL] at hC
    have HC := Lib.hid hC
    have HL := Lib.hid hL
    have hLl : L.length ≤ 60 := by rw [hL]; exact Nat.le_trans (pl_len _ _) q2
    clear hC hcut hsl hL
    go_wp2_with fail
    refine HC.out.mono ?_
    rintro e w5 ⟨v, rfl, hown, hu5⟩
    obtain ⟨A5, c5, rfl, -, -, -, -⟩ := own_form hown
    clear hown
    by_cases hkN : k < N
    · have he := HEM.out k hkN
      rw [← HL.out] at he
      have hl0 : ((L.length : Int) == 0) = true := by rw [he]; rfl
      clear he
      go_wp2
      go_roundw
      case rel => exact ⟨k + 1, by omega, by go_num, hup.trans hu5⟩
      case measure => simp [intOf]; omega
    · obtain rfl : k = N := by omega
      have hl0 : ((L.length : Int) == 0) = false := by
        rw [beq_eq_false_iff_ne]
        intro e
        have : L = [] := List.eq_nil_of_length_eq_zero (by omega)
        rw [HL.out] at this
        exact HNE.out this
      go_wp2
      go_ret3
      exact ⟨ret_iii ⟨by rw [HN.out]; exact HF.out.2.1.symm, by rw [HM.out]; exact HF.out.2.2.symm, HF.out.1.symm⟩, hup.trans hu5⟩
end Go.Proofs.YtcmhgjldkgnblaaGreatDoor
