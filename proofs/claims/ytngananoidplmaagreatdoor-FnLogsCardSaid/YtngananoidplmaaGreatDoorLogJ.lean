/- LogText by the program. -/
import Derived.Test.YtngananoidplmaaGreatDoorLogI
namespace Go.Proofs.YtngananoidplmaaGreatDoor
open Go.RowKit Go.Sort

theorem join_nilsep : ∀ xs : List (List UInt8), Lib.join xs [] = xs.flatten
  | [] => rfl
  | [x] => by simp [Lib.join, List.intercalate]
  | x :: y :: xs => by
    have := join_nilsep (y :: xs)
    simp only [Lib.join, List.intercalate] at this ⊢
    simp [List.intersperse, this]
theorem lsL_size {l : List Dec} (h : ∀ d ∈ l, decB d = true) (c : Nat) : (txL l c).length ≤ 80 * l.length := by
  induction l generalizing c with
  | nil => simp [txL]
  | cons d l ih =>
    have h1 := lnD_size (c := ckD c d) (h d (by simp)) (ckN_lt _ _ _ _)
    have h2 := ih (fun x hx => h x (by simp [hx])) (ckD c d)
    simp only [txL, List.length_append, List.length_cons, List.length_nil, Array.length_toList]
    have : (lnD (ckD c d) d).data.size = (lnD (ckD c d) d).size := rfl
    omega

set_option maxRecDepth 100000 in
set_option maxHeartbeats 2000000 in
theorem implLogText_any (A : Option Addr) (l : List Dec) (c lo hi : Nat) (w : World) (hr : RdD w lo hi A l) (hhi : hi ≤ w.heap.size) (hok : ∀ d ∈ l, d.ok) (hn : l.length ≤ 2000000) (hc : l.length ≤ c) (hcm : c ≤ maxLen) (ht : TabU w) :
    Calls Tryz.prog 12 #[.slice A l.length c] w fun e w' => e = .returned (.tuple #[.string (ltV l), .int .i64 (ltC l)]) ∧ Up w w' := by
  have hI := implIsLog_any A l c lo hi w hr hhi hok hn hc hcm
  obtain ⟨b1, hb1⟩ : ∃ b, b = logB l := ⟨_, rfl⟩
  rw [← hb1] at hI
  have HI := Lib.hid hI
  clear hI hok
  cases b1
  · have HF := Lib.hid (lt_1 hb1.symm)
    clear hb1
    go_enter Tryz.func12, Tryz.ntmps12
    go_wp2_with fail
    refine HI.out.mono ?_
    rintro e w1 ⟨rfl, hu1⟩
    go_wp2
    go_ret2
    exact ⟨ret_siL HF.out.2.symm HF.out.1.symm, hu1⟩
  · have HF := Lib.hid (lt_0 hb1.symm)
    have HLS := Lib.hid (fun (wx : World) (hx : Up w wx) => linesOf_any A l c lo hi wx (hr.up hx hhi) (Nat.le_trans hhi hx.size) hb1.symm (ht.up hx))
    have hsz := lsL_size (logB_dec hb1.symm) 0
    have h80 := logB_len hb1.symm
    have hll := lsL_len l 0
    have HFL := Lib.hid (lsL_flat l 0)
    clear hb1
    go_enter Tryz.func12, Tryz.ntmps12
    go_wp2_with fail
    refine HI.out.mono ?_
    rintro e w1 ⟨rfl, hu1⟩
    go_wp2_with fail
    refine (HLS.out _ hu1).mono ?_
    rintro e w2 ⟨v, rfl, ho, hu2⟩
    obtain ⟨S, hS⟩ : ∃ S, S = lsL l 0 := ⟨_, rfl⟩
    rw [← hS] at ho hll HFL
    have hS80 : S.length ≤ 80 := by omega
    clear hll
    obtain ⟨A2, c2, rfl, hc2, hcm2, hA2, -⟩ := own_form ho
    have hrd := Rd.own strC_len ho
    have HU := hu1.trans hu2
    have hjl : Lib.join (S.map (·.data.toList)) (⟨#[]⟩ : ByteArray).data.toList = txL l 0 := by
      show Lib.join _ [] = _
      rw [join_nilsep, ← HFL.out, List.flatMap]
    rcases Nat.eq_zero_or_pos S.length with h0 | h0
    · have hS0 : S = [] := List.eq_nil_of_length_eq_zero h0
      have hJ := Tryz.strings_Join_none A2 c2 ⟨#[]⟩ w2
      have HE := Lib.hid (show txL l 0 = [] by rw [← HFL.out, hS0]; rfl)
      have HJ := Lib.hid hJ
      rw [h0]
      clear hS0 hS ho hrd hjl hJ h0
      go_wp2_with fail
      refine HJ.out.mono ?_
      rintro e w3 ⟨rfl, rfl⟩
      go_wp2
      go_ret2
      exact ⟨ret_siL (by rw [HF.out.2, HE.out]) HF.out.1.symm, HU⟩
    · obtain ⟨g, rfl, hg1, hg2⟩ := hA2 h0
      have hJ := Tryz.strings_Join g 0 c2 S ⟨#[]⟩ w2 (fun j x hx => by
        have hj := (List.getElem?_eq_some_iff.1 hx).1
        obtain ⟨b, off, z, e, -, -, hz, q0⟩ := hrd.txt hj
        cases e
        rw [hz] at hx; cases hx
        exact q0) hg2 (by omega) hc2 (by rw [hjl]; omega)
      rw [hjl] at hJ
      have HJ := Lib.hid hJ
      clear hJ hjl hrd ho hS
      go_wp2_with fail
      refine HJ.out.mono ?_
      rintro e w3 ⟨rfl, hu3⟩
      go_wp2
      go_ret2
      exact ⟨ret_siL HF.out.2.symm HF.out.1.symm, HU.trans hu3⟩
end Go.Proofs.YtngananoidplmaaGreatDoor
