/- AncestorsOf and StemmaDepth: the reference's and the program's walks. -/
import Derived.Test.YtncmenfdnpmblaaDoorStemC
namespace Go.Proofs.YtncmenfdnpmblaaDoor
open Go.RowKit Go.Sort

def aoC (P : List PC) (ps : List Int) (i : Int) : Int := stC true P ps [i]
def aoL (P : List PC) (ps : List Int) (i : Int) : List Int := if aoC P ps i = 0 then lnL ps i else []
theorem ao_no {P : List PC} {ps : List Int} {i : Int} (h : (aoC P ps i != 0) = true) : aoL P ps i = [] := by unfold aoL; rw [if_neg (by simpa using h)]
theorem ao_yes {P : List PC} {ps : List Int} {i : Int} (h : aoC P ps i = 0) : aoL P ps i = lnL ps i := by unfold aoL; rw [if_pos h]
theorem ao_len (P : List PC) (ps : List Int) (i : Int) : (aoL P ps i).length ≤ ps.length + 1 := by
  unfold aoL; split
  · exact ln_len _ _
  · simp

set_option maxRecDepth 100000 in
set_option maxHeartbeats 4000000 in
theorem specAncestors_any (A : Option Addr) (l : List Cp) (c : Nat) (B : Option Addr) (ps : List Int) (cb lo hi lo' hi' : Nat) (i : Int) (w : World) (hr : RdC w lo hi A l) (hhi : hi ≤ w.heap.size) (hf : Fit l c) (hr' : RdI w lo' hi' B ps) (hhi' : hi' ≤ w.heap.size) (hn' : ps.length ≤ 2000000) :
    Calls Tryd.prog 11 #[.slice A l.length c, .slice B ps.length cb, .int .i64 i] w fun e w' => ∃ v, e = .returned (.tuple #[v, .int .i64 (aoC (l.map Cp.p) ps i)]) ∧ w'.ownsRow w.heap.size 2 1 v (aoL (l.map Cp.p) ps i).length ((aoL (l.map Cp.p) ps i).flatMap intCells) ∧ Up w w' := by
  have HC := Lib.hid (l23Code_any true A l c B ps cb lo hi lo' hi' i i w hr hhi hf hr' hhi' hn')
  rw [stC_dup] at HC
  clear hf
  by_cases h0 : aoC (l.map Cp.p) ps i = 0
  · have h0' : (stC true (l.map Cp.p) ps [i] != 0) = false := by simpa [aoC] using h0
    obtain ⟨his, -, hix⟩ := stC_inv (show stC true (l.map Cp.p) ps [i] = 0 from h0)
    obtain ⟨hA, hlen, hpar, hst⟩ := is_inv his
    have hi1 := hix i (by simp)
    rw [← hlen] at hi1
    obtain ⟨i, rfl⟩ := Int.eq_ofNat_of_zero_le hi1.1
    have hil : i < ps.length := by omega
    have hln := stB_at hst hil
    have HU := Lib.hid (ln_up (by omega) hln)
    have HE := Lib.hid (ao_yes h0)
    have H0 := Lib.hid h0
    have HP := Lib.hid hpar
    clear h0 hix his hA hlen hpar hst hln
    go_enter Tryd.func11, Tryd.ntmps11
    go_wp2_with fail
    refine HC.out.mono ?_
    rintro e w1 ⟨rfl, hup⟩
    obtain ⟨b, off, x, rfl, -, -, hx, p0⟩ := (hr'.up hup hhi').int hil
    have hxr := parB_at HP.out hx
    have HX := Lib.hid (upS_of hx)
    have HL := Lib.hid (l23Line_any (some ⟨b, off, none⟩) ps cb lo' hi' (ps.length + 1) x w1 (hr'.up hup hhi') (Nat.le_trans hhi' hup.size) (by omega) HP.out hxr.1 hxr.2 (by rw [← HX.out]; exact HU.out.1) hn')
    clear hx
    go_wp2_with fail
    refine HL.out.mono ?_
    rintro e w2 ⟨v, rfl, ho, hup2⟩
    have HO := Lib.hid ho
    clear p0 h0' ho
    go_wp2
    go_ret2
    exact ⟨v, ret_vI H0.out.symm, by rw [HE.out, ← HU.out.2, HX.out]; exact own_base HO.out hup.size, hup.trans hup2⟩
  · have h0' : (stC true (l.map Cp.p) ps [i] != 0) = true := by simpa [aoC] using h0
    have H := Lib.hid (ao_no h0')
    clear h0
    go_enter Tryd.func11, Tryd.ntmps11
    go_wp2_with (go_at_call 47; refine HC.out.mono ?_; rintro e w1 ⟨rfl, hup⟩)
    go_ret2
    exact ⟨_, rfl, by rw [H.out]; exact World.ownsRow_nil _ _ _ _, by assumption⟩

set_option maxRecDepth 100000 in
set_option maxHeartbeats 4000000 in
theorem implAncestors_any (A : Option Addr) (l : List Cp) (c : Nat) (B : Option Addr) (ps : List Int) (cb lo hi lo' hi' : Nat) (i : Int) (w : World) (hr : RdC w lo hi A l) (hhi : hi ≤ w.heap.size) (hf : Fit l c) (hr' : RdI w lo' hi' B ps) (hhi' : hi' ≤ w.heap.size) (hn' : ps.length ≤ 2000000) :
    Calls Tryd.prog 10 #[.slice A l.length c, .slice B ps.length cb, .int .i64 i] w fun e w' => ∃ v, e = .returned (.tuple #[v, .int .i64 (aoC (l.map Cp.p) ps i)]) ∧ w'.ownsRow w.heap.size 2 1 v (aoL (l.map Cp.p) ps i).length ((aoL (l.map Cp.p) ps i).flatMap intCells) ∧ Up w w' := by
  have hu0 := Up.alloc w (.cells #[.int .i64 i] 2)
  have HC := Lib.hid (checkStemma_any A l c B ps cb (some ⟨w.heap.size, 0, none⟩) [i] 1 lo hi lo' hi' w.heap.size (w.heap.size + 1) _ (hr.up hu0 hhi) (Nat.le_trans hhi hu0.size) hf (hr'.up hu0 hhi') (Nat.le_trans hhi' hu0.size) hn' (one_rd' w i) (by simp) (by simp))
  clear hf
  by_cases h0 : aoC (l.map Cp.p) ps i = 0
  · have h0' : (stC true (l.map Cp.p) ps [i] != 0) = false := by simpa [aoC] using h0
    obtain ⟨his, -, hix⟩ := stC_inv (show stC true (l.map Cp.p) ps [i] = 0 from h0)
    obtain ⟨hA, hlen, hpar, hst⟩ := is_inv his
    have hi1 := hix i (by simp)
    rw [← hlen] at hi1
    obtain ⟨i, rfl⟩ := Int.eq_ofNat_of_zero_le hi1.1
    have hil : i < ps.length := by omega
    have HE := Lib.hid (ao_yes h0)
    have H0 := Lib.hid h0
    have HP := Lib.hid hpar
    clear h0 hix his hA hlen hpar hst
    go_enter Tryd.func10, Tryd.ntmps10
    go_wp2_with fail
    refine HC.out.mono ?_
    rintro e w1 ⟨rfl, hup1⟩
    have hup := hu0.trans hup1
    have HL := Lib.hid (ancestorsOf_any B ps cb lo' hi' i w1 (hr'.up hup hhi') (Nat.le_trans hhi' hup.size) hn' HP.out hil)
    go_wp2_with fail
    refine HL.out.mono ?_
    rintro e w2 ⟨v, rfl, ho, -, hup2⟩
    have HO := Lib.hid ho
    clear h0' ho
    go_wp2
    go_ret2
    exact ⟨v, ret_vI H0.out.symm, by rw [HE.out]; exact own_base HO.out hup.size, hup.trans hup2⟩
  · have h0' : (stC true (l.map Cp.p) ps [i] != 0) = true := by simpa [aoC] using h0
    have H := Lib.hid (ao_no h0')
    clear h0
    go_enter Tryd.func10, Tryd.ntmps10
    go_wp2_with (go_at_call 44; refine HC.out.mono ?_; rintro e w1 ⟨rfl, hup⟩)
    go_ret2
    exact ⟨_, rfl, by rw [H.out]; exact World.ownsRow_nil _ _ _ _, hu0.trans (by assumption)⟩

/-- the longest of the first k lines -/
def mxD (ps : List Int) : Nat → Nat
  | 0 => 0
  | k + 1 => max (mxD ps k) ((lnL ps (k : Int)).length + 1)
theorem mxD_le (ps : List Int) : ∀ k, mxD ps k ≤ ps.length + 2
  | 0 => by simp [mxD]
  | k + 1 => by unfold mxD; have := mxD_le ps k; have := ln_len ps (k : Int); omega
theorem mxD_val (ps : List Int) (k : Nat) : Value.int IntKind.i64 (max ((mxD ps k : Nat) : Int) (((lnL ps (k : Int)).length : Int) + 1)) = .int .i64 ((mxD ps (k + 1) : Nat) : Int) := by
  congr 1; rw [mxD]; omega
def sdC (P : List PC) (ps : List Int) : Int := if isB P ps = true then 0 else 1
def sdV (P : List PC) (ps : List Int) : Int := if isB P ps = true then (mxD ps ps.length : Nat) else 0
theorem sd_1 {P : List PC} {ps : List Int} (h : isB P ps = false) : sdC P ps = 1 ∧ sdV P ps = 0 := by simp [sdC, sdV, h]
theorem sd_0 {P : List PC} {ps : List Int} (h : isB P ps = true) : sdC P ps = 0 ∧ sdV P ps = (mxD ps ps.length : Nat) := by simp [sdC, sdV, h]

set_option maxRecDepth 100000 in
set_option maxHeartbeats 4000000 in
theorem specDepth_any (A : Option Addr) (l : List Cp) (c : Nat) (B : Option Addr) (ps : List Int) (cb lo hi lo' hi' : Nat) (w : World) (hr : RdC w lo hi A l) (hhi : hi ≤ w.heap.size) (hf : Fit l c) (hr' : RdI w lo' hi' B ps) (hhi' : hi' ≤ w.heap.size) (hn' : ps.length ≤ 2000000) :
    Calls Tryd.prog 13 #[.slice A l.length c, .slice B ps.length cb] w fun e w' => e = .returned (.tuple #[.int .i64 (sdV (l.map Cp.p) ps), .int .i64 (sdC (l.map Cp.p) ps)]) ∧ Up w w' := by
  have HS := Lib.hid (specIsStemma_any A l c B ps cb lo hi lo' hi' w hr hhi hf hr' hhi' hn')
  clear hf
  rcases h1 : isB (l.map Cp.p) ps with _ | _
  · have HE := Lib.hid (sd_1 h1)
    go_enter Tryd.func13, Tryd.ntmps13
    go_wp2_with fail
    refine HS.out.mono ?_
    rintro e w1 ⟨rfl, hup⟩
    go_wp2
    go_ret2
    exact ⟨ret_iI HE.out.2.symm HE.out.1.symm, hup⟩
  · have HE := Lib.hid (sd_0 h1)
    obtain ⟨-, hlen, hpar, hst⟩ := is_inv h1
    have hll : l.length ≤ ps.length ∧ ps.length ≤ l.length := by simp at hlen; omega
    have HP := Lib.hid hpar
    have HST := Lib.hid hst
    clear hlen hpar hst
    go_enter Tryd.func13, Tryd.ntmps13
    go_wp2_with fail
    refine HS.out.mono ?_
    rintro e w1 ⟨rfl, hup⟩
    go_wp2
    clear h1
    go_loopw [6, 7] (fun d i wr => ∃ k : Nat, k ≤ ps.length ∧ i = .int .i64 k ∧ d = .int .i64 ((mxD ps k : Nat) : Int) ∧ Up w1 wr) (fun _ i _ => ps.length - (intOf i).toNat)
    case atStart => exact ⟨0, Nat.zero_le _, rfl, rfl, Up.refl _⟩
    case round =>
      obtain ⟨k, hk, rfl, rfl, hupr⟩ := hrel
      have hmx := mxD_le ps k
      have hmx1 := mxD_le ps (k + 1)
      by_cases hlt : k < ps.length
      · have hlk : k < l.length := by omega
        have hln := stB_at HST.out hlt
        have HL := Lib.hid (l23Line_any B ps cb lo' hi' (ps.length + 1) (k : Int) wr (hr'.up (hup.trans hupr) hhi') (Nat.le_trans hhi' (hup.trans hupr).size) (by omega) HP.out (by omega) (by omega) hln hn')
        have HF := Lib.hid (lnF_eq (by omega) hln)
        have hfin := ln_fin (by omega) hln
        rw [HF.out] at HL
        clear hln
        go_wp2_with fail
        refine HL.out.mono ?_
        rintro e w2 ⟨v, rfl, ho, hup2⟩
        obtain ⟨A', c', rfl, -, -, -, -⟩ := own_form ho
        have hfl : (lnF ps (k : Int)).length = (lnL ps (k : Int)).length + 1 := rfl
        have HFL := Lib.hid hfl
        rw [HFL.out]
        have hx := Nat.le_total (mxD ps k) ((lnL ps (k : Int)).length + 1)
        clear ho hfl
        go_wp2
        go_roundw
        case rel => exact ⟨k + 1, by omega, by go_num, mxD_val ps k, hupr.trans hup2⟩
        case measure => simp [intOf]; omega
      · have hlk : ¬ k < l.length := by omega
        have HK := Lib.hid (show k = ps.length by omega)
        go_wp2
        go_ret2
        exact ⟨ret_iI (by rw [HE.out.2, ← HK.out]) HE.out.1.symm, hup.trans hupr⟩

set_option maxRecDepth 100000 in
set_option maxHeartbeats 4000000 in
theorem implDepth_any (A : Option Addr) (l : List Cp) (c : Nat) (B : Option Addr) (ps : List Int) (cb lo hi lo' hi' : Nat) (w : World) (hr : RdC w lo hi A l) (hhi : hi ≤ w.heap.size) (hf : Fit l c) (hr' : RdI w lo' hi' B ps) (hhi' : hi' ≤ w.heap.size) (hn' : ps.length ≤ 2000000) :
    Calls Tryd.prog 12 #[.slice A l.length c, .slice B ps.length cb] w fun e w' => e = .returned (.tuple #[.int .i64 (sdV (l.map Cp.p) ps), .int .i64 (sdC (l.map Cp.p) ps)]) ∧ Up w w' := by
  have HS := Lib.hid (implIsStemma_any A l c B ps cb lo hi lo' hi' w hr hhi hf hr' hhi' hn')
  clear hf
  rcases h1 : isB (l.map Cp.p) ps with _ | _
  · have HE := Lib.hid (sd_1 h1)
    go_enter Tryd.func12, Tryd.ntmps12
    go_wp2_with fail
    refine HS.out.mono ?_
    rintro e w1 ⟨rfl, hup⟩
    go_wp2
    go_ret2
    exact ⟨ret_iI HE.out.2.symm HE.out.1.symm, hup⟩
  · have HE := Lib.hid (sd_0 h1)
    obtain ⟨-, hlen, hpar, hst⟩ := is_inv h1
    have HP := Lib.hid hpar
    clear hlen hpar hst
    go_enter Tryd.func12, Tryd.ntmps12
    go_wp2_with fail
    refine HS.out.mono ?_
    rintro e w1 ⟨rfl, hup⟩
    go_wp2
    clear h1
    go_loopw [6, 7, 8, 9, 16] (fun d _ _ _ i wr => ∃ k : Nat, k ≤ ps.length ∧ i = .int .i64 k ∧ d = .int .i64 ((mxD ps k : Nat) : Int) ∧ Up w1 wr) (fun _ _ _ _ i _ => ps.length - (intOf i).toNat)
    case atStart => exact ⟨0, Nat.zero_le _, rfl, rfl, Up.refl _⟩
    case round =>
      obtain ⟨k, hk, rfl, rfl, hupr⟩ := hrel
      have hmx := mxD_le ps k
      by_cases hlt : k < ps.length
      · have hll := ln_len ps (k : Int)
        have HL := Lib.hid (ancestorsOf_any B ps cb lo' hi' k wr (hr'.up (hup.trans hupr) hhi') (Nat.le_trans hhi' (hup.trans hupr).size) hn' HP.out hlt)
        go_wp2_with fail
        refine HL.out.mono ?_
        rintro e w2 ⟨v, rfl, ho, -, hup2⟩
        obtain ⟨A', c', rfl, -, -, -, -⟩ := own_form ho
        clear ho
        go_wp2
        go_roundw
        case rel => exact ⟨k + 1, by omega, by go_num, mxD_val ps k, hupr.trans hup2⟩
        case measure => simp [intOf]; omega
      · have HK := Lib.hid (show k = ps.length by omega)
        go_wp2
        go_ret2
        exact ⟨ret_iI (by rw [HE.out.2, ← HK.out]) HE.out.1.symm, hup.trans hupr⟩
end Go.Proofs.YtncmenfdnpmblaaDoor
