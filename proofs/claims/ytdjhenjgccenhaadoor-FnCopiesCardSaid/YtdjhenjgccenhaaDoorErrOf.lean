/- ErrorsOf: the program's and the reference's walks. -/
import Derived.Test.YtdjhenjgccenhaaDoorDer
namespace Go.Proofs.YtdjhenjgccenhaaDoor
open Go.RowKit Go.Sort

theorem cd_dup {right : Bool} {P : List PC} {i : Int} : cdB right P [i, i] = cdB right P [i] := by unfold cdB; simp
def eoC (o : List Int) (P : List PC) (i : Int) : Int := cdB (orB o P) P [i]
def eoL (o : List Int) (P : List PC) (i : Int) : List Int := if eoC o P i = 0 then (match P[i.toNat]? with | some x => pl (dfB x.2 o) o.length | none => []) else []
theorem eo_no {o : List Int} {P : List PC} {i : Int} (h : (eoC o P i != 0) = true) : eoL o P i = [] := by unfold eoL; rw [if_neg (by simpa using h)]
theorem eo_yes {o : List Int} {P : List PC} {i : Nat} {x : PC} (h : eoC o P i = 0) (hx : P[i]? = some x) : eoL o P i = pl (dfB x.2 o) o.length := by
  have e1 : P[(i : Int).toNat]? = some x := hx
  unfold eoL; rw [if_pos h, e1]
theorem eo_len (o : List Int) (P : List PC) (i : Int) : (eoL o P i).length ≤ o.length := by
  unfold eoL
  split
  · split
    · exact pl_len _ _
    · simp
  · simp
theorem ret_vi {k : IntKind} {v : Value} {a' b' : Int} (h' : a' = b') : Ending.returned (.tuple #[v, .int k a']) = .returned (.tuple #[v, .int k b']) := by rw [h']

set_option maxRecDepth 100000 in
set_option maxHeartbeats 4000000 in
theorem specErrorsOf_any (B : Option Addr) (o : List Int) (cb : Nat) (A : Option Addr) (l : List Cp) (c lo hi lo' hi' : Nat) (i : Int) (w : World) (hr' : RdI w lo' hi' B o) (hhi' : hi' ≤ w.heap.size) (hn' : o.length ≤ 2000000) (hr : RdC w lo hi A l) (hhi : hi ≤ w.heap.size) (hf : Fit l c) :
    Calls Tryd.prog 36 #[.slice B o.length cb, .slice A l.length c, .int .i64 i] w fun e w' => ∃ v, e = .returned (.tuple #[v, .int .i64 (eoC o (l.map Cp.p) i)]) ∧ w'.ownsRow w.heap.size 2 1 v (eoL o (l.map Cp.p) i).length ((eoL o (l.map Cp.p) i).flatMap intCells) ∧ Up w w' := by
  have HC := Lib.hid (l22Code_any (orS o (l.map Cp.p)) A l c lo hi i i w hr hhi hf)
  have HO := Lib.hid (l22Original_any B o cb A l c lo hi lo' hi' w hr' hn' hr hf)
  rw [or_cd, cd_dup] at HC
  have hn := hf.2.2.1
  have hrs := hf.2.1
  by_cases h0 : eoC o (l.map Cp.p) i = 0
  · have h0' : (cdB (orB o (l.map Cp.p)) (l.map Cp.p) [i] != 0) = false := by simpa [eoC] using h0
    obtain ⟨hA, hO, hix⟩ := cd_inv (show cdB (orB o (l.map Cp.p)) (l.map Cp.p) [i] = 0 from h0)
    have hi1 := hix i (by simp)
    simp only [List.length_map] at hi1
    have H0 := Lib.hid h0
    clear h0 hix hf
    obtain ⟨i, rfl⟩ := Int.eq_ofNat_of_zero_le hi1.1
    have hil : i < l.length := by omega
    go_enter Tryd.func36, Tryd.ntmps36
    go_wp2_with fail
    refine HO.out.mono ?_
    rintro e w0 ⟨rfl, rfl⟩
    go_wp2_with fail
    refine HC.out.mono ?_
    rintro e w1 ⟨rfl, hup⟩
    obtain ⟨b, off, x, rfl, -, -, hx, ix, p0, p1⟩ := (hr.up hup hhi).at_ hil
    have hox := orB_inv hA hO (getp hx)
    have HE := Lib.hid (eo_yes H0.out (getp hx))
    have HX := hrs x (List.mem_of_getElem? hx)
    have hh := Nat.le_trans hhi hup.size
    have hh' := Nat.le_trans hhi' hup.size
    obtain ⟨xn, xA, xc, xrs⟩ := x
    simp only [Cp.p] at HE HX ix p0 p1 hox
    have HQ := Lib.hid (l22Errors_any xA B xn xrs o xc cb lo hi lo' hi' w1 ix hh (hr'.up hup hhi') hh' (by rw [hox.1]; exact Nat.le_refl _) HX hox.2)
    clear hx ix hox hA hO HO HC
    go_wp2_with fail
    refine HQ.out.mono ?_
    rintro e w2 ⟨v, rfl, ho, hup2⟩
    clear p0 p1 h0'
    go_wp2
    go_ret2
    exact ⟨v, ret_vi H0.out.symm, by rw [HE.out]; exact own_base ho hup.size, hup.trans hup2⟩
  · have h0' : (cdB (orB o (l.map Cp.p)) (l.map Cp.p) [i] != 0) = true := by simpa [eoC] using h0
    have H := Lib.hid (eo_no (o := o) (P := l.map Cp.p) (i := i) h0')
    clear h0 hf
    go_enter Tryd.func36, Tryd.ntmps36
    go_wp2_with (first | (go_at_call 69; refine HO.out.mono ?_; rintro e w0 ⟨rfl, rfl⟩) | (go_at_call 64; refine HC.out.mono ?_; rintro e w1 ⟨rfl, hup⟩))
    go_ret2
    exact ⟨_, rfl, by rw [H.out]; exact World.ownsRow_nil _ _ _ _, by assumption⟩

theorem one_rd (w : World) (i : Int) : RdI (w.alloc (.cells #[.int .i64 i] 2)) w.heap.size (w.heap.size + 1) (some ⟨w.heap.size, 0, none⟩) [i] := fun _ => by
  refine ⟨w.heap.size, 0, rfl, Nat.le_refl _, by omega, fun j x hx q u hu => ?_⟩
  match j, hx with
  | 0, hx => match q, hu with
    | 0, hu => simp at hx; subst hx; simp at hu; subst hu; simp

set_option maxRecDepth 100000 in
set_option maxHeartbeats 4000000 in
theorem implErrorsOf_any (B : Option Addr) (o : List Int) (cb : Nat) (A : Option Addr) (l : List Cp) (c lo hi lo' hi' : Nat) (i : Int) (w : World) (hr' : RdI w lo' hi' B o) (hhi' : hi' ≤ w.heap.size) (hn' : o.length ≤ 2000000) (hr : RdC w lo hi A l) (hhi : hi ≤ w.heap.size) (hf : Fit l c) :
    Calls Tryd.prog 37 #[.slice B o.length cb, .slice A l.length c, .int .i64 i] w fun e w' => ∃ v, e = .returned (.tuple #[v, .int .i64 (eoC o (l.map Cp.p) i)]) ∧ w'.ownsRow w.heap.size 2 1 v (eoL o (l.map Cp.p) i).length ((eoL o (l.map Cp.p) i).flatMap intCells) ∧ Up w w' := by
  have hu0 := Up.alloc w (.cells #[.int .i64 i] 2)
  have HC := Lib.hid (checkText_any B o cb A (some ⟨w.heap.size, 0, none⟩) l [i] c 1 lo hi lo' hi' w.heap.size (w.heap.size + 1) _ (hr'.up hu0 hhi') (Nat.le_trans hhi' hu0.size) hn' (hr.up hu0 hhi) (Nat.le_trans hhi hu0.size) hf (one_rd w i) (by simp) (by simp))
  have hn := hf.2.2.1
  have hrs := hf.2.1
  by_cases h0 : eoC o (l.map Cp.p) i = 0
  · have h0' : (cdB (orB o (l.map Cp.p)) (l.map Cp.p) [i] != 0) = false := by simpa [eoC] using h0
    obtain ⟨hA, hO, hix⟩ := cd_inv (show cdB (orB o (l.map Cp.p)) (l.map Cp.p) [i] = 0 from h0)
    have hi1 := hix i (by simp)
    simp only [List.length_map] at hi1
    have H0 := Lib.hid h0
    clear h0 hix hf
    obtain ⟨i, rfl⟩ := Int.eq_ofNat_of_zero_le hi1.1
    have hil : i < l.length := by omega
    go_enter Tryd.func37, Tryd.ntmps37
    go_wp2_with fail
    refine HC.out.mono ?_
    rintro e w1 ⟨rfl, hup1⟩
    have hup := hu0.trans hup1
    obtain ⟨b, off, x, rfl, -, -, hx, ix, p0, p1⟩ := (hr.up hup hhi).at_ hil
    have hox := orB_inv hA hO (getp hx)
    have HE := Lib.hid (eo_yes H0.out (getp hx))
    have HX := hrs x (List.mem_of_getElem? hx)
    have hh := Nat.le_trans hhi hup.size
    have hh' := Nat.le_trans hhi' hup.size
    obtain ⟨xn, xA, xc, xrs⟩ := x
    simp only [Cp.p] at HE HX ix p0 p1 hox
    have HQ := Lib.hid (errorsOf_any xA B xn xrs o xc cb lo hi lo' hi' w1 ix hh (hr'.up hup hhi') hh' (by rw [hox.1]; exact Nat.le_refl _) HX)
    clear hx ix hox hA hO HC
    go_wp2_with fail
    refine HQ.out.mono ?_
    rintro e w2 ⟨v, rfl, ho, hup2⟩
    clear p0 p1 h0'
    go_wp2
    go_ret2
    exact ⟨v, ret_vi H0.out.symm, by rw [HE.out]; exact own_base ho hup.size, hup.trans hup2⟩
  · have h0' : (cdB (orB o (l.map Cp.p)) (l.map Cp.p) [i] != 0) = true := by simpa [eoC] using h0
    have H := Lib.hid (eo_no (o := o) (P := l.map Cp.p) (i := i) h0')
    clear h0 hf
    go_enter Tryd.func37, Tryd.ntmps37
    go_wp2_with (go_at_call 71; refine HC.out.mono ?_; rintro e w1 ⟨rfl, hup⟩)
    go_ret2
    exact ⟨_, rfl, by rw [H.out]; exact World.ownsRow_nil _ _ _ _, hu0.trans (by assumption)⟩
end Go.Proofs.YtdjhenjgccenhaaDoor
