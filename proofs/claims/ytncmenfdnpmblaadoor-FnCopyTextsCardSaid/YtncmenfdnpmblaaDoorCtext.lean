/- CopyText: the reference's and the program's walks. -/
import Derived.Test.YtncmenfdnpmblaaDoorCode
import Derived.Test.YtncmenfdnpmblaaDoorShelf
namespace Go.Proofs.YtncmenfdnpmblaaDoor
open Go.RowKit Go.Sort

theorem ret_str' {a b : ByteArray} (h : a = b) : Ending.returned (.string a) = .returned (.string b) := by rw [h]
def dgB (r : Int) : ByteArray := ⟨#[UInt8.ofNat (48 + r).toNat]⟩
theorem dgB_size (r : Int) : (dgB r).size = 1 := rfl
set_option maxHeartbeats 400000 in
theorem l01Dec_digit (r : Nat) (h : r < 10) (w : World) :
    Calls Tryd.prog 69 #[.int .i64 (r : Int)] w fun e w' => e = .returned (.string (dgB (r : Int))) ∧ Up w w' := by
  have hcv := fun wx z => run_conv1 (P := Tryd.prog) Tryd.underlying22 Tryd.underlying5 Tryd.underlying9 wx z
  go_enter Tryd.func69, Tryd.ntmps69
  go_wp2
  go_ret
  exact ⟨rfl, Up.alloc _ _⟩
set_option maxHeartbeats 400000 in
theorem formatInt_digit (r : Nat) (h : r < 10) (w : World) :
    Calls Tryd.prog 102 #[.int .i64 (r : Int), .int .i64 10] w fun e w' => e = .returned (.string (dgB (r : Int))) ∧ w = w' := by
  have HS := Lib.hid (Tryd.internal_strconv_small r (by omega) w)
  have h100 : r < 100 := by omega
  have HD := Lib.hid (show (⟨(Lib.decDigits r).toArray⟩ : ByteArray) = dgB (r : Int) by
    unfold Lib.decDigits; rw [dif_pos h]; unfold dgB; rw [show (48 + (r : Int)).toNat = 48 + r by omega])
  go_enter Tryd.func102, Tryd.ntmps102
  go_wp2_with (go_at_call 113; refine HS.out.mono ?_; rintro e w' ⟨rfl, rfl⟩)
  go_ret
  exact ⟨ret_str' HD.out, rfl⟩
set_option maxHeartbeats 400000 in
theorem decimal_digit (r : Nat) (h : r < 10) (w : World) :
    Calls Tryd.prog 68 #[.int .i64 (r : Int)] w fun e w' => e = .returned (.string (dgB (r : Int))) ∧ w = w' := by
  have HS := Lib.hid (formatInt_digit r h w)
  have H2 : Calls Tryd.prog 92 #[.int .i64 (r : Int), .int .i64 10] w fun e w' => e = .returned (.string (dgB (r : Int))) ∧ w = w' := by
    go_enter Tryd.func92, Tryd.ntmps92
    go_wp2_with (go_at_call 102; refine HS.out.mono ?_; rintro e w' ⟨rfl, rfl⟩)
    go_ret
    exact ⟨rfl, rfl⟩
  have H3 := Lib.hid H2
  clear H2
  go_enter Tryd.func68, Tryd.ntmps68
  go_wp2_with (go_at_call 92; refine H3.out.mono ?_; rintro e w' ⟨rfl, rfl⟩)
  go_ret
  exact ⟨rfl, rfl⟩
/-- a copy's text with its first k readings -/
def ctB (nm : ByteArray) (rs : List Int) : Nat → ByteArray
  | 0 => nm ++ ⟨#[58]⟩
  | k + 1 => ctB nm rs k ++ (match rs[k]? with | some r => dgB r | none => ⟨#[]⟩)
theorem ctB_succ {nm : ByteArray} {rs : List Int} {k : Nat} {r : Int} (h : rs[k]? = some r) : ctB nm rs (k + 1) = ctB nm rs k ++ dgB r := by rw [ctB, h]
theorem ctB_size (nm : ByteArray) (rs : List Int) : ∀ k, (ctB nm rs k).size ≤ nm.size + 1 + k
  | 0 => by rw [ctB, ByteArray.size_append]; exact Nat.le_refl _
  | k + 1 => by
    have := ctB_size nm rs k
    rw [ctB, ByteArray.size_append]
    split
    · rw [dgB_size]; omega
    · have : (⟨#[]⟩ : ByteArray).size = 0 := rfl
      omega
def ctC (p : PC) : Int := if arB [p] = true then 0 else 1
def ctV (p : PC) : ByteArray := if arB [p] = true then ctB p.1 p.2 p.2.length else ⟨#[]⟩
theorem ct_1 {p : PC} (h : arB [p] = false) : ctC p = 1 ∧ ctV p = ⟨#[]⟩ := by simp [ctC, ctV, h]
theorem ct_0 {p : PC} (h : arB [p] = true) : ctC p = 0 ∧ ctV p = ctB p.1 p.2 p.2.length := by simp [ctC, ctV, h]
theorem ret_si' {a b : ByteArray} {k : IntKind} {x y : Int} (h : a = b) (h' : x = y) : Ending.returned (.tuple #[.string a, .int k x]) = .returned (.tuple #[.string b, .int k y]) := by rw [h, h']
theorem ct_num {p : PC} (h : arB [p] = true) {k : Nat} {z : Int} (hz : p.2[k]? = some z) : ∃ r : Nat, z = (r : Int) ∧ r < 10 := by
  have := arB_ok h (k := 0) (d := p) rfl
  simp only [okC, Bool.and_eq_true] at this
  have := List.all_eq_true.1 this.2.2.2.1 z (List.mem_of_getElem? hz)
  simp [numB, inB] at this
  exact ⟨z.toNat, by omega, by omega⟩
theorem ct_small {p : PC} (h : arB [p] = true) : p.1.size ≤ 12 ∧ p.2.length ≤ 20 := by
  have := arB_ok h (k := 0) (d := p) rfl
  simp only [okC, Bool.and_eq_true, decide_eq_true_eq] at this
  exact ⟨by have := nameB_size this.1; omega, this.2.2.1⟩
/-- one copy in a slice that was just built -/
theorem one_cp (w : World) (x : Cp) {lo hi : Nat} (hr : RdI w lo hi x.A x.rs) (hhi : hi ≤ w.heap.size) : RdC ((w.alloc (.cells #[.string x.name, .slice x.A x.rs.length x.c] 49)).alloc (.cells #[.string x.name, .slice x.A x.rs.length x.c] 49)) 0 (w.heap.size + 2) (some ⟨w.heap.size + 1, 0, none⟩) [x] := by
  refine ⟨fun _ => ⟨w.heap.size + 1, 0, rfl, Nat.zero_le _, by omega, fun i y hy j u hu => ?_⟩, fun y hy => ?_⟩
  · match i, hy with
    | 0, hy =>
      simp at hy; subst hy
      match j, hu with
      | 0, hu => simp at hu; subst hu; go_simp
      | 1, hu => simp at hu; subst hu; go_simp
  · simp at hy; subst hy
    exact Rd.wide (hr.up ((Up.alloc _ _).allocs _) hhi) (Nat.zero_le _) (by omega)

set_option maxRecDepth 100000 in
set_option maxHeartbeats 4000000 in
theorem specCopyText_any (x : Cp) (lo hi : Nat) (w : World) (hr : RdI w lo hi x.A x.rs) (hhi : hi ≤ w.heap.size) (hnm : x.name.size ≤ maxLen) (hrs : x.rs.length ≤ 2000000) :
    Calls Tryd.prog 30 #[x.val] w fun e w' => e = .returned (.tuple #[.string (ctV x.p), .int .i64 (ctC x.p)]) ∧ Up w w' := by
  obtain ⟨xn, xA, xc, xrs⟩ := x
  simp only at hr hnm hrs
  have hA := specAre (some ⟨w.heap.size + 1, 0, none⟩) [⟨xn, xA, xc, xrs⟩] 1 0 (w.heap.size + 2) _ (one_cp w ⟨xn, xA, xc, xrs⟩ hr hhi) (by simp) ⟨by simpa using hnm, by simpa using hrs, by simp, by simp, by simp [maxLen]⟩
  simp only [List.map_cons, List.map_nil, Cp.p, List.length_singleton] at hA
  have HA := Lib.hid hA
  have hu0 : Up w ((w.alloc (.cells #[.string xn, .slice xA xrs.length xc] 49)).alloc (.cells #[.string xn, .slice xA xrs.length xc] 49)) := (Up.alloc _ _).allocs _
  simp only [Cp.p]
  clear hA
  rcases h1 : arB [((xn, xrs) : PC)] with _ | _
  · have HE := Lib.hid (ct_1 h1)
    go_enter Tryd.func30, Tryd.ntmps30
    go_wp2_with fail
    refine HA.out.mono ?_
    rintro e w1 ⟨rfl, hup⟩
    go_wp2
    go_ret2
    exact ⟨ret_si' HE.out.2.symm HE.out.1.symm, hu0.trans hup⟩
  · have HE := Lib.hid (ct_0 h1)
    obtain ⟨hn12, hr20⟩ := ct_small h1
    simp only at hn12 hr20
    have H1 := Lib.hid h1
    go_enter Tryd.func30, Tryd.ntmps30
    go_wp2_with fail
    refine HA.out.mono ?_
    rintro e w1 ⟨rfl, hup⟩
    have x0 := hup.cell (a := ⟨w.heap.size, 0, none⟩) (v := .string xn) (by go_simp)
    have x1 := hup.cell (a := ⟨w.heap.size, 1, none⟩) (v := .slice xA xrs.length xc) (by go_simp)
    have hup1 := hu0.trans hup
    go_wp2
    clear h1 x0
    go_loopw [4, 5] (fun o i wr => ∃ k : Nat, k ≤ xrs.length ∧ i = .int .i64 k ∧ o = .string (ctB xn xrs k) ∧ Up w1 wr) (fun _ i _ => xrs.length - (intOf i).toNat)
    case atStart => exact ⟨0, Nat.zero_le _, rfl, rfl, Up.refl _⟩
    case round =>
      obtain ⟨k, hk, rfl, rfl, hupr⟩ := hrel
      have hsz := ctB_size xn xrs k
      have y1 := hupr.cell x1
      by_cases hlt : k < xrs.length
      · obtain ⟨b, off, z, rfl, -, -, hz, z0⟩ := (hr.up (hup1.trans hupr) hhi).int hlt
        obtain ⟨r, rfl, hr10⟩ := ct_num H1.out (show ((xn, xrs) : PC).2[k]? = some z from hz)
        have HS := Lib.hid (ctB_succ (nm := xn) hz)
        have hds := dgB_size (r : Int)
        have hds' : (dgB (r : Int)).size ≤ 1 := by omega
        clear hz hds
        go_wp2_with (go_at_call 69; refine (l01Dec_digit r hr10 _).mono ?_; rintro e w3 ⟨rfl, hup3⟩)
        go_roundw
        case rel => exact ⟨k + 1, by omega, by go_num, by rw [HS.out], hupr.trans hup3⟩
        case measure => simp [intOf]; omega
      · have HK := Lib.hid (show k = xrs.length by omega)
        go_wp2
        go_ret2
        exact ⟨ret_si' (by rw [HE.out.2, show k = xrs.length from HK.out]) HE.out.1.symm, hup1.trans hupr⟩
set_option maxRecDepth 100000 in
set_option maxHeartbeats 4000000 in
theorem implCopyText_any (x : Cp) (lo hi : Nat) (w : World) (hr : RdI w lo hi x.A x.rs) (hhi : hi ≤ w.heap.size) (hnm : x.name.size ≤ maxLen) (hrs : x.rs.length ≤ 2000000) :
    Calls Tryd.prog 29 #[x.val] w fun e w' => e = .returned (.tuple #[.string (ctV x.p), .int .i64 (ctC x.p)]) ∧ Up w w' := by
  obtain ⟨xn, xA, xc, xrs⟩ := x
  simp only at hr hnm hrs
  have hA := implAre (some ⟨w.heap.size + 1, 0, none⟩) [⟨xn, xA, xc, xrs⟩] 1 0 (w.heap.size + 2) _ (one_cp w ⟨xn, xA, xc, xrs⟩ hr hhi) (by simp) ⟨by simpa using hnm, by simpa using hrs, by simp, by simp, by simp [maxLen]⟩
  simp only [List.map_cons, List.map_nil, Cp.p, List.length_singleton] at hA
  have HA := Lib.hid hA
  have hu0 : Up w ((w.alloc (.cells #[.string xn, .slice xA xrs.length xc] 49)).alloc (.cells #[.string xn, .slice xA xrs.length xc] 49)) := (Up.alloc _ _).allocs _
  simp only [Cp.p]
  clear hA
  rcases h1 : arB [((xn, xrs) : PC)] with _ | _
  · have HE := Lib.hid (ct_1 h1)
    go_enter Tryd.func29, Tryd.ntmps29
    go_wp2_with fail
    refine HA.out.mono ?_
    rintro e w1 ⟨rfl, hup⟩
    go_wp2
    go_ret2
    exact ⟨ret_si' HE.out.2.symm HE.out.1.symm, hu0.trans hup⟩
  · have HE := Lib.hid (ct_0 h1)
    obtain ⟨hn12, hr20⟩ := ct_small h1
    simp only at hn12 hr20
    have H1 := Lib.hid h1
    go_enter Tryd.func29, Tryd.ntmps29
    go_wp2_with fail
    refine HA.out.mono ?_
    rintro e w1 ⟨rfl, hup⟩
    have x0 := hup.cell (a := ⟨w.heap.size, 0, none⟩) (v := .string xn) (by go_simp)
    have x1 := hup.cell (a := ⟨w.heap.size, 1, none⟩) (v := .slice xA xrs.length xc) (by go_simp)
    have hup1 := hu0.trans hup
    go_wp2
    clear h1 x0
    go_loopw [4, 6, 17] (fun o _ i wr => ∃ k : Nat, k ≤ xrs.length ∧ i = .int .i64 k ∧ o = .string (ctB xn xrs k) ∧ Up w1 wr) (fun _ _ i _ => xrs.length - (intOf i).toNat)
    case atStart => exact ⟨0, Nat.zero_le _, rfl, rfl, Up.refl _⟩
    case round =>
      obtain ⟨k, hk, rfl, rfl, hupr⟩ := hrel
      have hsz := ctB_size xn xrs k
      have y1 := hupr.cell x1
      by_cases hlt : k < xrs.length
      · obtain ⟨b, off, z, rfl, -, -, hz, z0⟩ := (hr.up (hup1.trans hupr) hhi).int hlt
        obtain ⟨r, rfl, hr10⟩ := ct_num H1.out (show ((xn, xrs) : PC).2[k]? = some z from hz)
        have HS := Lib.hid (ctB_succ (nm := xn) hz)
        have hds := dgB_size (r : Int)
        have hds' : (dgB (r : Int)).size ≤ 1 := by omega
        clear hz hds
        go_wp2_with (go_at_call 68; refine (decimal_digit r hr10 _).mono ?_; rintro e w3 ⟨rfl, rfl⟩)
        go_roundw
        case rel => exact ⟨k + 1, by omega, by go_num, by rw [HS.out], hupr⟩
        case measure => simp [intOf]; omega
      · have HK := Lib.hid (show k = xrs.length by omega)
        go_wp2
        go_ret2
        exact ⟨ret_si' (by rw [HE.out.2, show k = xrs.length from HK.out]) HE.out.1.symm, hup1.trans hupr⟩
end Go.Proofs.YtncmenfdnpmblaaDoor
