/- The original's readings: the program's and the reference's walks; the code of an original, copies and indices. -/
import Derived.Test.YtncmenfdnpmblaaDoorCode
namespace Go.Proofs.YtncmenfdnpmblaaDoor
open Go.RowKit Go.Sort

def rdB (z : Int) : Bool := inB z 1 9
/-- the original is right: as the reference says it, and as the program does -/
def orS (o : List Int) (P : List PC) : Bool := o.all rdB && (if P.length = 0 then decide (o.length ≤ 20) else decide (o.length = n0 P))
def orB (o : List Int) (P : List PC) : Bool := decide (o.length ≤ 20) && (decide (P.length = 0) || decide (o.length = n0 P)) && o.all rdB
theorem or_eq {o : List Int} {P : List PC} (h : arB P = true) : orS o P = orB o P := by
  unfold orS orB
  by_cases h0 : P.length = 0
  · simp [h0, Bool.and_comm]
  · have hx : n0 P ≤ 20 := by
      cases P with
      | nil => simp at h0
      | cons x P =>
        have := arB_ok h (k := 0) (d := x) rfl
        simp only [okC, Bool.and_eq_true, decide_eq_true_eq] at this
        have h1 := this.2.1; have h2 := this.2.2.1
        omega
    rw [if_neg h0]
    by_cases h1 : o.length = n0 P
    · have h2 : o.length ≤ 20 := by omega
      simp [h1, h0, hx]
    · simp [h1, h0]
theorem or_cd {o : List Int} {P : List PC} {ix : List Int} : cdB (orS o P) P ix = cdB (orB o P) P ix := by
  rcases h : arB P with _ | _
  · rw [cd_1 (by rw [h]; rfl), cd_1 (by rw [h]; rfl)]
  · rw [or_eq h]

set_option maxRecDepth 100000 in
set_option maxHeartbeats 2000000 in
theorem l22Original_any (B : Option Addr) (o : List Int) (cb : Nat) (A : Option Addr) (l : List Cp) (c lo hi lo' hi' : Nat) (w : World) (hr' : RdI w lo' hi' B o) (hn' : o.length ≤ 2000000) (hr : RdC w lo hi A l) (hf : Fit l c) :
    Calls Tryd.prog 53 #[.slice B o.length cb, .slice A l.length c] w fun e w' => e = .returned (.bool (orS o (l.map Cp.p))) ∧ w = w' := by
  have hn := hf.2.2.1
  have hrs := hf.2.1
  clear hf
  go_enter Tryd.func53, Tryd.ntmps53
  go_wp2
  go_loop [5] (fun i => ∃ k : Nat, k ≤ o.length ∧ i = .int .i64 k ∧ ∀ q z, q < k → o[q]? = some z → rdB z = true) (fun i => o.length - (intOf i).toNat)
  case atStart => exact ⟨0, Nat.zero_le _, rfl, fun q z h => absurd h (by omega)⟩
  case round =>
    obtain ⟨j, hj, rfl, hq⟩ := hrel
    have HQ := Lib.hid hq
    clear hq
    by_cases hlj : j < o.length
    · obtain ⟨bb, oo, z, rfl, -, -, hz, y0⟩ := hr'.int hlj
      have HZ := Lib.hid hz
      clear hz
      rcases hnz : rdB z with _ | _
      · have hnz' : (!inB z 1 9) = true := by simpa [rdB] using hnz
        have HZN := Lib.hid hnz
        clear hnz
        go_wp2_with (go_at_call 83; refine (l01In_any _ _ _ _).mono ?_; rintro e w' ⟨rfl, rfl⟩)
        go_ret
        have hall : o.all rdB = false := by rw [List.all_eq_false]; exact ⟨z, List.mem_of_getElem? HZ.out, by simp [HZN.out]⟩
        exact ⟨ret_bool (by simp [orS, hall]), rfl⟩
      · have hnz' : (!inB z 1 9) = false := by simpa [rdB] using hnz
        have HZN := Lib.hid hnz
        clear hnz
        go_wp2_with (go_at_call 83; refine (l01In_any _ _ _ _).mono ?_; rintro e w' ⟨rfl, rfl⟩)
        go_round
        case rel => exact ⟨j + 1, by omega, by go_num, fun q y hq hy => by
          rcases Nat.lt_or_ge q j with h | h
          · exact HQ.out q y h hy
          · obtain rfl : q = j := by omega
            rw [HZ.out] at hy; cases hy; exact HZN.out⟩
        case measure => simp [intOf]; omega
    · have hall : o.all rdB = true := by
        rw [List.all_eq_true]; intro z hz
        obtain ⟨q, hq, e⟩ := List.getElem_of_mem hz
        exact HQ.out q z (by omega) (by rw [List.getElem?_eq_getElem hq, e])
      have HALL := Lib.hid hall
      clear hall
      by_cases h0 : l.length = 0
      · have h0a : ((l.length : Int) == 0) = true := by simp [h0]
        have h0b : decide ((0 : Int) < (l.length : Int)) = false := by simp [h0]
        by_cases h2 : o.length ≤ 20
        · have h2' : decide ((o.length : Int) ≤ 20) = true := by simp; omega
          go_wp2
          go_ret
          exact ⟨ret_bool (by simp [orS, HALL.out, h0, h2]), rfl⟩
        · have h2' : decide ((o.length : Int) ≤ 20) = false := by simp; omega
          go_wp2
          go_ret
          exact ⟨ret_bool (by simp [orS, HALL.out, h0, h2]), rfl⟩
      · have h0a : ((l.length : Int) == 0) = false := by simp [h0]
        have h0b : decide ((0 : Int) < (l.length : Int)) = true := by simp; omega
        obtain ⟨b', off', d0, rfl, -, -, hd0, hin0, p0, p1⟩ := hr.at_ (k := 0) (by omega)
        have hs2 := hrs d0 (List.mem_of_getElem? hd0)
        have HN0 := Lib.hid (n0_of hd0)
        simp only [Nat.zero_mul, Nat.add_zero] at p0 p1
        have hpos : 0 < l.length := by omega
        clear hd0 hin0
        by_cases h2 : o.length = d0.rs.length
        · have h2' : ((o.length : Int) == (d0.rs.length : Int)) = true := by simp [h2]
          have H2 := Lib.hid h2
          clear h2
          go_wp2
          go_ret
          exact ⟨ret_bool (by simp [orS, HALL.out, h0, H2.out, HN0.out]), rfl⟩
        · have h2' : ((o.length : Int) == (d0.rs.length : Int)) = false := by rw [beq_eq_false_iff_ne]; omega
          have H2 := Lib.hid h2
          clear h2
          go_wp2
          go_ret
          exact ⟨ret_bool (by simp [orS, HALL.out, h0, H2.out, HN0.out]), rfl⟩

theorem origClosure_any (z : Int) (w : World) :
    Calls Tryd.prog 84 #[.int .i64 z] w fun e w' => e = .returned (.bool (!rdB z)) ∧ Up w w' := by
  go_enter Tryd.func84, Tryd.ntmps84
  go_wp2_with (go_at_call 65; refine (within_any _ _ _ _).mono ?_; rintro e w' ⟨rfl, rfl⟩)
  go_ret
  exact ⟨rfl, Up.refl _⟩

set_option maxRecDepth 100000 in
set_option maxHeartbeats 2000000 in
theorem isOriginal_any (B : Option Addr) (o : List Int) (cb : Nat) (A : Option Addr) (l : List Cp) (c lo hi lo' hi' : Nat) (w : World) (hr' : RdI w lo' hi' B o) (hhi' : hi' ≤ w.heap.size) (hn' : o.length ≤ 2000000) (hr : RdC w lo hi A l) (hf : Fit l c) :
    Calls Tryd.prog 51 #[.slice B o.length cb, .slice A l.length c] w fun e w' => e = .returned (.bool (orB o (l.map Cp.p))) ∧ Up w w' := by
  have hn := hf.2.2.1
  have hrs := hf.2.1
  clear hf
  have HC := Lib.hid (containsFuncI_any B o cb lo' hi' 84 #[] (fun z => !rdB z) w hr' hhi' hn' (fun _ _ => by kernel_rfl) (fun z _ w2 _ => origClosure_any z w2))
  have HA : o.any (fun z => !rdB z) = !o.all rdB := by simp [List.all_eq_not_any_not]
  have HAH := Lib.hid HA
  clear HA
  by_cases h2 : o.length ≤ 20
  · have h2' : decide ((20 : Int) < (o.length : Int)) = false := by simp; omega
    by_cases h0 : l.length = 0
    · have h0b : decide ((0 : Int) < (l.length : Int)) = false := by simp [h0]
      have HE : (!o.any (fun z => !rdB z)) = orB o (l.map Cp.p) := by rw [HAH.out]; simp [orB, h0, h2]
      have HEE := Lib.hid HE
      clear HE
      go_enter Tryd.func51, Tryd.ntmps51
      go_wp2_with (go_at_call 63; refine HC.out.mono ?_; rintro e w' ⟨rfl, hup⟩)
      go_ret
      exact ⟨ret_bool HEE.out, by assumption⟩
    · have h0b : decide ((0 : Int) < (l.length : Int)) = true := by simp; omega
      obtain ⟨b', off', d0, rfl, -, -, hd0, hin0, p0, p1⟩ := hr.at_ (k := 0) (by omega)
      have hs2 := hrs d0 (List.mem_of_getElem? hd0)
      have HN0 := Lib.hid (n0_of hd0)
      simp only [Nat.zero_mul, Nat.add_zero] at p0 p1
      have hpos : 0 < l.length := by omega
      clear hd0 hin0
      by_cases h3 : o.length = d0.rs.length
      · have h3' : ((o.length : Int) != (d0.rs.length : Int)) = false := by simp [h3]
        have HE : (!o.any (fun z => !rdB z)) = orB o (l.map Cp.p) := by rw [HAH.out]; simp [orB, HN0.out, h3]; omega
        have HEE := Lib.hid HE
        clear HE h3
        go_enter Tryd.func51, Tryd.ntmps51
        go_wp2_with (go_at_call 63; refine HC.out.mono ?_; rintro e w' ⟨rfl, hup⟩)
        go_ret
        exact ⟨ret_bool HEE.out, by assumption⟩
      · have h3' : ((o.length : Int) != (d0.rs.length : Int)) = true := by rw [bne_iff_ne]; omega
        have HE : false = orB o (l.map Cp.p) := by simp [orB, HN0.out, h3, h0]
        have HEE := Lib.hid HE
        clear HE h3
        go_enter Tryd.func51, Tryd.ntmps51
        go_wp2
        go_ret
        exact ⟨ret_bool HEE.out, Up.refl _⟩
  · have h2' : decide ((20 : Int) < (o.length : Int)) = true := by simp; omega
    go_enter Tryd.func51, Tryd.ntmps51
    go_wp2
    go_ret
    exact ⟨ret_bool (by simp [orB, h2]), Up.refl _⟩

set_option maxRecDepth 100000 in
set_option maxHeartbeats 2000000 in
theorem checkText_any (B : Option Addr) (o : List Int) (cb : Nat) (A D : Option Addr) (l : List Cp) (ix : List Int) (c cd lo hi lo' hi' lo2 hi2 : Nat) (w : World) (hr' : RdI w lo' hi' B o) (hhi' : hi' ≤ w.heap.size) (hn' : o.length ≤ 2000000) (hr : RdC w lo hi A l) (hhi : hi ≤ w.heap.size) (hf : Fit l c) (hr2 : RdI w lo2 hi2 D ix) (hhi2 : hi2 ≤ w.heap.size) (hix : ix.length ≤ 2000000) :
    Calls Tryd.prog 58 #[.slice B o.length cb, .slice A l.length c, .slice D ix.length cd] w fun e w' => e = .returned (.int .i64 (cdB (orB o (l.map Cp.p)) (l.map Cp.p) ix)) ∧ Up w w' := by
  have HA := Lib.hid (implAre A l c lo hi w hr hhi hf)
  have HO := Lib.hid (fun (w1 : World) (hu : Up w w1) => isOriginal_any B o cb A l c lo hi lo' hi' w1 (hr'.up hu hhi') (Nat.le_trans hhi' hu.size) hn' (hr.up hu hhi) hf)
  have HK := Lib.hid (fun (w1 : World) (hu : Up w w1) => checkCopies_any A D l ix c cd lo hi lo2 hi2 w1 (hr.up hu hhi) (Nat.le_trans hhi hu.size) hf (hr2.up hu hhi2) (Nat.le_trans hhi2 hu.size) hix)
  rcases h1 : arB (l.map Cp.p) with _ | _
  · have H1 := Lib.hid h1
    have HE : cdB true (l.map Cp.p) ix = cdB (orB o (l.map Cp.p)) (l.map Cp.p) ix := by rw [cd_1 (by rw [h1]; rfl), cd_1 (by rw [h1]; rfl)]
    have HEE := Lib.hid HE
    clear HE
    go_enter Tryd.func58, Tryd.ntmps58
    go_wp2_with fail
    refine HA.out.mono ?_
    rintro e w1 ⟨rfl, hup⟩
    go_wp2_with fail
    refine (HK.out w1 hup).mono ?_
    rintro e w2 ⟨rfl, hup2⟩
    go_wp2
    go_ret
    exact ⟨ret_int HEE.out, hup.trans hup2⟩
  · have H1 := Lib.hid h1
    rcases h2 : orB o (l.map Cp.p) with _ | _
    · have H2 := Lib.hid h2
      go_enter Tryd.func58, Tryd.ntmps58
      go_wp2_with fail
      refine HA.out.mono ?_
      rintro e w1 ⟨rfl, hup⟩
      go_wp2_with fail
      refine (HO.out w1 hup).mono ?_
      rintro e w2 ⟨rfl, hup2⟩
      go_wp2
      go_ret
      exact ⟨ret_int (cd_1 (by simp)).symm, hup.trans hup2⟩
    · have H2 := Lib.hid h2
      go_enter Tryd.func58, Tryd.ntmps58
      go_wp2_with fail
      refine HA.out.mono ?_
      rintro e w1 ⟨rfl, hup⟩
      go_wp2_with fail
      refine (HO.out w1 hup).mono ?_
      rintro e w2 ⟨rfl, hup2⟩
      go_wp2_with fail
      refine (HK.out w2 (hup.trans hup2)).mono ?_
      rintro e w3 ⟨rfl, hup3⟩
      go_wp2
      go_ret
      exact ⟨rfl, hup.trans (hup2.trans hup3)⟩
end Go.Proofs.YtncmenfdnpmblaaDoor
