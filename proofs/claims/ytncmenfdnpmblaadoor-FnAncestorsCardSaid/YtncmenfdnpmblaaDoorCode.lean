/- The codes of copies and indices, and CountDifferences: the program's and the reference's walks. -/
import Derived.Test.YtncmenfdnpmblaaDoorDiff
namespace Go.Proofs.YtncmenfdnpmblaaDoor
open Go.RowKit Go.Sort

/-- what every function over copies may take for granted of its arguments -/
def Fit (l : List Cp) (c : Nat) : Prop := (∀ d ∈ l, d.name.size ≤ maxLen) ∧ (∀ d ∈ l, d.rs.length ≤ 2000000) ∧ l.length ≤ 2000000 ∧ l.length ≤ c ∧ c ≤ maxLen
theorem specAre (A : Option Addr) (l : List Cp) (c lo hi : Nat) (w : World) (hr : RdC w lo hi A l) (hhi : hi ≤ w.heap.size) (hf : Fit l c) :
    Calls Tryd.prog 59 #[.slice A l.length c] w fun e w' => e = .returned (.bool (arB (l.map Cp.p))) ∧ Up w w' := specAreCopies_any A l c lo hi w hr hhi hf.1 hf.2.1 hf.2.2.1
theorem implAre (A : Option Addr) (l : List Cp) (c lo hi : Nat) (w : World) (hr : RdC w lo hi A l) (hhi : hi ≤ w.heap.size) (hf : Fit l c) :
    Calls Tryd.prog 40 #[.slice A l.length c] w fun e w' => e = .returned (.bool (arB (l.map Cp.p))) ∧ Up w w' := implAreCopies_any A l c lo hi w hr hhi hf.1 hf.2.1 hf.2.2.1 hf.2.2.2.1 hf.2.2.2.2

/-- an index is one of n copies -/
def ixB (n : Nat) (i : Int) : Bool := inB i 0 ((n : Int) - 1)
theorem ixB_iff {n : Nat} {i : Int} (h : ixB n i = true) : 0 ≤ i ∧ i < n := by simp [ixB, inB] at h; omega
/-- the code of copies and indices, where right says whether the original is -/
def cdB (right : Bool) (P : List PC) (ix : List Int) : Int := if (arB P && right) = true then (if ix.all (ixB P.length) = true then 0 else 2) else 1
theorem cd_1 {right : Bool} {P : List PC} {ix : List Int} (h : (arB P && right) = false) : cdB right P ix = 1 := by simp [cdB, h]
theorem cd_2 {right : Bool} {P : List PC} {ix : List Int} (h : (arB P && right) = true) (h2 : ix.all (ixB P.length) = false) : cdB right P ix = 2 := by simp only [cdB, h, h2]; rfl
theorem cd_0 {right : Bool} {P : List PC} {ix : List Int} (h : (arB P && right) = true) (h2 : ix.all (ixB P.length) = true) : cdB right P ix = 0 := by simp only [cdB, h, h2]; rfl
theorem cd_inv {right : Bool} {P : List PC} {ix : List Int} (h : cdB right P ix = 0) : arB P = true ∧ right = true ∧ ∀ i ∈ ix, 0 ≤ i ∧ i < P.length := by
  rcases h1 : (arB P && right) with _ | _
  · rw [cd_1 h1] at h; cases h
  · rcases h2 : ix.all (ixB P.length) with _ | _
    · rw [cd_2 h1 h2] at h; cases h
    · simp only [Bool.and_eq_true] at h1
      exact ⟨h1.1, h1.2, fun i hi => ixB_iff (List.all_eq_true.1 h2 i hi)⟩

set_option maxRecDepth 100000 in
set_option maxHeartbeats 2000000 in
theorem l22Code_any (right : Bool) (A : Option Addr) (l : List Cp) (c lo hi : Nat) (i k : Int) (w : World) (hr : RdC w lo hi A l) (hhi : hi ≤ w.heap.size) (hf : Fit l c) :
    Calls Tryd.prog 75 #[.bool right, .slice A l.length c, .int .i64 i, .int .i64 k] w fun e w' => e = .returned (.int .i64 (cdB right (l.map Cp.p) [i, k])) ∧ Up w w' := by
  have HA := Lib.hid (specAre A l c lo hi w hr hhi hf)
  have hn := hf.2.2.1
  clear hf
  have e0 : (l.map Cp.p).length = l.length := by simp
  have E0 := Lib.hid e0
  clear e0
  rcases h1 : arB (l.map Cp.p) with _ | _
  · have H1 := Lib.hid h1
    go_enter Tryd.func75, Tryd.ntmps75
    go_wp2_with (go_at_call 59; refine HA.out.mono ?_; rintro e w1 ⟨rfl, hup⟩)
    go_ret
    exact ⟨ret_int (cd_1 (by rw [H1.out]; rfl)).symm, by assumption⟩
  · have H1 := Lib.hid h1
    cases right
    · go_enter Tryd.func75, Tryd.ntmps75
      go_wp2_with (go_at_call 59; refine HA.out.mono ?_; rintro e w1 ⟨rfl, hup⟩)
      go_ret
      exact ⟨ret_int (cd_1 (by rw [H1.out]; rfl)).symm, by assumption⟩
    · rcases h2 : ixB l.length i with _ | _
      · have h2' : (!inB i 0 ((l.length : Int) - 1)) = true := by simpa [ixB] using h2
        have H2 := Lib.hid h2
        clear h2
        go_enter Tryd.func75, Tryd.ntmps75
        go_wp2_with (first | (go_at_call 59; refine HA.out.mono ?_; rintro e w1 ⟨rfl, hup⟩) | (go_at_call 83; refine (l01In_any _ _ _ _).mono ?_; rintro e w' ⟨rfl, rfl⟩))
        go_ret
        exact ⟨ret_int (cd_2 (by rw [H1.out]; rfl) (by rw [E0.out]; simp [H2.out])).symm, by assumption⟩
      · have h2' : (!inB i 0 ((l.length : Int) - 1)) = false := by simpa [ixB] using h2
        have H2 := Lib.hid h2
        clear h2
        rcases h3 : ixB l.length k with _ | _
        · have h3' : (!inB k 0 ((l.length : Int) - 1)) = true := by simpa [ixB] using h3
          have H3 := Lib.hid h3
          clear h3
          go_enter Tryd.func75, Tryd.ntmps75
          go_wp2_with (first | (go_at_call 59; refine HA.out.mono ?_; rintro e w1 ⟨rfl, hup⟩) | (go_at_call 83; refine (l01In_any _ _ _ _).mono ?_; rintro e w' ⟨rfl, rfl⟩))
          go_ret
          exact ⟨ret_int (cd_2 (by rw [H1.out]; rfl) (by rw [E0.out]; simp [H2.out, H3.out])).symm, by assumption⟩
        · have h3' : (!inB k 0 ((l.length : Int) - 1)) = false := by simpa [ixB] using h3
          have H3 := Lib.hid h3
          clear h3
          go_enter Tryd.func75, Tryd.ntmps75
          go_wp2_with (first | (go_at_call 59; refine HA.out.mono ?_; rintro e w1 ⟨rfl, hup⟩) | (go_at_call 83; refine (l01In_any _ _ _ _).mono ?_; rintro e w' ⟨rfl, rfl⟩))
          go_ret
          exact ⟨ret_int (cd_0 (by rw [H1.out]; rfl) (by rw [E0.out]; simp [H2.out, H3.out])).symm, by assumption⟩

theorem codeClosure_any (A : Option Addr) (n c vb : Nat) (z : Int) (w : World) (hn : n ≤ 2000000) (hc : w.cell? ⟨vb, 0, none⟩ = some (.slice A n c)) :
    Calls Tryd.prog 94 #[.int .i64 z, .pointer (some ⟨vb, 0, none⟩)] w fun e w' => e = .returned (.bool (!ixB n z)) ∧ Up w w' := by
  go_enter Tryd.func94, Tryd.ntmps94
  go_wp2_with (go_at_call 65; refine (within_any _ _ _ _).mono ?_; rintro e w' ⟨rfl, rfl⟩)
  go_ret
  exact ⟨rfl, Up.refl _⟩

set_option maxRecDepth 100000 in
set_option maxHeartbeats 2000000 in
theorem checkCopies_any (A B : Option Addr) (l : List Cp) (ix : List Int) (c cb lo hi lo' hi' : Nat) (w : World) (hr : RdC w lo hi A l) (hhi : hi ≤ w.heap.size) (hf : Fit l c) (hr' : RdI w lo' hi' B ix) (hhi' : hi' ≤ w.heap.size) (hix : ix.length ≤ 2000000) :
    Calls Tryd.prog 73 #[.slice A l.length c, .slice B ix.length cb] w fun e w' => e = .returned (.int .i64 (cdB true (l.map Cp.p) ix)) ∧ Up w w' := by
  have hu := Up.alloc w (.cells #[.slice A l.length c] 24)
  have HA := Lib.hid (implAre A l c lo hi _ (hr.up hu hhi) (Nat.le_trans hhi hu.size) hf)
  have hn := hf.2.2.1
  have e0 : (l.map Cp.p).length = l.length := by simp
  have E0 := Lib.hid e0
  clear e0 hf
  rcases h1 : arB (l.map Cp.p) with _ | _
  · have H1 := Lib.hid h1
    go_enter Tryd.func73, Tryd.ntmps73
    go_wp2_with (go_at_call 40; refine HA.out.mono ?_; rintro e w1 ⟨rfl, hup⟩)
    go_ret
    exact ⟨ret_int (cd_1 (by rw [H1.out]; rfl)).symm, hu.trans (by assumption)⟩
  · have H1 := Lib.hid h1
    go_enter Tryd.func73, Tryd.ntmps73
    go_wp2_with fail
    refine HA.out.mono ?_
    rintro e w1 ⟨rfl, hup⟩
    have x0 := hup.cell (a := ⟨w.heap.size, 0, none⟩) (v := .slice A l.length c) (by simp)
    have hu1 := hu.trans hup
    have CI := containsFuncI_any B ix cb lo' hi' 94 #[.pointer (some ⟨w.heap.size, 0, none⟩)] (fun z => !ixB l.length z) w1 (hr'.up hu1 hhi') (Nat.le_trans hhi' hu1.size) hix (fun _ _ => by kernel_rfl)
      (fun z _ w2 hw2 => codeClosure_any A l.length c w.heap.size z w2 hn (hw2.cell x0))
    have HC := Lib.hid CI
    clear CI x0
    go_wp2_with fail
    refine HC.out.mono ?_
    rintro e w2 ⟨rfl, hup2⟩
    rcases h2 : ix.any (fun z => !ixB l.length z) with _ | _
    · have H2 := Lib.hid h2
      go_wp2
      go_ret
      exact ⟨ret_int (cd_0 (by rw [H1.out]; rfl) (by rw [E0.out, List.all_eq_not_any_not, H2.out]; rfl)).symm, hu1.trans hup2⟩
    · have H2 := Lib.hid h2
      go_wp2
      go_ret
      exact ⟨ret_int (cd_2 (by rw [H1.out]; rfl) (by rw [E0.out, List.all_eq_not_any_not, H2.out]; rfl)).symm, hu1.trans hup2⟩
end Go.Proofs.YtncmenfdnpmblaaDoor
