/- slices.IndexFunc and ContainsFunc over spans, whatever function is handed in, as long as it answers a plain test and leaves old memory alone. Whether a day is in a set, by the reference and by the program. -/
import Derived.Test.YtehoaoeahfmfpaaGreatDoorSpRow
namespace Go.Proofs.YtehoaoeahfmfpaaGreatDoor
open Go.RowKit Go.Sort

/-- what a function value answers on formulas, in every world that has only grown since w -/
def AnsSp (w : World) (f : FuncId) (caps : Array Value) (p : Sp → Bool) (l : List Sp) : Prop :=
  ∀ d ∈ l, ∀ w1, Up w w1 → Calls Tryz.prog f (#[.agg #[.int .i64 d.1, .int .i64 d.2]] ++ caps) w1 fun e w2 => e = .returned (.bool (p d)) ∧ Up w1 w2

/-- a function with a body: a call of its value enters it -/
def EntersSp (f : FuncId) : Prop := ∀ (args : Array Value) (w : World), (callFunc f args).run Tryz.prog w = .ok (.enter f args) w

def idxFSp (l : List Sp) (p : Sp → Bool) : Int := match l.findIdx? p with | some i => (i : Int) | none => -1
theorem idxFSp_yes {l : List Sp} {p : Sp → Bool} {k : Nat} {d : Sp} (hd : l[k]? = some d) (h : p d = true) (hb : ∀ j x, j < k → l[j]? = some x → p x = false) : idxFSp l p = k := by
  have hk := (List.getElem?_eq_some_iff.1 hd).1
  have : l.findIdx? p = some k := by
    rw [List.findIdx?_eq_some_iff_getElem]
    refine ⟨hk, by rw [(List.getElem?_eq_some_iff.1 hd).2]; exact h, fun j hj => ?_⟩
    have := hb j _ hj (List.getElem?_eq_getElem (by omega))
    simp [this]
  simp [idxFSp, this]
theorem idxFSp_no {l : List Sp} {p : Sp → Bool} (hb : ∀ j x, j < l.length → l[j]? = some x → p x = false) : idxFSp l p = -1 := by
  have : l.findIdx? p = none := by
    rw [List.findIdx?_eq_none_iff]
    intro x hx
    obtain ⟨j, hj, e⟩ := List.getElem_of_mem hx
    exact hb j x hj (by rw [List.getElem?_eq_getElem hj, e])
  simp [idxFSp, this]
theorem idxFSp_any (l : List Sp) (p : Sp → Bool) : decide (0 ≤ idxFSp l p) = l.any p := by
  unfold idxFSp
  rcases h : l.findIdx? p with _ | i
  · rw [List.findIdx?_eq_none_iff] at h
    have : l.any p = false := by rw [List.any_eq_false]; intro x hx; simpa using h x hx
    rw [this]; rfl
  · have h2 := List.findIdx?_eq_some_iff_getElem.1 h
    obtain ⟨hk, hp, _⟩ := h2
    have : l.any p = true := by rw [List.any_eq_true]; exact ⟨_, List.getElem_mem hk, hp⟩
    rw [this]; simp

set_option maxRecDepth 100000 in
set_option maxHeartbeats 1000000 in
theorem indexFuncSp_any (A : Option Addr) (l : List Sp) (c lo hi : Nat) (f : FuncId) (caps : Array Value) (p : Sp → Bool) (w : World) (hr : RdP w lo hi A l) (hhi : hi ≤ w.heap.size) (hn : l.length ≤ 2000000) (he : EntersSp f) (hf : AnsSp w f caps p l) :
    Calls Tryz.prog 111 #[.slice A l.length c, .func (.func f) #[] caps] w fun e w' => e = .returned (.int .i64 (idxFSp l p)) ∧ Up w w' := by
  have hent : ∀ (args : Array Value) (w : World), (callFunc f args).run Tryz.prog w = .ok (.enter f args) w := he
  go_enter Tryz.func111, Tryz.ntmps111
  go_wp2
  go_loopw [4, 5, 8] (fun u4 u5 i wr => ∃ k : Nat, k ≤ l.length ∧ i = .int .i64 k ∧ (∀ j x, j < k → l[j]? = some x → p x = false) ∧ Up w wr) (fun _ _ i _ => l.length - (intOf i).toNat)
  case atStart => exact ⟨0, Nat.zero_le _, rfl, fun j x h => absurd h (by omega), Up.refl _⟩
  case round =>
    obtain ⟨k, hk, rfl, ha, hup⟩ := hrel
    have HA := Lib.hid ha
    clear ha
    by_cases hlt : k < l.length
    · obtain ⟨b, off, f', t', rfl, -, -, hd, q0, q1⟩ := (hr.up hup hhi).sp hlt
      have HD := Lib.hid hd
      clear hd
      have HF := Lib.hid (hf (f', t') (List.mem_of_getElem? HD.out) wr hup)
      go_wp2_with fail
      refine HF.out.mono ?_
      rintro e w2 ⟨rfl, hup2⟩
      by_cases hp : p (f', t') = true
      · have HP := Lib.hid hp
        go_wp2
        go_ret
        exact ⟨ret_int (idxFSp_yes HD.out HP.out (fun j x hj hx => HA.out j x hj hx)).symm, hup.trans hup2⟩
      · have hp' : p (f', t') = false := by simpa using hp
        have HP := Lib.hid hp'
        clear hp
        go_wp2
        go_roundw
        case rel => exact ⟨k + 1, by omega, by go_num, fun j x hj hx => by
          rcases Nat.lt_or_ge j k with h | h
          · exact HA.out j x h hx
          · obtain rfl : j = k := by omega
            rw [HD.out] at hx; cases hx; exact HP.out, hup.trans hup2⟩
        case measure => simp [intOf]; omega
    · go_wp2
      go_ret
      exact ⟨ret_int (idxFSp_no (fun j x hj hx => HA.out j x (by omega) hx)).symm, hup⟩

set_option maxHeartbeats 400000 in
theorem containsFuncSp_any (A : Option Addr) (l : List Sp) (c lo hi : Nat) (f : FuncId) (caps : Array Value) (p : Sp → Bool) (w : World) (hr : RdP w lo hi A l) (hhi : hi ≤ w.heap.size) (hn : l.length ≤ 2000000) (he : EntersSp f) (hf : AnsSp w f caps p l) :
    Calls Tryz.prog 99 #[.slice A l.length c, .func (.func f) #[] caps] w fun e w' => e = .returned (.bool (l.any p)) ∧ Up w w' := by
  have H := Lib.hid (indexFuncSp_any A l c lo hi f caps p w hr hhi hn he hf)
  go_enter Tryz.func99, Tryz.ntmps99
  go_wp2_with (go_at_call 111; refine H.out.mono ?_; rintro e w' ⟨rfl, hup⟩)
  go_ret
  exact ⟨ret_bool (idxFSp_any l p), hup⟩
end Go.Proofs.YtehoaoeahfmfpaaGreatDoor

namespace Go.Proofs.YtehoaoeahfmfpaaGreatDoor
open Go.RowKit Go.Sort

def inSp (n f t : Int) : Bool := decide (f ≤ n) && decide (n ≤ t)
theorem l01InP_any (n f t : Int) (w : World) : Calls Tryz.prog 60 #[.int .i64 n, .int .i64 f, .int .i64 t] w fun e w' => e = .returned (.bool (inSp n f t)) ∧ Up w w' := by
  by_cases h1 : f ≤ n
  · have d1 : decide (f ≤ n) = true := by simpa using h1
    by_cases h2 : n ≤ t
    · have d2 : decide (n ≤ t) = true := by simpa using h2
      have HE := Lib.hid (show inSp n f t = true by simp [inSp, h1, h2])
      go_enter Tryz.func60, Tryz.ntmps60
      go_wp2
      go_ret
      exact ⟨ret_bool HE.out.symm, Up.refl _⟩
    · have d2 : decide (n ≤ t) = false := by simpa using h2
      have HE := Lib.hid (show inSp n f t = false by simp [inSp, h2])
      go_enter Tryz.func60, Tryz.ntmps60
      go_wp2
      go_ret
      exact ⟨ret_bool HE.out.symm, Up.refl _⟩
  · have d1 : decide (f ≤ n) = false := by simpa using h1
    have HE := Lib.hid (show inSp n f t = false by simp [inSp, h1])
    go_enter Tryz.func60, Tryz.ntmps60
    go_wp2
    go_ret
    exact ⟨ret_bool HE.out.symm, Up.refl _⟩
theorem withinP_any (n f t : Int) (w : World) : Calls Tryz.prog 57 #[.int .i64 n, .int .i64 f, .int .i64 t] w fun e w' => e = .returned (.bool (inSp n f t)) ∧ Up w w' := by
  by_cases h1 : f ≤ n
  · have d1 : decide (f ≤ n) = true := by simpa using h1
    by_cases h2 : n ≤ t
    · have d2 : decide (n ≤ t) = true := by simpa using h2
      have HE := Lib.hid (show inSp n f t = true by simp [inSp, h1, h2])
      go_enter Tryz.func57, Tryz.ntmps57
      go_wp2
      go_ret
      exact ⟨ret_bool HE.out.symm, Up.refl _⟩
    · have d2 : decide (n ≤ t) = false := by simpa using h2
      have HE := Lib.hid (show inSp n f t = false by simp [inSp, h2])
      go_enter Tryz.func57, Tryz.ntmps57
      go_wp2
      go_ret
      exact ⟨ret_bool HE.out.symm, Up.refl _⟩
  · have d1 : decide (f ≤ n) = false := by simpa using h1
    have HE := Lib.hid (show inSp n f t = false by simp [inSp, h1])
    go_enter Tryz.func57, Tryz.ntmps57
    go_wp2
    go_ret
    exact ⟨ret_bool HE.out.symm, Up.refl _⟩
theorem hasL_yes {l : List Sp} {k : Nat} {f t n : Int} (h : l[k]? = some (f, t)) (hi : inSp n f t = true) : hasL l n = true :=
  List.any_eq_true.2 ⟨(f, t), List.mem_of_getElem? h, hi⟩
theorem hasL_end {l : List Sp} {n : Int} (h : ∀ (j : Nat) f t, j < l.length → l[j]? = some (f, t) → inSp n f t = false) : hasL l n = false := by
  unfold hasL
  rw [List.any_eq_false]
  intro x hx
  obtain ⟨j, hj, e⟩ := List.getElem_of_mem hx
  have := h j x.1 x.2 hj (by rw [List.getElem?_eq_getElem hj, e])
  simpa [inSp] using this

set_option maxHeartbeats 1000000 in
theorem specHas_any (A : Option Addr) (l : List Sp) (c lo hi : Nat) (n : Int) (w : World) (hr : RdP w lo hi A l) (hhi : hi ≤ w.heap.size) (hn : l.length ≤ 2000000) :
    Calls Tryz.prog 104 #[.slice A l.length c, .int .i64 n] w fun e w' => e = .returned (.bool (hasL l n)) ∧ Up w w' := by
  go_enter Tryz.func104, Tryz.ntmps104
  go_wp2
  go_loopw [5] (fun i wr => ∃ k : Nat, k ≤ l.length ∧ i = .int .i64 k ∧ (∀ (j : Nat) f t, j < k → l[j]? = some (f, t) → inSp n f t = false) ∧ Up w wr) (fun i _ => l.length - (intOf i).toNat)
  case atStart => exact ⟨0, Nat.zero_le _, rfl, fun j f t h => absurd h (by omega), Up.refl _⟩
  case round =>
    obtain ⟨k, hk, rfl, ha, hup⟩ := hrel
    have HA := Lib.hid ha
    clear ha
    by_cases hlt : k < l.length
    · obtain ⟨b, off, f, t, rfl, -, -, hd, q0, q1⟩ := (hr.up hup hhi).sp hlt
      have HD := Lib.hid hd
      clear hd
      have Q0 := cell_regrown q0
      have Q1 := cell_regrown q1
      have hE := fun wx => l01InP_any n f t wx
      obtain ⟨bb, hbb⟩ : ∃ bb, bb = inSp n f t := ⟨_, rfl⟩
      simp only [← hbb] at hE
      have HE := Lib.hid hE
      have HB := Lib.hid hbb
      clear hE hbb
      go_wp2_with fail
      refine wp_region_quiet_below (by kernel_rfl) (by kernel_rfl) ?_
      repeat (quiet_step ((go_at_call 60; exact Calls.regrown_of (HE.out _))))
      refine wpQuiet_nil ?_
      intro w2 hw2
      obtain ⟨⟨dq, osq⟩, hw2⟩ := hw2
      have hup2 : Up wr w2 := by rw [hw2]; exact below_regrown _ _ _
      clear hw2 Q0 Q1 q0 q1
      cases bb
      · go_wp2
        go_roundw
        case rel => exact ⟨k + 1, by omega, by go_num, fun j f' t' hj hx => by
          rcases Nat.lt_or_ge j k with h | h
          · exact HA.out j f' t' h hx
          · obtain rfl : j = k := by omega
            rw [HD.out] at hx; cases hx; exact HB.out.symm, hup.trans hup2⟩
        case measure => simp [intOf]; omega
      · go_wp2
        go_ret
        exact ⟨ret_bool (hasL_yes HD.out HB.out.symm).symm, hup.trans hup2⟩
    · go_wp2
      go_ret
      exact ⟨ret_bool (hasL_end (fun j f t hj hx => HA.out j f t (by omega) hx)).symm, hup⟩

set_option maxHeartbeats 1000000 in
theorem hasClosure_any (s : Sp) (n : Int) (v : Nat) (w : World) (h : w.cell? ⟨v, 0, none⟩ = some (.int .i64 n)) :
    Calls Tryz.prog 100 #[.agg #[.int .i64 s.1, .int .i64 s.2], .pointer (some ⟨v, 0, none⟩)] w fun e w' => e = .returned (.bool (inSp n s.1 s.2)) ∧ Up w w' := by
  have hub := Up.alloc w (.cells #[.int .i64 s.1, .int .i64 s.2] 95)
  have h' := hub.cell h
  have HC := Lib.hid (withinP_any n s.1 s.2 (w.alloc (.cells #[.int .i64 s.1, .int .i64 s.2] 95)))
  go_enter Tryz.func100, Tryz.ntmps100
  go_wp2_with fail
  refine HC.out.mono ?_
  rintro e w1 ⟨rfl, hu1⟩
  go_wp2
  go_ret
  exact ⟨rfl, hub.trans hu1⟩

set_option maxHeartbeats 1000000 in
theorem hasDay_any (A : Option Addr) (l : List Sp) (c lo hi : Nat) (n : Int) (w : World) (hr : RdP w lo hi A l) (hhi : hi ≤ w.heap.size) (hn : l.length ≤ 2000000) :
    Calls Tryz.prog 72 #[.slice A l.length c, .int .i64 n] w fun e w' => e = .returned (.bool (hasL l n)) ∧ Up w w' := by
  have hub := Up.alloc w (.cells #[.int .i64 n] 2)
  have h' : (w.alloc (.cells #[.int .i64 n] 2)).cell? ⟨w.heap.size, 0, none⟩ = some (.int .i64 n) := by go_simp
  have HC := Lib.hid (containsFuncSp_any A l c lo hi 100 #[.pointer (some ⟨w.heap.size, 0, none⟩)] (fun s => inSp n s.1 s.2) _ (hr.up hub hhi) (Nat.le_trans hhi hub.size) hn (fun _ _ => by kernel_rfl) (fun d _ w1 hu => hasClosure_any d n w.heap.size w1 (hu.cell h')))
  have HE := Lib.hid (show hasL l n = l.any fun s => inSp n s.1 s.2 from rfl)
  go_enter Tryz.func72, Tryz.ntmps72
  go_wp2_with fail
  refine HC.out.mono ?_
  rintro e w1 ⟨rfl, hu1⟩
  go_wp2
  go_ret
  exact ⟨ret_bool HE.out.symm, hub.trans hu1⟩
end Go.Proofs.YtehoaoeahfmfpaaGreatDoor
