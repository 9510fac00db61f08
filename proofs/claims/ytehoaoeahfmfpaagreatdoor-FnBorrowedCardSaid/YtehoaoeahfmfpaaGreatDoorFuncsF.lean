/- slices.IndexFunc and ContainsFunc over formulas, whatever function is handed in, as long as it answers a plain test and leaves old memory alone. -/
import Derived.Test.YtehoaoeahfmfpaaGreatDoorFormA
namespace Go.Proofs.YtehoaoeahfmfpaaGreatDoor
open Go.RowKit Go.Sort

/-- what a function value answers on formulas, in every world that has only grown since w -/
def AnsFm (w : World) (f : FuncId) (caps : Array Value) (p : Fm → Bool) (l : List Fm) : Prop :=
  ∀ d ∈ l, ∀ w1, Up w w1 → Calls Tryz.prog f (#[d.val] ++ caps) w1 fun e w2 => e = .returned (.bool (p d)) ∧ Up w1 w2

/-- a function with a body: a call of its value enters it -/
def EntersFm (f : FuncId) : Prop := ∀ (args : Array Value) (w : World), (callFunc f args).run Tryz.prog w = .ok (.enter f args) w

def idxFFm (l : List Fm) (p : Fm → Bool) : Int := match l.findIdx? p with | some i => (i : Int) | none => -1
theorem idxFFm_yes {l : List Fm} {p : Fm → Bool} {k : Nat} {d : Fm} (hd : l[k]? = some d) (h : p d = true) (hb : ∀ j x, j < k → l[j]? = some x → p x = false) : idxFFm l p = k := by
  have hk := (List.getElem?_eq_some_iff.1 hd).1
  have : l.findIdx? p = some k := by
    rw [List.findIdx?_eq_some_iff_getElem]
    refine ⟨hk, by rw [(List.getElem?_eq_some_iff.1 hd).2]; exact h, fun j hj => ?_⟩
    have := hb j _ hj (List.getElem?_eq_getElem (by omega))
    simp [this]
  simp [idxFFm, this]
theorem idxFFm_no {l : List Fm} {p : Fm → Bool} (hb : ∀ j x, j < l.length → l[j]? = some x → p x = false) : idxFFm l p = -1 := by
  have : l.findIdx? p = none := by
    rw [List.findIdx?_eq_none_iff]
    intro x hx
    obtain ⟨j, hj, e⟩ := List.getElem_of_mem hx
    exact hb j x hj (by rw [List.getElem?_eq_getElem hj, e])
  simp [idxFFm, this]
theorem idxFFm_any (l : List Fm) (p : Fm → Bool) : decide (0 ≤ idxFFm l p) = l.any p := by
  unfold idxFFm
  rcases h : l.findIdx? p with _ | i
  · rw [List.findIdx?_eq_none_iff] at h
    have : l.any p = false := by rw [List.any_eq_false]; intro x hx; simpa using h x hx
    rw [this]; rfl
  · have h2 := List.findIdx?_eq_some_iff_getElem.1 h
    obtain ⟨hk, hp, _⟩ := h2
    have : l.any p = true := by rw [List.any_eq_true]; exact ⟨_, List.getElem_mem hk, hp⟩
    rw [this]; simp

set_option maxRecDepth 100000 in
set_option maxHeartbeats 1000000 in
theorem indexFuncFm_any (A : Option Addr) (l : List Fm) (c lo hi : Nat) (f : FuncId) (caps : Array Value) (p : Fm → Bool) (w : World) (hr : RdF w lo hi A l) (hhi : hi ≤ w.heap.size) (hn : l.length ≤ 2000000) (he : EntersFm f) (hf : AnsFm w f caps p l) :
    Calls Tryz.prog 48 #[.slice A l.length c, .func (.func f) #[] caps] w fun e w' => e = .returned (.int .i64 (idxFFm l p)) ∧ Up w w' := by
  have hent : ∀ (args : Array Value) (w : World), (callFunc f args).run Tryz.prog w = .ok (.enter f args) w := he
  go_enter Tryz.func48, Tryz.ntmps48
  go_wp2
  go_loopw [4, 5, 8] (fun u4 u5 i wr => ∃ k : Nat, k ≤ l.length ∧ i = .int .i64 k ∧ (∀ j x, j < k → l[j]? = some x → p x = false) ∧ Up w wr) (fun _ _ i _ => l.length - (intOf i).toNat)
  case atStart => exact ⟨0, Nat.zero_le _, rfl, fun j x h => absurd h (by omega), Up.refl _⟩
  case round =>
    obtain ⟨k, hk, rfl, ha, hup⟩ := hrel
    have HA := Lib.hid ha
    clear ha
    by_cases hlt : k < l.length
    · obtain ⟨b, off, d, rfl, -, -, hd, hin, q0, q1, q2⟩ := (hr.up hup hhi).at_ hlt
      have HD := Lib.hid hd
      clear hd
      have HF := Lib.hid (hf d (List.mem_of_getElem? HD.out) wr hup)
      go_wp2_with fail
      refine HF.out.mono ?_
      rintro e w2 ⟨rfl, hup2⟩
      by_cases hp : p d = true
      · have HP := Lib.hid hp
        go_wp2
        go_ret
        exact ⟨ret_int (idxFFm_yes HD.out HP.out (fun j x hj hx => HA.out j x hj hx)).symm, hup.trans hup2⟩
      · have hp' : p d = false := by simpa using hp
        have HP := Lib.hid hp'
        clear hp
        go_wp2
        go_roundw
        case rel => exact ⟨k + 1, by omega, by go_num, fun j x hj hx => by
          rcases Nat.lt_or_ge j k with h | h
          · exact HA.out j x h hx
          · obtain rfl : j = k := by omega
            rw [HD.out] at hx; cases hx; exact HP.out, hup.trans hup2⟩
        case measure => simp [intOf]; omega
    · go_wp2
      go_ret
      exact ⟨ret_int (idxFFm_no (fun j x hj hx => HA.out j x (by omega) hx)).symm, hup⟩

set_option maxHeartbeats 400000 in
theorem containsFuncFm_any (A : Option Addr) (l : List Fm) (c lo hi : Nat) (f : FuncId) (caps : Array Value) (p : Fm → Bool) (w : World) (hr : RdF w lo hi A l) (hhi : hi ≤ w.heap.size) (hn : l.length ≤ 2000000) (he : EntersFm f) (hf : AnsFm w f caps p l) :
    Calls Tryz.prog 75 #[.slice A l.length c, .func (.func f) #[] caps] w fun e w' => e = .returned (.bool (l.any p)) ∧ Up w w' := by
  have H := Lib.hid (indexFuncFm_any A l c lo hi f caps p w hr hhi hn he hf)
  go_enter Tryz.func75, Tryz.ntmps75
  go_wp2_with (go_at_call 48; refine H.out.mono ?_; rintro e w' ⟨rfl, hup⟩)
  go_ret
  exact ⟨ret_bool (idxFFm_any l p), hup⟩
end Go.Proofs.YtehoaoeahfmfpaaGreatDoor
