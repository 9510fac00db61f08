/- slices.IndexFunc and ContainsFunc over strings, whatever function is handed in, as long as it answers a plain test and leaves old memory alone. -/
import Derived.Test.YtehoaoeahfmfpaaDoorTxt
namespace Go.Proofs.YtehoaoeahfmfpaaDoor
open Go.RowKit Go.Sort

/-- what a function value answers on strings, in every world that has only grown since w -/
def AnsT (w : World) (f : FuncId) (caps : Array Value) (p : ByteArray → Bool) (l : List ByteArray) : Prop :=
  ∀ d ∈ l, ∀ w1, Up w w1 → Calls Tryd.prog f (#[.string d] ++ caps) w1 fun e w2 => e = .returned (.bool (p d)) ∧ Up w1 w2

/-- a function with a body: a call of its value enters it -/
def EntersT (f : FuncId) : Prop := ∀ (args : Array Value) (w : World), (callFunc f args).run Tryd.prog w = .ok (.enter f args) w

def idxFT (l : List ByteArray) (p : ByteArray → Bool) : Int := match l.findIdx? p with | some i => (i : Int) | none => -1
theorem idxFT_yes {l : List ByteArray} {p : ByteArray → Bool} {k : Nat} {d : ByteArray} (hd : l[k]? = some d) (h : p d = true) (hb : ∀ j x, j < k → l[j]? = some x → p x = false) : idxFT l p = k := by
  have hk := (List.getElem?_eq_some_iff.1 hd).1
  have : l.findIdx? p = some k := by
    rw [List.findIdx?_eq_some_iff_getElem]
    refine ⟨hk, by rw [(List.getElem?_eq_some_iff.1 hd).2]; exact h, fun j hj => ?_⟩
    have := hb j _ hj (List.getElem?_eq_getElem (by omega))
    simp [this]
  simp [idxFT, this]
theorem idxFT_no {l : List ByteArray} {p : ByteArray → Bool} (hb : ∀ j x, j < l.length → l[j]? = some x → p x = false) : idxFT l p = -1 := by
  have : l.findIdx? p = none := by
    rw [List.findIdx?_eq_none_iff]
    intro x hx
    obtain ⟨j, hj, e⟩ := List.getElem_of_mem hx
    exact hb j x hj (by rw [List.getElem?_eq_getElem hj, e])
  simp [idxFT, this]
theorem idxFT_any (l : List ByteArray) (p : ByteArray → Bool) : decide (0 ≤ idxFT l p) = l.any p := by
  unfold idxFT
  rcases h : l.findIdx? p with _ | i
  · rw [List.findIdx?_eq_none_iff] at h
    have : l.any p = false := by rw [List.any_eq_false]; intro x hx; simpa using h x hx
    rw [this]; rfl
  · have h2 := List.findIdx?_eq_some_iff_getElem.1 h
    obtain ⟨hk, hp, _⟩ := h2
    have : l.any p = true := by rw [List.any_eq_true]; exact ⟨_, List.getElem_mem hk, hp⟩
    rw [this]; simp

set_option maxRecDepth 100000 in
set_option maxHeartbeats 1000000 in
theorem indexFuncT_any (A : Option Addr) (l : List ByteArray) (c lo hi : Nat) (f : FuncId) (caps : Array Value) (p : ByteArray → Bool) (w : World) (hr : RdT w lo hi A l) (hhi : hi ≤ w.heap.size) (hn : l.length ≤ 2000000) (he : EntersT f) (hf : AnsT w f caps p l) :
    Calls Tryd.prog 17 #[.slice A l.length c, .func (.func f) #[] caps] w fun e w' => e = .returned (.int .i64 (idxFT l p)) ∧ Up w w' := by
  have hent : ∀ (args : Array Value) (w : World), (callFunc f args).run Tryd.prog w = .ok (.enter f args) w := he
  go_enter Tryd.func17, Tryd.ntmps17
  go_wp2
  go_loopw [4, 5, 8] (fun u4 u5 i wr => ∃ k : Nat, k ≤ l.length ∧ i = .int .i64 k ∧ (∀ j x, j < k → l[j]? = some x → p x = false) ∧ Up w wr) (fun _ _ i _ => l.length - (intOf i).toNat)
  case atStart => exact ⟨0, Nat.zero_le _, rfl, fun j x h => absurd h (by omega), Up.refl _⟩
  case round =>
    obtain ⟨k, hk, rfl, ha, hup⟩ := hrel
    have HA := Lib.hid ha
    clear ha
    by_cases hlt : k < l.length
    · obtain ⟨b, off, d, rfl, -, -, hd, q0⟩ := (hr.up hup hhi).txt hlt
      have HD := Lib.hid hd
      clear hd
      have HF := Lib.hid (hf d (List.mem_of_getElem? HD.out) wr hup)
      go_wp2_with fail
      refine HF.out.mono ?_
      rintro e w2 ⟨rfl, hup2⟩
      by_cases hp : p d = true
      · have HP := Lib.hid hp
        go_wp2
        go_ret
        exact ⟨ret_int (idxFT_yes HD.out HP.out (fun j x hj hx => HA.out j x hj hx)).symm, hup.trans hup2⟩
      · have hp' : p d = false := by simpa using hp
        have HP := Lib.hid hp'
        clear hp
        go_wp2
        go_roundw
        case rel => exact ⟨k + 1, by omega, by go_num, fun j x hj hx => by
          rcases Nat.lt_or_ge j k with h | h
          · exact HA.out j x h hx
          · obtain rfl : j = k := by omega
            rw [HD.out] at hx; cases hx; exact HP.out, hup.trans hup2⟩
        case measure => simp [intOf]; omega
    · go_wp2
      go_ret
      exact ⟨ret_int (idxFT_no (fun j x hj hx => HA.out j x (by omega) hx)).symm, hup⟩

set_option maxHeartbeats 400000 in
theorem containsFuncT_any (A : Option Addr) (l : List ByteArray) (c lo hi : Nat) (f : FuncId) (caps : Array Value) (p : ByteArray → Bool) (w : World) (hr : RdT w lo hi A l) (hhi : hi ≤ w.heap.size) (hn : l.length ≤ 2000000) (he : EntersT f) (hf : AnsT w f caps p l) :
    Calls Tryd.prog 8 #[.slice A l.length c, .func (.func f) #[] caps] w fun e w' => e = .returned (.bool (l.any p)) ∧ Up w w' := by
  have H := Lib.hid (indexFuncT_any A l c lo hi f caps p w hr hhi hn he hf)
  go_enter Tryd.func8, Tryd.ntmps8
  go_wp2_with (go_at_call 17; refine H.out.mono ?_; rintro e w' ⟨rfl, hup⟩)
  go_ret
  exact ⟨ret_bool (idxFT_any l p), hup⟩
end Go.Proofs.YtehoaoeahfmfpaaDoor
