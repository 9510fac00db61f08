/- Two lists of words that are alike, by the reference and by the program. -/
import Derived.Test.YtehoaoeahfmfpaaGreatDoorNormI
namespace Go.Proofs.YtehoaoeahfmfpaaGreatDoor
open Go.RowKit Go.Sort

def alL (a b : List ByteArray) : Bool := decide (a.map nrm = b.map nrm)
theorem alL_len {a b : List ByteArray} (h : a.length ≠ b.length) : alL a b = false := by
  unfold alL; rw [decide_eq_false_iff_not]; intro e; apply h
  have := congrArg List.length e; simpa using this
theorem alL_end {a b : List ByteArray} {k : Nat} (hk : a.length ≤ k) (hl : a.length = b.length) (h : (a.take k).map nrm = (b.take k).map nrm) : alL a b = true := by
  rw [List.take_of_length_le hk, List.take_of_length_le (by omega)] at h
  unfold alL; exact decide_eq_true h
theorem alkB_eq {x y : ByteArray} : alkB x y = true ↔ nrm x = nrm y := by unfold alkB; rw [beq_iff_eq]; exact bytes_inj
theorem alL_no {a b : List ByteArray} {k : Nat} {x y : ByteArray} (hx : a[k]? = some x) (hy : b[k]? = some y) (h : alkB x y = false) : alL a b = false := by
  unfold alL; rw [decide_eq_false_iff_not]; intro e
  have := congrArg (fun l => l[k]?) e
  simp only [List.getElem?_map, hx, hy, Option.map_some, Option.some.injEq] at this
  rw [alkB_eq.2 this] at h; cases h
theorem al_step {a b : List ByteArray} {k : Nat} {x y : ByteArray} (ht : (a.take k).map nrm = (b.take k).map nrm) (hx : a[k]? = some x) (hy : b[k]? = some y) (h : alkB x y = true) : (a.take (k + 1)).map nrm = (b.take (k + 1)).map nrm := by
  rw [List.take_succ_eq_append_getElem (List.getElem?_eq_some_iff.1 hx).1, List.take_succ_eq_append_getElem (List.getElem?_eq_some_iff.1 hy).1, List.map_append, List.map_append, ht, (List.getElem?_eq_some_iff.1 hx).2, (List.getElem?_eq_some_iff.1 hy).2]
  simp [alkB_eq.1 h]

set_option maxRecDepth 100000 in
set_option maxHeartbeats 4000000 in
theorem l24Alike_any (A B : Option Addr) (a b : List ByteArray) (ca cb lo hi lo' hi' : Nat) (w : World) (hr : RdT w lo hi A a) (hhi : hi ≤ w.heap.size) (hr' : RdT w lo' hi' B b) (hhi' : hi' ≤ w.heap.size)
    (ha : ∀ x ∈ a, x.size < 32) (hb : ∀ x ∈ b, x.size < 32) (hn : a.length ≤ 2000000) (_hn' : b.length ≤ 2000000) :
    Calls Tryz.prog 43 #[.slice A a.length ca, .slice B b.length cb] w fun e w' => e = .returned (.bool (alL a b)) ∧ Up w w' := by
  by_cases hl : a.length = b.length
  · have hlb : ((a.length : Int) != (b.length : Int)) = false := by rw [hl]; simp
    have HL := Lib.hid hl
    have HA := Lib.hid ha
    have HB := Lib.hid hb
    clear hl ha hb
    go_enter Tryz.func43, Tryz.ntmps43
    go_wp2
    go_loopw [5] (fun i wr => ∃ k : Nat, k ≤ a.length ∧ i = .int .i64 k ∧ (a.take k).map nrm = (b.take k).map nrm ∧ Up w wr) (fun i _ => a.length - (intOf i).toNat)
    case atStart => exact ⟨0, Nat.zero_le _, rfl, rfl, Up.refl _⟩
    case round =>
      obtain ⟨k, hk, rfl, ht, hup⟩ := hrel
      have HT := Lib.hid ht
      clear ht
      by_cases hlt : k < a.length
      · have hlt' : k < b.length := by have := HL.out; omega
        obtain ⟨b1, o1, x, rfl, -, -, hx, z0⟩ := (hr.up hup hhi).txt hlt
        obtain ⟨b2, o2, y, rfl, -, -, hy, y0⟩ := (hr'.up hup hhi').txt hlt'
        have hxs := HA.out x (List.mem_of_getElem? hx)
        have hys := HB.out y (List.mem_of_getElem? hy)
        have HX := Lib.hid hx
        have HY := Lib.hid hy
        have c1 : ∀ dd os, Calls Tryz.prog 89 #[.string x] (grow (redrawn wr dd) os) fun e w'' => e = .returned (.string (nrm x)) ∧ ∃ p : Regrown, w'' = grow (redrawn wr p.d) p.os :=
          fun dd os => Calls.regrown_of (l10Normal_any x _ (by omega))
        have c2 : ∀ dd os, Calls Tryz.prog 89 #[.string y] (grow (redrawn wr dd) os) fun e w'' => e = .returned (.string (nrm y)) ∧ ∃ p : Regrown, w'' = grow (redrawn wr p.d) p.os :=
          fun dd os => Calls.regrown_of (l10Normal_any y _ (by omega))
        have C1 := Lib.hid c1
        have C2 := Lib.hid c2
        have Z0 := cell_regrown z0
        have Y0 := cell_regrown y0
        clear hx hy c1 c2
        obtain ⟨q, hq⟩ : ∃ q, q = alkB x y := ⟨_, rfl⟩
        have hqq : ((nrm x).toList == (nrm y).toList) = q := by rw [hq]; rfl
        have HQ := Lib.hid hq
        clear hq
        go_wp2_with fail
        refine wp_region_quiet_below (by kernel_rfl) (by kernel_rfl) ?_
        repeat (quiet_step ((go_at_call 89; first | (with_reducible exact C1.out _ _) | (with_reducible exact C2.out _ _))))
        refine wpQuiet_nil ?_
        intro w7 hw7
        obtain ⟨⟨dq, osq⟩, hw7⟩ := hw7
        have hup7 : Up wr w7 := by rw [hw7]; exact below_regrown _ _ _
        clear hw7 Z0 Y0
        cases q
        · go_wp2
          go_ret
          exact ⟨ret_bool (alL_no HX.out HY.out HQ.out.symm).symm, hup.trans hup7⟩
        · go_wp2
          go_roundw
          case rel => exact ⟨k + 1, by omega, by go_num, al_step HT.out HX.out HY.out HQ.out.symm, hup.trans hup7⟩
          case measure => simp [intOf]; omega
      · have HE := Lib.hid (alL_end (show a.length ≤ k by omega) HL.out HT.out)
        go_wp2
        go_ret
        exact ⟨ret_bool HE.out.symm, hup⟩
  · have hlb : ((a.length : Int) != (b.length : Int)) = true := by simp; omega
    have HE := Lib.hid (alL_len hl)
    clear hl ha hb
    go_enter Tryz.func43, Tryz.ntmps43
    go_wp2
    go_ret
    exact ⟨ret_bool HE.out.symm, Up.refl _⟩

set_option maxRecDepth 100000 in
set_option maxHeartbeats 4000000 in
theorem equalAlike_any (A B : Option Addr) (a b : List ByteArray) (ca cb lo hi lo' hi' : Nat) (w : World) (hr : RdT w lo hi A a) (hhi : hi ≤ w.heap.size) (hr' : RdT w lo' hi' B b) (hhi' : hi' ≤ w.heap.size)
    (ha : ∀ x ∈ a, x.size < 32) (hb : ∀ x ∈ b, x.size < 32) (hn : a.length ≤ 2000000) (_hn' : b.length ≤ 2000000) (fb : FuncId) (hent : ∀ (args : Array Value) (w : World), (callFunc fb args).run Tryz.prog w = .ok (.enter fb args) w)
    (hf : ∀ x y w1, x.size < 32 → y.size < 32 → Calls Tryz.prog fb #[.string x, .string y] w1 fun e w' => e = .returned (.bool (alkB x y)) ∧ Up w1 w') :
    Calls Tryz.prog 90 #[.slice A a.length ca, .slice B b.length cb, .func (.func fb) #[] #[]] w fun e w' => e = .returned (.bool (alL a b)) ∧ Up w w' := by
  have hnot : ∀ (x : Bool) (w : World), (Op.unary .not (.bool x)).run Tryz.prog w = .ok (.bool (!x)) w := fun _ _ => rfl
  have HF := Lib.hid hf
  clear hf
  by_cases hl : a.length = b.length
  · have hlb : ((a.length : Int) != (b.length : Int)) = false := by rw [hl]; simp
    have HL := Lib.hid hl
    have HA := Lib.hid ha
    have HB := Lib.hid hb
    clear hl ha hb
    go_enter Tryz.func90, Tryz.ntmps90
    go_wp2
    go_loopw [7, 8, 9, 17] (fun _ _ _ i wr => ∃ k : Nat, k ≤ a.length ∧ i = .int .i64 k ∧ (a.take k).map nrm = (b.take k).map nrm ∧ Up w wr) (fun _ _ _ i _ => a.length - (intOf i).toNat)
    case atStart => exact ⟨0, Nat.zero_le _, rfl, rfl, Up.refl _⟩
    case round =>
      obtain ⟨k, hk, rfl, ht, hup⟩ := hrel
      have HT := Lib.hid ht
      clear ht
      by_cases hlt : k < a.length
      · have hlt' : k < b.length := by have := HL.out; omega
        obtain ⟨b1, o1, x, rfl, -, -, hx, z0⟩ := (hr.up hup hhi).txt hlt
        obtain ⟨b2, o2, y, rfl, -, -, hy, y0⟩ := (hr'.up hup hhi').txt hlt'
        have hxs := HA.out x (List.mem_of_getElem? hx)
        have hys := HB.out y (List.mem_of_getElem? hy)
        have HX := Lib.hid hx
        have HY := Lib.hid hy
        have C1 := Lib.hid (HF.out x y wr hxs hys)
        clear hx hy
        obtain ⟨q, hq⟩ : ∃ q, q = alkB x y := ⟨_, rfl⟩
        rw [← hq] at C1
        have HQ := Lib.hid hq
        clear hq
        go_wp2_with fail
        refine C1.out.mono ?_
        rintro e w7 ⟨rfl, hup7⟩
        cases q
        · go_wp2
          go_ret
          exact ⟨ret_bool (alL_no HX.out HY.out HQ.out.symm).symm, hup.trans hup7⟩
        · go_wp2
          go_roundw
          case rel => exact ⟨k + 1, by omega, by go_num, al_step HT.out HX.out HY.out HQ.out.symm, hup.trans hup7⟩
          case measure => simp [intOf]; omega
      · have HE := Lib.hid (alL_end (show a.length ≤ k by omega) HL.out HT.out)
        go_wp2
        go_ret
        exact ⟨ret_bool HE.out.symm, hup⟩
  · have hlb : ((a.length : Int) != (b.length : Int)) = true := by simp; omega
    have HE := Lib.hid (alL_len hl)
    clear hl ha hb
    go_enter Tryz.func90, Tryz.ntmps90
    go_wp2
    go_ret
    exact ⟨ret_bool HE.out.symm, Up.refl _⟩
theorem allAlike_any (A B : Option Addr) (a b : List ByteArray) (ca cb lo hi lo' hi' : Nat) (w : World) (hr : RdT w lo hi A a) (hhi : hi ≤ w.heap.size) (hr' : RdT w lo' hi' B b) (hhi' : hi' ≤ w.heap.size)
    (ha : ∀ x ∈ a, x.size < 32) (hb : ∀ x ∈ b, x.size < 32) (hn : a.length ≤ 2000000) (hn' : b.length ≤ 2000000) :
    Calls Tryz.prog 50 #[.slice A a.length ca, .slice B b.length cb] w fun e w' => e = .returned (.bool (alL a b)) ∧ Up w w' := by
  have H := Lib.hid (equalAlike_any A B a b ca cb lo hi lo' hi' w hr hhi hr' hhi' ha hb hn hn' 78 (fun _ _ => by kernel_rfl) (fun x y w1 hx hy => alike_any x y w1 hx hy))
  go_enter Tryz.func50, Tryz.ntmps50
  go_wp2_with fail
  refine H.out.mono ?_
  rintro e w7 ⟨rfl, hup7⟩
  go_wp2
  go_ret
  exact ⟨rfl, hup7⟩
end Go.Proofs.YtehoaoeahfmfpaaGreatDoor
