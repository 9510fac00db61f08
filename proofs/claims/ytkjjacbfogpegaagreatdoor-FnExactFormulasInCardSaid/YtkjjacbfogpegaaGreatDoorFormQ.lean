/- Lists of formulas: equality. -/
import Derived.Test.YtkjjacbfogpegaaGreatDoorFormC
namespace Go.Proofs.YtkjjacbfogpegaaGreatDoor
open Go.RowKit Go.Sort

def eqFs (L M : List Fm) : Bool := decide (L.map Fm.p = M.map Fm.p)
theorem eqFs_len {l m : List Fm} (h : l.length ≠ m.length) : eqFs l m = false := by unfold eqFs; rw [decide_eq_false_iff_not]; intro e; apply h; simpa using congrArg List.length e
theorem eqFs_ne {l m : List Fm} {k : Nat} {a b : Fm} (ha : l[k]? = some a) (hb : m[k]? = some b) (h : eqF a b = false) : eqFs l m = false := by
  unfold eqFs; rw [decide_eq_false_iff_not]; intro e
  have e2 : (l.map Fm.p)[k]? = (m.map Fm.p)[k]? := by rw [e]
  rw [List.getElem?_map, List.getElem?_map, ha, hb] at e2
  simp only [Option.map_some, Option.some.injEq] at e2
  simp [eqF, e2] at h
theorem eqFs_eq {l m : List Fm} (h : (l.take l.length).map Fm.p = (m.take l.length).map Fm.p) (hl : l.length = m.length) : eqFs l m = true := by
  unfold eqFs; rw [decide_eq_true_iff]
  rwa [List.take_of_length_le (Nat.le_refl _), hl, List.take_of_length_le (Nat.le_refl _)] at h
theorem eqFs_self {l m : List Fm} (h : l.map Fm.p = m.map Fm.p) : eqFs l m = true := by simp [eqFs, h]
theorem take_succ_mapF {l m : List Fm} {k : Nat} {a b : Fm} (h : (l.take k).map Fm.p = (m.take k).map Fm.p) (ha : l[k]? = some a) (hb : m[k]? = some b) (hab : eqF a b = true) : (l.take (k + 1)).map Fm.p = (m.take (k + 1)).map Fm.p := by
  rw [List.take_succ_eq_append_getElem (List.getElem?_eq_some_iff.1 ha).1, List.take_succ_eq_append_getElem (List.getElem?_eq_some_iff.1 hb).1, List.map_append, List.map_append, h, (List.getElem?_eq_some_iff.1 ha).2, (List.getElem?_eq_some_iff.1 hb).2]
  simp only [eqF, decide_eq_true_eq] at hab
  simp [hab]
set_option maxRecDepth 100000 in
set_option maxHeartbeats 2000000 in
theorem eqFormulaS_any (A B : Option Addr) (l m : List Fm) (c c' lo hi lo' hi' : Nat) (w : World) (hr : RdF w lo hi A l) (hhi : hi ≤ w.heap.size) (hr' : RdF w lo' hi' B m) (hhi' : hi' ≤ w.heap.size) (hm : m.length ≤ 2000000) (hrs : ∀ x ∈ l, x.ws.length ≤ 2000000) :
    Calls Tryz.prog 16 #[.slice A l.length c, .slice B m.length c'] w fun e w' => e = .returned (.bool (eqFs l m)) ∧ Up w w' := by
  by_cases hne : l.length = m.length
  · have HL := Lib.hid hne
    have hb0 : ((l.length : Int) != (m.length : Int)) = false := by simp [hne]
    have hlm : l.length ≤ m.length := by omega
    clear hne
    go_enter Tryz.func16, Tryz.ntmps16
    go_wp2
    go_loopw [5] (fun i wr => ∃ k : Nat, k ≤ l.length ∧ i = .int .i64 k ∧ (l.take k).map Fm.p = (m.take k).map Fm.p ∧ Up w wr) (fun i _ => l.length - (intOf i).toNat)
    case atStart => exact ⟨0, Nat.zero_le _, rfl, by simp, Up.refl _⟩
    case round =>
      obtain ⟨k, hk, rfl, ht, hup⟩ := hrel
      have HT := Lib.hid ht
      clear ht
      by_cases hlt : k < l.length
      · have hlt' : k < m.length := by omega
        obtain ⟨b1, o1, d1, rfl, -, -, hd1, i1, p0, p1, p2⟩ := (hr.up hup hhi).at_ hlt
        obtain ⟨b2, o2, d2, rfl, -, -, hd2, i2, q0, q1, q2⟩ := (hr'.up hup hhi').at_ hlt'
        have HD1 := Lib.hid hd1
        have HD2 := Lib.hid hd2
        have I1 := Lib.hid i1
        have I2 := Lib.hid i2
        clear hd1 hd2 i1 i2
        have hh1 : hi ≤ wr.heap.size := Nat.le_trans hhi hup.size
        have hh2 : hi' ≤ wr.heap.size := Nat.le_trans hhi' hup.size
        have P0 := cell_regrown p0
        have P1 := cell_regrown p1
        have P2 := cell_regrown p2
        have Q0 := cell_regrown q0
        have Q1 := cell_regrown q1
        have Q2 := cell_regrown q2
        go_wp2_with fail
        refine wp_region_quiet_below (by kernel_rfl) (by kernel_rfl) ?_
        repeat (quiet_step ((go_at_call 55; exact Calls.regrown_of (eqFormula_any d1 d2 lo hi lo' hi' _ (I1.out.up (below_regrown _ _ _) hh1) (Nat.le_trans hh1 (below_regrown _ _ _).size) (I2.out.up (below_regrown _ _ _) hh2) (Nat.le_trans hh2 (below_regrown _ _ _).size) (hrs d1 (List.mem_of_getElem? HD1.out))))))
        refine wpQuiet_nil ?_
        intro w2 hw2
        obtain ⟨⟨dq, osq⟩, hw2⟩ := hw2
        have hup2 : Up wr w2 := by rw [hw2]; exact below_regrown _ _ _
        clear hw2 P0 P1 P2 Q0 Q1 Q2
        go_wp2
        · have hq : (!eqF d1 d2) = true := by assumption
          go_ret
          exact ⟨ret_bool (eqFs_ne HD1.out HD2.out (by simpa using hq)).symm, hup.trans hup2⟩
        · have hq : (!eqF d1 d2) = false := by assumption
          go_roundw
          case rel => exact ⟨k + 1, by omega, by go_num, take_succ_mapF HT.out HD1.out HD2.out (by simpa using hq), hup.trans hup2⟩
          case measure => simp [intOf]; omega
      · go_wp2
        go_ret
        exact ⟨ret_bool (eqFs_eq (by rw [show k = l.length by omega] at HT; exact HT.out) HL.out).symm, hup⟩
  · have hb0 : ((l.length : Int) != (m.length : Int)) = true := by rw [bne_iff_ne]; omega
    have H := Lib.hid hne
    clear hne
    go_enter Tryz.func16, Tryz.ntmps16
    go_wp2
    go_ret
    exact ⟨ret_bool (eqFs_len H.out).symm, Up.refl _⟩
end Go.Proofs.YtkjjacbfogpegaaGreatDoor
