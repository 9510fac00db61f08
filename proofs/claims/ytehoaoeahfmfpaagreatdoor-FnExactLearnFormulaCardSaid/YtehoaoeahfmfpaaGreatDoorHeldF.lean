/- Marks on formulas, found again; how large learnt formulas are. -/
import Derived.Test.YtehoaoeahfmfpaaGreatDoorLearn
namespace Go.Proofs.YtehoaoeahfmfpaaGreatDoor
open Go.RowKit Go.Sort

set_option maxRecDepth 100000 in
set_option maxHeartbeats 4000000 in
theorem heldFormS_any (A : Option Addr) (L : List Fm) (c lo hi : Nat) (k : Int) (w : World) (hr : RdF w lo hi A (mkFm k L)) (hhi : hi ≤ w.heap.size) (hn : L.length ≤ 2000000) (hws : ∀ y ∈ L, y.ws.length ≤ 2000000) (ht : (wtF L L.length : Int) + k ≤ 80000000) (h0 : 1 ≤ k) :
    Calls Tryz.prog 16 #[.slice A L.length c, .int .i64 k] w fun e w' => e = .returned (.int .i64 (k + wtF L L.length)) ∧ Up w w' := by
  go_enter Tryz.func16, Tryz.ntmps16
  go_wp2
  go_loopw [1, 5] (fun q i wr => ∃ j : Nat, j ≤ L.length ∧ i = .int .i64 j ∧ q = .int .i64 (k + wtF L j) ∧ Up w wr) (fun _ i _ => L.length - (intOf i).toNat)
  case atStart => exact ⟨0, Nat.zero_le _, rfl, by simp [wtF], Up.refl _⟩
  case round =>
    obtain ⟨j, hj, rfl, rfl, hup⟩ := hrel
    by_cases hlt : j < L.length
    · have hy := List.getElem?_eq_getElem hlt
      have hle2 := wtF_le L (L.length - (j + 1)) (j + 1) (by omega)
      have hwt := wtF_succ hy
      have hyn := hws _ (List.mem_of_getElem? hy)
      have hmg := mkFm_get k L j _ hy
      generalize L[j] = y at *
      obtain ⟨b, off, x, rfl, -, -, hx, hrx, q0, q1, q2⟩ := (hr.up hup hhi).at_ (k := j) (by rw [mkFm_len]; exact hlt)
      rw [hmg] at hx
      cases hx
      simp only [mkS_len] at hrx q0 q1 q2
      have HC := Lib.hid (heldStringS_any y.A y.ws.length y.c lo hi (k + wtF L j) wr hrx (Nat.le_trans hhi hup.size) hyn (by omega) (by omega))
      have HW := Lib.hid hwt
      have hbd : wtF L j + y.ws.length + 2 ≤ wtF L L.length := by omega
      clear hmg hy hwt hrx
      go_wp2_with fail
      refine HC.out.mono ?_
      rintro e w2 ⟨rfl, u2⟩
      have r1 := u2.cell q1
      have r2 := u2.cell q2
      have hU := hup.trans u2
      have hlt1 : ¬ (k + (wtF L j : Int) + (y.ws.length : Int) < 0) := by omega
      clear q0 q1 q2
      go_wp2
      go_roundw
      case rel => exact ⟨j + 1, by omega, by go_num, by rw [HW.out]; go_num, hU⟩
      case measure => simp [intOf]; omega
    · obtain rfl : j = L.length := by omega
      go_wp2
      go_ret
      exact ⟨rfl, hup⟩
theorem wtF_bound : ∀ {L : List Fm}, (∀ y ∈ L, y.ws.length ≤ 60) → wtF L L.length ≤ 62 * L.length
  | [], _ => by simp [wtF]
  | x :: L, h => by
    rw [wtF_cons]
    have h1 := h x (by simp)
    have h2 := wtF_bound (L := L) (fun y hy => h y (by simp [hy]))
    simp only [List.length_cons]; omega
theorem lfL_small (ps : List FmP) (W : List ByteArray) (n : Int) : (lfL ps W n).length ≤ 21 ∧ ∀ p ∈ lfL ps W n, p.1.length ≤ 60 := by
  unfold lfL
  split
  · rename_i hc
    have haf : afP ps = true := by
      rcases h : afP ps with _ | _
      · rw [(lf_1 (W := W) (n := n) h).1] at hc; cases hc
      · rfl
    have hfm : fmB (W, n, n) = true := by
      rcases h : fmB (W, n, n) with _ | _
      · rw [(lf_2 haf h).1] at hc; cases hc
      · rfl
    obtain ⟨h1, h2⟩ := afP_small haf
    have h3 := (fmB_small hfm).2.1
    unfold lfR
    split
    · split
      · rename_i i hi p hp
        refine ⟨by rw [List.length_set]; omega, fun q hq => ?_⟩
        rcases List.mem_or_eq_of_mem_set hq with h | h
        · exact (h2 q h).2.1
        · rw [h]; exact (h2 p (List.mem_of_getElem? hp)).2.1
      · exact ⟨by omega, fun q hq => (h2 q hq).2.1⟩
    · refine ⟨by rw [List.length_append, List.length_singleton]; omega, fun q hq => ?_⟩
      rcases List.mem_append.1 hq with h | h
      · exact (h2 q h).2.1
      · rw [List.mem_singleton.1 h]; exact h3
  · simp
/-- what holds of the formulas that a call learnt -/
theorem lf_list {L : List Fm} {ps : List FmP} {W : List ByteArray} {n : Int} (h : L.map Fm.p = lfL ps W n) : L.length ≤ 21 ∧ (∀ y ∈ L, y.ws.length ≤ 2000000) ∧ wtF L L.length ≤ 1400 := by
  obtain ⟨h1, h2⟩ := lfL_small ps W n
  rw [← h] at h1 h2
  rw [List.length_map] at h1
  have h3 : ∀ y ∈ L, y.ws.length ≤ 60 := fun y hy => h2 y.p (List.mem_map_of_mem hy)
  exact ⟨h1, fun y hy => by have := h3 y hy; omega, by have := wtF_bound h3; omega⟩
end Go.Proofs.YtehoaoeahfmfpaaGreatDoor
