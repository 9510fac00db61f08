/- IsStemma: the reference's walk. -/
import Derived.Test.YtncmenfdnpmblaaDoorCode
import Derived.Test.YtncmenfdnpmblaaDoorStemL
namespace Go.Proofs.YtncmenfdnpmblaaDoor
open Go.RowKit Go.Sort

def isB (P : List PC) (ps : List Int) : Bool := arB P && (decide (ps.length = P.length) && (parB ps P.length && stB ps))
theorem is_1 {P : List PC} {ps : List Int} (h : arB P = false) : isB P ps = false := by simp [isB, h]
theorem is_2 {P : List PC} {ps : List Int} (h : ps.length ≠ P.length) : isB P ps = false := by simp [isB, h]
theorem is_3 {P : List PC} {ps : List Int} (h : parB ps P.length = false) : isB P ps = false := by simp [isB, h]
theorem is_4 {P : List PC} {ps : List Int} (h : stB ps = false) : isB P ps = false := by simp [isB, h]
theorem is_0 {P : List PC} {ps : List Int} (h1 : arB P = true) (h2 : ps.length = P.length) (h3 : parB ps P.length = true) (h4 : stB ps = true) : isB P ps = true := by simp [isB, h1, h2, h3, h4]
theorem is_inv {P : List PC} {ps : List Int} (h : isB P ps = true) : arB P = true ∧ ps.length = P.length ∧ parB ps ps.length = true ∧ stB ps = true := by
  simp only [isB, Bool.and_eq_true, decide_eq_true_eq] at h
  exact ⟨h.1, h.2.1, by rw [h.2.1]; exact h.2.2.1, h.2.2.2⟩
theorem par_no {ps : List Int} {n k : Nat} {z : Int} (hz : ps[k]? = some z) (h : inB z (-1) ((n : Int) - 1) = false) : parB ps n = false := by
  unfold parB; rw [List.all_eq_false]; exact ⟨z, List.mem_of_getElem? hz, by simpa [inB] using h⟩
theorem par_yes {ps : List Int} {n : Nat} (h : ∀ q z, q < ps.length → ps[q]? = some z → inB z (-1) ((n : Int) - 1) = true) : parB ps n = true := by
  unfold parB; rw [List.all_eq_true]; intro z hz
  obtain ⟨q, hq, e⟩ := List.getElem_of_mem hz
  exact h q z hq (by rw [List.getElem?_eq_getElem hq, e])

set_option maxRecDepth 100000 in
set_option maxHeartbeats 4000000 in
theorem specIsStemma_any (A : Option Addr) (l : List Cp) (c : Nat) (B : Option Addr) (ps : List Int) (cb lo hi lo' hi' : Nat) (w : World) (hr : RdC w lo hi A l) (hhi : hi ≤ w.heap.size) (hf : Fit l c) (hr' : RdI w lo' hi' B ps) (hhi' : hi' ≤ w.heap.size) (hn' : ps.length ≤ 2000000) :
    Calls Tryd.prog 50 #[.slice A l.length c, .slice B ps.length cb] w fun e w' => e = .returned (.bool (isB (l.map Cp.p) ps)) ∧ Up w w' := by
  have HA := Lib.hid (specAre A l c lo hi w hr hhi hf)
  have hn := hf.2.2.1
  clear hf
  have e0 : (l.map Cp.p).length = l.length := by simp
  have E0 := Lib.hid e0
  clear e0
  rcases h1 : arB (l.map Cp.p) with _ | _
  · have H1 := Lib.hid h1
    go_enter Tryd.func50, Tryd.ntmps50
    go_wp2_with (go_at_call 59; refine HA.out.mono ?_; rintro e w1 ⟨rfl, hup⟩)
    go_ret
    exact ⟨ret_bool (is_1 H1.out).symm, by assumption⟩
  · have H1 := Lib.hid h1
    by_cases hl : ps.length = l.length
    · have hl' : ((ps.length : Int) != (l.length : Int)) = false := by simp [hl]
      have HL := Lib.hid hl
      clear hl
      go_enter Tryd.func50, Tryd.ntmps50
      go_wp2_with fail
      refine HA.out.mono ?_
      rintro e w1 ⟨rfl, hup⟩
      clear h1
      go_wp2
      go_loop [5] (fun i => ∃ k : Nat, k ≤ ps.length ∧ i = .int .i64 k ∧ ∀ q z, q < k → ps[q]? = some z → inB z (-1) ((l.length : Int) - 1) = true) (fun i => ps.length - (intOf i).toNat)
      case atStart => exact ⟨0, Nat.zero_le _, rfl, fun q z h => absurd h (by omega)⟩
      case round =>
        obtain ⟨j, hj, rfl, hq⟩ := hrel
        have HQ := Lib.hid hq
        clear hq
        by_cases hlj : j < ps.length
        · obtain ⟨bb, oo, z, rfl, -, -, hz, y0⟩ := (hr'.up hup hhi').int hlj
          have HZ := Lib.hid hz
          clear hz
          rcases hnz : inB z (-1) ((l.length : Int) - 1) with _ | _
          · have HZN := Lib.hid hnz
            go_wp2_with (go_at_call 83; refine (l01In_any _ _ _ _).mono ?_; rintro e w' ⟨rfl, rfl⟩)
            go_ret
            exact ⟨ret_bool (is_3 (by rw [E0.out]; exact par_no HZ.out HZN.out)).symm, hup⟩
          · have HZN := Lib.hid hnz
            go_wp2_with (go_at_call 83; refine (l01In_any _ _ _ _).mono ?_; rintro e w' ⟨rfl, rfl⟩)
            go_round
            case rel => exact ⟨j + 1, by omega, by go_num, fun q y hq hy => by
              rcases Nat.lt_or_ge q j with h | h
              · exact HQ.out q y h hy
              · obtain rfl : q = j := by omega
                rw [HZ.out] at hy; cases hy; exact HZN.out⟩
            case measure => simp [intOf]; omega
        · have HP := Lib.hid (par_yes (n := l.length) (fun q z hq hz => HQ.out q z (by omega) hz))
          have HPP := Lib.hid (show parB ps ps.length = true by rw [HL.out]; exact HP.out)
          go_wp2
          go_loop [6, 7, 8] (fun i _ _ => ∃ k : Nat, k ≤ ps.length ∧ i = .int .i64 k ∧ ∀ q : Nat, q < k → lnB ps (q : Int) = true) (fun i _ _ => ps.length - (intOf i).toNat)
          case atStart => exact ⟨0, Nat.zero_le _, rfl, fun q h => absurd h (by omega)⟩
          case round =>
            obtain ⟨k, hk, rfl, hq⟩ := hrel
            have HL2 := Lib.hid hq
            clear hq
            by_cases hlk : k < ps.length
            · go_wp2_with fail
              go_loop [7, 8] (fun a s => ∃ (z : Int) (t : Nat), -1 ≤ z ∧ z < ps.length ∧ t ≤ ps.length + 1 ∧ a = .int .i64 z ∧ s = .int .i64 t ∧ lnB ps (k : Int) = reaB ps (ps.length + 1 - t) z) (fun _ s => ps.length + 1 - (intOf s).toNat)
              case atStart => exact ⟨(k : Int), 0, by omega, by omega, by omega, rfl, rfl, rfl⟩
              case round =>
                obtain ⟨z, t, hz1, hz2, ht, rfl, rfl, hre⟩ := hrel
                have HRE := Lib.hid hre
                clear hre
                by_cases hz : z = -1
                · subst hz
                  go_wp2
                  go_round
                  case rel => exact ⟨k + 1, by omega, by go_num, fun q hq => by
                    rcases Nat.lt_or_ge q k with h | h
                    · exact HL2.out q h
                    · obtain rfl : q = k := by omega
                      rw [HRE.out]; exact rea_end _ _⟩
                  case measure => simp [intOf]; omega
                · have hz' : (z != -1) = true := by simpa using hz
                  have HZ := Lib.hid hz
                  obtain ⟨y, rfl⟩ : ∃ y : Nat, z = (y : Int) := ⟨z.toNat, by omega⟩
                  clear hz
                  have hy : y < ps.length := by omega
                  by_cases hs : ps.length < t
                  · have HE := Lib.hid (show t = ps.length + 1 by omega)
                    go_wp2
                    go_ret
                    exact ⟨ret_bool (is_4 (stB_no hlk (by rw [HRE.out, HE.out, Nat.sub_self]; exact rea_zero HZ.out))).symm, hup⟩
                  · obtain ⟨bb, oo, x, rfl, -, -, hx, y0⟩ := (hr'.up hup hhi').int hy
                    have hxr := parB_at HPP.out hx
                    have HX := Lib.hid hx
                    clear hx
                    go_wp2
                    go_round
                    case rel => exact ⟨x, t + 1, hxr.1, hxr.2, by omega, rfl, by go_num, by rw [HRE.out, show ps.length + 1 - t = (ps.length + 1 - (t + 1)) + 1 by omega, rea_step HZ.out, upS_of HX.out]⟩
                    case measure => simp [intOf]; omega
            · have HS := Lib.hid (stB_yes (ps := ps) (fun q hq => HL2.out q (by omega)))
              go_wp2
              go_ret
              exact ⟨ret_bool (is_0 H1.out (by rw [E0.out]; exact HL.out) (by rw [E0.out]; exact HP.out) HS.out).symm, hup⟩
    · have hl' : ((ps.length : Int) != (l.length : Int)) = true := by rw [bne_iff_ne]; omega
      have HL := Lib.hid hl
      clear hl
      go_enter Tryd.func50, Tryd.ntmps50
      go_wp2_with (go_at_call 59; refine HA.out.mono ?_; rintro e w1 ⟨rfl, hup⟩)
      go_ret
      exact ⟨ret_bool (is_2 (by rw [E0.out]; exact HL.out)).symm, by assumption⟩
end Go.Proofs.YtncmenfdnpmblaaDoor
