/- The walk of the law FnExactAreFormulas: whatever the formulas, it returns true and changes nothing that was there. -/
import Derived.Test.YtcmhgjldkgnblaaDoorAreFS
import Derived.Test.YtcmhgjldkgnblaaDoorFormN
import Derived.Test.YtcmhgjldkgnblaaDoorFormT
import Derived.Test.YtcmhgjldkgnblaaDoorFormQ
namespace Go.Proofs.YtcmhgjldkgnblaaDoor
open Go.RowKit Go.Sort

/-- toFormulaS as the laws use it: formulas in fresh memory that say the same -/
theorem toForS (A : Option Addr) (l : List Fm) (c lo hi : Nat) (w : World) (hr : RdF w lo hi A l) (hhi : hi ≤ w.heap.size) (hn : l.length ≤ 2000000) (hws : ∀ x ∈ l, x.ws.length ≤ 2000000) :
    Calls Tryd.prog 45 #[.slice A l.length c] w fun e w' => ∃ A' c' L, e = .returned (.slice A' L.length c') ∧ L.length = l.length ∧ L.map Fm.p = l.map Fm.p ∧ L.length ≤ c' ∧ c' ≤ maxLen ∧ (∀ y ∈ L, y.ok') ∧ RdF w' w.heap.size w'.heap.size A' L ∧ OwnF w' w.heap.size A' L.length c' L ∧ Up w w' :=
  (toFormulaS_any A l c lo hi w hr hhi hn hws).mono fun e w' ⟨A', c', L, he, h1, h2, h3, h4, h5, h6⟩ => by
    rw [← h1] at he h3 h5
    have h7 : ∀ y ∈ L, y.ok' := by obtain ⟨g, -, -, h, -, -⟩ := h5; exact fun y hy => (h y hy).1
    exact ⟨A', c', L, he, h1, h2, h3, h4, h7, h5.rd, h5, h6⟩
/-- what holds of the formulas' words holds of formulas that say the same -/
theorem same_ws {L l : List Fm} (h : L.map Fm.p = l.map Fm.p) {q : List ByteArray → Prop} (hq : ∀ x ∈ l, q x.ws) : ∀ x ∈ L, q x.ws := fun x hx => by
  have h1 : x.p ∈ l.map Fm.p := by rw [← h]; exact List.mem_map_of_mem hx
  obtain ⟨y, hy, e⟩ := List.mem_map.1 h1
  have := hq y hy
  simp only [Fm.p, Prod.mk.injEq] at e
  rw [← e.1]; exact this
theorem same_ok {L l : List Fm} (h : L.map Fm.p = l.map Fm.p) (h' : ∀ y ∈ L, y.ok') (hq : ∀ x ∈ l, x.ok) : ∀ x ∈ L, x.ok :=
  fun x hx => ⟨same_ws (q := fun ws => ∀ s ∈ ws, s.size ≤ maxLen) h (fun y hy => (hq y hy).1) x hx, h' x hx⟩
theorem afB_same {L l : List Fm} (h : L.map Fm.p = l.map Fm.p) : afB L = afB l := by
  have h1 : L.length = l.length := by simpa using congrArg List.length h
  have h2 : (L.any fun x => !fmB x.p) = l.any fun x => !fmB x.p := by
    have := congrArg (fun m => m.any fun p => !fmB p) h
    simpa [List.any_map, Function.comp_def] using this
  unfold afB; rw [h1, h2]

set_option maxRecDepth 100000 in
set_option maxHeartbeats 1000000 in
theorem fnExactAreFormulas_walk (A : Option Addr) (l : List Fm) (c : Nat) (w : World) (hr : RdF w 0 w.heap.size A l) (hok : ∀ d ∈ l, d.ok) (hn : l.length ≤ maxLen) :
    Calls Tryd.prog 12 #[.slice A l.length c] w fun e w' => e = .returned (.bool true) ∧ Up w w' := by
  have hsz := szFormulaS_any A l c 0 w.heap.size 1048576 w hr (Nat.le_refl _) hok (by omega) (by omega) hn
  by_cases hz : szFL l 1048576 < 0
  · have hd : decide (szFL l 1048576 < 0) = true := by simpa using hz
    have HS := Lib.hid hsz
    clear hsz
    go_enter Tryd.func12, Tryd.ntmps12
    go_wp2_with (go_at_call 43; refine HS.out.mono ?_; rintro e w1 ⟨rfl, hu1⟩)
    go_ret
    exact ⟨rfl, hu1⟩
  · have htot := szFL_len (l := l) (z := 1048576) (by omega) hz
    have hl' : l.length ≤ 2000000 := by omega
    have hws : ∀ x ∈ l, x.ws.length ≤ 2000000 := fun x hx => by have := htot.2.2 x hx; omega
    have hd : decide (szFL l 1048576 < 0) = false := by simpa using hz
    have HS := Lib.hid hsz
    have HWS := Lib.hid hws
    have HOK := Lib.hid hok
    clear hsz htot hws hok
    go_enter Tryd.func12, Tryd.ntmps12
    go_wp2_with fail
    refine HS.out.mono ?_
    rintro e w1 ⟨rfl, hu1⟩
    go_wp2_with fail
    refine (toForS A l c 0 w.heap.size _ (hr.up hu1 (Nat.le_refl _)) hu1.size hl' HWS.out).mono ?_
    rintro e w2 ⟨A2, c2, L2, rfl, hl2, hp2, hc2, hm2, hy2, hr2, ho2, hu2⟩
    have P2 := Lib.hid hp2
    have Y2 := Lib.hid hy2
    have HL2 := Lib.hid hl2
    clear hp2 hl2 hy2
    go_wp2_with fail
    refine (specAreFormulas_any A2 L2 c2 _ _ _ hr2 (Nat.le_refl _) (same_ok P2.out Y2.out HOK.out) (same_ws (q := fun r => r.length ≤ 2000000) P2.out HWS.out) (by rw [HL2.out]; exact hl')).mono ?_
    rintro e w3 ⟨rfl, hu3⟩
    rw [afB_same P2.out]
    go_wp2_with fail
    refine (toForS A l c 0 w.heap.size _ (hr.up (hu1.trans (hu2.trans hu3)) (Nat.le_refl _)) (hu1.trans (hu2.trans hu3)).size hl' HWS.out).mono ?_
    rintro e w4 ⟨A4, c4, L4, rfl, hl4, hp4, hc4, hm4, hy4, hr4, ho4, hu4⟩
    have P4 := Lib.hid hp4
    have Y4 := Lib.hid hy4
    have HL4 := Lib.hid hl4
    clear hp4 hl4 hy4
    go_wp2_with fail
    refine (implAreFormulas_any A4 L4 c4 _ _ _ hr4 (Nat.le_refl _) (same_ok P4.out Y4.out HOK.out) (same_ws (q := fun r => r.length ≤ 2000000) P4.out HWS.out) (by rw [HL4.out]; exact hl')).mono ?_
    rintro e w5 ⟨rfl, hu5⟩
    rw [afB_same P4.out]
    have hne : (afB l != afB l) = false := by simp
    go_wp2_with fail
    have hu05 := hu1.trans (hu2.trans (hu3.trans (hu4.trans hu5)))
    refine (toForS A l c 0 w.heap.size _ (hr.up hu05 (Nat.le_refl _)) hu05.size hl' HWS.out).mono ?_
    rintro e w6 ⟨A6, c6, L6, rfl, hl6, hp6, hc6, hm6, hy6, hr6, ho6, hu6⟩
    have P6 := Lib.hid hp6
    have HL6 := Lib.hid hl6
    clear hp6 hl6 hy6
    go_wp2_with fail
    refine (eqFormulaS_any A4 A6 L4 L6 c4 c6 _ _ _ _ _ (hr4.up (hu5.trans hu6) (Nat.le_refl _)) (hu5.trans hu6).size hr6 (Nat.le_refl _) (by rw [HL6.out]; exact hl') (same_ws (q := fun r => r.length ≤ 2000000) P4.out HWS.out)).mono ?_
    rintro e w7 ⟨rfl, hu7⟩
    have he : eqFs L4 L6 = true := eqFs_self (P4.out.trans P6.out.symm)
    go_wp2
    go_ret
    exact ⟨rfl, hu05.trans (hu6.trans hu7)⟩
end Go.Proofs.YtcmhgjldkgnblaaDoor
