/- The walk of the law FnExactAreCopies: whatever the copies, it returns true and changes nothing that was there. -/
import Derived.Test.YtdjhenjgccenhaaDoorAre
namespace Go.Proofs.YtdjhenjgccenhaaDoor
open Go.RowKit Go.Sort

/-- toCopyS as the laws use it: copies in fresh memory that say the same -/
theorem toCopS (A : Option Addr) (l : List Cp) (c lo hi : Nat) (w : World) (hr : RdC w lo hi A l) (hhi : hi ≤ w.heap.size) (hn : l.length ≤ 2000000) (hrs : ∀ x ∈ l, x.rs.length ≤ 2000000) :
    Calls Tryd.prog 17 #[.slice A l.length c] w fun e w' => ∃ A' c' L, e = .returned (.slice A' L.length c') ∧ L.length = l.length ∧ L.map Cp.p = l.map Cp.p ∧ L.length ≤ c' ∧ c' ≤ maxLen ∧ (∀ x ∈ L, x.name.size ≤ maxLen → x.name.size ≤ maxLen) ∧ RdC w' w.heap.size w'.heap.size A' L ∧ OwnC w' w.heap.size A' L.length c' L ∧ Up w w' :=
  (toCopyS_any A l c lo hi w hr hhi hn hrs).mono fun e w' ⟨A', c', L, he, h1, h2, h3, h4, h5, h6⟩ => by
    rw [← h1] at he h3 h5
    exact ⟨A', c', L, he, h1, h2, h3, h4, fun _ _ h => h, h5.rd, h5, h6⟩
/-- what holds of the copies' names and readings holds of copies that say the same -/
theorem same_names {L l : List Cp} (h : L.map Cp.p = l.map Cp.p) {q : ByteArray → Prop} (hq : ∀ x ∈ l, q x.name) : ∀ x ∈ L, q x.name := fun x hx => by
  have h1 : x.p ∈ l.map Cp.p := by rw [← h]; exact List.mem_map_of_mem hx
  obtain ⟨y, hy, e⟩ := List.mem_map.1 h1
  have := hq y hy
  simp only [Cp.p, Prod.mk.injEq] at e
  rw [← e.1]; exact this
theorem same_rs {L l : List Cp} (h : L.map Cp.p = l.map Cp.p) {q : List Int → Prop} (hq : ∀ x ∈ l, q x.rs) : ∀ x ∈ L, q x.rs := fun x hx => by
  have h1 : x.p ∈ l.map Cp.p := by rw [← h]; exact List.mem_map_of_mem hx
  obtain ⟨y, hy, e⟩ := List.mem_map.1 h1
  have := hq y hy
  simp only [Cp.p, Prod.mk.injEq] at e
  rw [← e.2]; exact this
theorem tot_rs {l : List Cp} {n : Nat} (h : cpTot l ≤ n) : ∀ x ∈ l, x.rs.length ≤ n := by
  induction l with
  | nil => simp
  | cons y l ih =>
    simp only [cpTot] at h
    intro x hx
    rcases List.mem_cons.1 hx with rfl | hx
    · omega
    · exact ih (by omega) x hx

set_option maxRecDepth 100000 in
set_option maxHeartbeats 1000000 in
theorem fnExactAreCopies_walk (A : Option Addr) (l : List Cp) (c : Nat) (w : World) (hr : RdC w 0 w.heap.size A l) (hok : ∀ d ∈ l, d.ok) (hn : l.length ≤ maxLen) :
    Calls Tryd.prog 3 #[.slice A l.length c] w fun e w' => e = .returned (.bool true) ∧ Up w w' := by
  have hsz := szCopyS_any A l c 0 w.heap.size 1048576 w hr (Nat.le_refl _) hok (by omega) (by omega) hn
  by_cases hz : szCL l 1048576 < 0
  · have hd : decide (szCL l 1048576 < 0) = true := by simpa using hz
    have HS := Lib.hid hsz
    clear hsz
    go_enter Tryd.func3, Tryd.ntmps3
    go_wp2_with (go_at_call 15; refine HS.out.mono ?_; rintro e w1 ⟨rfl, hu1⟩)
    go_ret
    exact ⟨rfl, hu1⟩
  · have htot := szCL_tot (l := l) (left := 1048576) (by omega) hz
    have hl' : l.length ≤ 2000000 := by omega
    have hrs : ∀ x ∈ l, x.rs.length ≤ 2000000 := fun x hx => Nat.le_trans (tot_rs (n := 1048576) (by omega) x hx) (by omega)
    have hnm : ∀ x ∈ l, x.name.size ≤ maxLen := fun x hx => (hok x hx).1
    have hd : decide (szCL l 1048576 < 0) = false := by simpa using hz
    have HS := Lib.hid hsz
    have HRS := Lib.hid hrs
    have HNM := Lib.hid hnm
    clear hsz htot hrs hnm
    go_enter Tryd.func3, Tryd.ntmps3
    go_wp2_with fail
    refine HS.out.mono ?_
    rintro e w1 ⟨rfl, hu1⟩
    go_wp2_with fail
    refine (toCopS A l c 0 w.heap.size _ (hr.up hu1 (Nat.le_refl _)) hu1.size hl' HRS.out).mono ?_
    rintro e w2 ⟨A2, c2, L2, rfl, hl2, hp2, hc2, hm2, -, hr2, ho2, hu2⟩
    have P2 := Lib.hid hp2
    have HL2 := Lib.hid hl2
    clear hp2 hl2
    go_wp2_with fail
    refine (specAreCopies_any A2 L2 c2 _ _ _ hr2 (Nat.le_refl _) (same_names (q := fun s => s.size ≤ maxLen) P2.out HNM.out) (same_rs (q := fun r => r.length ≤ 2000000) P2.out HRS.out) (by rw [HL2.out]; exact hl')).mono ?_
    rintro e w3 ⟨rfl, hu3⟩
    rw [P2.out]
    go_wp2_with fail
    refine (toCopS A l c 0 w.heap.size _ (hr.up (hu1.trans (hu2.trans hu3)) (Nat.le_refl _)) (hu1.trans (hu2.trans hu3)).size hl' HRS.out).mono ?_
    rintro e w4 ⟨A4, c4, L4, rfl, hl4, hp4, hc4, hm4, -, hr4, ho4, hu4⟩
    have P4 := Lib.hid hp4
    have HL4 := Lib.hid hl4
    clear hp4 hl4
    go_wp2_with fail
    refine (implAreCopies_any A4 L4 c4 _ _ _ hr4 (Nat.le_refl _) (same_names (q := fun s => s.size ≤ maxLen) P4.out HNM.out) (same_rs (q := fun r => r.length ≤ 2000000) P4.out HRS.out) (by rw [HL4.out]; exact hl') hc4 hm4).mono ?_
    rintro e w5 ⟨rfl, hu5⟩
    rw [P4.out]
    have hne : (arB (l.map Cp.p) != arB (l.map Cp.p)) = false := by simp
    go_wp2_with fail
    have hu05 := hu1.trans (hu2.trans (hu3.trans (hu4.trans hu5)))
    refine (toCopS A l c 0 w.heap.size _ (hr.up hu05 (Nat.le_refl _)) hu05.size hl' HRS.out).mono ?_
    rintro e w6 ⟨A6, c6, L6, rfl, hl6, hp6, hc6, hm6, -, hr6, ho6, hu6⟩
    have P6 := Lib.hid hp6
    have HL6 := Lib.hid hl6
    clear hp6 hl6
    go_wp2_with fail
    refine (eqCopyS_any A4 A6 L4 L6 c4 c6 _ _ _ _ _ (hr4.up (hu5.trans hu6) (Nat.le_refl _)) (hu5.trans hu6).size hr6 (Nat.le_refl _) (by rw [HL6.out]; exact hl') (same_rs (q := fun r => r.length ≤ 2000000) P4.out HRS.out)).mono ?_
    rintro e w7 ⟨rfl, hu7⟩
    have he : eqCs L4 L6 = true := eqCs_self (P4.out.trans P6.out.symm)
    go_wp2
    go_ret
    exact ⟨rfl, hu05.trans (hu6.trans hu7)⟩
end Go.Proofs.YtdjhenjgccenhaaDoor
