/- What the laws over copies want beside their callees' contracts. -/
import Derived.Test.YtcmhgjldkgnblaaDoorCode
namespace Go.Proofs.YtcmhgjldkgnblaaDoor
open Go.RowKit Go.Sort

/-- toCopyS as the laws use it: copies in fresh memory that say the same -/
theorem toCopS (A : Option Addr) (l : List Cp) (c lo hi : Nat) (w : World) (hr : RdC w lo hi A l) (hhi : hi ≤ w.heap.size) (hn : l.length ≤ 2000000) (hrs : ∀ x ∈ l, x.rs.length ≤ 2000000) :
    Calls Tryd.prog 15 #[.slice A l.length c] w fun e w' => ∃ A' c' L, e = .returned (.slice A' L.length c') ∧ L.length = l.length ∧ L.map Cp.p = l.map Cp.p ∧ L.length ≤ c' ∧ c' ≤ maxLen ∧ (∀ x ∈ L, x.name.size ≤ maxLen → x.name.size ≤ maxLen) ∧ RdC w' w.heap.size w'.heap.size A' L ∧ OwnC w' w.heap.size A' L.length c' L ∧ Up w w' :=
  (toCopyS_any A l c lo hi w hr hhi hn hrs).mono fun e w' ⟨A', c', L, he, h1, h2, h3, h4, h5, h6⟩ => by
    rw [← h1] at he h3 h5
    exact ⟨A', c', L, he, h1, h2, h3, h4, fun _ _ h => h, h5.rd, h5, h6⟩
/-- what holds of the copies' names and readings holds of copies that say the same -/
theorem same_names {L l : List Cp} (h : L.map Cp.p = l.map Cp.p) {q : ByteArray → Prop} (hq : ∀ x ∈ l, q x.name) : ∀ x ∈ L, q x.name := fun x hx => by
  have h1 : x.p ∈ l.map Cp.p := by rw [← h]; exact List.mem_map_of_mem hx
  obtain ⟨y, hy, e⟩ := List.mem_map.1 h1
  have := hq y hy
  simp only [Cp.p, Prod.mk.injEq] at e
  rw [← e.1]; exact this
theorem same_rs {L l : List Cp} (h : L.map Cp.p = l.map Cp.p) {q : List Int → Prop} (hq : ∀ x ∈ l, q x.rs) : ∀ x ∈ L, q x.rs := fun x hx => by
  have h1 : x.p ∈ l.map Cp.p := by rw [← h]; exact List.mem_map_of_mem hx
  obtain ⟨y, hy, e⟩ := List.mem_map.1 h1
  have := hq y hy
  simp only [Cp.p, Prod.mk.injEq] at e
  rw [← e.2]; exact this
theorem tot_rs {l : List Cp} {n : Nat} (h : cpTot l ≤ n) : ∀ x ∈ l, x.rs.length ≤ n := by
  induction l with
  | nil => simp
  | cons y l ih =>
    simp only [cpTot] at h
    intro x hx
    rcases List.mem_cons.1 hx with rfl | hx
    · omega
    · exact ih (by omega) x hx

theorem szCL_le (l : List Cp) (left : Int) (h : 0 ≤ left) : szCL l left ≤ left := by
  by_cases hz : szCL l left < 0
  · omega
  · exact (szCL_tot h hz).2.1
/-- copies that say the same as copies that came in fit -/
theorem Fit.of {L l : List Cp} {c : Nat} (hp : L.map Cp.p = l.map Cp.p) (hnm : ∀ d ∈ l, d.ok) (hrs : ∀ d ∈ l, d.rs.length ≤ 2000000) (hl : l.length ≤ 2000000) (hc : L.length ≤ c) (hm : c ≤ maxLen) : Fit L c :=
  ⟨same_names (q := fun s => s.size ≤ maxLen) hp (fun d hd => (hnm d hd).1), same_rs (q := fun r => r.length ≤ 2000000) hp hrs, by have h := congrArg List.length hp; simp at h; omega, hc, hm⟩
theorem len_of {L l : List Cp} (hp : L.map Cp.p = l.map Cp.p) : L.length = l.length := by simpa using congrArg List.length hp
theorem szCL_all {l : List Cp} {left : Int} (h : 0 ≤ left) (hl : left ≤ 1048576) (hz : ¬ szCL l left < 0) : l.length ≤ 2000000 ∧ (∀ x ∈ l, x.rs.length ≤ 2000000) ∧ cpTot l ≤ 1048576 := by
  have ht := szCL_tot h hz
  exact ⟨by omega, fun x hx => Nat.le_trans (tot_rs (n := 1048576) (by omega) x hx) (by omega), by omega⟩
end Go.Proofs.YtcmhgjldkgnblaaDoor
