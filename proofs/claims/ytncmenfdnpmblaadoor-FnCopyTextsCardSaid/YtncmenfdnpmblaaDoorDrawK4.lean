/- A drawn text of a copy, sometimes damaged. -/
import Derived.Test.YtncmenfdnpmblaaDoorDrawK3
import Derived.Test.YtncmenfdnpmblaaDoorCtext
import Derived.Test.YtncmenfdnpmblaaDoorDamage
namespace Go.Proofs.YtncmenfdnpmblaaDoor
open Go.RowKit Go.Sort

theorem ctV_size (p : PC) : (ctV p).size ≤ p.1.size + 1 + p.2.length := by
  unfold ctV
  split
  · exact ctB_size _ _ _
  · show 0 ≤ _; omega

set_option maxRecDepth 100000 in
set_option maxHeartbeats 2000000 in
theorem drawReadCopy_any (A : Option Addr) (L0 : List UInt8) (c0 lo hi : Nat) (w : World) (hr : RdY w lo hi A L0) (hhi : hi ≤ w.heap.size) (hn : L0.length ≤ 2000000) :
    Calls Tryd.prog 31 #[.slice A L0.length c0] w fun e w' => ∃ s : ByteArray, e = .returned (.string s) ∧ s.size ≤ 1000 ∧ Up w w' := by
  go_enter Tryd.func31, Tryd.ntmps31
  go_wp2_with fail
  refine (l01From_any A L0 c0 lo hi w hr hhi hn).mono ?_
  rintro e w1 ⟨rfl, h1, S1, u1⟩
  go_wp2_with fail
  refine (drawCopyText_any A L0 c0 lo hi w1 (hr.up u1 hhi) (Nat.le_trans hhi u1.size) hn).mono ?_
  rintro e w2 ⟨y, rfl, ⟨-, hnm, hrs⟩, hown, u2⟩
  have hrd : RdI w2 w1.heap.size w2.heap.size y.A y.rs := Rd.own int_len hown
  have S2 := S1.up u2 h1
  have h2 := Nat.lt_of_lt_of_le h1 u2.size
  have U2 := u1.trans u2
  have hcs := ctV_size y.p
  have hcs' : (ctV y.p).size ≤ 46 := by
    have e1 : y.p.1.size = y.name.size := rfl
    have e2 : y.p.2.length = y.rs.length := rfl
    omega
  clear hown S1 hcs u2
  go_wp2_with fail
  refine (specCopyText_any y _ _ w2 hrd (Nat.le_refl _) (by unfold maxLen; omega) (by omega)).mono ?_
  rintro e w3 ⟨rfl, u3⟩
  have S3 := S2.up u3 h2
  have h3 := Nat.lt_of_lt_of_le h2 u3.size
  have U3 := U2.trans u3
  clear S2 hrd u3 hnm hrs
  generalize ctV y.p = t at *
  generalize ctC y.p = tc at *
  go_wp2_with fail
  refine (l01Next_any A L0 c0 lo w.heap.size 3 w3 S3 h3 hn (by omega)).mono ?_
  rintro e w4 ⟨z, rfl, hz, S4, m4⟩
  have U4 := U3.mk m4 (Nat.le_refl _)
  have h4 := Nat.lt_of_lt_of_le h3 m4.size
  clear hz S3 m4
  by_cases hzz : z = 0
  · have hzb : (z == 0) = true := by simpa using hzz
    clear hzz
    go_wp2_with fail
    refine (l01Damage_any A L0 c0 lo w.heap.size t w4 S4 h4 hn (by omega)).mono ?_
    rintro e w5 ⟨r, rfl, hrs, S5, m5⟩
    have U5 := U4.mk m5 (Nat.le_refl _)
    clear S4 S5 m5
    go_wp2
    go_ret
    exact ⟨r, rfl, by omega, U5⟩
  · have hzb : (z == 0) = false := by simpa using hzz
    clear hzz
    go_wp2
    go_ret
    exact ⟨t, rfl, by omega, U4⟩
end Go.Proofs.YtncmenfdnpmblaaDoor
