/- StateOf and DayOf: the program's and the reference's walks, and the walks of both laws. -/
import Derived.Test.YtngananoidplmaaDoorIsLog
namespace Go.Proofs.YtngananoidplmaaDoor
open Go.RowKit Go.Sort

def stA (l : List Dec) (s : ByteArray) : Int := if logB l = true then stateOf l s else 0
def stE (l : List Dec) : Int := if logB l = true then 0 else 1
theorem st_yes {l : List Dec} (h : logB l = true) (s : ByteArray) : stA l s = stateOf l s ∧ stE l = 0 := by simp [stA, stE, h]
theorem st_no {l : List Dec} (h : logB l = false) (s : ByteArray) : stA l s = 0 ∧ stE l = 1 := by simp [stA, stE, h]
theorem ret_int2 {k k' : IntKind} {a b a' b' : Int} (h : a = b) (h' : a' = b') : Ending.returned (.tuple #[.int k a, .int k' a']) = .returned (.tuple #[.int k b, .int k' b']) := by rw [h, h']

set_option maxHeartbeats 400000 in
theorem specStateOf_any (A : Option Addr) (l : List Dec) (c lo hi : Nat) (s : ByteArray) (w : World) (hr : RdD w lo hi A l) (hhi : hi ≤ w.heap.size) (hok : ∀ d ∈ l, d.ok) (hn : l.length ≤ 2000000) (hc : l.length ≤ c) (hcm : c ≤ maxLen) :
    Calls Tryd.prog 16 #[.slice A l.length c, .string s] w fun e w' => e = .returned (.tuple #[.int .i64 (stA l s), .int .i64 (stE l)]) ∧ Up w w' := by
  have hm : l.length ≤ maxLen := by unfold maxLen; omega
  by_cases hb : logB l = true
  · go_enter Tryd.func16, Tryd.ntmps16
    go_wp2_with (first | (go_at_call 12; refine (specIsLog_any A l c lo hi _ hr hhi hok hn hc hcm).mono ?_; rintro e w1 ⟨rfl, hup⟩) | (go_at_call 50; refine (l26State_any A l c lo hi s _ (hr.up (by assumption) hhi) hm).mono ?_; rintro e w2 ⟨rfl, rfl⟩))
    go_ret2
    exact ⟨ret_int2 (st_yes hb s).1.symm (st_yes hb s).2.symm, by assumption⟩
  · have hb' : logB l = false := by simpa using hb
    clear hb
    go_enter Tryd.func16, Tryd.ntmps16
    go_wp2_with (first | (go_at_call 12; refine (specIsLog_any A l c lo hi _ hr hhi hok hn hc hcm).mono ?_; rintro e w1 ⟨rfl, hup⟩))
    go_ret2
    exact ⟨ret_int2 (st_no hb' s).1.symm (st_no hb' s).2.symm, by assumption⟩
set_option maxHeartbeats 400000 in
theorem implStateOf_any (A : Option Addr) (l : List Dec) (c lo hi : Nat) (s : ByteArray) (w : World) (hr : RdD w lo hi A l) (hhi : hi ≤ w.heap.size) (hok : ∀ d ∈ l, d.ok) (hn : l.length ≤ 2000000) (hc : l.length ≤ c) (hcm : c ≤ maxLen) :
    Calls Tryd.prog 17 #[.slice A l.length c, .string s] w fun e w' => e = .returned (.tuple #[.int .i64 (stA l s), .int .i64 (stE l)]) ∧ Up w w' := by
  have hm : l.length ≤ maxLen := by unfold maxLen; omega
  by_cases hb : logB l = true
  · go_enter Tryd.func17, Tryd.ntmps17
    go_wp2_with (first | (go_at_call 14; refine (implIsLog_any A l c lo hi _ hr hhi hok hn hc hcm).mono ?_; rintro e w1 ⟨rfl, hup⟩) | (go_at_call 51; refine (kindOf_any A l c lo hi s _ (hr.up (by assumption) hhi) hm).mono ?_; rintro e w2 ⟨rfl, rfl⟩))
    go_ret2
    exact ⟨ret_int2 (st_yes hb s).1.symm (st_yes hb s).2.symm, by assumption⟩
  · have hb' : logB l = false := by simpa using hb
    clear hb
    go_enter Tryd.func17, Tryd.ntmps17
    go_wp2_with (first | (go_at_call 14; refine (implIsLog_any A l c lo hi _ hr hhi hok hn hc hcm).mono ?_; rintro e w1 ⟨rfl, hup⟩))
    go_ret2
    exact ⟨ret_int2 (st_no hb' s).1.symm (st_no hb' s).2.symm, by assumption⟩

set_option maxHeartbeats 1000000 in
theorem fnExactStateOf_walk (A : Option Addr) (l : List Dec) (c : Nat) (s : ByteArray) (w : World) (hr : RdD w 0 w.heap.size A l) (hok : ∀ d ∈ l, d.ok) (hn : l.length ≤ maxLen) (hs : s.size ≤ maxLen) :
    Calls Tryd.prog 4 #[.slice A l.length c, .string s] w fun e w' => e = .returned (.bool true) ∧ Up w w' := by
  have hsz := szDecisionS_any A l c 0 w.heap.size 1048576 w hr (Nat.le_refl _) hok (by omega) (by omega) hn
  have hsm : s.size ≤ 9223372036854775807 := by unfold maxLen at hs; omega
  have HS := Lib.hid hsz
  clear hsz
  by_cases hlen : 1048576 < (s.size : Int)
  · go_enter Tryd.func4, Tryd.ntmps4
    go_wp2
    go_ret
    exact ⟨rfl, Up.refl _⟩
  · by_cases hz : szDL l 1048576 < 0
    · have hd : decide (szDL l 1048576 < 0) = true := by simpa using hz
      go_enter Tryd.func4, Tryd.ntmps4
      go_wp2_with (go_at_call 11; refine HS.out.mono ?_; rintro e w1 ⟨rfl, hu1⟩)
      go_ret
      exact ⟨rfl, hu1⟩
    · have hl := szDL_len hz
      have hl' : l.length ≤ 2000000 := by omega
      have hd : decide (szDL l 1048576 < 0) = false := by simpa using hz
      go_enter Tryd.func4, Tryd.ntmps4
      go_wp2_with fail
      refine HS.out.mono ?_
      rintro e w1 ⟨rfl, hu1⟩
      go_wp2_with fail
      refine (toDecS A l c 0 w.heap.size _ (hr.up hu1 (Nat.le_refl _)) hu1.size hl').mono ?_
      rintro e w2 ⟨A2, c2, rfl, hc2, hm2, hr2, ho2, hu2⟩
      go_wp2_with fail
      refine (specStateOf_any A2 l c2 _ _ s _ hr2 (Nat.le_refl _) hok hl' hc2 hm2).mono ?_
      rintro e w3 ⟨rfl, hu3⟩
      go_wp2_with fail
      refine (toDecS A l c 0 w.heap.size _ (hr.up (hu1.trans (hu2.trans hu3)) (Nat.le_refl _)) (hu1.trans (hu2.trans hu3)).size hl').mono ?_
      rintro e w4 ⟨A4, c4, rfl, hc4, hm4, hr4, ho4, hu4⟩
      go_wp2_with fail
      refine (implStateOf_any A4 l c4 _ _ s _ hr4 (Nat.le_refl _) hok hl' hc4 hm4).mono ?_
      rintro e w5 ⟨rfl, hu5⟩
      go_wp2_with fail
      have hu05 := hu1.trans (hu2.trans (hu3.trans (hu4.trans hu5)))
      refine (toDecS A l c 0 w.heap.size _ (hr.up hu05 (Nat.le_refl _)) hu05.size hl').mono ?_
      rintro e w6 ⟨A6, c6, rfl, hc6, hm6, hr6, ho6, hu6⟩
      go_wp2_with fail
      refine (eqDecisionS_any A4 A6 l l c4 c6 _ _ _ _ _ (hr4.up (hu5.trans hu6) (Nat.le_refl _)) (hu5.trans hu6).size hr6 (Nat.le_refl _) hl' hl').mono ?_
      rintro e w7 ⟨rfl, hu7⟩
      have he : eqDs l l = true := by simp [eqDs]
      go_wp2
      go_ret
      exact ⟨rfl, hu05.trans (hu6.trans hu7)⟩
end Go.Proofs.YtngananoidplmaaDoor
