/- DayOf: the program's and the reference's walks, and the walk of its law. -/
import Derived.Test.YtngananoidplmaaDoorState
namespace Go.Proofs.YtngananoidplmaaDoor
open Go.RowKit Go.Sort

def lastDay (l : List Dec) (s : ByteArray) : Option Dec := l.reverse.find? (fun d => d.deed.toList == s.toList && d.kind == 0)
def fdB (l : List Dec) (s : ByteArray) : Bool := (lastDay l s).isSome
def fdV (l : List Dec) (s : ByteArray) : Int := match lastDay l s with | some d => d.day | none => 0
theorem lastDay_step {l : List Dec} {s : ByteArray} {k : Nat} {d : Dec} (hd : l[k]? = some d) : lastDay (l.take (k + 1)) s = if d.deed.toList == s.toList && d.kind == 0 then some d else lastDay (l.take k) s := by
  have hk := (List.getElem?_eq_some_iff.1 hd).1
  unfold lastDay
  rw [List.take_succ_eq_append_getElem hk, (List.getElem?_eq_some_iff.1 hd).2]
  simp only [List.reverse_append, List.reverse_cons, List.reverse_nil, List.nil_append, List.singleton_append, List.find?_cons]
  split <;> simp_all
theorem fd_yes {l : List Dec} {s : ByteArray} {k : Nat} {d : Dec} (hd : l[k]? = some d) (h1 : (d.deed.toList == s.toList) = true) (h2 : d.kind = 0) : fdB (l.take (k + 1)) s = true ∧ fdV (l.take (k + 1)) s = d.day := by
  simp [fdB, fdV, lastDay_step hd, h1, h2]
theorem fd_a {l : List Dec} {s : ByteArray} {k : Nat} {d : Dec} (hd : l[k]? = some d) (h1 : (d.deed.toList == s.toList) = false) : fdB (l.take (k + 1)) s = fdB (l.take k) s ∧ fdV (l.take (k + 1)) s = fdV (l.take k) s := by
  simp [fdB, fdV, lastDay_step hd, h1]
theorem fd_b {l : List Dec} {s : ByteArray} {k : Nat} {d : Dec} (hd : l[k]? = some d) (h1 : ¬ d.kind = 0) : fdB (l.take (k + 1)) s = fdB (l.take k) s ∧ fdV (l.take (k + 1)) s = fdV (l.take k) s := by
  simp [fdB, fdV, lastDay_step hd, h1]
theorem fd_zero (s : ByteArray) (l : List Dec) : fdB (l.take 0) s = false ∧ fdV (l.take 0) s = 0 := by simp [fdB, fdV, lastDay]
theorem fd_end {l : List Dec} {k : Nat} (h : l.length ≤ k) : l.take k = l := List.take_of_length_le h

def dyA (l : List Dec) (s : ByteArray) : Int := if logB l = true ∧ fdB l s = true ∧ ¬ stateOf l s = 1 then fdV l s else 0
def dyE (l : List Dec) (s : ByteArray) : Int := if logB l = false then 1 else if fdB l s = false then 4 else if stateOf l s = 1 then 5 else 0
theorem dy_1 {l : List Dec} (h : logB l = false) (s : ByteArray) : dyA l s = 0 ∧ dyE l s = 1 := by simp [dyA, dyE, h]
theorem dy_4 {l : List Dec} {s : ByteArray} (h : logB l = true) (h2 : fdB l s = false) : dyA l s = 0 ∧ dyE l s = 4 := by simp [dyA, dyE, h, h2]
theorem dy_5 {l : List Dec} {s : ByteArray} (h : logB l = true) (h2 : fdB l s = true) (h3 : stateOf l s = 1) : dyA l s = 0 ∧ dyE l s = 5 := by simp [dyA, dyE, h, h2, h3]
theorem dy_0 {l : List Dec} {s : ByteArray} (h : logB l = true) (h2 : fdB l s = true) (h3 : ¬ stateOf l s = 1) : dyA l s = fdV l s ∧ dyE l s = 0 := by simp [dyA, dyE, h, h2, h3]

set_option maxHeartbeats 1000000 in
theorem specDayOf_any (A : Option Addr) (l : List Dec) (c lo hi : Nat) (s : ByteArray) (w : World) (hr : RdD w lo hi A l) (hhi : hi ≤ w.heap.size) (hok : ∀ d ∈ l, d.ok) (hn : l.length ≤ 2000000) (hc : l.length ≤ c) (hcm : c ≤ maxLen) :
    Calls Tryd.prog 18 #[.slice A l.length c, .string s] w fun e w' => e = .returned (.tuple #[.int .i64 (dyA l s), .int .i64 (dyE l s)]) ∧ Up w w' := by
  have hm : l.length ≤ maxLen := by unfold maxLen; omega
  have HI := Lib.hid (specIsLog_any A l c lo hi w hr hhi hok hn hc hcm)
  by_cases hb : logB l = true
  · go_enter Tryd.func18, Tryd.ntmps18
    go_wp2_with (go_at_call 12; refine HI.out.mono ?_; rintro e w1 ⟨rfl, hup⟩; have hr1 := hr.up hup hhi)
    have HB := Lib.hid hb
    go_loop [6, 7, 8] (fun z f i => ∃ k : Nat, ∃ b : Bool, ∃ x : Int, k ≤ l.length ∧ i = .int .i64 k ∧ f = .bool b ∧ z = .int .i64 x ∧ b = fdB (l.take k) s ∧ x = fdV (l.take k) s) (fun _ _ i => l.length - (intOf i).toNat)
    case atStart => exact ⟨0, _, _, Nat.zero_le _, rfl, rfl, rfl, (fd_zero s l).1.symm, (fd_zero s l).2.symm⟩
    case round =>
      obtain ⟨k, b, x, hk, rfl, rfl, rfl, hfb, hfx⟩ := hrel
      have HFB := Lib.hid hfb
      have HFX := Lib.hid hfx
      clear hfb hfx
      by_cases hlt : k < l.length
      · obtain ⟨bb, off, d, rfl, -, -, hd, q0, q1, q2, q3⟩ := hr1.dec hlt
        have HD := Lib.hid hd
        clear hd
        go_wp2
        · have h1 : d.deed.toList = s.toList := by assumption
          have h2 : (d.kind == 0) = true := by assumption
          go_round
          case rel => exact ⟨k + 1, _, _, by omega, by go_num, rfl, rfl, (fd_yes HD.out (by simp [h1]) (by simpa using h2)).1.symm, (fd_yes HD.out (by simp [h1]) (by simpa using h2)).2.symm⟩
          case measure => simp [intOf]; omega
        · have h2 : (d.kind == 0) = false := by assumption
          go_round
          case rel => exact ⟨k + 1, _, _, by omega, by go_num, rfl, rfl, HFB.out.trans (fd_b HD.out (by simpa using h2)).1.symm, HFX.out.trans (fd_b HD.out (by simpa using h2)).2.symm⟩
          case measure => simp [intOf]; omega
        · have h1 : ¬ d.deed.toList = s.toList := by assumption
          go_round
          case rel => exact ⟨k + 1, _, _, by omega, by go_num, rfl, rfl, HFB.out.trans (fd_a HD.out (by simpa using h1)).1.symm, HFX.out.trans (fd_a HD.out (by simpa using h1)).2.symm⟩
          case measure => simp [intOf]; omega
      · have e : l.take k = l := fd_end (by omega)
        have hfb := HFB.out
        have hfx := HFX.out
        rw [e] at hfb hfx
        have HFB' := Lib.hid hfb
        have HFX' := Lib.hid hfx
        clear e hfb hfx
        cases b
        · go_wp2
          go_ret2
          exact ⟨ret_int2 (dy_4 HB.out HFB'.out.symm).1.symm (dy_4 HB.out HFB'.out.symm).2.symm, hup⟩
        · by_cases hst : stateOf l s = 1
          · have hst' : (stateOf l s == 1) = true := by simpa using hst
            have HST := Lib.hid hst
            clear hst
            go_wp2_with (go_at_call 50; refine (l26State_any _ l c lo hi s _ hr1 hm).mono ?_; rintro e w2 ⟨rfl, rfl⟩)
            go_ret2
            exact ⟨ret_int2 (dy_5 HB.out HFB'.out.symm HST.out).1.symm (dy_5 HB.out HFB'.out.symm HST.out).2.symm, hup⟩
          · have hst' : (stateOf l s == 1) = false := by simpa using hst
            have HST := Lib.hid hst
            clear hst
            go_wp2_with (go_at_call 50; refine (l26State_any _ l c lo hi s _ hr1 hm).mono ?_; rintro e w2 ⟨rfl, rfl⟩)
            go_ret2
            exact ⟨ret_int2 (by rw [(dy_0 HB.out HFB'.out.symm HST.out).1, HFX'.out]) (dy_0 HB.out HFB'.out.symm HST.out).2.symm, hup⟩
  · have hb' : logB l = false := by simpa using hb
    clear hb
    go_enter Tryd.func18, Tryd.ntmps18
    go_wp2_with (go_at_call 12; refine HI.out.mono ?_; rintro e w1 ⟨rfl, hup⟩)
    go_ret2
    exact ⟨ret_int2 (dy_1 hb' s).1.symm (dy_1 hb' s).2.symm, by assumption⟩

set_option maxHeartbeats 1000000 in
theorem implDayOf_any (A : Option Addr) (l : List Dec) (c lo hi : Nat) (s : ByteArray) (w : World) (hr : RdD w lo hi A l) (hhi : hi ≤ w.heap.size) (hok : ∀ d ∈ l, d.ok) (hn : l.length ≤ 2000000) (hc : l.length ≤ c) (hcm : c ≤ maxLen) :
    Calls Tryd.prog 19 #[.slice A l.length c, .string s] w fun e w' => e = .returned (.tuple #[.int .i64 (dyA l s), .int .i64 (dyE l s)]) ∧ Up w w' := by
  have hm : l.length ≤ maxLen := by unfold maxLen; omega
  have HI := Lib.hid (implIsLog_any A l c lo hi w hr hhi hok hn hc hcm)
  by_cases hb : logB l = true
  · go_enter Tryd.func19, Tryd.ntmps19
    go_wp2_with (go_at_call 14; refine HI.out.mono ?_; rintro e w1 ⟨rfl, hup⟩; have hr1 := hr.up hup hhi)
    have HB := Lib.hid hb
    go_loop [4, 5, 6] (fun u4 u5 i => ∃ k : Nat, k ≤ l.length ∧ i = .int .i64 ((k : Int) - 1) ∧ fdB l s = fdB (l.take k) s ∧ fdV l s = fdV (l.take k) s) (fun _ _ i => (intOf i + 1).toNat)
    case atStart => exact ⟨l.length, Nat.le_refl _, rfl, by rw [fd_end (Nat.le_refl _)], by rw [fd_end (Nat.le_refl _)]⟩
    case round =>
      obtain ⟨k, hk, rfl, hfb, hfx⟩ := hrel
      have HFB := Lib.hid hfb
      have HFX := Lib.hid hfx
      clear hfb hfx
      rcases k with _ | k
      · go_wp2
        go_ret2
        have h4 : fdB l s = false := HFB.out.trans (fd_zero s l).1
        exact ⟨ret_int2 (dy_4 HB.out h4).1.symm (dy_4 HB.out h4).2.symm, hup⟩
      · obtain ⟨bb, off, d, rfl, -, -, hd, q0, q1, q2, q3⟩ := hr1.dec (k := k) (by omega)
        have HD := Lib.hid hd
        clear hd
        by_cases hst : stateOf l s = 1
        · have hst' : (stateOf l s == 1) = true := by simpa using hst
          have HST := Lib.hid hst
          clear hst
          go_wp2_with (go_at_call 51; refine (kindOf_any _ l c lo hi s _ hr1 hm).mono ?_; rintro e w2 ⟨rfl, rfl⟩)
          · have h2 : (d.kind != 0) = true := by assumption
            go_round
            case rel => exact ⟨k, by omega, by go_num, HFB.out.trans (fd_b HD.out (by simpa using h2)).1, HFX.out.trans (fd_b HD.out (by simpa using h2)).2⟩
            case measure => simp [intOf]
          · have h1 : d.deed.toList = s.toList := by assumption
            have h2 : (d.kind != 0) = false := by assumption
            have f1 : fdB l s = true := HFB.out.trans (fd_yes HD.out (by simp [h1]) (by simpa using h2)).1
            have f2 : fdV l s = d.day := HFX.out.trans (fd_yes HD.out (by simp [h1]) (by simpa using h2)).2
            go_ret2
            exact ⟨ret_int2 (dy_5 HB.out f1 HST.out).1.symm (dy_5 HB.out f1 HST.out).2.symm, hup⟩
          · have h1 : ¬ d.deed.toList = s.toList := by assumption
            go_round
            case rel => exact ⟨k, by omega, by go_num, HFB.out.trans (fd_a HD.out (by simpa using h1)).1, HFX.out.trans (fd_a HD.out (by simpa using h1)).2⟩
            case measure => simp [intOf]
        · have hst' : (stateOf l s == 1) = false := by simpa using hst
          have HST := Lib.hid hst
          clear hst
          go_wp2_with (go_at_call 51; refine (kindOf_any _ l c lo hi s _ hr1 hm).mono ?_; rintro e w2 ⟨rfl, rfl⟩)
          · have h2 : (d.kind != 0) = true := by assumption
            go_round
            case rel => exact ⟨k, by omega, by go_num, HFB.out.trans (fd_b HD.out (by simpa using h2)).1, HFX.out.trans (fd_b HD.out (by simpa using h2)).2⟩
            case measure => simp [intOf]
          · have h1 : d.deed.toList = s.toList := by assumption
            have h2 : (d.kind != 0) = false := by assumption
            have f1 : fdB l s = true := HFB.out.trans (fd_yes HD.out (by simp [h1]) (by simpa using h2)).1
            have f2 : fdV l s = d.day := HFX.out.trans (fd_yes HD.out (by simp [h1]) (by simpa using h2)).2
            go_ret2
            exact ⟨ret_int2 (by rw [(dy_0 HB.out f1 HST.out).1, f2]) (dy_0 HB.out f1 HST.out).2.symm, hup⟩
          · have h1 : ¬ d.deed.toList = s.toList := by assumption
            go_round
            case rel => exact ⟨k, by omega, by go_num, HFB.out.trans (fd_a HD.out (by simpa using h1)).1, HFX.out.trans (fd_a HD.out (by simpa using h1)).2⟩
            case measure => simp [intOf]
  · have hb' : logB l = false := by simpa using hb
    clear hb
    go_enter Tryd.func19, Tryd.ntmps19
    go_wp2_with (go_at_call 14; refine HI.out.mono ?_; rintro e w1 ⟨rfl, hup⟩)
    go_ret2
    exact ⟨ret_int2 (dy_1 hb' s).1.symm (dy_1 hb' s).2.symm, by assumption⟩

set_option maxHeartbeats 1000000 in
theorem fnExactDayOf_walk (A : Option Addr) (l : List Dec) (c : Nat) (s : ByteArray) (w : World) (hr : RdD w 0 w.heap.size A l) (hok : ∀ d ∈ l, d.ok) (hn : l.length ≤ maxLen) (hs : s.size ≤ maxLen) :
    Calls Tryd.prog 5 #[.slice A l.length c, .string s] w fun e w' => e = .returned (.bool true) ∧ Up w w' := by
  have hsz := szDecisionS_any A l c 0 w.heap.size 1048576 w hr (Nat.le_refl _) hok (by omega) (by omega) hn
  have hsm : s.size ≤ 9223372036854775807 := by unfold maxLen at hs; omega
  have HS := Lib.hid hsz
  clear hsz
  by_cases hlen : 1048576 < (s.size : Int)
  · go_enter Tryd.func5, Tryd.ntmps5
    go_wp2
    go_ret
    exact ⟨rfl, Up.refl _⟩
  · by_cases hz : szDL l 1048576 < 0
    · have hd : decide (szDL l 1048576 < 0) = true := by simpa using hz
      go_enter Tryd.func5, Tryd.ntmps5
      go_wp2_with (go_at_call 11; refine HS.out.mono ?_; rintro e w1 ⟨rfl, hu1⟩)
      go_ret
      exact ⟨rfl, hu1⟩
    · have hl := szDL_len hz
      have hl' : l.length ≤ 2000000 := by omega
      have hd : decide (szDL l 1048576 < 0) = false := by simpa using hz
      go_enter Tryd.func5, Tryd.ntmps5
      go_wp2_with fail
      refine HS.out.mono ?_
      rintro e w1 ⟨rfl, hu1⟩
      go_wp2_with fail
      refine (toDecS A l c 0 w.heap.size _ (hr.up hu1 (Nat.le_refl _)) hu1.size hl').mono ?_
      rintro e w2 ⟨A2, c2, rfl, hc2, hm2, hr2, ho2, hu2⟩
      go_wp2_with fail
      refine (specDayOf_any A2 l c2 _ _ s _ hr2 (Nat.le_refl _) hok hl' hc2 hm2).mono ?_
      rintro e w3 ⟨rfl, hu3⟩
      go_wp2_with fail
      refine (toDecS A l c 0 w.heap.size _ (hr.up (hu1.trans (hu2.trans hu3)) (Nat.le_refl _)) (hu1.trans (hu2.trans hu3)).size hl').mono ?_
      rintro e w4 ⟨A4, c4, rfl, hc4, hm4, hr4, ho4, hu4⟩
      go_wp2_with fail
      refine (implDayOf_any A4 l c4 _ _ s _ hr4 (Nat.le_refl _) hok hl' hc4 hm4).mono ?_
      rintro e w5 ⟨rfl, hu5⟩
      go_wp2_with fail
      have hu05 := hu1.trans (hu2.trans (hu3.trans (hu4.trans hu5)))
      refine (toDecS A l c 0 w.heap.size _ (hr.up hu05 (Nat.le_refl _)) hu05.size hl').mono ?_
      rintro e w6 ⟨A6, c6, rfl, hc6, hm6, hr6, ho6, hu6⟩
      go_wp2_with fail
      refine (eqDecisionS_any A4 A6 l l c4 c6 _ _ _ _ _ (hr4.up (hu5.trans hu6) (Nat.le_refl _)) (hu5.trans hu6).size hr6 (Nat.le_refl _) hl' hl').mono ?_
      rintro e w7 ⟨rfl, hu7⟩
      have he : eqDs l l = true := by simp [eqDs]
      go_wp2
      go_ret
      exact ⟨rfl, hu05.trans (hu6.trans hu7)⟩
end Go.Proofs.YtngananoidplmaaDoor
