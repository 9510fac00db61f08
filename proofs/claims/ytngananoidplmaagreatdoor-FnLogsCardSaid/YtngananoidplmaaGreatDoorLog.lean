/- The walks of the program's and the reference's tests on decisions and logs: both compute the same plain functions. -/
import Derived.Test.YtngananoidplmaaGreatDoorDec
import Derived.Test.YtngananoidplmaaGreatDoorBase
namespace Go.Proofs.YtngananoidplmaaGreatDoor
open Go.RowKit Go.Sort

def decB (d : Dec) : Bool := (nameB d.deed 12 && (nameB d.by_ 8 && inB d.kind 0 2)) && (dayB d.day && (d.kind == 0 || d.day == 0))
set_option maxHeartbeats 1000000 in
theorem l26Could_any (d : Dec) (hd : d.ok) (w : World) :
    Calls Tryz.prog 22 #[d.val] w fun e w' => e = .returned (.bool (decB d)) ∧ Up w w' := by
  obtain ⟨o1, o2⟩ := hd
  go_enter Tryz.func22, Tryz.ntmps22
  go_wp2_with (first | (go_at_call 40; refine (l01Name_any _ _ _ (by assumption)).mono ?_; rintro e w' ⟨rfl, rfl⟩) | (go_at_call 41; refine (l01In_any _ _ _ _).mono ?_; rintro e w' ⟨rfl, rfl⟩) | (go_at_call 42; refine (l01Day_any _ _).mono ?_; rintro e w' ⟨rfl, rfl⟩))
  all_goals (go_ret; refine ⟨ret_bool ?_, Up.alloc _ _⟩; simp_all [decB])
/-- a box's four cells behind a call -/
theorem box4 {w w' : World} {T : TypeId} {a b c d : Value} (h : Up (w.alloc (.cells #[a, b, c, d] T)) w') :
    w'.cell? ⟨w.heap.size, 0, none⟩ = some a ∧ w'.cell? ⟨w.heap.size, 1, none⟩ = some b ∧ w'.cell? ⟨w.heap.size, 2, none⟩ = some c ∧ w'.cell? ⟨w.heap.size, 3, none⟩ = some d :=
  ⟨h.cell (by simp), h.cell (by simp), h.cell (by simp), h.cell (by simp)⟩
set_option maxHeartbeats 1000000 in
theorem isDecision_any (d : Dec) (hd : d.ok) (w : World) :
    Calls Tryz.prog 50 #[d.val] w fun e w' => e = .returned (.bool (decB d)) ∧ Up w w' := by
  obtain ⟨o1, o2⟩ := hd
  go_enter Tryz.func50, Tryz.ntmps50
  go_wp2_with (first | (go_at_call 61; refine (isSmall_any _ _ _ (by assumption)).mono ?_; rintro e w' ⟨rfl, hup⟩; have hupw : Up w w' := (by first | exact (Up.alloc _ _).trans hup | exact Up.trans (by assumption) hup); have c0 := hup.cell (a := ⟨w.heap.size, 0, none⟩) (v := .string d.deed) (by first | assumption | simp); have c1 := hup.cell (a := ⟨w.heap.size, 1, none⟩) (v := .int .i64 d.kind) (by first | assumption | simp); have c2 := hup.cell (a := ⟨w.heap.size, 2, none⟩) (v := .int .i64 d.day) (by first | assumption | simp); have c3 := hup.cell (a := ⟨w.heap.size, 3, none⟩) (v := .string d.by_) (by first | assumption | simp)) | (go_at_call 62; refine (within_any _ _ _ _).mono ?_; rintro e w' ⟨rfl, rfl⟩) | (go_at_call 63; refine (isDay_any _ _).mono ?_; rintro e w' ⟨rfl, rfl⟩))
  all_goals (go_ret; refine ⟨ret_bool ?_, by assumption⟩; simp_all [decB])

def stateOf (l : List Dec) (s : ByteArray) : Int := match l.reverse.find? (fun d => d.deed.toList == s.toList) with | some d => d.kind | none => 2
theorem stateOf_yes {l : List Dec} {s : ByteArray} {k : Nat} {d : Dec} (hd : l[k]? = some d) (he : (d.deed.toList == s.toList) = true) : stateOf (l.take (k + 1)) s = d.kind := by
  have hk := (List.getElem?_eq_some_iff.1 hd).1
  unfold stateOf
  rw [List.take_succ_eq_append_getElem hk, (List.getElem?_eq_some_iff.1 hd).2]
  simp [he]
theorem stateOf_no {l : List Dec} {s : ByteArray} {k : Nat} {d : Dec} (hd : l[k]? = some d) (he : (d.deed.toList == s.toList) = false) : stateOf (l.take (k + 1)) s = stateOf (l.take k) s := by
  have hk := (List.getElem?_eq_some_iff.1 hd).1
  unfold stateOf
  rw [List.take_succ_eq_append_getElem hk, (List.getElem?_eq_some_iff.1 hd).2]
  simp [he]

set_option maxHeartbeats 1000000 in
theorem l26State_any (A : Option Addr) (l : List Dec) (c lo hi : Nat) (s : ByteArray) (w : World) (hr : RdD w lo hi A l) (hn : l.length ≤ maxLen) :
    Calls Tryz.prog 43 #[.slice A l.length c, .string s] w fun e w' => e = .returned (.int .i64 (stateOf l s)) ∧ w = w' := by
  unfold maxLen at hn
  go_enter Tryz.func43, Tryz.ntmps43
  go_wp2
  go_loop [4, 5] (fun r i => ∃ k : Nat, k ≤ l.length ∧ i = .int .i64 ((k : Int) - 1) ∧ stateOf l s = stateOf (l.take k) s) (fun _ i => (intOf i + 1).toNat)
  case atStart => exact ⟨l.length, Nat.le_refl _, rfl, by rw [List.take_of_length_le (Nat.le_refl _)]⟩
  case round =>
    obtain ⟨k, hk, rfl, hs⟩ := hrel
    have HS := Lib.hid hs
    clear hs
    rcases k with _ | k
    · go_wp2
      go_ret
      exact ⟨ret_int (by rw [HS.out]; rfl), rfl⟩
    · obtain ⟨b, off, d, rfl, -, -, hd, q0, q1, q2, q3⟩ := hr.dec (k := k) (by omega)
      have HD := Lib.hid hd
      clear hd
      go_wp2
      · have h1 : (d.deed.toList == s.toList) = true := by assumption
        go_ret
        exact ⟨ret_int (by rw [HS.out, stateOf_yes HD.out h1]), rfl⟩
      · have h1 : (d.deed.toList == s.toList) = false := by assumption
        go_round
        case rel => exact ⟨k, by omega, by go_num, by rw [HS.out, stateOf_no HD.out h1]⟩
        case measure => simp [intOf]
set_option maxHeartbeats 1000000 in
theorem kindOf_any (A : Option Addr) (l : List Dec) (c lo hi : Nat) (s : ByteArray) (w : World) (hr : RdD w lo hi A l) (hn : l.length ≤ maxLen) :
    Calls Tryz.prog 64 #[.slice A l.length c, .string s] w fun e w' => e = .returned (.int .i64 (stateOf l s)) ∧ w = w' := by
  unfold maxLen at hn
  go_enter Tryz.func64, Tryz.ntmps64
  go_wp2
  go_loop [4, 5] (fun r i => ∃ k : Nat, k ≤ l.length ∧ i = .int .i64 ((k : Int) - 1) ∧ stateOf l s = stateOf (l.take k) s) (fun _ i => (intOf i + 1).toNat)
  case atStart => exact ⟨l.length, Nat.le_refl _, rfl, by rw [List.take_of_length_le (Nat.le_refl _)]⟩
  case round =>
    obtain ⟨k, hk, rfl, hs⟩ := hrel
    have HS := Lib.hid hs
    clear hs
    rcases k with _ | k
    · go_wp2
      go_ret
      exact ⟨ret_int (by rw [HS.out]; rfl), rfl⟩
    · obtain ⟨b, off, d, rfl, -, -, hd, q0, q1, q2, q3⟩ := hr.dec (k := k) (by omega)
      have HD := Lib.hid hd
      clear hd
      go_wp2
      · have h1 : (d.deed.toList == s.toList) = true := by assumption
        go_ret
        exact ⟨ret_int (by rw [HS.out, stateOf_yes HD.out h1]), rfl⟩
      · have h1 : (d.deed.toList == s.toList) = false := by assumption
        go_round
        case rel => exact ⟨k, by omega, by go_num, by rw [HS.out, stateOf_no HD.out h1]⟩
        case measure => simp [intOf]

def mayB (l : List Dec) (d : Dec) : Bool := (stateOf l d.deed == 1) == (d.kind == 2)
set_option maxHeartbeats 400000 in
theorem l26May_any (A : Option Addr) (l : List Dec) (c lo hi : Nat) (d : Dec) (w : World) (hr : RdD w lo hi A l) (hhi : hi ≤ w.heap.size) (hn : l.length ≤ maxLen) :
    Calls Tryz.prog 23 #[.slice A l.length c, d.val] w fun e w' => e = .returned (.bool (mayB l d)) ∧ Up w w' := by
  have hr1 := fun o => hr.up (Up.alloc w o) hhi
  have H := Lib.hid hr1
  clear hr1
  go_enter Tryz.func23, Tryz.ntmps23
  go_wp2_with (go_at_call 43; refine (l26State_any _ _ _ _ _ _ _ (H.out _) hn).mono ?_; rintro e w' ⟨rfl, rfl⟩)
  all_goals (go_ret; exact ⟨ret_bool rfl, Up.alloc _ _⟩)
set_option maxHeartbeats 400000 in
theorem mayFollow_any (A : Option Addr) (l : List Dec) (c lo hi : Nat) (d : Dec) (w : World) (hr : RdD w lo hi A l) (hhi : hi ≤ w.heap.size) (hn : l.length ≤ maxLen) :
    Calls Tryz.prog 51 #[.slice A l.length c, d.val] w fun e w' => e = .returned (.bool (mayB l d)) ∧ Up w w' := by
  have hr1 := fun o => hr.up (Up.alloc w o) hhi
  have H := Lib.hid hr1
  clear hr1
  go_enter Tryz.func51, Tryz.ntmps51
  go_wp2
  have cK : ∀ dd os, Calls Tryz.prog 64 #[.slice A l.length c, .string d.deed] (grow (redrawn (w.alloc (.cells #[.string d.deed, .int .i64 d.kind, .int .i64 d.day, .string d.by_] 43)) dd) os) fun e w'' => e = .returned (.int .i64 (stateOf l d.deed)) ∧ ∃ p : Regrown, w'' = grow (redrawn (w.alloc (.cells #[.string d.deed, .int .i64 d.kind, .int .i64 d.day, .string d.by_] 43)) p.d) p.os :=
    fun dd os => Calls.regrown_of ((kindOf_any _ _ _ _ _ _ _ ((H.out _).up (below_regrown _ _ _) (by simp; omega)) hn).mono fun _ _ ⟨h1, h2⟩ => ⟨h1, by rw [← h2]; exact Up.refl _⟩)
  have c0 := cell_regrown (w := w.alloc (.cells #[.string d.deed, .int .i64 d.kind, .int .i64 d.day, .string d.by_] 43)) (a := ⟨w.heap.size, 0, none⟩) (v := .string d.deed) (by simp)
  have c1 := cell_regrown (w := w.alloc (.cells #[.string d.deed, .int .i64 d.kind, .int .i64 d.day, .string d.by_] 43)) (a := ⟨w.heap.size, 1, none⟩) (v := .int .i64 d.kind) (by simp)
  refine wp_region_quiet_below (by kernel_rfl) (by kernel_rfl) ?_
  repeat (quiet_step ((go_at_call 64; exact cK _ _)))
  refine wpQuiet_nil ?_
  intro w2 hw2
  obtain ⟨⟨dq, osq⟩, hw2⟩ := hw2
  have hup2 := below_regrown (w.alloc (.cells #[.string d.deed, .int .i64 d.kind, .int .i64 d.day, .string d.by_] 43)) dq osq
  rw [← hw2] at hup2
  clear hw2 c0 c1 cK
  go_wp2
  go_ret
  exact ⟨ret_bool rfl, (Up.alloc _ _).trans hup2⟩

def okAt (l : List Dec) (k : Nat) (d : Dec) : Bool := decB d && mayB (l.take k) d
def logB (l : List Dec) : Bool := ((List.range l.length).all fun k => match l[k]? with | some d => okAt l k d | none => true) && decide (l.length ≤ 80)
theorem logB_no {l : List Dec} {k : Nat} {d : Dec} (hd : l[k]? = some d) (h : okAt l k d = false) : logB l = false := by
  have : ((List.range l.length).all fun k => match l[k]? with | some d => okAt l k d | none => true) = false := by
    rw [List.all_eq_false]; exact ⟨k, by simpa using (List.getElem?_eq_some_iff.1 hd).1, by simp [hd, h]⟩
  simp [logB, this]
theorem logB_end {l : List Dec} (h : ∀ k d, k < l.length → l[k]? = some d → okAt l k d = true) : logB l = decide (l.length ≤ 80) := by
  have : ((List.range l.length).all fun k => match l[k]? with | some d => okAt l k d | none => true) = true := by
    rw [List.all_eq_true]; intro k hk
    have hk' : k < l.length := by simpa using hk
    rw [List.getElem?_eq_getElem hk']; exact h k _ hk' (List.getElem?_eq_getElem hk')
  simp [logB, this]

set_option maxHeartbeats 1000000 in
theorem specIsLog_any (A : Option Addr) (l : List Dec) (c lo hi : Nat) (w : World) (hr : RdD w lo hi A l) (hhi : hi ≤ w.heap.size) (hok : ∀ d ∈ l, d.ok) (hn : l.length ≤ 2000000) (hc : l.length ≤ c) (hcm : c ≤ maxLen) :
    Calls Tryz.prog 36 #[.slice A l.length c] w fun e w' => e = .returned (.bool (logB l)) ∧ Up w w' := by
  unfold maxLen at hcm
  go_enter Tryz.func36, Tryz.ntmps36
  go_wp2
  go_loopw [3] (fun i wr => ∃ k : Nat, k ≤ l.length ∧ i = .int .i64 k ∧ (∀ j d, j < k → l[j]? = some d → okAt l j d = true) ∧ Up w wr) (fun i _ => l.length - (intOf i).toNat)
  case atStart => exact ⟨0, Nat.zero_le _, rfl, fun j d h => absurd h (by omega), Up.refl _⟩
  case round =>
    obtain ⟨k, hk, rfl, ha, hup⟩ := hrel
    have HA := Lib.hid ha
    clear ha
    by_cases hlt : k < l.length
    · obtain ⟨b, off, d, rfl, -, -, hd, q0, q1, q2, q3⟩ := (hr.up hup hhi).dec hlt
      have HD := Lib.hid hd
      clear hd
      have R := Lib.hid ((hr.take k).up hup hhi)
      have hhr : hi ≤ wr.heap.size := Nat.le_trans hhi hup.size
      have Q0 := cell_regrown q0
      have Q1 := cell_regrown q1
      have Q2 := cell_regrown q2
      have Q3 := cell_regrown q3
      have hkc : k ≤ c := by omega
      go_wp2_with fail
      have cC : ∀ dd os, Calls Tryz.prog 22 #[d.val] (grow (redrawn wr dd) os) fun e w'' => e = .returned (.bool (decB d)) ∧ ∃ p : Regrown, w'' = grow (redrawn wr p.d) p.os :=
        fun dd os => Calls.regrown_of (l26Could_any d (hok d (List.mem_of_getElem? HD.out)) _)
      have cM : ∀ dd os, Calls Tryz.prog 23 #[.slice (some ⟨b, off, none⟩) k c, d.val] (grow (redrawn wr dd) os) fun e w'' => e = .returned (.bool (mayB (l.take k) d)) ∧ ∃ p : Regrown, w'' = grow (redrawn wr p.d) p.os := fun dd os => by
        have h := l26May_any (some ⟨b, off, none⟩) (l.take k) c lo hi d _ (R.out.up (below_regrown wr dd os) hhr) (Nat.le_trans hhr (below_regrown wr dd os).size) (by rw [List.length_take]; unfold maxLen; omega)
        rw [List.length_take, Nat.min_eq_left hk] at h
        exact Calls.regrown_of h
      by_cases hq : decB d = true
      · refine wp_region_quiet_below (by kernel_rfl) (by kernel_rfl) ?_
        repeat (first | go_big_quiet_step (first | (go_at_call 22; exact cC _ _) | (go_at_call 23; exact cM _ _)) | quiet_step (first | (go_at_call 22; exact cC _ _) | (go_at_call 23; exact cM _ _)))
        refine wpQuiet_nil ?_
        intro w2 hw2
        obtain ⟨⟨dq, osq⟩, hw2⟩ := hw2
        have hup2 : Up wr w2 := by rw [hw2]; exact below_regrown _ _ _
        clear hw2 Q0 Q1 Q2 Q3 cC cM
        go_wp2
        · have h1 : (!mayB (l.take k) d) = true := by assumption
          go_ret
          exact ⟨ret_bool (logB_no HD.out (by unfold okAt; rw [hq]; simpa using h1)).symm, hup.trans hup2⟩
        · have h1 : (!mayB (l.take k) d) = false := by assumption
          go_roundw
          case rel => exact ⟨k + 1, by omega, by go_num, fun j d' hj hd' => by
            rcases Nat.lt_or_ge j k with h | h
            · exact HA.out j d' h hd'
            · obtain rfl : j = k := by omega
              rw [HD.out] at hd'; cases hd'
              unfold okAt; rw [hq]; simpa using h1, hup.trans hup2⟩
          case measure => simp [intOf]; omega
      · have hq' : decB d = false := by simpa using hq
        clear hq
        refine wp_region_quiet_below (by kernel_rfl) (by kernel_rfl) ?_
        repeat (first | go_big_quiet_step (first | (go_at_call 22; exact cC _ _) | (go_at_call 23; exact cM _ _)) | quiet_step (first | (go_at_call 22; exact cC _ _) | (go_at_call 23; exact cM _ _)))
        refine wpQuiet_nil ?_
        intro w2 hw2
        obtain ⟨⟨dq, osq⟩, hw2⟩ := hw2
        have hup2 : Up wr w2 := by rw [hw2]; exact below_regrown _ _ _
        clear hw2 Q0 Q1 Q2 Q3 cC cM
        go_wp2
        go_ret
        exact ⟨ret_bool (logB_no HD.out (by unfold okAt; rw [hq']; rfl)).symm, hup.trans hup2⟩
    · have h0 := logB_end (l := l) (fun j d hj hd => HA.out j d (by omega) hd)
      have H0 := Lib.hid h0
      clear h0
      go_wp2
      go_ret
      exact ⟨ret_bool (by rw [H0.out]; exact decide_eq_decide.2 (by omega)), hup⟩

set_option maxHeartbeats 1000000 in
theorem implIsLog_any (A : Option Addr) (l : List Dec) (c lo hi : Nat) (w : World) (hr : RdD w lo hi A l) (hhi : hi ≤ w.heap.size) (hok : ∀ d ∈ l, d.ok) (hn : l.length ≤ 2000000) (hc : l.length ≤ c) (hcm : c ≤ maxLen) :
    Calls Tryz.prog 29 #[.slice A l.length c] w fun e w' => e = .returned (.bool (logB l)) ∧ Up w w' := by
  unfold maxLen at hcm
  go_enter Tryz.func29, Tryz.ntmps29
  go_wp2
  go_loopw [2, 3, 4, 7] (fun u2 u3 u4 i wr => ∃ k : Nat, k ≤ l.length ∧ i = .int .i64 k ∧ (∀ j d, j < k → l[j]? = some d → okAt l j d = true) ∧ Up w wr) (fun _ _ _ i _ => l.length - (intOf i).toNat)
  case atStart => exact ⟨0, Nat.zero_le _, rfl, fun j d h => absurd h (by omega), Up.refl _⟩
  case round =>
    obtain ⟨k, hk, rfl, ha, hup⟩ := hrel
    have HA := Lib.hid ha
    clear ha
    by_cases hlt : k < l.length
    · obtain ⟨b, off, d, rfl, -, -, hd, q0, q1, q2, q3⟩ := (hr.up hup hhi).dec hlt
      have HD := Lib.hid hd
      clear hd
      have hupv := hup.allocs (.cells #[.string d.deed, .int .i64 d.kind, .int .i64 d.day, .string d.by_] 43)
      have R := Lib.hid ((hr.take k).up hupv hhi)
      have hhr : hi ≤ (wr.alloc (.cells #[.string d.deed, .int .i64 d.kind, .int .i64 d.day, .string d.by_] 43)).heap.size := Nat.le_trans hhi hupv.size
      have HH := Lib.hid hhr
      clear hhr
      have hkc : k ≤ c := by omega
      go_wp2_with fail
      have q0' : (wr.alloc (.cells #[.string d.deed, .int .i64 d.kind, .int .i64 d.day, .string d.by_] 43)).cell? ⟨wr.heap.size, 0, none⟩ = some (.string d.deed) := by simp
      have q1' : (wr.alloc (.cells #[.string d.deed, .int .i64 d.kind, .int .i64 d.day, .string d.by_] 43)).cell? ⟨wr.heap.size, 1, none⟩ = some (.int .i64 d.kind) := by simp
      have q2' : (wr.alloc (.cells #[.string d.deed, .int .i64 d.kind, .int .i64 d.day, .string d.by_] 43)).cell? ⟨wr.heap.size, 2, none⟩ = some (.int .i64 d.day) := by simp
      have q3' : (wr.alloc (.cells #[.string d.deed, .int .i64 d.kind, .int .i64 d.day, .string d.by_] 43)).cell? ⟨wr.heap.size, 3, none⟩ = some (.string d.by_) := by simp
      generalize wr.alloc (.cells #[.string d.deed, .int .i64 d.kind, .int .i64 d.day, .string d.by_] 43) = W1 at *
      have Q0 := cell_regrown q0'
      have Q1 := cell_regrown q1'
      have Q2 := cell_regrown q2'
      have Q3 := cell_regrown q3'
      clear q0' q1' q2' q3' q0 q1 q2 q3
      have cC : ∀ dd os, Calls Tryz.prog 50 #[d.val] (grow (redrawn W1 dd) os) fun e w'' => e = .returned (.bool (decB d)) ∧ ∃ p : Regrown, w'' = grow (redrawn W1 p.d) p.os :=
        fun dd os => Calls.regrown_of (isDecision_any d (hok d (List.mem_of_getElem? HD.out)) _)
      have cM : ∀ dd os, Calls Tryz.prog 51 #[.slice (some ⟨b, off, none⟩) k c, d.val] (grow (redrawn W1 dd) os) fun e w'' => e = .returned (.bool (mayB (l.take k) d)) ∧ ∃ p : Regrown, w'' = grow (redrawn W1 p.d) p.os := fun dd os => by
        have h := mayFollow_any (some ⟨b, off, none⟩) (l.take k) c lo hi d _ (R.out.up (below_regrown W1 dd os) HH.out) (Nat.le_trans HH.out (below_regrown W1 dd os).size) (by rw [List.length_take]; unfold maxLen; omega)
        rw [List.length_take, Nat.min_eq_left hk] at h
        exact Calls.regrown_of h
      by_cases hq : decB d = true
      · refine wp_region_quiet_below (by kernel_rfl) (by kernel_rfl) ?_
        repeat (first | go_big_quiet_step (first | (go_at_call 50; exact cC _ _) | (go_at_call 51; exact cM _ _)) | quiet_step (first | (go_at_call 50; exact cC _ _) | (go_at_call 51; exact cM _ _)))
        refine wpQuiet_nil ?_
        intro w2 hw2
        obtain ⟨⟨dq, osq⟩, hw2⟩ := hw2
        have hup2 : Up W1 w2 := by rw [hw2]; exact below_regrown _ _ _
        clear hw2 Q0 Q1 Q2 Q3 cC cM
        go_wp2
        · have h1 : (!mayB (l.take k) d) = true := by assumption
          go_ret
          exact ⟨ret_bool (logB_no HD.out (by unfold okAt; rw [hq]; simpa using h1)).symm, hupv.trans hup2⟩
        · have h1 : (!mayB (l.take k) d) = false := by assumption
          go_roundw
          case rel => exact ⟨k + 1, by omega, by go_num, fun j d' hj hd' => by
            rcases Nat.lt_or_ge j k with h | h
            · exact HA.out j d' h hd'
            · obtain rfl : j = k := by omega
              rw [HD.out] at hd'; cases hd'
              unfold okAt; rw [hq]; simpa using h1, hupv.trans hup2⟩
          case measure => simp [intOf]; omega
      · have hq' : decB d = false := by simpa using hq
        clear hq
        refine wp_region_quiet_below (by kernel_rfl) (by kernel_rfl) ?_
        repeat (first | go_big_quiet_step (first | (go_at_call 50; exact cC _ _) | (go_at_call 51; exact cM _ _)) | quiet_step (first | (go_at_call 50; exact cC _ _) | (go_at_call 51; exact cM _ _)))
        refine wpQuiet_nil ?_
        intro w2 hw2
        obtain ⟨⟨dq, osq⟩, hw2⟩ := hw2
        have hup2 : Up W1 w2 := by rw [hw2]; exact below_regrown _ _ _
        clear hw2 Q0 Q1 Q2 Q3 cC cM
        go_wp2
        go_ret
        exact ⟨ret_bool (logB_no HD.out (by unfold okAt; rw [hq']; rfl)).symm, hupv.trans hup2⟩
    · have h0 := logB_end (l := l) (fun j d hj hd => HA.out j d (by omega) hd)
      have H0 := Lib.hid h0
      clear h0
      go_wp2
      go_ret
      exact ⟨ret_bool (by rw [H0.out]; exact decide_eq_decide.2 (by omega)), hup⟩
end Go.Proofs.YtngananoidplmaaGreatDoor
