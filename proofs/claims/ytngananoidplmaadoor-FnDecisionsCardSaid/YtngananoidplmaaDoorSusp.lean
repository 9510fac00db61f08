/- OpenSuspicions: the program's and the reference's walks. -/
import Derived.Test.YtngananoidplmaaDoorState
import Derived.Test.YtngananoidplmaaDoorFuncs
import Derived.Test.YtngananoidplmaaDoorStrs
namespace Go.Proofs.YtngananoidplmaaDoor
open Go.RowKit Go.Sort

theorem infoStr : (Tryd.prog.info? 9).map (fun i => (i.zero, i.size, i.bytes)) = some (some (.string ByteArray.empty), 1, 16) := by kernel_rfl
def sameB (s : ByteArray) (o : Dec) : Bool := o.deed.toList == s.toList
def susB (l : List Dec) (k : Nat) (d : Dec) : Bool := (d.kind == 1) && !((l.drop (k + 1)).any (sameB d.deed))
def osT (l : List Dec) : Nat → List ByteArray
  | 0 => []
  | k + 1 => osT l k ++ (match l[k]? with | some d => if susB l k d then [d.deed] else [] | none => [])
def osL (l : List Dec) : List ByteArray := if logB l = true then osT l l.length else []
theorem osT_yes {l : List Dec} {k : Nat} {d : Dec} (hd : l[k]? = some d) (h : susB l k d = true) : osT l (k + 1) = osT l k ++ [d.deed] := by simp [osT, hd, h]
theorem osT_no {l : List Dec} {k : Nat} {d : Dec} (hd : l[k]? = some d) (h : susB l k d = false) : osT l (k + 1) = osT l k := by simp [osT, hd, h]
theorem osT_len (l : List Dec) : ∀ k, (osT l k).length ≤ k
  | 0 => by simp [osT]
  | k + 1 => by
    have := osT_len l k
    unfold osT
    rw [List.length_append]
    split
    · split <;> simp <;> omega
    · simp; omega
theorem osL_yes {l : List Dec} (h : logB l = true) : osL l = osT l l.length := by simp [osL, h]
theorem osL_no {l : List Dec} (h : logB l = false) : osL l = [] := by simp [osL, h]
theorem osL_len (l : List Dec) : (osL l).length ≤ l.length := by
  unfold osL; split
  · exact osT_len l _
  · simp
theorem flat1 (xs : List ByteArray) (s : ByteArray) : xs.flatMap strCells ++ [.string s] = (xs ++ [s]).flatMap strCells := by simp

theorem os_step {w' : World} {base : Nat} {T : TypeId} {v' : Value} {l : List Dec} {k : Nat} {d : Dec} (hd : l[k]? = some d) (h : susB l k d = true) (ho : w'.ownsRow base T 1 v' ((osT l k).length + 1) ((osT l k).flatMap strCells ++ [.string d.deed])) : w'.ownsRow base T 1 v' (osT l (k + 1)).length ((osT l (k + 1)).flatMap strCells) := by
  rw [osT_yes hd h, List.length_append, ← flat1]; exact ho

def lastB (l : List Dec) (s : ByteArray) (i m : Nat) : Bool := ((l.take m).drop (i + 1)).all fun o => !(sameB s o)
theorem lastB_step {l : List Dec} {s : ByteArray} {i m : Nat} {d : Dec} (hd : l[m]? = some d) (h : i + 1 ≤ m) : lastB l s i (m + 1) = (lastB l s i m && !(sameB s d)) := by
  have hm := (List.getElem?_eq_some_iff.1 hd).1
  unfold lastB
  rw [List.take_succ_eq_append_getElem hm, (List.getElem?_eq_some_iff.1 hd).2, List.drop_append_of_le_length (by simp; omega), List.all_append]
  simp
theorem lastB_zero (l : List Dec) (s : ByteArray) (i : Nat) : lastB l s i (i + 1) = true := by
  unfold lastB
  rw [List.drop_eq_nil_of_le (by simp; omega)]; rfl
theorem lastB_end {l : List Dec} {s : ByteArray} {i m : Nat} (h : l.length ≤ m) : lastB l s i m = !((l.drop (i + 1)).any (sameB s)) := by
  unfold lastB
  rw [List.take_of_length_le h, List.not_any_eq_all_not]

theorem susClosure_any (o : Dec) (s : ByteArray) (vb : Nat) (w : World) (hc : w.cell? ⟨vb, 0, none⟩ = some (.string s)) :
    Calls Tryd.prog 55 #[o.val, .pointer (some ⟨vb, 0, none⟩)] w fun e w' => e = .returned (.bool (sameB s o)) ∧ Up w w' := by
  have hc' := (Up.alloc w (.cells #[.string o.deed, .int .i64 o.kind, .int .i64 o.day, .string o.by_] 43)).cell hc
  go_enter Tryd.func55, Tryd.ntmps55
  go_wp2
  go_ret
  exact ⟨rfl, Up.alloc _ _⟩

theorem ret_v2s {v : Value} {k : IntKind} {a b : Int} (h : a = b) : Ending.returned (.tuple #[v, .int k a]) = .returned (.tuple #[v, .int k b]) := by rw [h]
set_option maxRecDepth 100000 in
set_option maxHeartbeats 4000000 in
theorem implOpen_any (A : Option Addr) (l : List Dec) (c lo hi : Nat) (w : World) (hr : RdD w lo hi A l) (hhi : hi ≤ w.heap.size) (hok : ∀ d ∈ l, d.ok) (hn : l.length ≤ 2000000) (hc : l.length ≤ c) (hcm : c ≤ maxLen) :
    Calls Tryd.prog 32 #[.slice A l.length c] w fun e w' => ∃ v, e = .returned (.tuple #[v, .int .i64 (stE l)]) ∧ w'.ownsRow w.heap.size 9 1 v (osL l).length ((osL l).flatMap strCells) ∧ Up w w' := by
  have HI := Lib.hid (implIsLog_any A l c lo hi w hr hhi hok hn hc hcm)
  obtain ⟨i0, hi0, hz0, hz1, hz2⟩ := info_parts infoStr
  have hcm' := hcm
  unfold maxLen at hcm'
  by_cases hb : logB l = true
  · go_enter Tryd.func32, Tryd.ntmps32
    go_wp2_with (go_at_call 14; refine HI.out.mono ?_; rintro e w1 ⟨rfl, hup⟩)
    have HB := Lib.hid hb
    have hown0 := World.ownsRow_lit (base := w.heap.size) (e := 9) (size := 1) w1 #[] 0 hup.size (by simp [maxLen]) rfl
    have hup1 := hup.allocs (.cells #[] 9)
    obtain ⟨v0, hv0⟩ : ∃ v, v = Value.slice (some ⟨w1.heap.size, 0, none⟩) 0 0 := ⟨_, rfl⟩
    rw [← hv0] at hown0 ⊢
    generalize w1.alloc (.cells #[] 9) = w2 at *
    clear hv0
    go_wp2
    go_loopw [4, 5, 6, 7, 14] (fun o u5 u6 u7 i wr => ∃ k : Nat, k ≤ l.length ∧ i = .int .i64 k ∧ wr.ownsRow w.heap.size 9 1 o (osT l k).length ((osT l k).flatMap strCells) ∧ Up w wr) (fun _ _ _ _ i _ => l.length - (intOf i).toNat)
    case atStart => exact ⟨0, Nat.zero_le _, rfl, hown0, hup1⟩
    case round =>
      obtain ⟨k, hk, rfl, hown, hup3⟩ := hrel
      by_cases hlt : k < l.length
      · obtain ⟨bb, off, d, rfl, hlo, hbh, hd, q0, q1, q2, q3⟩ := (hr.up hup3 hhi).dec hlt
        have HD := Lib.hid hd
        clear hd
        have hupv := hup3.allocs (.cells #[.string d.deed, .int .i64 d.kind, .int .i64 d.day, .string d.by_] 43)
        have CF : ∀ (A2 : Option Addr) (n2 c2 : Nat), n2 = l.length - (k + 1) → (A2 = some ⟨bb, off + (k + 1) * 4, none⟩ ∨ l.length ≤ k + 1) → Calls Tryd.prog 54 #[.slice A2 n2 c2, .func (.func 55) #[] #[.pointer (some ⟨wr.heap.size, 0, none⟩)]] (wr.alloc (.cells #[.string d.deed, .int .i64 d.kind, .int .i64 d.day, .string d.by_] 43)) fun e w' => e = .returned (.bool ((l.drop (k + 1)).any (sameB d.deed))) ∧ Up (wr.alloc (.cells #[.string d.deed, .int .i64 d.kind, .int .i64 d.day, .string d.by_] 43)) w' := by
          intro A2 n2 c2 hn2 hA2
          subst hn2
          have hrd : RdD (wr.alloc (.cells #[.string d.deed, .int .i64 d.kind, .int .i64 d.day, .string d.by_] 43)) lo hi A2 (l.drop (k + 1)) := by
            rcases hA2 with rfl | h
            · exact (hr.up hupv hhi).drop (k + 1)
            · rw [List.drop_eq_nil_of_le h]; exact Rd.nil_
          have h := containsFuncD_any A2 (l.drop (k + 1)) c2 lo hi 55 #[.pointer (some ⟨wr.heap.size, 0, none⟩)] (sameB d.deed) _ hrd (Nat.le_trans hhi hupv.size) (by rw [List.length_drop]; omega) (fun _ _ => by kernel_rfl)
            (fun o _ w1 hu1 => susClosure_any o d.deed wr.heap.size w1 (hu1.cell (by simp)))
          rw [List.length_drop] at h
          exact h
        have CF' := Lib.hid CF
        clear CF
        have hownv := own_up hown (Up.alloc wr (.cells #[.string d.deed, .int .i64 d.kind, .int .i64 d.day, .string d.by_] 43))
        obtain ⟨B, hB⟩ : ∃ B, B = (l.drop (k + 1)).any (sameB d.deed) := ⟨_, rfl⟩
        rw [← hB] at CF'
        have HBB := Lib.hid hB
        clear hB
        have hos := osT_len l k
        obtain ⟨A2, hA2, hsl⟩ := run_sliceFrom (P := Tryd.prog) (t := 25) (sz := 4) Tryd.underlying25 (fun _ => by kernel_rfl) bb off l.length c (k + 1) (by omega) hc
        have hsl' := fun wx => hsl .i64 ((k : Int) + 1) wx (by omega)
        have HA2 := Lib.hid hA2
        clear hA2 hsl
        go_wp2_with fail
        refine (CF'.out _ _ _ (by omega) HA2.out).mono ?_
        rintro e w3 ⟨rfl, hup4⟩
        obtain ⟨x0, x1, x2, x3⟩ := box4 hup4
        have hown4 := own_up hownv hup4
        have hup5 := hupv.trans hup4
        by_cases hk1 : d.kind = 1
        · cases B
          · have hs : susB l k d = true := by unfold susB; rw [← HBB.out, hk1]; rfl
            have HS := Lib.hid hs
            clear hs
            have hk1' : (d.kind == 1) = true := by simpa using hk1
            clear hk1
            have n1 : (osT l k).length + 1 ≤ maxLen := by unfold maxLen; omega
            have n2 : ((osT l k).length + 1) * 16 ≤ 140737488355328 := by omega
            have n3 : w.heap.size ≤ (w3.alloc (.cells #[.string d.deed] 9)).heap.size := (hup5.allocs _).size
            go_wp2_with ((at_builtin; refine wpList_append_own _ rfl _ _ 46 rfl w.heap.size 9 i0 _ 1 16 Tryd.underlying46 hi0 hz0 hz1 hz2 rfl (by decide) _ _ _ rfl (hown4.alloc _) ⟨w3.heap.size, 0, none⟩ 1 1 [.string d.deed] rfl rfl (cell_one_new _ _ _) (by simp [Value.oneCell']) n1 n2 n3 ?_))
            intro v' w4 hown' hgrow _
            have ho := os_step HD.out HS.out hown'
            have hu := (hup5.allocs (.cells #[.string d.deed] 9)).grown hgrow (fun k hk => (hown4.lt k hk).1)
            clear hown' hgrow
            go_wp2
            go_roundw
            case rel => exact ⟨k + 1, by omega, by go_num, ho, hu⟩
            case measure => simp [intOf]; omega
          · have hs : susB l k d = false := by unfold susB; rw [← HBB.out]; simp
            have HS := Lib.hid hs
            clear hs
            have hk1' : (d.kind == 1) = true := by simpa using hk1
            clear hk1
            go_wp2
            go_roundw
            case rel => exact ⟨k + 1, by omega, by go_num, by rw [osT_no HD.out HS.out]; exact hown4, hup5⟩
            case measure => simp [intOf]; omega
        · have hs : susB l k d = false := by unfold susB; rw [show (d.kind == 1) = false by simpa using hk1]; rfl
          have HS := Lib.hid hs
          clear hs
          have hk1' : (d.kind == 1) = false := by simpa using hk1
          clear hk1
          go_wp2
          go_roundw
          case rel => exact ⟨k + 1, by omega, by go_num, by rw [osT_no HD.out HS.out]; exact hown4, hup5⟩
          case measure => simp [intOf]; omega
      · have e : k = l.length := by omega
        subst e
        go_wp2
        go_ret2
        exact ⟨_, ret_v2s (st_yes HB.out ByteArray.empty).2.symm, by rw [osL_yes HB.out]; exact hown, hup3⟩
  · have hb' : logB l = false := by simpa using hb
    clear hb
    go_enter Tryd.func32, Tryd.ntmps32
    go_wp2_with (go_at_call 14; refine HI.out.mono ?_; rintro e w1 ⟨rfl, hup⟩)
    go_ret2
    exact ⟨_, ret_v2s (st_no hb' ByteArray.empty).2.symm, by rw [osL_no hb']; exact World.ownsRow_nil _ _ _ _, by assumption⟩

set_option maxRecDepth 100000 in
set_option maxHeartbeats 4000000 in
theorem specOpen_any (A : Option Addr) (l : List Dec) (c lo hi : Nat) (w : World) (hr : RdD w lo hi A l) (hhi : hi ≤ w.heap.size) (hok : ∀ d ∈ l, d.ok) (hn : l.length ≤ 2000000) (hc : l.length ≤ c) (hcm : c ≤ maxLen) :
    Calls Tryd.prog 31 #[.slice A l.length c] w fun e w' => ∃ v, e = .returned (.tuple #[v, .int .i64 (stE l)]) ∧ w'.ownsRow w.heap.size 9 1 v (osL l).length ((osL l).flatMap strCells) ∧ Up w w' := by
  have HI := Lib.hid (specIsLog_any A l c lo hi w hr hhi hok hn hc hcm)
  obtain ⟨i0, hi0, hz0, hz1, hz2⟩ := info_parts infoStr
  by_cases hb : logB l = true
  · go_enter Tryd.func31, Tryd.ntmps31
    go_wp2_with (go_at_call 12; refine HI.out.mono ?_; rintro e w1 ⟨rfl, hup⟩)
    have HB := Lib.hid hb
    have hown0 := World.ownsRow_lit (base := w.heap.size) (e := 9) (size := 1) w1 #[] 0 hup.size (by simp [maxLen]) rfl
    have hup1 := hup.allocs (.cells #[] 9)
    obtain ⟨v0, hv0⟩ : ∃ v, v = Value.slice (some ⟨w1.heap.size, 0, none⟩) 0 0 := ⟨_, rfl⟩
    rw [← hv0] at hown0 ⊢
    generalize w1.alloc (.cells #[] 9) = w2 at *
    clear hv0 hb
    go_wp2
    go_loopw [4, 5, 6, 7] (fun o i u6 u7 wr => ∃ k : Nat, k ≤ l.length ∧ i = .int .i64 k ∧ wr.ownsRow w.heap.size 9 1 o (osT l k).length ((osT l k).flatMap strCells) ∧ Up w wr) (fun _ i _ _ _ => l.length - (intOf i).toNat)
    case atStart => exact ⟨0, Nat.zero_le _, rfl, hown0, hup1⟩
    case round =>
      obtain ⟨k, hk, rfl, hown, hup3⟩ := hrel
      by_cases hlt : k < l.length
      · obtain ⟨bb, off, d, rfl, hlo, hbh, hd, q0, q1, q2, q3⟩ := (hr.up hup3 hhi).dec hlt
        have HD := Lib.hid hd
        clear hd
        have HR := Lib.hid (hr.up hup3 hhi)
        have hhr : hi ≤ wr.heap.size := Nat.le_trans hhi hup3.size
        go_wp2
        obtain ⟨wo, rfl⟩ : ∃ wo : World, wo = wr := ⟨_, rfl⟩
        go_loopw [6, 7] (fun lb m wi => ∃ j : Nat, ∃ b : Bool, k + 1 ≤ j ∧ j ≤ l.length ∧ m = .int .i64 j ∧ lb = .bool b ∧ b = lastB l d.deed k j ∧ Up wo wi) (fun _ m _ => l.length - (intOf m).toNat)
        case atStart => exact ⟨k + 1, _, Nat.le_refl _, by omega, by go_num, rfl, (lastB_zero l d.deed k).symm, Up.refl _⟩
        case round =>
          obtain ⟨j, b, hkj, hjl, rfl, rfl, hlb, hupi⟩ := hrel
          have HLB := Lib.hid hlb
          clear hlb
          by_cases hlj : j < l.length
          · obtain ⟨bb', off', d', he, -, -, hd', p0, p1, p2, p3⟩ := (HR.out.up hupi hhr).dec hlj
            cases he
            have HD' := Lib.hid hd'
            clear hd'
            have P0 := cell_regrown p0
            have Q0 := cell_regrown (hupi.cell q0)
            cases b
            all_goals
              go_wp2_with fail
              refine wp_region_quiet_below (by kernel_rfl) (by kernel_rfl) ?_
              repeat (first | go_big_quiet_step (fail) | quiet_step (fail))
              refine wpQuiet_nil ?_
              intro w5 hw5
              obtain ⟨⟨dq, osq⟩, hw5⟩ := hw5
              have hup5 : Up wr w5 := by rw [hw5]; exact below_regrown _ _ _
              clear hw5 P0 Q0
              go_wp2
              go_roundw
              case measure => simp [intOf]; omega
            case rel => exact ⟨j + 1, _, by omega, by omega, by go_num, rfl, by rw [lastB_step HD'.out hkj, ← HLB.out]; rfl, hupi.trans hup5⟩
            case rel => exact ⟨j + 1, _, by omega, by omega, by go_num, rfl, by rw [lastB_step HD'.out hkj, ← HLB.out]; rfl, hupi.trans hup5⟩
          · have hB := lastB_end (l := l) (s := d.deed) (i := k) (m := j) (by omega)
            rw [← HLB.out] at hB
            have HBB := Lib.hid hB
            clear hB
            have hown4 := own_up hown hupi
            have hup5 := hup3.trans hupi
            have hos := osT_len l k
            have x0 := hupi.cell q0
            have x1 := hupi.cell q1
            cases b
            · have hs : susB l k d = false := by unfold susB; rw [← HBB.out]; simp
              have HS := Lib.hid hs
              clear hs
              go_wp2
              go_roundw
              case rel => exact ⟨k + 1, by omega, by go_num, by rw [osT_no HD.out HS.out]; exact hown4, hup5⟩
              case measure => simp [intOf]; omega
            · by_cases hk1 : d.kind = 1
              · have hs : susB l k d = true := by unfold susB; rw [← HBB.out, hk1]; rfl
                have HS := Lib.hid hs
                clear hs
                have hk1' : (d.kind == 1) = true := by simpa using hk1
                clear hk1
                have n1 : (osT l k).length + 1 ≤ maxLen := by unfold maxLen; omega
                have n2 : ((osT l k).length + 1) * 16 ≤ 140737488355328 := by omega
                have n3 : w.heap.size ≤ (wr.alloc (.cells #[.string d.deed] 9)).heap.size := (hup5.allocs _).size
                go_wp2_with ((at_builtin; refine wpList_append_own _ rfl _ _ 46 rfl w.heap.size 9 i0 _ 1 16 Tryd.underlying46 hi0 hz0 hz1 hz2 rfl (by decide) _ _ _ rfl (hown4.alloc _) ⟨wr.heap.size, 0, none⟩ 1 1 [.string d.deed] rfl rfl (cell_one_new _ _ _) (by simp [Value.oneCell']) n1 n2 n3 ?_))
                intro v' w4 hown' hgrow _
                have ho := os_step HD.out HS.out hown'
                have hu := (hup5.allocs (.cells #[.string d.deed] 9)).grown hgrow (fun k hk => (hown4.lt k hk).1)
                clear hown' hgrow
                go_wp2
                go_roundw
                case rel => exact ⟨k + 1, by omega, by go_num, ho, hu⟩
                case measure => simp [intOf]; omega
              · have hs : susB l k d = false := by unfold susB; rw [show (d.kind == 1) = false by simpa using hk1]; rfl
                have HS := Lib.hid hs
                clear hs
                have hk1' : (d.kind == 1) = false := by simpa using hk1
                clear hk1
                go_wp2
                go_roundw
                case rel => exact ⟨k + 1, by omega, by go_num, by rw [osT_no HD.out HS.out]; exact hown4, hup5⟩
                case measure => simp [intOf]; omega
      · have e : k = l.length := by omega
        subst e
        go_wp2
        go_ret2
        exact ⟨_, ret_v2s (st_yes HB.out ByteArray.empty).2.symm, by rw [osL_yes HB.out]; exact hown, hup3⟩
  · have hb' : logB l = false := by simpa using hb
    clear hb
    go_enter Tryd.func31, Tryd.ntmps31
    go_wp2_with (go_at_call 12; refine HI.out.mono ?_; rintro e w1 ⟨rfl, hup⟩)
    go_ret2
    exact ⟨_, ret_v2s (st_no hb' ByteArray.empty).2.symm, by rw [osL_no hb']; exact World.ownsRow_nil _ _ _ _, by assumption⟩
end Go.Proofs.YtngananoidplmaaDoor
