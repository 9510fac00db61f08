/- CountBy: the program's and the reference's walks. -/
import Derived.Test.YtngananoidplmaaDoorState
import Derived.Test.YtngananoidplmaaDoorMark
import Derived.StillTailTactics
namespace Go.Proofs.YtngananoidplmaaDoor
open Go.RowKit Go.Sort

theorem infoInt : (Tryd.prog.info? 2).map (fun i => (i.zero, i.size, i.bytes)) = some (some (.int .i64 0), 1, 8) := by kernel_rfl

def cnt (l : List Dec) (s : ByteArray) (j : Int) : Int := ((l.filter fun d => d.by_.toList == s.toList && d.kind == j).length : Nat)
def cb3 (l : List Dec) (s : ByteArray) : List Int := [cnt l s 0, cnt l s 1, cnt l s 2]
def cbL (l : List Dec) (s : ByteArray) : List Int := if logB l = true then cb3 l s else []
theorem cbL_yes {l : List Dec} (h : logB l = true) (s : ByteArray) : cbL l s = cb3 l s := by simp [cbL, h]
theorem cbL_no {l : List Dec} (h : logB l = false) (s : ByteArray) : cbL l s = [] := by simp [cbL, h]
theorem cnt_step {l : List Dec} {s : ByteArray} {k : Nat} {d : Dec} (hd : l[k]? = some d) (j : Int) : cnt (l.take (k + 1)) s j = cnt (l.take k) s j + if d.by_.toList == s.toList && d.kind == j then 1 else 0 := by
  have hk := (List.getElem?_eq_some_iff.1 hd).1
  unfold cnt
  rw [List.take_succ_eq_append_getElem hk, (List.getElem?_eq_some_iff.1 hd).2, List.filter_append, List.length_append]
  by_cases h : (d.by_.toList == s.toList && d.kind == j) = true
  · rw [if_pos h]; simp [h]
  · rw [if_neg h]; simp [h]
theorem cnt_bd (l : List Dec) (s : ByteArray) (j : Int) (k : Nat) : 0 ≤ cnt (l.take k) s j ∧ cnt (l.take k) s j ≤ k := by
  unfold cnt
  have h1 := List.length_filter_le (fun d : Dec => d.by_.toList == s.toList && d.kind == j) (l.take k)
  have h2 : (l.take k).length ≤ k := List.length_take_le ..
  omega
theorem logB_kind {l : List Dec} (h : logB l = true) {k : Nat} {d : Dec} (hd : l[k]? = some d) : d.kind = 0 ∨ d.kind = 1 ∨ d.kind = 2 := by
  have hok : okAt l k d = true := by
    rcases hh : okAt l k d with _ | _
    · rw [logB_no hd hh] at h; cases h
    · rfl
  simp only [okAt, decB, inB, Bool.and_eq_true, decide_eq_true_eq] at hok
  omega

theorem cb3_no {l : List Dec} {s : ByteArray} {k : Nat} {d : Dec} (hd : l[k]? = some d) (h : (d.by_.toList == s.toList) = false) : cb3 (l.take (k + 1)) s = cb3 (l.take k) s := by
  simp [cb3, cnt_step hd, h]
theorem cb3_0 {l : List Dec} {s : ByteArray} {k : Nat} {d : Dec} (hd : l[k]? = some d) (h : (d.by_.toList == s.toList) = true) (h1 : d.kind = 0) : ((cb3 (l.take k) s).flatMap intCells).set 0 (.int .i64 (cnt (l.take k) s 0 + 1)) = (cb3 (l.take (k + 1)) s).flatMap intCells := by
  simp [cb3, cnt_step hd, h, h1]
theorem cb3_1 {l : List Dec} {s : ByteArray} {k : Nat} {d : Dec} (hd : l[k]? = some d) (h : (d.by_.toList == s.toList) = true) (h1 : d.kind = 1) : ((cb3 (l.take k) s).flatMap intCells).set 1 (.int .i64 (cnt (l.take k) s 1 + 1)) = (cb3 (l.take (k + 1)) s).flatMap intCells := by
  simp [cb3, cnt_step hd, h, h1]
theorem cb3_2 {l : List Dec} {s : ByteArray} {k : Nat} {d : Dec} (hd : l[k]? = some d) (h : (d.by_.toList == s.toList) = true) (h1 : d.kind = 2) : ((cb3 (l.take k) s).flatMap intCells).set 2 (.int .i64 (cnt (l.take k) s 2 + 1)) = (cb3 (l.take (k + 1)) s).flatMap intCells := by
  simp [cb3, cnt_step hd, h, h1]
theorem fd_end' {l : List Dec} {k : Nat} (h : l.length ≤ k) : l.take k = l := List.take_of_length_le h
theorem ret_v2 {v : Value} {k : IntKind} {a b : Int} (h : a = b) : Ending.returned (.tuple #[v, .int k a]) = .returned (.tuple #[v, .int k b]) := by rw [h]
theorem own_drew {w : World} {base : Nat} {e : TypeId} {size n : Nat} {v : Value} {xs : List Value} (h : w.ownsRow base e size v n xs) : w.drew.ownsRow base e size v n xs := h

set_option maxRecDepth 100000 in
set_option maxHeartbeats 2000000 in
theorem specCountBy_any (A : Option Addr) (l : List Dec) (c lo hi : Nat) (s : ByteArray) (w : World) (hr : RdD w lo hi A l) (hhi : hi ≤ w.heap.size) (hok : ∀ d ∈ l, d.ok) (hn : l.length ≤ 2000000) (hc : l.length ≤ c) (hcm : c ≤ maxLen) :
    Calls Tryd.prog 20 #[.slice A l.length c, .string s] w fun e w' => ∃ v, e = .returned (.tuple #[v, .int .i64 (stE l)]) ∧ w'.ownsRow w.heap.size 2 1 v (cbL l s).length ((cbL l s).flatMap intCells) ∧ Up w w' := by
  have HI := Lib.hid (specIsLog_any A l c lo hi w hr hhi hok hn hc hcm)
  obtain ⟨i0, hi0, hz0, hz1, hz2⟩ := info_parts infoInt
  by_cases hb : logB l = true
  · go_enter Tryd.func20, Tryd.ntmps20
    go_wp2_with (first | (go_at_call 12; refine HI.out.mono ?_; rintro e w1 ⟨rfl, hup⟩) | (refine wpList_make_full _ rfl _ _ 32 rfl w.heap.size 2 i0 _ 1 Tryd.underlying32 hi0 hz0 hz1 _ _ _ _ 3 rfl rfl rfl rfl ?b2 ?b3 ?b4 ?_))
    case b2 => rw [hz2]; omega
    case b3 => unfold maxLen; omega
    case b4 => exact hup.size
    intro w2 hown hg
    have hup2 : Up w w2 := hup.grown hg (fun k h => by cases h)
    obtain ⟨g, hgg⟩ : ∃ g, g = w1.heap.size := ⟨_, rfl⟩
    have hwg : w.heap.size ≤ g := by rw [hgg]; exact hup.size
    rw [← hgg] at hown ⊢
    clear hg hgg
    have HB := Lib.hid hb
    go_wp2
    go_loopw [7] (fun i wr => ∃ k : Nat, k ≤ l.length ∧ i = .int .i64 k ∧ wr.ownsRow w.heap.size 2 1 (.slice (some ⟨g, 0, none⟩) 3 3) 3 ((cb3 (l.take k) s).flatMap intCells) ∧ Up w wr) (fun i _ => l.length - (intOf i).toNat)
    case atStart => exact ⟨0, Nat.zero_le _, rfl, by
      have e : (madeCells #[Value.int IntKind.i64 0] 3).toList = (cb3 (l.take 0) s).flatMap intCells := by rw [toList_madeCells_one]; simp [cb3, cnt, List.replicate]
      rw [← e]; exact hown, hup2⟩
    case round =>
      obtain ⟨k, hk, rfl, hown, hup3⟩ := hrel
      by_cases hlt : k < l.length
      · obtain ⟨bb, off, d, rfl, hlo, hbh, hd, q0, q1, q2, q3⟩ := (hr.up hup3 hhi).dec hlt
        have HK := Lib.hid (logB_kind HB.out hd)
        have b0 := cnt_bd l s 0 k
        have b1 := cnt_bd l s 1 k
        have b2 := cnt_bd l s 2 k
        have e0 := hown.cellAt 0 (by omega)
        have e1 := hown.cellAt 1 (by omega)
        have e2 := hown.cellAt 2 (by omega)
        have z0 := hown.frozenAt 0
        have z1 := hown.frozenAt 1
        have z2 := hown.frozenAt 2
        simp only [cb3, List.flatMap_cons, List.flatMap_nil, List.singleton_append, List.getElem?_cons_zero, List.getElem?_cons_succ] at e0 e1 e2
        have HD := Lib.hid hd
        clear hd
        by_cases hby : (d.by_.toList == s.toList) = true
        · rcases HK.out with hk0 | hk0 | hk0
          · rw [hk0] at q1
            have HK0 := Lib.hid hk0
            have HBY := Lib.hid hby
            clear hk0
            have hwr : IntKind.i64.wrap (cnt (l.take k) s 0 + 1) = cnt (l.take k) s 0 + 1 := IntWalk.i64_in _ (by omega)
            go_wp2
            go_still_tail 16, (by kernel_rfl)
            change wpList _ _ _ _ _ wr.drew
            clear hwr
            go_wp2
            go_roundw
            case rel => exact ⟨k + 1, by omega, by go_num, by rw [← cb3_0 HD.out HBY.out HK0.out]; exact ((own_drew hown).stored 0 _).1, (hup3.drew).setCell hwg _⟩
            case measure => simp [intOf]; omega
          · rw [hk0] at q1
            have HK0 := Lib.hid hk0
            have HBY := Lib.hid hby
            clear hk0
            have hwr : IntKind.i64.wrap (cnt (l.take k) s 1 + 1) = cnt (l.take k) s 1 + 1 := IntWalk.i64_in _ (by omega)
            go_wp2
            go_still_tail 16, (by kernel_rfl)
            change wpList _ _ _ _ _ wr.drew
            clear hwr
            go_wp2
            go_roundw
            case rel => exact ⟨k + 1, by omega, by go_num, by rw [← cb3_1 HD.out HBY.out HK0.out]; exact ((own_drew hown).stored 1 _).1, (hup3.drew).setCell hwg _⟩
            case measure => simp [intOf]; omega
          · rw [hk0] at q1
            have HK0 := Lib.hid hk0
            have HBY := Lib.hid hby
            clear hk0
            have hwr : IntKind.i64.wrap (cnt (l.take k) s 2 + 1) = cnt (l.take k) s 2 + 1 := IntWalk.i64_in _ (by omega)
            go_wp2
            go_still_tail 16, (by kernel_rfl)
            change wpList _ _ _ _ _ wr.drew
            clear hwr
            go_wp2
            go_roundw
            case rel => exact ⟨k + 1, by omega, by go_num, by rw [← cb3_2 HD.out HBY.out HK0.out]; exact ((own_drew hown).stored 2 _).1, (hup3.drew).setCell hwg _⟩
            case measure => simp [intOf]; omega
        · have hby' : (d.by_.toList == s.toList) = false := by simpa using hby
          have HBY := Lib.hid hby'
          go_wp2
          go_roundw
          case rel => exact ⟨k + 1, by omega, by go_num, by rw [cb3_no HD.out HBY.out]; exact hown, hup3⟩
          case measure => simp [intOf]; omega
      · have e : l.take k = l := fd_end' (by omega)
        rw [e] at hown
        clear e
        go_wp2
        go_ret2
        exact ⟨_, ret_v2 (st_yes HB.out s).2.symm, by rw [cbL_yes HB.out]; exact hown, hup3⟩
  · have hb' : logB l = false := by simpa using hb
    clear hb
    go_enter Tryd.func20, Tryd.ntmps20
    go_wp2_with (go_at_call 12; refine HI.out.mono ?_; rintro e w1 ⟨rfl, hup⟩)
    go_ret2
    exact ⟨_, ret_v2 (st_no hb' s).2.symm, by rw [cbL_no hb']; exact World.ownsRow_nil _ _ _ _, by assumption⟩

set_option maxRecDepth 100000 in
set_option maxHeartbeats 2000000 in
theorem implCountBy_any (A : Option Addr) (l : List Dec) (c lo hi : Nat) (s : ByteArray) (w : World) (hr : RdD w lo hi A l) (hhi : hi ≤ w.heap.size) (hok : ∀ d ∈ l, d.ok) (hn : l.length ≤ 2000000) (hc : l.length ≤ c) (hcm : c ≤ maxLen) :
    Calls Tryd.prog 21 #[.slice A l.length c, .string s] w fun e w' => ∃ v, e = .returned (.tuple #[v, .int .i64 (stE l)]) ∧ w'.ownsRow w.heap.size 2 1 v (cbL l s).length ((cbL l s).flatMap intCells) ∧ Up w w' := by
  have HI := Lib.hid (implIsLog_any A l c lo hi w hr hhi hok hn hc hcm)
  obtain ⟨i0, hi0, hz0, hz1, hz2⟩ := info_parts infoInt
  by_cases hb : logB l = true
  · go_enter Tryd.func21, Tryd.ntmps21
    go_wp2_with (first | (go_at_call 14; refine HI.out.mono ?_; rintro e w1 ⟨rfl, hup⟩) | (refine wpList_make_full _ rfl _ _ 32 rfl w.heap.size 2 i0 _ 1 Tryd.underlying32 hi0 hz0 hz1 _ _ _ _ 3 rfl rfl rfl rfl ?b2 ?b3 ?b4 ?_))
    case b2 => rw [hz2]; omega
    case b3 => unfold maxLen; omega
    case b4 => exact hup.size
    intro w2 hown hg
    have hup2 : Up w w2 := hup.grown hg (fun k h => by cases h)
    obtain ⟨g, hgg⟩ : ∃ g, g = w1.heap.size := ⟨_, rfl⟩
    have hwg : w.heap.size ≤ g := by rw [hgg]; exact hup.size
    rw [← hgg] at hown ⊢
    clear hg hgg
    have HB := Lib.hid hb
    go_wp2
    go_loopw [8, 15] (fun u8 i wr => ∃ k : Nat, k ≤ l.length ∧ i = .int .i64 k ∧ wr.ownsRow w.heap.size 2 1 (.slice (some ⟨g, 0, none⟩) 3 3) 3 ((cb3 (l.take k) s).flatMap intCells) ∧ Up w wr) (fun _ i _ => l.length - (intOf i).toNat)
    case atStart => exact ⟨0, Nat.zero_le _, rfl, by
      have e : (madeCells #[Value.int IntKind.i64 0] 3).toList = (cb3 (l.take 0) s).flatMap intCells := by rw [toList_madeCells_one]; simp [cb3, cnt, List.replicate]
      rw [← e]; exact hown, hup2⟩
    case round =>
      obtain ⟨k, hk, rfl, hown, hup3⟩ := hrel
      by_cases hlt : k < l.length
      · obtain ⟨bb, off, d, rfl, hlo, hbh, hd, q0, q1, q2, q3⟩ := (hr.up hup3 hhi).dec hlt
        have HK := Lib.hid (logB_kind HB.out hd)
        have b0 := cnt_bd l s 0 k
        have b1 := cnt_bd l s 1 k
        have b2 := cnt_bd l s 2 k
        have hgr : g < wr.heap.size := by
          obtain ⟨A', c', hv, -, -, hA, -⟩ := own_form hown
          simp only [Value.slice.injEq] at hv
          obtain ⟨rfl, -, -⟩ := hv
          obtain ⟨g', e, -, h⟩ := hA (by omega)
          cases e; exact h
        obtain ⟨dde, dki, dda, dby⟩ := d
        have HD := Lib.hid hd
        clear hd
        simp only at q0 q1 q2 q3 HK
        by_cases hby : (dby.toList == s.toList) = true
        · rcases HK.out with rfl | rfl | rfl
          · have HBY := Lib.hid hby
            have hown' := own_up hown (Up.alloc wr (.cells #[.string dde, .int .i64 0, .int .i64 dda, .string dby] 43))
            have e0 := hown'.cellAt 0 (by omega)
            have e1 := hown'.cellAt 1 (by omega)
            have e2 := hown'.cellAt 2 (by omega)
            have z0 := hown'.frozenAt 0
            have z1 := hown'.frozenAt 1
            have z2 := hown'.frozenAt 2
            simp only [cb3, List.flatMap_cons, List.flatMap_nil, List.singleton_append, List.getElem?_cons_zero, List.getElem?_cons_succ] at e0 e1 e2
            go_wp2
            go_roundw
            case rel => exact ⟨k + 1, by omega, by go_num, by rw [← cb3_0 HD.out HBY.out rfl]; exact own_up (hown.stored 0 _).1 (Up.alloc _ _), (hup3.setCell hwg _).allocs _⟩
            case measure => simp [intOf]; omega
          · have HBY := Lib.hid hby
            have hown' := own_up hown (Up.alloc wr (.cells #[.string dde, .int .i64 1, .int .i64 dda, .string dby] 43))
            have e0 := hown'.cellAt 0 (by omega)
            have e1 := hown'.cellAt 1 (by omega)
            have e2 := hown'.cellAt 2 (by omega)
            have z0 := hown'.frozenAt 0
            have z1 := hown'.frozenAt 1
            have z2 := hown'.frozenAt 2
            simp only [cb3, List.flatMap_cons, List.flatMap_nil, List.singleton_append, List.getElem?_cons_zero, List.getElem?_cons_succ] at e0 e1 e2
            go_wp2
            go_roundw
            case rel => exact ⟨k + 1, by omega, by go_num, by rw [← cb3_1 HD.out HBY.out rfl]; exact own_up (hown.stored 1 _).1 (Up.alloc _ _), (hup3.setCell hwg _).allocs _⟩
            case measure => simp [intOf]; omega
          · have HBY := Lib.hid hby
            have hown' := own_up hown (Up.alloc wr (.cells #[.string dde, .int .i64 2, .int .i64 dda, .string dby] 43))
            have e0 := hown'.cellAt 0 (by omega)
            have e1 := hown'.cellAt 1 (by omega)
            have e2 := hown'.cellAt 2 (by omega)
            have z0 := hown'.frozenAt 0
            have z1 := hown'.frozenAt 1
            have z2 := hown'.frozenAt 2
            simp only [cb3, List.flatMap_cons, List.flatMap_nil, List.singleton_append, List.getElem?_cons_zero, List.getElem?_cons_succ] at e0 e1 e2
            go_wp2
            go_roundw
            case rel => exact ⟨k + 1, by omega, by go_num, by rw [← cb3_2 HD.out HBY.out rfl]; exact own_up (hown.stored 2 _).1 (Up.alloc _ _), (hup3.setCell hwg _).allocs _⟩
            case measure => simp [intOf]; omega
        · have hby' : (dby.toList == s.toList) = false := by simpa using hby
          have HBY := Lib.hid hby'
          go_wp2
          go_roundw
          case rel => exact ⟨k + 1, by omega, by go_num, by rw [cb3_no HD.out HBY.out]; exact own_up hown (Up.alloc _ _), hup3.allocs _⟩
          case measure => simp [intOf]; omega
      · have e : l.take k = l := fd_end' (by omega)
        rw [e] at hown
        clear e
        go_wp2
        go_ret2
        exact ⟨_, ret_v2 (st_yes HB.out s).2.symm, by rw [cbL_yes HB.out]; exact hown, hup3⟩
  · have hb' : logB l = false := by simpa using hb
    clear hb
    go_enter Tryd.func21, Tryd.ntmps21
    go_wp2_with (go_at_call 14; refine HI.out.mono ?_; rintro e w1 ⟨rfl, hup⟩)
    go_ret2
    exact ⟨_, ret_v2 (st_no hb' s).2.symm, by rw [cbL_no hb']; exact World.ownsRow_nil _ _ _ _, by assumption⟩
end Go.Proofs.YtngananoidplmaaDoor
