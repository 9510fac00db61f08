/- The law package's helpers over []string, for formulas. -/
import Derived.Test.YtcmhgjldkgnblaaGreatDoorTxt
namespace Go.Proofs.YtcmhgjldkgnblaaGreatDoor
open Go.RowKit Go.Sort

/-- the sizes of the first texts, taken from left -/
def szSs : List ByteArray → Int → Int
  | [], z => z
  | x :: l, z => if z < x.size then -1 else szSs l (z - x.size)
def szSL (l : List ByteArray) (left : Int) : Int := if left < l.length then -1 else szSs l (left - l.length)
theorem szSs_yes {l : List ByteArray} {k : Nat} {x : ByteArray} {z : Int} (hx : l[k]? = some x) (h : ¬ z < x.size) : szSs (l.drop k) z = szSs (l.drop (k + 1)) (z - x.size) := by
  have hk := (List.getElem?_eq_some_iff.1 hx).1
  rw [List.drop_eq_getElem_cons hk, (List.getElem?_eq_some_iff.1 hx).2, szSs, if_neg h]
theorem szSs_no {l : List ByteArray} {k : Nat} {x : ByteArray} {z : Int} (hx : l[k]? = some x) (h : z < x.size) : szSs (l.drop k) z = -1 := by
  have hk := (List.getElem?_eq_some_iff.1 hx).1
  rw [List.drop_eq_getElem_cons hk, (List.getElem?_eq_some_iff.1 hx).2, szSs, if_pos h]
theorem szSs_end {l : List ByteArray} {k : Nat} {z : Int} (h : l.length ≤ k) : szSs (l.drop k) z = z := by rw [List.drop_eq_nil_of_le h]; rfl
theorem szSs_le : ∀ (l : List ByteArray) (z : Int), 0 ≤ z → szSs l z ≤ z ∧ (szSs l z < 0 → szSs l z = -1)
  | [], z, h => ⟨Int.le_refl _, fun h2 => by simp only [szSs] at h2; omega⟩
  | x :: l, z, h => by
    unfold szSs
    split
    · exact ⟨by omega, fun _ => rfl⟩
    · have := szSs_le l (z - x.size) (by omega)
      exact ⟨by omega, this.2⟩
theorem szSL_le (l : List ByteArray) (left : Int) (h : 0 ≤ left) : szSL l left ≤ left ∧ (szSL l left < 0 → szSL l left = -1) := by
  unfold szSL; split
  · exact ⟨by omega, fun _ => rfl⟩
  · have := szSs_le l (left - l.length) (by omega)
    exact ⟨by omega, this.2⟩
theorem szSL_len {l : List ByteArray} {left : Int} (_h : 0 ≤ left) (hz : ¬ szSL l left < 0) : (l.length : Int) ≤ left := by
  unfold szSL at hz; split at hz <;> omega
set_option maxHeartbeats 1000000 in
theorem szStringS_any (A : Option Addr) (l : List ByteArray) (c lo hi : Nat) (left : Int) (w : World) (hr : RdT w lo hi A l) (hsz : ∀ x ∈ l, x.size ≤ maxLen) (hn : l.length ≤ maxLen) (h0 : 0 ≤ left) (hl : left ≤ 2000000) :
    Calls Tryz.prog 5 #[.slice A l.length c, .int .i64 left] w fun e w' => e = .returned (.int .i64 (szSL l left)) ∧ w = w' := by
  have hn' := hn
  unfold maxLen at hn'
  by_cases h1 : left < l.length
  · have HE := Lib.hid (show szSL l left = -1 by unfold szSL; rw [if_pos h1])
    have h1' : left - (l.length : Int) < 0 := by omega
    go_enter Tryz.func5, Tryz.ntmps5
    go_wp2
    go_ret
    exact ⟨ret_int HE.out.symm, rfl⟩
  · have HE := Lib.hid (show szSL l left = szSs (l.drop 0) (left - l.length) by unfold szSL; rw [if_neg h1]; rfl)
    have h1' : ¬ left - (l.length : Int) < 0 := by omega
    have HSZ := Lib.hid hsz
    clear hsz
    go_enter Tryz.func5, Tryz.ntmps5
    go_wp2
    go_loop [1, 5] (fun z i => ∃ (k : Nat) (y : Int), k ≤ l.length ∧ i = .int .i64 k ∧ z = .int .i64 y ∧ 0 ≤ y ∧ y ≤ 2000000 ∧ szSs (l.drop 0) (left - l.length) = szSs (l.drop k) y) (fun _ i => l.length - (intOf i).toNat)
    case atStart => exact ⟨0, _, Nat.zero_le _, rfl, rfl, by omega, by omega, rfl⟩
    case round =>
      obtain ⟨k, y, hk, rfl, rfl, hy0, hy1, hs⟩ := hrel
      have HS := Lib.hid hs
      clear hs
      by_cases hlt : k < l.length
      · obtain ⟨b, off, x, rfl, -, -, hx, c0⟩ := hr.txt hlt
        have hxs := HSZ.out x (List.mem_of_getElem? hx)
        unfold maxLen at hxs
        have HX := Lib.hid hx
        clear hx
        by_cases h2 : y < x.size
        · have h2' : y - (x.size : Int) < 0 := by omega
          go_wp2
          go_ret
          exact ⟨ret_int (by rw [HE.out, HS.out, szSs_no HX.out h2]), rfl⟩
        · have h2' : ¬ y - (x.size : Int) < 0 := by omega
          go_wp2
          go_round
          case rel => exact ⟨k + 1, y - x.size, by omega, by go_num, rfl, by omega, by omega, by rw [HS.out, szSs_yes HX.out h2]⟩
          case measure => simp [intOf]; omega
      · go_wp2
        go_ret
        exact ⟨ret_int (by rw [HE.out, HS.out, szSs_end (by omega)]), rfl⟩
set_option maxHeartbeats 1000000 in
theorem toStringS_any (A : Option Addr) (l : List ByteArray) (c lo hi : Nat) (w : World) (hr : RdT w lo hi A l) (hhi : hi ≤ w.heap.size) (hn : l.length ≤ 2000000) :
    Calls Tryz.prog 7 #[.slice A l.length c] w fun e w' => ∃ v, e = .returned v ∧ w'.ownsRow w.heap.size 9 1 v l.length (l.flatMap strC) ∧ Up w w' := by
  obtain ⟨i0, hi0, hz0, hz1, hz2⟩ := info_parts infoString
  go_enter Tryz.func7, Tryz.ntmps7
  go_wp2_with ((refine wpList_make_full _ rfl _ _ 22 rfl w.heap.size 9 i0 _ 1 Tryz.underlying22 hi0 hz0 hz1 _ _ _ _ l.length rfl rfl rfl rfl ?b2 ?b3 ?b4 ?_))
  case b2 => rw [hz2]; omega
  case b3 => unfold maxLen; omega
  case b4 => exact Nat.le_refl _
  intro w1 hown hg
  have hup1 : Up w w1 := (Up.refl w).grown hg (fun k h => by cases h)
  generalize (madeCells _ _).toList = xs0 at hown
  clear hg
  go_wp2
  go_loopw [4] (fun i wr => ∃ k : Nat, ∃ xs, k ≤ l.length ∧ i = .int .i64 k ∧ wr.ownsRow w.heap.size 9 1 (.slice (some ⟨w.heap.size, 0, none⟩) l.length l.length) l.length xs ∧ xs.take k = (l.take k).flatMap strC ∧ Up w wr) (fun i _ => l.length - (intOf i).toNat)
  case atStart => exact ⟨0, _, Nat.zero_le _, rfl, hown, by simp, hup1⟩
  case round =>
    obtain ⟨k, xs, hk, rfl, hown, hxs, hup⟩ := hrel
    have HX := Lib.hid hxs
    clear hxs
    by_cases hlt : k < l.length
    · obtain ⟨b, off, d, rfl, hlo, hb, hd, q0⟩ := (hr.up hup hhi).txt hlt
      have HD := Lib.hid hd
      clear hd
      obtain ⟨u0, r0⟩ := own_cell hown (p := k) (by omega)
      have z0 := hown.frozenAt k
      go_wp2
      go_roundw
      case rel => exact ⟨k + 1, _, by omega, by go_num, (hown.stored _ _).1, by rw [take_set_succ (by rw [hown.1]; omega), HX.out, take_flat_succ _ HD.out], hup.setCell (by simp) _⟩
      case measure => simp [intOf]; omega
    · go_wp2
      go_ret
      have hk2 : k = l.length := by omega
      subst hk2
      have hx := HX.out
      rw [List.take_of_length_le (by rw [hown.1]; omega), List.take_of_length_le (Nat.le_refl _)] at hx
      subst hx
      exact ⟨_, rfl, hown, hup⟩

def eqSs (l m : List ByteArray) : Bool := decide (l = m)
theorem eqSs_self (l : List ByteArray) : eqSs l l = true := by simp [eqSs]
theorem eqSs_len {l m : List ByteArray} (h : l.length ≠ m.length) : eqSs l m = false := by unfold eqSs; rw [decide_eq_false_iff_not]; rintro rfl; exact h rfl
theorem eqSs_ne {l m : List ByteArray} {k : Nat} {a b : ByteArray} (ha : l[k]? = some a) (hb : m[k]? = some b) (h : (!a.toList == b.toList) = true) : eqSs l m = false := by
  unfold eqSs; rw [decide_eq_false_iff_not]; rintro rfl
  rw [ha] at hb; cases hb
  simp at h
theorem eqSs_eq {l m : List ByteArray} (h : l.take l.length = m.take l.length) (hl : l.length = m.length) : eqSs l m = true := by
  unfold eqSs; rw [decide_eq_true_iff]
  rwa [List.take_of_length_le (Nat.le_refl _), hl, List.take_of_length_le (Nat.le_refl _)] at h
set_option maxHeartbeats 1000000 in
theorem eqStringS_any (A B : Option Addr) (l m : List ByteArray) (c c' lo hi lo' hi' : Nat) (w : World) (hr : RdT w lo hi A l) (hhi : hi ≤ w.heap.size) (hr' : RdT w lo' hi' B m) (hhi' : hi' ≤ w.heap.size) (hn : l.length ≤ 2000000) :
    Calls Tryz.prog 9 #[.slice A l.length c, .slice B m.length c'] w fun e w' => e = .returned (.bool (eqSs l m)) ∧ Up w w' := by
  by_cases hne : l.length = m.length
  · have HL := Lib.hid hne
    have hb0 : ((l.length : Int) != (m.length : Int)) = false := by simp [hne]
    have hlm : l.length ≤ m.length := by omega
    clear hne
    go_enter Tryz.func9, Tryz.ntmps9
    go_wp2
    go_loopw [5] (fun i wr => ∃ k : Nat, k ≤ l.length ∧ i = .int .i64 k ∧ l.take k = m.take k ∧ Up w wr) (fun i _ => l.length - (intOf i).toNat)
    case atStart => exact ⟨0, Nat.zero_le _, rfl, by simp, Up.refl _⟩
    case round =>
      obtain ⟨k, hk, rfl, ht, hup⟩ := hrel
      have HT := Lib.hid ht
      clear ht
      by_cases hlt : k < l.length
      · have hlt' : k < m.length := by omega
        obtain ⟨b1, o1, d1, rfl, -, -, hd1, p0⟩ := (hr.up hup hhi).txt hlt
        obtain ⟨b2, o2, d2, rfl, -, -, hd2, q0⟩ := (hr'.up hup hhi').txt hlt'
        have HD1 := Lib.hid hd1
        have HD2 := Lib.hid hd2
        clear hd1 hd2
        have P0 := cell_regrown p0
        have Q0 := cell_regrown q0
        go_wp2_with fail
        refine wp_region_quiet_below (by kernel_rfl) (by kernel_rfl) ?_
        repeat (quiet_step (fail))
        refine wpQuiet_nil ?_
        intro w2 hw2
        obtain ⟨⟨dq, osq⟩, hw2⟩ := hw2
        have hup2 : Up wr w2 := by rw [hw2]; exact below_regrown _ _ _
        clear hw2 P0 Q0
        go_wp2
        · have hq : (!d1.toList == d2.toList) = true := by assumption
          go_ret
          exact ⟨ret_bool (eqSs_ne HD1.out HD2.out hq).symm, hup.trans hup2⟩
        · have hq : (!d1.toList == d2.toList) = false := by assumption
          have hq' : d1 = d2 := bytes_inj.1 (by simpa using hq)
          have HQ := Lib.hid hq'
          clear hq'
          go_roundw
          case rel => exact ⟨k + 1, by omega, by go_num, take_succ_eq HT.out HD1.out (by rw [HQ.out]; exact HD2.out), hup.trans hup2⟩
          case measure => simp [intOf]; omega
      · go_wp2
        go_ret
        exact ⟨ret_bool (eqSs_eq (by rw [show k = l.length by omega] at HT; exact HT.out) HL.out).symm, hup⟩
  · have hb0 : ((l.length : Int) != (m.length : Int)) = true := by rw [bne_iff_ne]; omega
    have H := Lib.hid hne
    clear hne
    go_enter Tryz.func9, Tryz.ntmps9
    go_wp2
    go_ret
    exact ⟨ret_bool (eqSs_len H.out).symm, Up.refl _⟩

end Go.Proofs.YtcmhgjldkgnblaaGreatDoor
