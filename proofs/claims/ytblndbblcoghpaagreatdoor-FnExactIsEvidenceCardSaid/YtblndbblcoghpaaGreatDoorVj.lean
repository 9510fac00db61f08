/- A decision as Lean data, and the walks of the law package's helpers over decisions. The walks of the program's and the reference's tests on decisions and logs: both compute the same plain functions. The walk of the law FnExactIsLog: whatever the list, it returns true and changes nothing that was there. -/
import Derived.Test.YtblndbblcoghpaaGreatDoorProg
import Derived.Test.YtblndbblcoghpaaGreatDoorLib
import Derived.Test.YtblndbblcoghpaaGreatDoorBase
namespace Go.Proofs.YtblndbblcoghpaaGreatDoor
open Go.RowKit

structure Dec where
  deed : ByteArray
  kind : Int
  day : Int
  by_ : ByteArray
  deriving DecidableEq
abbrev Dec.cells (d : Dec) : List Value := [.string d.deed, .int .i64 d.kind, .int .i64 d.day, .string d.by_]
abbrev Dec.val (d : Dec) : Value := .agg #[.string d.deed, .int .i64 d.kind, .int .i64 d.day, .string d.by_]
/-- its strings are no longer than any string -/
def Dec.ok (d : Dec) : Prop := d.deed.size ≤ maxLen ∧ d.by_.size ≤ maxLen

abbrev RdD (w : World) (lo hi : Nat) (A : Option Addr) (l : List Dec) : Prop := Rd w lo hi 4 Dec.cells A l

/-- element k of a slice of decisions: its four cells -/
theorem Rd.dec {w : World} {lo hi : Nat} {A : Option Addr} {l : List Dec} (h : RdD w lo hi A l) {k : Nat} (hk : k < l.length) :
    ∃ b off d, A = some ⟨b, off, none⟩ ∧ lo ≤ b ∧ b < hi ∧ l[k]? = some d ∧ w.cell? ⟨b, off + k * 4, none⟩ = some (.string d.deed) ∧ w.cell? ⟨b, off + k * 4 + 1, none⟩ = some (.int .i64 d.kind) ∧
      w.cell? ⟨b, off + k * 4 + 2, none⟩ = some (.int .i64 d.day) ∧ w.cell? ⟨b, off + k * 4 + 3, none⟩ = some (.string d.by_) := by
  obtain ⟨b, off, d, e, h1, h2, h3, h4⟩ := Rd.at_ h hk
  exact ⟨b, off, d, e, h1, h2, h3, h4 0 _ rfl, h4 1 _ rfl, h4 2 _ rfl, h4 3 _ rfl⟩

def szD (d : Dec) (left : Int) : Int := if left < d.deed.size then -1 else if left < d.deed.size + d.by_.size then -1 else left - d.deed.size - d.by_.size

theorem szD_a {d : Dec} {left : Int} (h : left < d.deed.size) : szD d left = -1 := by unfold szD; rw [if_pos h]
theorem szD_b {d : Dec} {left : Int} (h : left < d.deed.size + d.by_.size) : szD d left = -1 := by unfold szD; split <;> simp_all
theorem szD_c {d : Dec} {left : Int} (h : ¬ left < d.deed.size + d.by_.size) : szD d left = left - d.deed.size - d.by_.size := by
  unfold szD; rw [if_neg (by omega), if_neg h]

set_option maxHeartbeats 400000 in
theorem szDecision_any (d : Dec) (hd : d.ok) (left : Int) (w : World) (h0 : 0 ≤ left) (hl : left ≤ 2000000) :
    Calls Tryz.prog 46 #[d.val, .int .i64 left] w fun e w' => e = .returned (.int .i64 (szD d left)) ∧ Up w w' := by
  obtain ⟨h1, h2⟩ := hd
  unfold maxLen at h1 h2
  by_cases c1 : left < d.deed.size
  · go_enter Tryz.func46, Tryz.ntmps46
    go_wp2
    go_ret
    exact ⟨ret_int (szD_a (by omega)).symm, Up.alloc _ _⟩
  · by_cases c2 : left < d.deed.size + d.by_.size
    · go_enter Tryz.func46, Tryz.ntmps46
      go_wp2
      go_ret
      exact ⟨ret_int (szD_b (by omega)).symm, Up.alloc _ _⟩
    · go_enter Tryz.func46, Tryz.ntmps46
      go_wp2
      go_ret
      exact ⟨ret_int (szD_c (by omega)).symm, Up.alloc _ _⟩

def szDs : List Dec → Int → Int
  | [], left => left
  | d :: l, left => if szD d left < 0 then -1 else szDs l (szD d left)

def szDL (l : List Dec) (left : Int) : Int := if left < l.length then -1 else szDs l (left - l.length)
theorem szDL_a {l : List Dec} {left : Int} (h : left < l.length) : szDL l left = -1 := by unfold szDL; rw [if_pos h]
theorem szDL_b {l : List Dec} {left : Int} (h : ¬ left < l.length) : szDL l left = szDs l (left - l.length) := by unfold szDL; rw [if_neg h]
theorem szDs_yes {l : List Dec} {k : Nat} {d : Dec} {z : Int} (hd : l[k]? = some d) (h : ¬ szD d z < 0) : szDs (l.drop k) z = szDs (l.drop (k + 1)) (szD d z) := by
  have hk : k < l.length := (List.getElem?_eq_some_iff.1 hd).1
  rw [List.drop_eq_getElem_cons hk]
  have e : l[k] = d := (List.getElem?_eq_some_iff.1 hd).2
  simp [szDs, e, h]
theorem szDs_no {l : List Dec} {k : Nat} {d : Dec} {z : Int} (hd : l[k]? = some d) (h : szD d z < 0) : szDs (l.drop k) z = -1 := by
  have hk : k < l.length := (List.getElem?_eq_some_iff.1 hd).1
  rw [List.drop_eq_getElem_cons hk]
  have e : l[k] = d := (List.getElem?_eq_some_iff.1 hd).2
  simp [szDs, e, h]
theorem szDs_end {l : List Dec} {k : Nat} {z : Int} (h : l.length ≤ k) : szDs (l.drop k) z = z := by
  rw [List.drop_eq_nil_of_le h]; rfl
theorem szD_le (d : Dec) (left : Int) (h0 : 0 ≤ left) : szD d left ≤ left := by
  unfold szD; split <;> (try split) <;> omega

set_option maxHeartbeats 1000000 in
theorem szDecisionS_any (A : Option Addr) (l : List Dec) (c lo hi : Nat) (left : Int) (w : World) (hr : RdD w lo hi A l) (hhi : hi ≤ w.heap.size) (hok : ∀ d ∈ l, d.ok) (h0 : 0 ≤ left) (hl : left ≤ 2000000) (hn : l.length ≤ maxLen) :
    Calls Tryz.prog 17 #[.slice A l.length c, .int .i64 left] w fun e w' => e = .returned (.int .i64 (szDL l left)) ∧ Up w w' := by
  unfold maxLen at hn
  by_cases c1 : left < l.length
  · go_enter Tryz.func17, Tryz.ntmps17
    go_wp2
    go_ret
    exact ⟨ret_int (szDL_a (by omega)).symm, Up.refl _⟩
  · go_enter Tryz.func17, Tryz.ntmps17
    have hb0 : decide (left - (l.length : Int) < 0) = false := by simp; omega
    go_wp2
    go_loopw [4, 1, 5] (fun r lf i wr => ∃ k : Nat, ∃ z : Int, k ≤ l.length ∧ i = .int .i64 k ∧ lf = .int .i64 z ∧ 0 ≤ z ∧ z ≤ left ∧ szDs l (left - l.length) = szDs (l.drop k) z ∧ Up w wr) (fun _ _ i _ => l.length - (intOf i).toNat)
    case atStart => exact ⟨0, _, Nat.zero_le _, rfl, rfl, by omega, by omega, rfl, Up.refl _⟩
    case round =>
      obtain ⟨k, z, hk, rfl, rfl, hz0, hz1, hs, hup⟩ := hrel
      have HS := Lib.hid hs
      clear hs
      by_cases hlt : k < l.length
      · obtain ⟨b, off, d, rfl, hlo, hb, hd, q0, q1, q2, q3⟩ := (hr.up hup hhi).dec hlt
        have HD := Lib.hid hd
        clear hd
        have hle := szD_le d z hz0
        by_cases c2 : szD d z < 0
        · have hdec : decide (szD d z < 0) = true := by simpa using c2
          go_wp2_with (go_at_call 46; refine (szDecision_any d (hok d (List.mem_of_getElem? HD.out)) _ _ (by omega) (by omega)).mono ?_; rintro e w' ⟨rfl, hup'⟩)
          go_ret
          exact ⟨ret_int (by rw [szDL_b (by omega), HS.out, szDs_no HD.out (by omega)]), hup.trans hup'⟩
        · have hdec : decide (szD d z < 0) = false := by simpa using c2
          go_wp2_with (go_at_call 46; refine (szDecision_any d (hok d (List.mem_of_getElem? HD.out)) _ _ (by omega) (by omega)).mono ?_; rintro e w' ⟨rfl, hup'⟩)
          go_roundw
          case rel => exact ⟨k + 1, _, by omega, by go_num, rfl, by omega, by omega, by rw [HS.out, szDs_yes HD.out (by omega)], hup.trans hup'⟩
          case measure => simp [intOf]; omega
      · go_wp2
        go_ret
        exact ⟨ret_int (by rw [szDL_b (by omega), HS.out, szDs_end (by omega)]), hup⟩

theorem infoDec : (Tryz.prog.info? 117).map (fun i => (i.zero, i.size, i.bytes)) = some (some (.agg #[.string ByteArray.empty, .int .i64 0, .int .i64 0, .string ByteArray.empty]), 4, 48) := by kernel_rfl

set_option maxHeartbeats 400000 in
theorem toDecision_any (d : Dec) (w : World) :
    Calls Tryz.prog 58 #[d.val] w fun e w' => e = .returned d.val ∧ Up w w' := by
  go_enter Tryz.func58, Tryz.ntmps58
  go_wp2
  exact bodyPost_ret (v := d.val) (by simp [results, Tryz.results58, go_sem]) rfl ⟨rfl, by repeat (first | exact Up.alloc _ _ | refine Up.allocs ?_ _ | refine Up.setCell ?_ (by simp; try omega) _)⟩

theorem dec_set4 {xs : List Value} {l : List Dec} {k : Nat} {d : Dec} (hx : xs.length = l.length * 4) (hd : l[k]? = some d) (ht : xs.take (k * 4) = (l.take k).flatMap Dec.cells) :
    ((((xs.set (k * 4) (.string d.deed)).set (k * 4 + 1) (.int .i64 d.kind)).set (k * 4 + 2) (.int .i64 d.day)).set (k * 4 + 3) (.string d.by_)).take ((k + 1) * 4) = (l.take (k + 1)).flatMap Dec.cells := by
  have hk : k < l.length := (List.getElem?_eq_some_iff.1 hd).1
  rw [take_flat_succ _ hd, show (k + 1) * 4 = k * 4 + 3 + 1 by omega, take_set_succ (by simp; omega), take_set_succ (by simp; omega), take_set_succ (by simp; omega), take_set_succ (by omega), ht]
  simp

set_option maxHeartbeats 1000000 in
theorem toDecisionS_any (A : Option Addr) (l : List Dec) (c lo hi : Nat) (w : World) (hr : RdD w lo hi A l) (hhi : hi ≤ w.heap.size) (hn : l.length ≤ 2000000) :
    Calls Tryz.prog 22 #[.slice A l.length c] w fun e w' => ∃ v, e = .returned v ∧ w'.ownsRow w.heap.size 117 4 v l.length (l.flatMap Dec.cells) ∧ Up w w' := by
  obtain ⟨i0, hi0, hz0, hz1, hz2⟩ := info_parts infoDec
  go_enter Tryz.func22, Tryz.ntmps22
  go_wp2_with ((refine wpList_make_full _ rfl _ _ 58 rfl w.heap.size 117 i0 _ 4 Tryz.underlying58 hi0 hz0 hz1 _ _ _ _ l.length rfl rfl rfl rfl ?b2 ?b3 ?b4 ?_))
  case b2 => rw [hz2]; omega
  case b3 => unfold maxLen; omega
  case b4 => exact Nat.le_refl _
  intro w1 hown hg
  have hup1 : Up w w1 := (Up.refl w).grown hg (fun k h => by cases h)
  generalize (madeCells _ _).toList = xs0 at hown
  clear hg
  go_wp2
  go_loopw [4] (fun i wr => ∃ k : Nat, ∃ xs, k ≤ l.length ∧ i = .int .i64 k ∧ wr.ownsRow w.heap.size 117 4 (.slice (some ⟨w.heap.size, 0, none⟩) l.length l.length) l.length xs ∧ xs.take (k * 4) = (l.take k).flatMap Dec.cells ∧ Up w wr) (fun i _ => l.length - (intOf i).toNat)
  case atStart => exact ⟨0, _, Nat.zero_le _, rfl, hown, by simp, hup1⟩
  case round =>
    obtain ⟨k, xs, hk, rfl, hown, hxs, hup⟩ := hrel
    have HX := Lib.hid hxs
    clear hxs
    by_cases hlt : k < l.length
    · obtain ⟨b, off, d, rfl, hlo, hb, hd, q0, q1, q2, q3⟩ := (hr.up hup hhi).dec hlt
      have HD := Lib.hid hd
      clear hd
      go_wp2_with (go_at_call 58; refine (toDecision_any d _).mono ?_; rintro e w' ⟨rfl, hup'⟩; have hown' := own_up hown hup'; clear hown; obtain ⟨u0, r0⟩ := own_cell hown' (p := k * 4) (by omega); obtain ⟨u1, r1⟩ := own_cell hown' (p := k * 4 + 1) (by omega); obtain ⟨u2, r2⟩ := own_cell hown' (p := k * 4 + 2) (by omega); obtain ⟨u3, r3⟩ := own_cell hown' (p := k * 4 + 3) (by omega); have z0 := hown'.frozenAt (k * 4); have z1 := hown'.frozenAt (k * 4 + 1); have z2 := hown'.frozenAt (k * 4 + 2); have z3 := hown'.frozenAt (k * 4 + 3))
      go_roundw
      case rel => exact ⟨k + 1, _, by omega, by go_num, ((((hown'.stored _ _).1.stored _ _).1.stored _ _).1.stored _ _).1, dec_set4 hown'.1 HD.out HX.out, ((((hup.trans hup').setCell (by simp) _).setCell (by simp) _).setCell (by simp) _).setCell (by simp) _⟩
      case measure => simp [intOf]; omega
    · go_wp2
      go_ret
      have hk2 : k = l.length := by omega
      subst hk2
      have hx := HX.out
      rw [List.take_of_length_le (by rw [hown.1]; omega), List.take_of_length_le (Nat.le_refl _)] at hx
      subst hx
      exact ⟨_, rfl, hown, hup⟩

def eqD (a b : Dec) : Bool := a.deed.toList == b.deed.toList && a.kind == b.kind && a.day == b.day && a.by_.toList == b.by_.toList
theorem eqD_iff {a b : Dec} : eqD a b = true ↔ a = b := by
  obtain ⟨a1, a2, a3, a4⟩ := a
  obtain ⟨b1, b2, b3, b4⟩ := b
  simp only [eqD, Bool.and_eq_true, beq_iff_eq, Dec.mk.injEq, bytes_inj]
  constructor
  · rintro ⟨⟨⟨h1, h2⟩, h3⟩, h4⟩; exact ⟨h1, h2, h3, h4⟩
  · rintro ⟨h1, h2, h3, h4⟩; exact ⟨⟨⟨h1, h2⟩, h3⟩, h4⟩
set_option maxHeartbeats 400000 in
theorem eqDecision_any (a b : Dec) (w : World) :
    Calls Tryz.prog 69 #[a.val, b.val] w fun e w' => e = .returned (.bool (eqD a b)) ∧ Up w w' := by
  go_enter Tryz.func69, Tryz.ntmps69
  go_wp2
  all_goals (go_ret; refine ⟨ret_bool ?_, ((Up.refl _).allocs _).allocs _⟩; simp_all [eqD])

def eqDs (l m : List Dec) : Bool := decide (l = m)
theorem eqDs_len {l m : List Dec} (h : l.length ≠ m.length) : eqDs l m = false := by unfold eqDs; rw [decide_eq_false_iff_not]; rintro rfl; exact h rfl
theorem eqDs_ne {l m : List Dec} {k : Nat} {a b : Dec} (ha : l[k]? = some a) (hb : m[k]? = some b) (h : eqD a b = false) : eqDs l m = false := by
  unfold eqDs; rw [decide_eq_false_iff_not]; rintro rfl
  rw [ha] at hb; cases hb
  rw [eqD_iff.2 rfl] at h; cases h
theorem eqDs_eq {l m : List Dec} (h : l.take l.length = m.take l.length) (hl : l.length = m.length) : eqDs l m = true := by
  unfold eqDs; rw [decide_eq_true_iff]
  rwa [List.take_of_length_le (Nat.le_refl _), hl, List.take_of_length_le (Nat.le_refl _)] at h
set_option maxHeartbeats 1000000 in
theorem eqDecisionS_any (A B : Option Addr) (l m : List Dec) (c c' lo hi lo' hi' : Nat) (w : World) (hr : RdD w lo hi A l) (hhi : hi ≤ w.heap.size) (hr' : RdD w lo' hi' B m) (hhi' : hi' ≤ w.heap.size) (_hn : l.length ≤ 2000000) (hm : m.length ≤ 2000000) :
    Calls Tryz.prog 27 #[.slice A l.length c, .slice B m.length c'] w fun e w' => e = .returned (.bool (eqDs l m)) ∧ Up w w' := by
  by_cases hne : l.length = m.length
  · have HL := Lib.hid hne
    have hb0 : ((l.length : Int) != (m.length : Int)) = false := by simp [hne]
    have hlm : l.length ≤ m.length := by omega
    clear hne
    go_enter Tryz.func27, Tryz.ntmps27
    go_wp2
    go_loopw [5] (fun i wr => ∃ k : Nat, k ≤ l.length ∧ i = .int .i64 k ∧ l.take k = m.take k ∧ Up w wr) (fun i _ => l.length - (intOf i).toNat)
    case atStart => exact ⟨0, Nat.zero_le _, rfl, by simp, Up.refl _⟩
    case round =>
      obtain ⟨k, hk, rfl, ht, hup⟩ := hrel
      have HT := Lib.hid ht
      clear ht
      by_cases hlt : k < l.length
      · have hlt' : k < m.length := by omega
        obtain ⟨b1, o1, d1, rfl, -, -, hd1, p0, p1, p2, p3⟩ := (hr.up hup hhi).dec hlt
        obtain ⟨b2, o2, d2, rfl, -, -, hd2, q0, q1, q2, q3⟩ := (hr'.up hup hhi').dec hlt'
        have HD1 := Lib.hid hd1
        have HD2 := Lib.hid hd2
        clear hd1 hd2
        have P0 := cell_regrown p0
        have P1 := cell_regrown p1
        have P2 := cell_regrown p2
        have P3 := cell_regrown p3
        have Q0 := cell_regrown q0
        have Q1 := cell_regrown q1
        have Q2 := cell_regrown q2
        have Q3 := cell_regrown q3
        go_wp2_with fail
        refine wp_region_quiet_below (by kernel_rfl) (by kernel_rfl) ?_
        repeat (quiet_step ((go_at_call 69; exact Calls.regrown_of (eqDecision_any d1 d2 _))))
        refine wpQuiet_nil ?_
        intro w2 hw2
        obtain ⟨⟨dq, osq⟩, hw2⟩ := hw2
        have hup2 : Up wr w2 := by rw [hw2]; exact below_regrown _ _ _
        clear hw2 P0 P1 P2 P3 Q0 Q1 Q2 Q3
        go_wp2
        · have hq : (!eqD d1 d2) = true := by assumption
          go_ret
          exact ⟨ret_bool (eqDs_ne HD1.out HD2.out (by simpa using hq)).symm, hup.trans hup2⟩
        · have hq : (!eqD d1 d2) = false := by assumption
          have hq' : eqD d1 d2 = true := by simpa using hq
          go_roundw
          case rel => exact ⟨k + 1, by omega, by go_num, take_succ_eq HT.out HD1.out (by rw [eqD_iff.1 hq']; exact HD2.out), hup.trans hup2⟩
          case measure => simp [intOf]; omega
      · go_wp2
        go_ret
        exact ⟨ret_bool (eqDs_eq (by rw [show k = l.length by omega] at HT; exact HT.out) HL.out).symm, hup⟩
  · have hb0 : ((l.length : Int) != (m.length : Int)) = true := by rw [bne_iff_ne]; omega
    have H := Lib.hid hne
    clear hne
    go_enter Tryz.func27, Tryz.ntmps27
    go_wp2
    go_ret
    exact ⟨ret_bool (eqDs_len H.out).symm, Up.refl _⟩

theorem eqDs_self (l : List Dec) : eqDs l l = true := by simp [eqDs]
theorem szDs_le : ∀ (l : List Dec) (left : Int), 0 ≤ left → szDs l left ≤ left
  | [], left, _ => Int.le_refl _
  | d :: l, left, h => by
    unfold szDs
    split
    · omega
    · have h1 := szD_le d left h
      have h2 := szDs_le l (szD d left) (by omega)
      omega
theorem szDL_le (l : List Dec) (left : Int) (h : 0 ≤ left) : szDL l left ≤ left := by
  unfold szDL
  split
  · omega
  · have := szDs_le l (left - l.length) (by omega); omega
end Go.Proofs.YtblndbblcoghpaaGreatDoor

namespace Go.Proofs.YtblndbblcoghpaaGreatDoor
open Go.RowKit Go.Sort

def decB (d : Dec) : Bool := (nameB d.deed 12 && (nameB d.by_ 8 && inB d.kind 0 2)) && (dayB d.day && (d.kind == 0 || d.day == 0))
set_option maxHeartbeats 1000000 in
theorem l26Could_any (d : Dec) (hd : d.ok) (w : World) :
    Calls Tryz.prog 50 #[d.val] w fun e w' => e = .returned (.bool (decB d)) ∧ Up w w' := by
  obtain ⟨o1, o2⟩ := hd
  go_enter Tryz.func50, Tryz.ntmps50
  go_wp2_with (first | (go_at_call 94; refine (l01Name_any _ _ _ (by assumption)).mono ?_; rintro e w' ⟨rfl, rfl⟩) | (go_at_call 99; refine (l01In_any _ _ _ _).mono ?_; rintro e w' ⟨rfl, rfl⟩) | (go_at_call 100; refine (l01Day_any _ _).mono ?_; rintro e w' ⟨rfl, rfl⟩))
  all_goals (go_ret; refine ⟨ret_bool ?_, Up.alloc _ _⟩; simp_all [decB])
/-- a box's four cells behind a call -/
theorem box4 {w w' : World} {T : TypeId} {a b c d : Value} (h : Up (w.alloc (.cells #[a, b, c, d] T)) w') :
    w'.cell? ⟨w.heap.size, 0, none⟩ = some a ∧ w'.cell? ⟨w.heap.size, 1, none⟩ = some b ∧ w'.cell? ⟨w.heap.size, 2, none⟩ = some c ∧ w'.cell? ⟨w.heap.size, 3, none⟩ = some d :=
  ⟨h.cell (by simp), h.cell (by simp), h.cell (by simp), h.cell (by simp)⟩
set_option maxHeartbeats 1000000 in
theorem isDecision_any (d : Dec) (hd : d.ok) (w : World) :
    Calls Tryz.prog 61 #[d.val] w fun e w' => e = .returned (.bool (decB d)) ∧ Up w w' := by
  obtain ⟨o1, o2⟩ := hd
  go_enter Tryz.func61, Tryz.ntmps61
  go_wp2_with (first | (go_at_call 114; refine (isSmall_any _ _ _ (by assumption)).mono ?_; rintro e w' ⟨rfl, hup⟩; have hupw : Up w w' := (by first | exact (Up.alloc _ _).trans hup | exact Up.trans (by assumption) hup); have c0 := hup.cell (a := ⟨w.heap.size, 0, none⟩) (v := .string d.deed) (by first | assumption | simp); have c1 := hup.cell (a := ⟨w.heap.size, 1, none⟩) (v := .int .i64 d.kind) (by first | assumption | simp); have c2 := hup.cell (a := ⟨w.heap.size, 2, none⟩) (v := .int .i64 d.day) (by first | assumption | simp); have c3 := hup.cell (a := ⟨w.heap.size, 3, none⟩) (v := .string d.by_) (by first | assumption | simp)) | (go_at_call 122; refine (within_any _ _ _ _).mono ?_; rintro e w' ⟨rfl, rfl⟩) | (go_at_call 123; refine (isDay_any _ _).mono ?_; rintro e w' ⟨rfl, rfl⟩))
  all_goals (go_ret; refine ⟨ret_bool ?_, by assumption⟩; simp_all [decB])

def stateOf (l : List Dec) (s : ByteArray) : Int := match l.reverse.find? (fun d => d.deed.toList == s.toList) with | some d => d.kind | none => 2
theorem stateOf_yes {l : List Dec} {s : ByteArray} {k : Nat} {d : Dec} (hd : l[k]? = some d) (he : (d.deed.toList == s.toList) = true) : stateOf (l.take (k + 1)) s = d.kind := by
  have hk := (List.getElem?_eq_some_iff.1 hd).1
  unfold stateOf
  rw [List.take_succ_eq_append_getElem hk, (List.getElem?_eq_some_iff.1 hd).2]
  simp [he]
theorem stateOf_no {l : List Dec} {s : ByteArray} {k : Nat} {d : Dec} (hd : l[k]? = some d) (he : (d.deed.toList == s.toList) = false) : stateOf (l.take (k + 1)) s = stateOf (l.take k) s := by
  have hk := (List.getElem?_eq_some_iff.1 hd).1
  unfold stateOf
  rw [List.take_succ_eq_append_getElem hk, (List.getElem?_eq_some_iff.1 hd).2]
  simp [he]

set_option maxHeartbeats 1000000 in
theorem l26State_any (A : Option Addr) (l : List Dec) (c lo hi : Nat) (s : ByteArray) (w : World) (hr : RdD w lo hi A l) (hn : l.length ≤ maxLen) :
    Calls Tryz.prog 101 #[.slice A l.length c, .string s] w fun e w' => e = .returned (.int .i64 (stateOf l s)) ∧ w = w' := by
  unfold maxLen at hn
  go_enter Tryz.func101, Tryz.ntmps101
  go_wp2
  go_loop [4, 5] (fun r i => ∃ k : Nat, k ≤ l.length ∧ i = .int .i64 ((k : Int) - 1) ∧ stateOf l s = stateOf (l.take k) s) (fun _ i => (intOf i + 1).toNat)
  case atStart => exact ⟨l.length, Nat.le_refl _, rfl, by rw [List.take_of_length_le (Nat.le_refl _)]⟩
  case round =>
    obtain ⟨k, hk, rfl, hs⟩ := hrel
    have HS := Lib.hid hs
    clear hs
    rcases k with _ | k
    · go_wp2
      go_ret
      exact ⟨ret_int (by rw [HS.out]; rfl), rfl⟩
    · obtain ⟨b, off, d, rfl, -, -, hd, q0, q1, q2, q3⟩ := hr.dec (k := k) (by omega)
      have HD := Lib.hid hd
      clear hd
      go_wp2
      · have h1 : (d.deed.toList == s.toList) = true := by assumption
        go_ret
        exact ⟨ret_int (by rw [HS.out, stateOf_yes HD.out h1]), rfl⟩
      · have h1 : (d.deed.toList == s.toList) = false := by assumption
        go_round
        case rel => exact ⟨k, by omega, by go_num, by rw [HS.out, stateOf_no HD.out h1]⟩
        case measure => simp [intOf]
set_option maxHeartbeats 1000000 in
theorem kindOf_any (A : Option Addr) (l : List Dec) (c lo hi : Nat) (s : ByteArray) (w : World) (hr : RdD w lo hi A l) (hn : l.length ≤ maxLen) :
    Calls Tryz.prog 124 #[.slice A l.length c, .string s] w fun e w' => e = .returned (.int .i64 (stateOf l s)) ∧ w = w' := by
  unfold maxLen at hn
  go_enter Tryz.func124, Tryz.ntmps124
  go_wp2
  go_loop [4, 5] (fun r i => ∃ k : Nat, k ≤ l.length ∧ i = .int .i64 ((k : Int) - 1) ∧ stateOf l s = stateOf (l.take k) s) (fun _ i => (intOf i + 1).toNat)
  case atStart => exact ⟨l.length, Nat.le_refl _, rfl, by rw [List.take_of_length_le (Nat.le_refl _)]⟩
  case round =>
    obtain ⟨k, hk, rfl, hs⟩ := hrel
    have HS := Lib.hid hs
    clear hs
    rcases k with _ | k
    · go_wp2
      go_ret
      exact ⟨ret_int (by rw [HS.out]; rfl), rfl⟩
    · obtain ⟨b, off, d, rfl, -, -, hd, q0, q1, q2, q3⟩ := hr.dec (k := k) (by omega)
      have HD := Lib.hid hd
      clear hd
      go_wp2
      · have h1 : (d.deed.toList == s.toList) = true := by assumption
        go_ret
        exact ⟨ret_int (by rw [HS.out, stateOf_yes HD.out h1]), rfl⟩
      · have h1 : (d.deed.toList == s.toList) = false := by assumption
        go_round
        case rel => exact ⟨k, by omega, by go_num, by rw [HS.out, stateOf_no HD.out h1]⟩
        case measure => simp [intOf]

def mayB (l : List Dec) (d : Dec) : Bool := (stateOf l d.deed == 1) == (d.kind == 2)
set_option maxHeartbeats 400000 in
theorem l26May_any (A : Option Addr) (l : List Dec) (c lo hi : Nat) (d : Dec) (w : World) (hr : RdD w lo hi A l) (hhi : hi ≤ w.heap.size) (hn : l.length ≤ maxLen) :
    Calls Tryz.prog 51 #[.slice A l.length c, d.val] w fun e w' => e = .returned (.bool (mayB l d)) ∧ Up w w' := by
  have hr1 := fun o => hr.up (Up.alloc w o) hhi
  have H := Lib.hid hr1
  clear hr1
  go_enter Tryz.func51, Tryz.ntmps51
  go_wp2_with (go_at_call 101; refine (l26State_any _ _ _ _ _ _ _ (H.out _) hn).mono ?_; rintro e w' ⟨rfl, rfl⟩)
  all_goals (go_ret; exact ⟨ret_bool rfl, Up.alloc _ _⟩)
set_option maxHeartbeats 400000 in
theorem mayFollow_any (A : Option Addr) (l : List Dec) (c lo hi : Nat) (d : Dec) (w : World) (hr : RdD w lo hi A l) (hhi : hi ≤ w.heap.size) (hn : l.length ≤ maxLen) :
    Calls Tryz.prog 62 #[.slice A l.length c, d.val] w fun e w' => e = .returned (.bool (mayB l d)) ∧ Up w w' := by
  have hr1 := fun o => hr.up (Up.alloc w o) hhi
  have H := Lib.hid hr1
  clear hr1
  go_enter Tryz.func62, Tryz.ntmps62
  go_wp2
  have cK : ∀ dd os, Calls Tryz.prog 124 #[.slice A l.length c, .string d.deed] (grow (redrawn (w.alloc (.cells #[.string d.deed, .int .i64 d.kind, .int .i64 d.day, .string d.by_] 117)) dd) os) fun e w'' => e = .returned (.int .i64 (stateOf l d.deed)) ∧ ∃ p : Regrown, w'' = grow (redrawn (w.alloc (.cells #[.string d.deed, .int .i64 d.kind, .int .i64 d.day, .string d.by_] 117)) p.d) p.os :=
    fun dd os => Calls.regrown_of ((kindOf_any _ _ _ _ _ _ _ ((H.out _).up (below_regrown _ _ _) (by simp; omega)) hn).mono fun _ _ ⟨h1, h2⟩ => ⟨h1, by rw [← h2]; exact Up.refl _⟩)
  have c0 := cell_regrown (w := w.alloc (.cells #[.string d.deed, .int .i64 d.kind, .int .i64 d.day, .string d.by_] 117)) (a := ⟨w.heap.size, 0, none⟩) (v := .string d.deed) (by simp)
  have c1 := cell_regrown (w := w.alloc (.cells #[.string d.deed, .int .i64 d.kind, .int .i64 d.day, .string d.by_] 117)) (a := ⟨w.heap.size, 1, none⟩) (v := .int .i64 d.kind) (by simp)
  refine wp_region_quiet_below (by kernel_rfl) (by kernel_rfl) ?_
  repeat (quiet_step ((go_at_call 124; exact cK _ _)))
  refine wpQuiet_nil ?_
  intro w2 hw2
  obtain ⟨⟨dq, osq⟩, hw2⟩ := hw2
  have hup2 := below_regrown (w.alloc (.cells #[.string d.deed, .int .i64 d.kind, .int .i64 d.day, .string d.by_] 117)) dq osq
  rw [← hw2] at hup2
  clear hw2 c0 c1 cK
  go_wp2
  go_ret
  exact ⟨ret_bool rfl, (Up.alloc _ _).trans hup2⟩

def okAt (l : List Dec) (k : Nat) (d : Dec) : Bool := decB d && mayB (l.take k) d
def logB (l : List Dec) : Bool := ((List.range l.length).all fun k => match l[k]? with | some d => okAt l k d | none => true) && decide (l.length ≤ 80)
theorem logB_no {l : List Dec} {k : Nat} {d : Dec} (hd : l[k]? = some d) (h : okAt l k d = false) : logB l = false := by
  have : ((List.range l.length).all fun k => match l[k]? with | some d => okAt l k d | none => true) = false := by
    rw [List.all_eq_false]; exact ⟨k, by simpa using (List.getElem?_eq_some_iff.1 hd).1, by simp [hd, h]⟩
  simp [logB, this]
theorem logB_end {l : List Dec} (h : ∀ k d, k < l.length → l[k]? = some d → okAt l k d = true) : logB l = decide (l.length ≤ 80) := by
  have : ((List.range l.length).all fun k => match l[k]? with | some d => okAt l k d | none => true) = true := by
    rw [List.all_eq_true]; intro k hk
    have hk' : k < l.length := by simpa using hk
    rw [List.getElem?_eq_getElem hk']; exact h k _ hk' (List.getElem?_eq_getElem hk')
  simp [logB, this]

set_option maxHeartbeats 1000000 in
theorem specIsLog_any (A : Option Addr) (l : List Dec) (c lo hi : Nat) (w : World) (hr : RdD w lo hi A l) (hhi : hi ≤ w.heap.size) (hok : ∀ d ∈ l, d.ok) (hn : l.length ≤ 2000000) (hc : l.length ≤ c) (hcm : c ≤ maxLen) :
    Calls Tryz.prog 19 #[.slice A l.length c] w fun e w' => e = .returned (.bool (logB l)) ∧ Up w w' := by
  unfold maxLen at hcm
  go_enter Tryz.func19, Tryz.ntmps19
  go_wp2
  go_loopw [3] (fun i wr => ∃ k : Nat, k ≤ l.length ∧ i = .int .i64 k ∧ (∀ j d, j < k → l[j]? = some d → okAt l j d = true) ∧ Up w wr) (fun i _ => l.length - (intOf i).toNat)
  case atStart => exact ⟨0, Nat.zero_le _, rfl, fun j d h => absurd h (by omega), Up.refl _⟩
  case round =>
    obtain ⟨k, hk, rfl, ha, hup⟩ := hrel
    have HA := Lib.hid ha
    clear ha
    by_cases hlt : k < l.length
    · obtain ⟨b, off, d, rfl, -, -, hd, q0, q1, q2, q3⟩ := (hr.up hup hhi).dec hlt
      have HD := Lib.hid hd
      clear hd
      have R := Lib.hid ((hr.take k).up hup hhi)
      have hhr : hi ≤ wr.heap.size := Nat.le_trans hhi hup.size
      have Q0 := cell_regrown q0
      have Q1 := cell_regrown q1
      have Q2 := cell_regrown q2
      have Q3 := cell_regrown q3
      have hkc : k ≤ c := by omega
      go_wp2_with fail
      have cC : ∀ dd os, Calls Tryz.prog 50 #[d.val] (grow (redrawn wr dd) os) fun e w'' => e = .returned (.bool (decB d)) ∧ ∃ p : Regrown, w'' = grow (redrawn wr p.d) p.os :=
        fun dd os => Calls.regrown_of (l26Could_any d (hok d (List.mem_of_getElem? HD.out)) _)
      have cM : ∀ dd os, Calls Tryz.prog 51 #[.slice (some ⟨b, off, none⟩) k c, d.val] (grow (redrawn wr dd) os) fun e w'' => e = .returned (.bool (mayB (l.take k) d)) ∧ ∃ p : Regrown, w'' = grow (redrawn wr p.d) p.os := fun dd os => by
        have h := l26May_any (some ⟨b, off, none⟩) (l.take k) c lo hi d _ (R.out.up (below_regrown wr dd os) hhr) (Nat.le_trans hhr (below_regrown wr dd os).size) (by rw [List.length_take]; unfold maxLen; omega)
        rw [List.length_take, Nat.min_eq_left hk] at h
        exact Calls.regrown_of h
      by_cases hq : decB d = true
      · refine wp_region_quiet_below (by kernel_rfl) (by kernel_rfl) ?_
        repeat (first | go_big_quiet_step (first | (go_at_call 50; exact cC _ _) | (go_at_call 51; exact cM _ _)) | quiet_step (first | (go_at_call 50; exact cC _ _) | (go_at_call 51; exact cM _ _)))
        refine wpQuiet_nil ?_
        intro w2 hw2
        obtain ⟨⟨dq, osq⟩, hw2⟩ := hw2
        have hup2 : Up wr w2 := by rw [hw2]; exact below_regrown _ _ _
        clear hw2 Q0 Q1 Q2 Q3 cC cM
        go_wp2
        · have h1 : (!mayB (l.take k) d) = true := by assumption
          go_ret
          exact ⟨ret_bool (logB_no HD.out (by unfold okAt; rw [hq]; simpa using h1)).symm, hup.trans hup2⟩
        · have h1 : (!mayB (l.take k) d) = false := by assumption
          go_roundw
          case rel => exact ⟨k + 1, by omega, by go_num, fun j d' hj hd' => by
            rcases Nat.lt_or_ge j k with h | h
            · exact HA.out j d' h hd'
            · obtain rfl : j = k := by omega
              rw [HD.out] at hd'; cases hd'
              unfold okAt; rw [hq]; simpa using h1, hup.trans hup2⟩
          case measure => simp [intOf]; omega
      · have hq' : decB d = false := by simpa using hq
        clear hq
        refine wp_region_quiet_below (by kernel_rfl) (by kernel_rfl) ?_
        repeat (first | go_big_quiet_step (first | (go_at_call 50; exact cC _ _) | (go_at_call 51; exact cM _ _)) | quiet_step (first | (go_at_call 50; exact cC _ _) | (go_at_call 51; exact cM _ _)))
        refine wpQuiet_nil ?_
        intro w2 hw2
        obtain ⟨⟨dq, osq⟩, hw2⟩ := hw2
        have hup2 : Up wr w2 := by rw [hw2]; exact below_regrown _ _ _
        clear hw2 Q0 Q1 Q2 Q3 cC cM
        go_wp2
        go_ret
        exact ⟨ret_bool (logB_no HD.out (by unfold okAt; rw [hq']; rfl)).symm, hup.trans hup2⟩
    · have h0 := logB_end (l := l) (fun j d hj hd => HA.out j d (by omega) hd)
      have H0 := Lib.hid h0
      clear h0
      go_wp2
      go_ret
      exact ⟨ret_bool (by rw [H0.out]; exact decide_eq_decide.2 (by omega)), hup⟩

set_option maxHeartbeats 1000000 in
theorem implIsLog_any (A : Option Addr) (l : List Dec) (c lo hi : Nat) (w : World) (hr : RdD w lo hi A l) (hhi : hi ≤ w.heap.size) (hok : ∀ d ∈ l, d.ok) (hn : l.length ≤ 2000000) (hc : l.length ≤ c) (hcm : c ≤ maxLen) :
    Calls Tryz.prog 24 #[.slice A l.length c] w fun e w' => e = .returned (.bool (logB l)) ∧ Up w w' := by
  unfold maxLen at hcm
  go_enter Tryz.func24, Tryz.ntmps24
  go_wp2
  go_loopw [2, 3, 4, 7] (fun u2 u3 u4 i wr => ∃ k : Nat, k ≤ l.length ∧ i = .int .i64 k ∧ (∀ j d, j < k → l[j]? = some d → okAt l j d = true) ∧ Up w wr) (fun _ _ _ i _ => l.length - (intOf i).toNat)
  case atStart => exact ⟨0, Nat.zero_le _, rfl, fun j d h => absurd h (by omega), Up.refl _⟩
  case round =>
    obtain ⟨k, hk, rfl, ha, hup⟩ := hrel
    have HA := Lib.hid ha
    clear ha
    by_cases hlt : k < l.length
    · obtain ⟨b, off, d, rfl, -, -, hd, q0, q1, q2, q3⟩ := (hr.up hup hhi).dec hlt
      have HD := Lib.hid hd
      clear hd
      have hupv := hup.allocs (.cells #[.string d.deed, .int .i64 d.kind, .int .i64 d.day, .string d.by_] 117)
      have R := Lib.hid ((hr.take k).up hupv hhi)
      have hhr : hi ≤ (wr.alloc (.cells #[.string d.deed, .int .i64 d.kind, .int .i64 d.day, .string d.by_] 117)).heap.size := Nat.le_trans hhi hupv.size
      have HH := Lib.hid hhr
      clear hhr
      have hkc : k ≤ c := by omega
      go_wp2_with fail
      have q0' : (wr.alloc (.cells #[.string d.deed, .int .i64 d.kind, .int .i64 d.day, .string d.by_] 117)).cell? ⟨wr.heap.size, 0, none⟩ = some (.string d.deed) := by simp
      have q1' : (wr.alloc (.cells #[.string d.deed, .int .i64 d.kind, .int .i64 d.day, .string d.by_] 117)).cell? ⟨wr.heap.size, 1, none⟩ = some (.int .i64 d.kind) := by simp
      have q2' : (wr.alloc (.cells #[.string d.deed, .int .i64 d.kind, .int .i64 d.day, .string d.by_] 117)).cell? ⟨wr.heap.size, 2, none⟩ = some (.int .i64 d.day) := by simp
      have q3' : (wr.alloc (.cells #[.string d.deed, .int .i64 d.kind, .int .i64 d.day, .string d.by_] 117)).cell? ⟨wr.heap.size, 3, none⟩ = some (.string d.by_) := by simp
      generalize wr.alloc (.cells #[.string d.deed, .int .i64 d.kind, .int .i64 d.day, .string d.by_] 117) = W1 at *
      have Q0 := cell_regrown q0'
      have Q1 := cell_regrown q1'
      have Q2 := cell_regrown q2'
      have Q3 := cell_regrown q3'
      clear q0' q1' q2' q3' q0 q1 q2 q3
      have cC : ∀ dd os, Calls Tryz.prog 61 #[d.val] (grow (redrawn W1 dd) os) fun e w'' => e = .returned (.bool (decB d)) ∧ ∃ p : Regrown, w'' = grow (redrawn W1 p.d) p.os :=
        fun dd os => Calls.regrown_of (isDecision_any d (hok d (List.mem_of_getElem? HD.out)) _)
      have cM : ∀ dd os, Calls Tryz.prog 62 #[.slice (some ⟨b, off, none⟩) k c, d.val] (grow (redrawn W1 dd) os) fun e w'' => e = .returned (.bool (mayB (l.take k) d)) ∧ ∃ p : Regrown, w'' = grow (redrawn W1 p.d) p.os := fun dd os => by
        have h := mayFollow_any (some ⟨b, off, none⟩) (l.take k) c lo hi d _ (R.out.up (below_regrown W1 dd os) HH.out) (Nat.le_trans HH.out (below_regrown W1 dd os).size) (by rw [List.length_take]; unfold maxLen; omega)
        rw [List.length_take, Nat.min_eq_left hk] at h
        exact Calls.regrown_of h
      by_cases hq : decB d = true
      · refine wp_region_quiet_below (by kernel_rfl) (by kernel_rfl) ?_
        repeat (first | go_big_quiet_step (first | (go_at_call 61; exact cC _ _) | (go_at_call 62; exact cM _ _)) | quiet_step (first | (go_at_call 61; exact cC _ _) | (go_at_call 62; exact cM _ _)))
        refine wpQuiet_nil ?_
        intro w2 hw2
        obtain ⟨⟨dq, osq⟩, hw2⟩ := hw2
        have hup2 : Up W1 w2 := by rw [hw2]; exact below_regrown _ _ _
        clear hw2 Q0 Q1 Q2 Q3 cC cM
        go_wp2
        · have h1 : (!mayB (l.take k) d) = true := by assumption
          go_ret
          exact ⟨ret_bool (logB_no HD.out (by unfold okAt; rw [hq]; simpa using h1)).symm, hupv.trans hup2⟩
        · have h1 : (!mayB (l.take k) d) = false := by assumption
          go_roundw
          case rel => exact ⟨k + 1, by omega, by go_num, fun j d' hj hd' => by
            rcases Nat.lt_or_ge j k with h | h
            · exact HA.out j d' h hd'
            · obtain rfl : j = k := by omega
              rw [HD.out] at hd'; cases hd'
              unfold okAt; rw [hq]; simpa using h1, hupv.trans hup2⟩
          case measure => simp [intOf]; omega
      · have hq' : decB d = false := by simpa using hq
        clear hq
        refine wp_region_quiet_below (by kernel_rfl) (by kernel_rfl) ?_
        repeat (first | go_big_quiet_step (first | (go_at_call 61; exact cC _ _) | (go_at_call 62; exact cM _ _)) | quiet_step (first | (go_at_call 61; exact cC _ _) | (go_at_call 62; exact cM _ _)))
        refine wpQuiet_nil ?_
        intro w2 hw2
        obtain ⟨⟨dq, osq⟩, hw2⟩ := hw2
        have hup2 : Up W1 w2 := by rw [hw2]; exact below_regrown _ _ _
        clear hw2 Q0 Q1 Q2 Q3 cC cM
        go_wp2
        go_ret
        exact ⟨ret_bool (logB_no HD.out (by unfold okAt; rw [hq']; rfl)).symm, hupv.trans hup2⟩
    · have h0 := logB_end (l := l) (fun j d hj hd => HA.out j d (by omega) hd)
      have H0 := Lib.hid h0
      clear h0
      go_wp2
      go_ret
      exact ⟨ret_bool (by rw [H0.out]; exact decide_eq_decide.2 (by omega)), hup⟩
end Go.Proofs.YtblndbblcoghpaaGreatDoor

namespace Go.Proofs.YtblndbblcoghpaaGreatDoor
open Go.RowKit Go.Sort

theorem dec_len (d : Dec) : d.cells.length = 4 := rfl
theorem szDL_len {l : List Dec} {left : Int} (h : ¬ szDL l left < 0) : (l.length : Int) ≤ left := by
  unfold szDL at h
  split at h
  · exact absurd (by omega) h
  · omega

/-- toDecisionS as the laws use it: a fresh list that reads as the argument -/
theorem toDecS (A : Option Addr) (l : List Dec) (c lo hi : Nat) (w : World) (hr : RdD w lo hi A l) (hhi : hi ≤ w.heap.size) (hn : l.length ≤ 2000000) :
    Calls Tryz.prog 22 #[.slice A l.length c] w fun e w' => ∃ A' c', e = .returned (.slice A' l.length c') ∧ l.length ≤ c' ∧ c' ≤ maxLen ∧ RdD w' w.heap.size w'.heap.size A' l ∧ w'.ownsRow w.heap.size 117 4 (.slice A' l.length c') l.length (l.flatMap Dec.cells) ∧ Up w w' :=
  (toDecisionS_any A l c lo hi w hr hhi hn).mono fun e w' ⟨v, he, hown, hup⟩ => by
    obtain ⟨A', c', rfl, h1, h2, -, -⟩ := own_form hown
    exact ⟨A', c', he, h1, h2, Rd.own dec_len hown, hown, hup⟩

end Go.Proofs.YtblndbblcoghpaaGreatDoor
