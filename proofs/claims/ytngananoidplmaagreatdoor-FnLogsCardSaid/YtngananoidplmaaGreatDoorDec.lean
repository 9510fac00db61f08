/- A decision as Lean data, and the walks of the law package's helpers over decisions. -/
import Derived.Test.YtngananoidplmaaGreatDoorProg
import Derived.Test.YtngananoidplmaaGreatDoorLib
namespace Go.Proofs.YtngananoidplmaaGreatDoor
open Go.RowKit

structure Dec where
  deed : ByteArray
  kind : Int
  day : Int
  by_ : ByteArray
  deriving DecidableEq
abbrev Dec.cells (d : Dec) : List Value := [.string d.deed, .int .i64 d.kind, .int .i64 d.day, .string d.by_]
abbrev Dec.val (d : Dec) : Value := .agg #[.string d.deed, .int .i64 d.kind, .int .i64 d.day, .string d.by_]
/-- its strings are no longer than any string -/
def Dec.ok (d : Dec) : Prop := d.deed.size ≤ maxLen ∧ d.by_.size ≤ maxLen

abbrev RdD (w : World) (lo hi : Nat) (A : Option Addr) (l : List Dec) : Prop := Rd w lo hi 4 Dec.cells A l

/-- element k of a slice of decisions: its four cells -/
theorem Rd.dec {w : World} {lo hi : Nat} {A : Option Addr} {l : List Dec} (h : RdD w lo hi A l) {k : Nat} (hk : k < l.length) :
    ∃ b off d, A = some ⟨b, off, none⟩ ∧ lo ≤ b ∧ b < hi ∧ l[k]? = some d ∧ w.cell? ⟨b, off + k * 4, none⟩ = some (.string d.deed) ∧ w.cell? ⟨b, off + k * 4 + 1, none⟩ = some (.int .i64 d.kind) ∧
      w.cell? ⟨b, off + k * 4 + 2, none⟩ = some (.int .i64 d.day) ∧ w.cell? ⟨b, off + k * 4 + 3, none⟩ = some (.string d.by_) := by
  obtain ⟨b, off, d, e, h1, h2, h3, h4⟩ := Rd.at_ h hk
  exact ⟨b, off, d, e, h1, h2, h3, h4 0 _ rfl, h4 1 _ rfl, h4 2 _ rfl, h4 3 _ rfl⟩

def szD (d : Dec) (left : Int) : Int := if left < d.deed.size then -1 else if left < d.deed.size + d.by_.size then -1 else left - d.deed.size - d.by_.size

theorem szD_a {d : Dec} {left : Int} (h : left < d.deed.size) : szD d left = -1 := by unfold szD; rw [if_pos h]
theorem szD_b {d : Dec} {left : Int} (h : left < d.deed.size + d.by_.size) : szD d left = -1 := by unfold szD; split <;> simp_all
theorem szD_c {d : Dec} {left : Int} (h : ¬ left < d.deed.size + d.by_.size) : szD d left = left - d.deed.size - d.by_.size := by
  unfold szD; rw [if_neg (by omega), if_neg h]


def szDs : List Dec → Int → Int
  | [], left => left
  | d :: l, left => if szD d left < 0 then -1 else szDs l (szD d left)

def szDL (l : List Dec) (left : Int) : Int := if left < l.length then -1 else szDs l (left - l.length)
theorem szDL_a {l : List Dec} {left : Int} (h : left < l.length) : szDL l left = -1 := by unfold szDL; rw [if_pos h]
theorem szDL_b {l : List Dec} {left : Int} (h : ¬ left < l.length) : szDL l left = szDs l (left - l.length) := by unfold szDL; rw [if_neg h]
theorem szDs_yes {l : List Dec} {k : Nat} {d : Dec} {z : Int} (hd : l[k]? = some d) (h : ¬ szD d z < 0) : szDs (l.drop k) z = szDs (l.drop (k + 1)) (szD d z) := by
  have hk : k < l.length := (List.getElem?_eq_some_iff.1 hd).1
  rw [List.drop_eq_getElem_cons hk]
  have e : l[k] = d := (List.getElem?_eq_some_iff.1 hd).2
  simp [szDs, e, h]
theorem szDs_no {l : List Dec} {k : Nat} {d : Dec} {z : Int} (hd : l[k]? = some d) (h : szD d z < 0) : szDs (l.drop k) z = -1 := by
  have hk : k < l.length := (List.getElem?_eq_some_iff.1 hd).1
  rw [List.drop_eq_getElem_cons hk]
  have e : l[k] = d := (List.getElem?_eq_some_iff.1 hd).2
  simp [szDs, e, h]
theorem szDs_end {l : List Dec} {k : Nat} {z : Int} (h : l.length ≤ k) : szDs (l.drop k) z = z := by
  rw [List.drop_eq_nil_of_le h]; rfl
theorem szD_le (d : Dec) (left : Int) (h0 : 0 ≤ left) : szD d left ≤ left := by
  unfold szD; split <;> (try split) <;> omega


theorem infoDec : (Tryz.prog.info? 43).map (fun i => (i.zero, i.size, i.bytes)) = some (some (.agg #[.string ByteArray.empty, .int .i64 0, .int .i64 0, .string ByteArray.empty]), 4, 48) := by kernel_rfl


theorem dec_set4 {xs : List Value} {l : List Dec} {k : Nat} {d : Dec} (hx : xs.length = l.length * 4) (hd : l[k]? = some d) (ht : xs.take (k * 4) = (l.take k).flatMap Dec.cells) :
    ((((xs.set (k * 4) (.string d.deed)).set (k * 4 + 1) (.int .i64 d.kind)).set (k * 4 + 2) (.int .i64 d.day)).set (k * 4 + 3) (.string d.by_)).take ((k + 1) * 4) = (l.take (k + 1)).flatMap Dec.cells := by
  have hk : k < l.length := (List.getElem?_eq_some_iff.1 hd).1
  rw [take_flat_succ _ hd, show (k + 1) * 4 = k * 4 + 3 + 1 by omega, take_set_succ (by simp; omega), take_set_succ (by simp; omega), take_set_succ (by simp; omega), take_set_succ (by omega), ht]
  simp


def eqD (a b : Dec) : Bool := a.deed.toList == b.deed.toList && a.kind == b.kind && a.day == b.day && a.by_.toList == b.by_.toList
theorem eqD_iff {a b : Dec} : eqD a b = true ↔ a = b := by
  obtain ⟨a1, a2, a3, a4⟩ := a
  obtain ⟨b1, b2, b3, b4⟩ := b
  simp only [eqD, Bool.and_eq_true, beq_iff_eq, Dec.mk.injEq, bytes_inj]
  constructor
  · rintro ⟨⟨⟨h1, h2⟩, h3⟩, h4⟩; exact ⟨h1, h2, h3, h4⟩
  · rintro ⟨h1, h2, h3, h4⟩; exact ⟨⟨⟨h1, h2⟩, h3⟩, h4⟩
set_option maxHeartbeats 400000 in
theorem eqDecision_any (a b : Dec) (w : World) :
    Calls Tryz.prog 31 #[a.val, b.val] w fun e w' => e = .returned (.bool (eqD a b)) ∧ Up w w' := by
  go_enter Tryz.func31, Tryz.ntmps31
  go_wp2
  all_goals (go_ret; refine ⟨ret_bool ?_, ((Up.refl _).allocs _).allocs _⟩; simp_all [eqD])

def eqDs (l m : List Dec) : Bool := decide (l = m)
theorem eqDs_len {l m : List Dec} (h : l.length ≠ m.length) : eqDs l m = false := by unfold eqDs; rw [decide_eq_false_iff_not]; rintro rfl; exact h rfl
theorem eqDs_ne {l m : List Dec} {k : Nat} {a b : Dec} (ha : l[k]? = some a) (hb : m[k]? = some b) (h : eqD a b = false) : eqDs l m = false := by
  unfold eqDs; rw [decide_eq_false_iff_not]; rintro rfl
  rw [ha] at hb; cases hb
  rw [eqD_iff.2 rfl] at h; cases h
theorem eqDs_eq {l m : List Dec} (h : l.take l.length = m.take l.length) (hl : l.length = m.length) : eqDs l m = true := by
  unfold eqDs; rw [decide_eq_true_iff]
  rwa [List.take_of_length_le (Nat.le_refl _), hl, List.take_of_length_le (Nat.le_refl _)] at h
set_option maxHeartbeats 1000000 in
theorem eqDecisionS_any (A B : Option Addr) (l m : List Dec) (c c' lo hi lo' hi' : Nat) (w : World) (hr : RdD w lo hi A l) (hhi : hi ≤ w.heap.size) (hr' : RdD w lo' hi' B m) (hhi' : hi' ≤ w.heap.size) (_hn : l.length ≤ 2000000) (hm : m.length ≤ 2000000) :
    Calls Tryz.prog 7 #[.slice A l.length c, .slice B m.length c'] w fun e w' => e = .returned (.bool (eqDs l m)) ∧ Up w w' := by
  by_cases hne : l.length = m.length
  · have HL := Lib.hid hne
    have hb0 : ((l.length : Int) != (m.length : Int)) = false := by simp [hne]
    have hlm : l.length ≤ m.length := by omega
    clear hne
    go_enter Tryz.func7, Tryz.ntmps7
    go_wp2
    go_loopw [5] (fun i wr => ∃ k : Nat, k ≤ l.length ∧ i = .int .i64 k ∧ l.take k = m.take k ∧ Up w wr) (fun i _ => l.length - (intOf i).toNat)
    case atStart => exact ⟨0, Nat.zero_le _, rfl, by simp, Up.refl _⟩
    case round =>
      obtain ⟨k, hk, rfl, ht, hup⟩ := hrel
      have HT := Lib.hid ht
      clear ht
      by_cases hlt : k < l.length
      · have hlt' : k < m.length := by omega
        obtain ⟨b1, o1, d1, rfl, -, -, hd1, p0, p1, p2, p3⟩ := (hr.up hup hhi).dec hlt
        obtain ⟨b2, o2, d2, rfl, -, -, hd2, q0, q1, q2, q3⟩ := (hr'.up hup hhi').dec hlt'
        have HD1 := Lib.hid hd1
        have HD2 := Lib.hid hd2
        clear hd1 hd2
        have P0 := cell_regrown p0
        have P1 := cell_regrown p1
        have P2 := cell_regrown p2
        have P3 := cell_regrown p3
        have Q0 := cell_regrown q0
        have Q1 := cell_regrown q1
        have Q2 := cell_regrown q2
        have Q3 := cell_regrown q3
        go_wp2_with fail
        refine wp_region_quiet_below (by kernel_rfl) (by kernel_rfl) ?_
        repeat (quiet_step ((go_at_call 31; exact Calls.regrown_of (eqDecision_any d1 d2 _))))
        refine wpQuiet_nil ?_
        intro w2 hw2
        obtain ⟨⟨dq, osq⟩, hw2⟩ := hw2
        have hup2 : Up wr w2 := by rw [hw2]; exact below_regrown _ _ _
        clear hw2 P0 P1 P2 P3 Q0 Q1 Q2 Q3
        go_wp2
        · have hq : (!eqD d1 d2) = true := by assumption
          go_ret
          exact ⟨ret_bool (eqDs_ne HD1.out HD2.out (by simpa using hq)).symm, hup.trans hup2⟩
        · have hq : (!eqD d1 d2) = false := by assumption
          have hq' : eqD d1 d2 = true := by simpa using hq
          go_roundw
          case rel => exact ⟨k + 1, by omega, by go_num, take_succ_eq HT.out HD1.out (by rw [eqD_iff.1 hq']; exact HD2.out), hup.trans hup2⟩
          case measure => simp [intOf]; omega
      · go_wp2
        go_ret
        exact ⟨ret_bool (eqDs_eq (by rw [show k = l.length by omega] at HT; exact HT.out) HL.out).symm, hup⟩
  · have hb0 : ((l.length : Int) != (m.length : Int)) = true := by rw [bne_iff_ne]; omega
    have H := Lib.hid hne
    clear hne
    go_enter Tryz.func7, Tryz.ntmps7
    go_wp2
    go_ret
    exact ⟨ret_bool (eqDs_len H.out).symm, Up.refl _⟩

theorem eqDs_self (l : List Dec) : eqDs l l = true := by simp [eqDs]
theorem szDs_le : ∀ (l : List Dec) (left : Int), 0 ≤ left → szDs l left ≤ left
  | [], left, _ => Int.le_refl _
  | d :: l, left, h => by
    unfold szDs
    split
    · omega
    · have h1 := szD_le d left h
      have h2 := szDs_le l (szD d left) (by omega)
      omega
theorem szDL_le (l : List Dec) (left : Int) (h : 0 ≤ left) : szDL l left ≤ left := by
  unfold szDL
  split
  · omega
  · have := szDs_le l (left - l.length) (by omega); omega
end Go.Proofs.YtngananoidplmaaGreatDoor
