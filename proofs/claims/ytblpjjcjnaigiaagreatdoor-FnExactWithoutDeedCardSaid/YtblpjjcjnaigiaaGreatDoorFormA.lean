/- The law package's helpers over []string, for formulas. Formulas: what they say, their sizes, and new copies of them. Lists of formulas: their sizes. Lists of formulas: new copies of them. How large formulas are that were counted. Lists of formulas: equality. What the laws over words and formulas use: sizes and copies of lists of words, worlds and all. -/
import Derived.Test.YtblpjjcjnaigiaaGreatDoorTxt
namespace Go.Proofs.YtblpjjcjnaigiaaGreatDoor
open Go.RowKit Go.Sort

/-- the sizes of the first texts, taken from left -/
def szSs : List ByteArray → Int → Int
  | [], z => z
  | x :: l, z => if z < x.size then -1 else szSs l (z - x.size)
def szSL (l : List ByteArray) (left : Int) : Int := if left < l.length then -1 else szSs l (left - l.length)
theorem szSs_yes {l : List ByteArray} {k : Nat} {x : ByteArray} {z : Int} (hx : l[k]? = some x) (h : ¬ z < x.size) : szSs (l.drop k) z = szSs (l.drop (k + 1)) (z - x.size) := by
  have hk := (List.getElem?_eq_some_iff.1 hx).1
  rw [List.drop_eq_getElem_cons hk, (List.getElem?_eq_some_iff.1 hx).2, szSs, if_neg h]
theorem szSs_no {l : List ByteArray} {k : Nat} {x : ByteArray} {z : Int} (hx : l[k]? = some x) (h : z < x.size) : szSs (l.drop k) z = -1 := by
  have hk := (List.getElem?_eq_some_iff.1 hx).1
  rw [List.drop_eq_getElem_cons hk, (List.getElem?_eq_some_iff.1 hx).2, szSs, if_pos h]
theorem szSs_end {l : List ByteArray} {k : Nat} {z : Int} (h : l.length ≤ k) : szSs (l.drop k) z = z := by rw [List.drop_eq_nil_of_le h]; rfl
theorem szSs_le : ∀ (l : List ByteArray) (z : Int), 0 ≤ z → szSs l z ≤ z ∧ (szSs l z < 0 → szSs l z = -1)
  | [], z, h => ⟨Int.le_refl _, fun h2 => by simp only [szSs] at h2; omega⟩
  | x :: l, z, h => by
    unfold szSs
    split
    · exact ⟨by omega, fun _ => rfl⟩
    · have := szSs_le l (z - x.size) (by omega)
      exact ⟨by omega, this.2⟩
theorem szSL_le (l : List ByteArray) (left : Int) (h : 0 ≤ left) : szSL l left ≤ left ∧ (szSL l left < 0 → szSL l left = -1) := by
  unfold szSL; split
  · exact ⟨by omega, fun _ => rfl⟩
  · have := szSs_le l (left - l.length) (by omega)
    exact ⟨by omega, this.2⟩
theorem szSL_len {l : List ByteArray} {left : Int} (_h : 0 ≤ left) (hz : ¬ szSL l left < 0) : (l.length : Int) ≤ left := by
  unfold szSL at hz; split at hz <;> omega
set_option maxHeartbeats 1000000 in
theorem szStringS_any (A : Option Addr) (l : List ByteArray) (c lo hi : Nat) (left : Int) (w : World) (hr : RdT w lo hi A l) (hsz : ∀ x ∈ l, x.size ≤ maxLen) (hn : l.length ≤ maxLen) (h0 : 0 ≤ left) (hl : left ≤ 2000000) :
    Calls Tryz.prog 49 #[.slice A l.length c, .int .i64 left] w fun e w' => e = .returned (.int .i64 (szSL l left)) ∧ w = w' := by
  have hn' := hn
  unfold maxLen at hn'
  by_cases h1 : left < l.length
  · have HE := Lib.hid (show szSL l left = -1 by unfold szSL; rw [if_pos h1])
    have h1' : left - (l.length : Int) < 0 := by omega
    go_enter Tryz.func49, Tryz.ntmps49
    go_wp2
    go_ret
    exact ⟨ret_int HE.out.symm, rfl⟩
  · have HE := Lib.hid (show szSL l left = szSs (l.drop 0) (left - l.length) by unfold szSL; rw [if_neg h1]; rfl)
    have h1' : ¬ left - (l.length : Int) < 0 := by omega
    have HSZ := Lib.hid hsz
    clear hsz
    go_enter Tryz.func49, Tryz.ntmps49
    go_wp2
    go_loop [1, 5] (fun z i => ∃ (k : Nat) (y : Int), k ≤ l.length ∧ i = .int .i64 k ∧ z = .int .i64 y ∧ 0 ≤ y ∧ y ≤ 2000000 ∧ szSs (l.drop 0) (left - l.length) = szSs (l.drop k) y) (fun _ i => l.length - (intOf i).toNat)
    case atStart => exact ⟨0, _, Nat.zero_le _, rfl, rfl, by omega, by omega, rfl⟩
    case round =>
      obtain ⟨k, y, hk, rfl, rfl, hy0, hy1, hs⟩ := hrel
      have HS := Lib.hid hs
      clear hs
      by_cases hlt : k < l.length
      · obtain ⟨b, off, x, rfl, -, -, hx, c0⟩ := hr.txt hlt
        have hxs := HSZ.out x (List.mem_of_getElem? hx)
        unfold maxLen at hxs
        have HX := Lib.hid hx
        clear hx
        by_cases h2 : y < x.size
        · have h2' : y - (x.size : Int) < 0 := by omega
          go_wp2
          go_ret
          exact ⟨ret_int (by rw [HE.out, HS.out, szSs_no HX.out h2]), rfl⟩
        · have h2' : ¬ y - (x.size : Int) < 0 := by omega
          go_wp2
          go_round
          case rel => exact ⟨k + 1, y - x.size, by omega, by go_num, rfl, by omega, by omega, by rw [HS.out, szSs_yes HX.out h2]⟩
          case measure => simp [intOf]; omega
      · go_wp2
        go_ret
        exact ⟨ret_int (by rw [HE.out, HS.out, szSs_end (by omega)]), rfl⟩
set_option maxHeartbeats 1000000 in
theorem toStringS_any (A : Option Addr) (l : List ByteArray) (c lo hi : Nat) (w : World) (hr : RdT w lo hi A l) (hhi : hi ≤ w.heap.size) (hn : l.length ≤ 2000000) :
    Calls Tryz.prog 59 #[.slice A l.length c] w fun e w' => ∃ v, e = .returned v ∧ w'.ownsRow w.heap.size 9 1 v l.length (l.flatMap strC) ∧ Up w w' := by
  obtain ⟨i0, hi0, hz0, hz1, hz2⟩ := info_parts infoString
  go_enter Tryz.func59, Tryz.ntmps59
  go_wp2_with ((refine wpList_make_full _ rfl _ _ 29 rfl w.heap.size 9 i0 _ 1 Tryz.underlying29 hi0 hz0 hz1 _ _ _ _ l.length rfl rfl rfl rfl ?b2 ?b3 ?b4 ?_))
  case b2 => rw [hz2]; omega
  case b3 => unfold maxLen; omega
  case b4 => exact Nat.le_refl _
  intro w1 hown hg
  have hup1 : Up w w1 := (Up.refl w).grown hg (fun k h => by cases h)
  generalize (madeCells _ _).toList = xs0 at hown
  clear hg
  go_wp2
  go_loopw [4] (fun i wr => ∃ k : Nat, ∃ xs, k ≤ l.length ∧ i = .int .i64 k ∧ wr.ownsRow w.heap.size 9 1 (.slice (some ⟨w.heap.size, 0, none⟩) l.length l.length) l.length xs ∧ xs.take k = (l.take k).flatMap strC ∧ Up w wr) (fun i _ => l.length - (intOf i).toNat)
  case atStart => exact ⟨0, _, Nat.zero_le _, rfl, hown, by simp, hup1⟩
  case round =>
    obtain ⟨k, xs, hk, rfl, hown, hxs, hup⟩ := hrel
    have HX := Lib.hid hxs
    clear hxs
    by_cases hlt : k < l.length
    · obtain ⟨b, off, d, rfl, hlo, hb, hd, q0⟩ := (hr.up hup hhi).txt hlt
      have HD := Lib.hid hd
      clear hd
      obtain ⟨u0, r0⟩ := own_cell hown (p := k) (by omega)
      have z0 := hown.frozenAt k
      go_wp2
      go_roundw
      case rel => exact ⟨k + 1, _, by omega, by go_num, (hown.stored _ _).1, by rw [take_set_succ (by rw [hown.1]; omega), HX.out, take_flat_succ _ HD.out], hup.setCell (by simp) _⟩
      case measure => simp [intOf]; omega
    · go_wp2
      go_ret
      have hk2 : k = l.length := by omega
      subst hk2
      have hx := HX.out
      rw [List.take_of_length_le (by rw [hown.1]; omega), List.take_of_length_le (Nat.le_refl _)] at hx
      subst hx
      exact ⟨_, rfl, hown, hup⟩

def eqSs (l m : List ByteArray) : Bool := decide (l = m)
theorem eqSs_self (l : List ByteArray) : eqSs l l = true := by simp [eqSs]
theorem eqSs_len {l m : List ByteArray} (h : l.length ≠ m.length) : eqSs l m = false := by unfold eqSs; rw [decide_eq_false_iff_not]; rintro rfl; exact h rfl
theorem eqSs_ne {l m : List ByteArray} {k : Nat} {a b : ByteArray} (ha : l[k]? = some a) (hb : m[k]? = some b) (h : (!a.toList == b.toList) = true) : eqSs l m = false := by
  unfold eqSs; rw [decide_eq_false_iff_not]; rintro rfl
  rw [ha] at hb; cases hb
  simp at h
theorem eqSs_eq {l m : List ByteArray} (h : l.take l.length = m.take l.length) (hl : l.length = m.length) : eqSs l m = true := by
  unfold eqSs; rw [decide_eq_true_iff]
  rwa [List.take_of_length_le (Nat.le_refl _), hl, List.take_of_length_le (Nat.le_refl _)] at h
set_option maxHeartbeats 1000000 in
theorem eqStringS_any (A B : Option Addr) (l m : List ByteArray) (c c' lo hi lo' hi' : Nat) (w : World) (hr : RdT w lo hi A l) (hhi : hi ≤ w.heap.size) (hr' : RdT w lo' hi' B m) (hhi' : hi' ≤ w.heap.size) (hn : l.length ≤ 2000000) :
    Calls Tryz.prog 78 #[.slice A l.length c, .slice B m.length c'] w fun e w' => e = .returned (.bool (eqSs l m)) ∧ Up w w' := by
  by_cases hne : l.length = m.length
  · have HL := Lib.hid hne
    have hb0 : ((l.length : Int) != (m.length : Int)) = false := by simp [hne]
    have hlm : l.length ≤ m.length := by omega
    clear hne
    go_enter Tryz.func78, Tryz.ntmps78
    go_wp2
    go_loopw [5] (fun i wr => ∃ k : Nat, k ≤ l.length ∧ i = .int .i64 k ∧ l.take k = m.take k ∧ Up w wr) (fun i _ => l.length - (intOf i).toNat)
    case atStart => exact ⟨0, Nat.zero_le _, rfl, by simp, Up.refl _⟩
    case round =>
      obtain ⟨k, hk, rfl, ht, hup⟩ := hrel
      have HT := Lib.hid ht
      clear ht
      by_cases hlt : k < l.length
      · have hlt' : k < m.length := by omega
        obtain ⟨b1, o1, d1, rfl, -, -, hd1, p0⟩ := (hr.up hup hhi).txt hlt
        obtain ⟨b2, o2, d2, rfl, -, -, hd2, q0⟩ := (hr'.up hup hhi').txt hlt'
        have HD1 := Lib.hid hd1
        have HD2 := Lib.hid hd2
        clear hd1 hd2
        have P0 := cell_regrown p0
        have Q0 := cell_regrown q0
        go_wp2_with fail
        refine wp_region_quiet_below (by kernel_rfl) (by kernel_rfl) ?_
        repeat (quiet_step (fail))
        refine wpQuiet_nil ?_
        intro w2 hw2
        obtain ⟨⟨dq, osq⟩, hw2⟩ := hw2
        have hup2 : Up wr w2 := by rw [hw2]; exact below_regrown _ _ _
        clear hw2 P0 Q0
        go_wp2
        · have hq : (!d1.toList == d2.toList) = true := by assumption
          go_ret
          exact ⟨ret_bool (eqSs_ne HD1.out HD2.out hq).symm, hup.trans hup2⟩
        · have hq : (!d1.toList == d2.toList) = false := by assumption
          have hq' : d1 = d2 := bytes_inj.1 (by simpa using hq)
          have HQ := Lib.hid hq'
          clear hq'
          go_roundw
          case rel => exact ⟨k + 1, by omega, by go_num, take_succ_eq HT.out HD1.out (by rw [HQ.out]; exact HD2.out), hup.trans hup2⟩
          case measure => simp [intOf]; omega
      · go_wp2
        go_ret
        exact ⟨ret_bool (eqSs_eq (by rw [show k = l.length by omega] at HT; exact HT.out) HL.out).symm, hup⟩
  · have hb0 : ((l.length : Int) != (m.length : Int)) = true := by rw [bne_iff_ne]; omega
    have H := Lib.hid hne
    clear hne
    go_enter Tryz.func78, Tryz.ntmps78
    go_wp2
    go_ret
    exact ⟨ret_bool (eqSs_len H.out).symm, Up.refl _⟩

end Go.Proofs.YtblpjjcjnaigiaaGreatDoor

namespace Go.Proofs.YtblpjjcjnaigiaaGreatDoor
open Go.RowKit Go.Sort

structure Fm where
  A : Option Addr
  c : Nat
  ws : List ByteArray
  fr : Int
  to_ : Int
abbrev Fm.cells (x : Fm) : List Value := [.slice x.A x.ws.length x.c, .int .i64 x.fr, .int .i64 x.to_]
abbrev Fm.val (x : Fm) : Value := .agg #[.slice x.A x.ws.length x.c, .int .i64 x.fr, .int .i64 x.to_]
/-- what a formula says -/
def Fm.p (x : Fm) : List ByteArray × Int × Int := (x.ws, x.fr, x.to_)
def Fm.ok' (x : Fm) : Prop := x.ws.length ≤ x.c ∧ x.c ≤ maxLen
def Fm.ok (x : Fm) : Prop := (∀ s ∈ x.ws, s.size ≤ maxLen) ∧ x.ws.length ≤ x.c ∧ x.c ≤ maxLen
theorem fm_len (x : Fm) : x.cells.length = 3 := rfl
def RdF (w : World) (lo hi : Nat) (A : Option Addr) (l : List Fm) : Prop := Rd w lo hi 3 Fm.cells A l ∧ ∀ x ∈ l, RdT w lo hi x.A x.ws
theorem RdF.up {w w' : World} {lo hi : Nat} {A : Option Addr} {l : List Fm} (h : RdF w lo hi A l) (hu : Up w w') (hB : hi ≤ w.heap.size) : RdF w' lo hi A l :=
  ⟨h.1.up hu hB, fun x hx => (h.2 x hx).up hu hB⟩
theorem RdF.at_ {w : World} {lo hi : Nat} {A : Option Addr} {l : List Fm} (h : RdF w lo hi A l) {k : Nat} (hk : k < l.length) :
    ∃ b off x, A = some ⟨b, off, none⟩ ∧ lo ≤ b ∧ b < hi ∧ l[k]? = some x ∧ RdT w lo hi x.A x.ws ∧ w.cell? ⟨b, off + k * 3, none⟩ = some (.slice x.A x.ws.length x.c) ∧ w.cell? ⟨b, off + k * 3 + 1, none⟩ = some (.int .i64 x.fr) ∧ w.cell? ⟨b, off + k * 3 + 2, none⟩ = some (.int .i64 x.to_) := by
  obtain ⟨b, off, x, e, h1, h2, h3, h4⟩ := Rd.at_ h.1 hk
  exact ⟨b, off, x, e, h1, h2, h3, h.2 x (List.mem_of_getElem? h3), h4 0 _ rfl, h4 1 _ rfl, h4 2 _ rfl⟩

set_option maxHeartbeats 1000000 in
theorem szFormula_any (x : Fm) (lo hi : Nat) (left : Int) (w : World) (hr : RdT w lo hi x.A x.ws) (hhi : hi ≤ w.heap.size) (hok : x.ok) (h0 : 0 ≤ left) (hl : left ≤ 2000000) :
    Calls Tryz.prog 48 #[x.val, .int .i64 left] w fun e w' => e = .returned (.int .i64 (szSL x.ws left)) ∧ Up w w' := by
  have hb := Up.alloc w (.cells #[.slice x.A x.ws.length x.c, .int .i64 x.fr, .int .i64 x.to_] 106)
  have HS := Lib.hid (szStringS_any x.A x.ws x.c lo hi left _ (hr.up hb hhi) hok.1 (Nat.le_trans hok.2.1 hok.2.2) h0 hl)
  have hle := szSL_le x.ws left h0
  by_cases h1 : szSL x.ws left < 0
  · have HE := Lib.hid (hle.2 h1)
    have hle1 := hle.1
    clear hle hok
    go_enter Tryz.func48, Tryz.ntmps48
    go_wp2_with (go_at_call 49; refine HS.out.mono ?_; rintro e w1 ⟨rfl, rfl⟩)
    go_ret
    exact ⟨ret_int HE.out.symm, hb⟩
  · have hle1 := hle.1
    clear hle hok
    go_enter Tryz.func48, Tryz.ntmps48
    go_wp2_with (go_at_call 49; refine HS.out.mono ?_; rintro e w1 ⟨rfl, rfl⟩)
    go_ret
    exact ⟨rfl, hb⟩

set_option maxHeartbeats 2000000 in
theorem toFormula_any (x : Fm) (lo hi : Nat) (w : World) (hr : RdT w lo hi x.A x.ws) (hhi : hi ≤ w.heap.size) (hn : x.ws.length ≤ 2000000) :
    Calls Tryz.prog 58 #[x.val] w fun e w' => ∃ y : Fm, e = .returned y.val ∧ y.p = x.p ∧ y.ok' ∧ w'.ownsRow w.heap.size 9 1 (.slice y.A y.ws.length y.c) y.ws.length (y.ws.flatMap strC) ∧ Up w w' := by
  go_enter Tryz.func58, Tryz.ntmps58
  go_wp2_with fail
  refine (toStringS_any x.A x.ws x.c lo hi _ (Rd.up hr ?hu hhi) ?hs hn).mono ?_
  case hu => repeat (first | exact Up.alloc _ _ | refine Up.allocs ?_ _)
  case hs => simp; omega
  rintro e w2 ⟨v, rfl, hown, hup⟩
  obtain ⟨A', c', rfl, h1, h2, -, -⟩ := own_form hown
  have q0 := hup.cell (a := ⟨w.heap.size, 1, none⟩) (v := .int .i64 x.fr) (by go_simp)
  have q1 := hup.cell (a := ⟨w.heap.size, 2, none⟩) (v := .int .i64 x.to_) (by go_simp)
  have r0 := hup.cell (a := ⟨w.heap.size + 1, 0, none⟩) (v := .slice none 0 0) (by go_simp)
  have r1 := hup.cell (a := ⟨w.heap.size + 1, 1, none⟩) (v := .int .i64 0) (by go_simp)
  have r2 := hup.cell (a := ⟨w.heap.size + 1, 2, none⟩) (v := .int .i64 0) (by go_simp)
  have o0 := hup.cell (a := ⟨w.heap.size + 1 + 1, 0, none⟩) (v := .slice none 0 0) (by go_simp)
  have o1 := hup.cell (a := ⟨w.heap.size + 1 + 1, 1, none⟩) (v := .int .i64 0) (by go_simp)
  have o2 := hup.cell (a := ⟨w.heap.size + 1 + 1, 2, none⟩) (v := .int .i64 0) (by go_simp)
  have f0 : w2.frozen? ⟨w.heap.size + 1, 0, none⟩ = false := (Below.frozen hup (p := ⟨w.heap.size + 1, 0, none⟩) (by simp)).trans (by go_simp)
  have f1 : w2.frozen? ⟨w.heap.size + 1, 1, none⟩ = false := (Below.frozen hup (p := ⟨w.heap.size + 1, 1, none⟩) (by simp)).trans (by go_simp)
  have f2 : w2.frozen? ⟨w.heap.size + 1, 2, none⟩ = false := (Below.frozen hup (p := ⟨w.heap.size + 1, 2, none⟩) (by simp)).trans (by go_simp)
  have g0 : w2.frozen? ⟨w.heap.size + 1 + 1, 0, none⟩ = false := (Below.frozen hup (p := ⟨w.heap.size + 1 + 1, 0, none⟩) (by simp)).trans (by go_simp)
  have g1 : w2.frozen? ⟨w.heap.size + 1 + 1, 1, none⟩ = false := (Below.frozen hup (p := ⟨w.heap.size + 1 + 1, 1, none⟩) (by simp)).trans (by go_simp)
  have g2 : w2.frozen? ⟨w.heap.size + 1 + 1, 2, none⟩ = false := (Below.frozen hup (p := ⟨w.heap.size + 1 + 1, 2, none⟩) (by simp)).trans (by go_simp)
  have hsz : w.heap.size + 3 ≤ w2.heap.size := by have := hup.size; simp at this; omega
  have hwu : Up w w2 := Up.trans (by repeat (first | exact Up.alloc _ _ | refine Up.allocs ?_ _)) hup
  have hown1 := own_base (base' := w.heap.size + 3) hown (by simp)
  clear hup hown
  go_wp2
  refine bodyPost_ret (v := (Fm.mk A' c' x.ws x.fr x.to_).val) (by simp [results, Tryz.results58, go_sem, r0, r1, r2]) rfl ⟨⟨A', c', x.ws, x.fr, x.to_⟩, rfl, rfl, ⟨h1, h2⟩, own_base (base := w.heap.size + 3) ?_ (by omega), ?_⟩
  · iterate 6 refine ownsRow_setCell_below ?_ (by first | (simp; done) | (simp; omega)) _
    exact hown1
  · iterate 6 refine Up.setCell ?_ (by first | (simp; done) | (simp; omega)) _
    exact hwu

def eqF (a b : Fm) : Bool := decide (a.p = b.p)
theorem eqF_a {a b : Fm} (h : eqSs a.ws b.ws = false) : eqF a b = false := by
  unfold eqF; rw [decide_eq_false_iff_not]; intro e
  have : a.ws = b.ws := congrArg Prod.fst e
  rw [this, eqSs_self] at h; cases h
theorem eqF_b {a b : Fm} (h : (a.fr != b.fr) = true) : eqF a b = false := by
  unfold eqF; rw [decide_eq_false_iff_not]; intro e
  have : a.fr = b.fr := congrArg (fun x => x.2.1) e
  rw [this] at h; simp at h
theorem eqF_c {a b : Fm} (h : (a.to_ != b.to_) = true) : eqF a b = false := by
  unfold eqF; rw [decide_eq_false_iff_not]; intro e
  have : a.to_ = b.to_ := congrArg (fun x => x.2.2) e
  rw [this] at h; simp at h
theorem eqF_0 {a b : Fm} (h : eqSs a.ws b.ws = true) (h1 : (a.fr != b.fr) = false) (h2 : (a.to_ != b.to_) = false) : eqF a b = true := by
  unfold eqF; rw [decide_eq_true_iff]; unfold Fm.p
  unfold eqSs at h
  rw [of_decide_eq_true h, show a.fr = b.fr by simpa using h1, show a.to_ = b.to_ by simpa using h2]
set_option maxHeartbeats 1000000 in
theorem eqFormula_any (a b : Fm) (lo hi lo' hi' : Nat) (w : World) (hr : RdT w lo hi a.A a.ws) (hhi : hi ≤ w.heap.size) (hr' : RdT w lo' hi' b.A b.ws) (hhi' : hi' ≤ w.heap.size) (hn : a.ws.length ≤ 2000000) :
    Calls Tryz.prog 77 #[a.val, b.val] w fun e w' => e = .returned (.bool (eqF a b)) ∧ Up w w' := by
  have hub := (Up.alloc w (.cells #[.slice a.A a.ws.length a.c, .int .i64 a.fr, .int .i64 a.to_] 110)).allocs (.cells #[.slice b.A b.ws.length b.c, .int .i64 b.fr, .int .i64 b.to_] 110)
  have hq := eqStringS_any a.A b.A a.ws b.ws a.c b.c lo hi lo' hi' _ (hr.up hub hhi) (Nat.le_trans hhi hub.size) (hr'.up hub hhi') (Nat.le_trans hhi' hub.size) hn
  obtain ⟨bb, hbb⟩ : ∃ x, x = eqSs a.ws b.ws := ⟨_, rfl⟩
  rw [← hbb] at hq
  have HQ := Lib.hid hq
  have HB := Lib.hid hbb.symm
  clear hq hbb
  cases bb
  · have HE := Lib.hid (eqF_a HB.out)
    go_enter Tryz.func77, Tryz.ntmps77
    go_wp2_with fail
    refine HQ.out.mono ?_
    rintro e w1 ⟨rfl, hup⟩
    go_wp2
    go_ret
    exact ⟨ret_bool HE.out.symm, hub.trans hup⟩
  · rcases h1 : a.fr != b.fr with _ | _
    · rcases h2 : a.to_ != b.to_ with _ | _
      · have HE := Lib.hid (eqF_0 HB.out h1 h2)
        go_enter Tryz.func77, Tryz.ntmps77
        go_wp2_with fail
        refine HQ.out.mono ?_
        rintro e w1 ⟨rfl, hup⟩
        have c1 := hup.cell (a := ⟨w.heap.size, 1, none⟩) (v := .int .i64 a.fr) (by go_simp)
        have c2 := hup.cell (a := ⟨w.heap.size, 2, none⟩) (v := .int .i64 a.to_) (by go_simp)
        have d1 := hup.cell (a := ⟨w.heap.size + 1, 1, none⟩) (v := .int .i64 b.fr) (by go_simp)
        have d2 := hup.cell (a := ⟨w.heap.size + 1, 2, none⟩) (v := .int .i64 b.to_) (by go_simp)
        go_wp2
        go_ret
        exact ⟨ret_bool HE.out.symm, hub.trans hup⟩
      · have HE := Lib.hid (eqF_c h2)
        go_enter Tryz.func77, Tryz.ntmps77
        go_wp2_with fail
        refine HQ.out.mono ?_
        rintro e w1 ⟨rfl, hup⟩
        have c1 := hup.cell (a := ⟨w.heap.size, 1, none⟩) (v := .int .i64 a.fr) (by go_simp)
        have c2 := hup.cell (a := ⟨w.heap.size, 2, none⟩) (v := .int .i64 a.to_) (by go_simp)
        have d1 := hup.cell (a := ⟨w.heap.size + 1, 1, none⟩) (v := .int .i64 b.fr) (by go_simp)
        have d2 := hup.cell (a := ⟨w.heap.size + 1, 2, none⟩) (v := .int .i64 b.to_) (by go_simp)
        go_wp2
        go_ret
        exact ⟨ret_bool HE.out.symm, hub.trans hup⟩
    · have HE := Lib.hid (eqF_b h1)
      go_enter Tryz.func77, Tryz.ntmps77
      go_wp2_with fail
      refine HQ.out.mono ?_
      rintro e w1 ⟨rfl, hup⟩
      have c1 := hup.cell (a := ⟨w.heap.size, 1, none⟩) (v := .int .i64 a.fr) (by go_simp)
      have d1 := hup.cell (a := ⟨w.heap.size + 1, 1, none⟩) (v := .int .i64 b.fr) (by go_simp)
      go_wp2
      go_ret
      exact ⟨ret_bool HE.out.symm, hub.trans hup⟩
end Go.Proofs.YtblpjjcjnaigiaaGreatDoor

namespace Go.Proofs.YtblpjjcjnaigiaaGreatDoor
open Go.RowKit Go.Sort

def szFs : List Fm → Int → Int
  | [], z => z
  | d :: l, z => if szSL d.ws z < 0 then -1 else szFs l (szSL d.ws z)
def szFL (l : List Fm) (left : Int) : Int := if left < l.length then -1 else szFs l (left - l.length)
theorem szFL_a {l : List Fm} {left : Int} (h : left < l.length) : szFL l left = -1 := by unfold szFL; rw [if_pos h]
theorem szFL_b {l : List Fm} {left : Int} (h : ¬ left < l.length) : szFL l left = szFs l (left - l.length) := by unfold szFL; rw [if_neg h]
theorem szFs_yes {l : List Fm} {k : Nat} {d : Fm} {z : Int} (hd : l[k]? = some d) (h : ¬ szSL d.ws z < 0) : szFs (l.drop k) z = szFs (l.drop (k + 1)) (szSL d.ws z) := by
  obtain ⟨hk, e⟩ := List.getElem?_eq_some_iff.1 hd
  rw [List.drop_eq_getElem_cons hk, e]
  simp only [szFs]; rw [if_neg h]
theorem szFs_no {l : List Fm} {k : Nat} {d : Fm} {z : Int} (hd : l[k]? = some d) (h : szSL d.ws z < 0) : szFs (l.drop k) z = -1 := by
  obtain ⟨hk, e⟩ := List.getElem?_eq_some_iff.1 hd
  rw [List.drop_eq_getElem_cons hk, e]
  simp only [szFs]; rw [if_pos h]
theorem szFs_end {l : List Fm} {k : Nat} {z : Int} (h : l.length ≤ k) : szFs (l.drop k) z = z := by rw [List.drop_eq_nil_of_le h]; rfl

set_option maxHeartbeats 1000000 in
theorem szFormulaS_any (A : Option Addr) (l : List Fm) (c lo hi : Nat) (left : Int) (w : World) (hr : RdF w lo hi A l) (hhi : hi ≤ w.heap.size) (hok : ∀ d ∈ l, d.ok) (h0 : 0 ≤ left) (hl : left ≤ 2000000) (hn : l.length ≤ maxLen) :
    Calls Tryz.prog 13 #[.slice A l.length c, .int .i64 left] w fun e w' => e = .returned (.int .i64 (szFL l left)) ∧ Up w w' := by
  unfold maxLen at hn
  by_cases c1 : left < l.length
  · go_enter Tryz.func13, Tryz.ntmps13
    go_wp2
    go_ret
    exact ⟨ret_int (szFL_a (by omega)).symm, Up.refl _⟩
  · go_enter Tryz.func13, Tryz.ntmps13
    have hb0 : decide (left - (l.length : Int) < 0) = false := by simp; omega
    go_wp2
    go_loopw [4, 1, 5] (fun r lf i wr => ∃ k : Nat, ∃ z : Int, k ≤ l.length ∧ i = .int .i64 k ∧ lf = .int .i64 z ∧ 0 ≤ z ∧ z ≤ left ∧ szFs l (left - l.length) = szFs (l.drop k) z ∧ Up w wr) (fun _ _ i _ => l.length - (intOf i).toNat)
    case atStart => exact ⟨0, _, Nat.zero_le _, rfl, rfl, by omega, by omega, rfl, Up.refl _⟩
    case round =>
      obtain ⟨k, z, hk, rfl, rfl, hz0, hz1, hs, hup⟩ := hrel
      have HS := Lib.hid hs
      clear hs
      by_cases hlt : k < l.length
      · obtain ⟨b, off, d, rfl, hlo, hb, hd, hin, q0, q1, q2⟩ := (hr.up hup hhi).at_ hlt
        have HD := Lib.hid hd
        have hcall := fun (wx : World) (hx : Up wr wx) => szFormula_any d lo hi z wx (hin.up hx (Nat.le_trans hhi hup.size)) (Nat.le_trans (Nat.le_trans hhi hup.size) hx.size) (hok d (List.mem_of_getElem? HD.out)) (by omega) (by omega)
        clear hd hin
        have hle := (szSL_le d.ws z hz0).1
        by_cases c2 : szSL d.ws z < 0
        · have hdec : decide (szSL d.ws z < 0) = true := by simpa using c2
          go_wp2_with (go_at_call 48; refine (hcall _ (by first | exact Up.refl _ | exact Up.alloc _ _)).mono ?_; rintro e w' ⟨rfl, hup'⟩)
          go_ret
          exact ⟨ret_int (by rw [szFL_b (by omega), HS.out, szFs_no HD.out (by omega)]), hup.trans hup'⟩
        · have hdec : decide (szSL d.ws z < 0) = false := by simpa using c2
          go_wp2_with (go_at_call 48; refine (hcall _ (by first | exact Up.refl _ | exact Up.alloc _ _)).mono ?_; rintro e w' ⟨rfl, hup'⟩)
          go_roundw
          case rel => exact ⟨k + 1, _, by omega, by go_num, rfl, by omega, by omega, by rw [HS.out, szFs_yes HD.out (by omega)], hup.trans hup'⟩
          case measure => simp [intOf]; omega
      · go_wp2
        go_ret
        exact ⟨ret_int (by rw [szFL_b (by omega), HS.out, szFs_end (by omega)]), hup⟩
end Go.Proofs.YtblpjjcjnaigiaaGreatDoor

namespace Go.Proofs.YtblpjjcjnaigiaaGreatDoor
open Go.RowKit Go.Sort

theorem infoFm : (Tryz.prog.info? 110).map (fun i => (i.zero, i.size, i.bytes)) = some (some (.agg #[.slice none 0 0, .int .i64 0, .int .i64 0]), 3, 40) := by kernel_rfl

abbrev Fm.sl (x : Fm) : Value := .slice x.A x.ws.length x.c
/-- no two formulas' words lie in one block -/
def DistF (L : List Fm) : Prop := ∀ (i j : Nat) (x y : Fm), i < j → L[i]? = some x → L[j]? = some y → ∀ b, x.sl.ownBlock = some b → y.sl.ownBlock ≠ some b
theorem DistF.nil_ : DistF [] := fun i j x y _ h => by simp at h
theorem DistF.snoc {L : List Fm} {y : Fm} (h : DistF L) (hy : ∀ x ∈ L, ∀ b, x.sl.ownBlock = some b → y.sl.ownBlock ≠ some b) : DistF (L ++ [y]) := by
  intro i j x z hij hi hj b hb
  rcases Nat.lt_or_ge j L.length with h1 | h1
  · rw [List.getElem?_append_left h1] at hj
    rw [List.getElem?_append_left (by omega)] at hi
    exact h i j x z hij hi hj b hb
  · have hj' : j = L.length := by
      have := (List.getElem?_eq_some_iff.1 hj).1
      simp at this; omega
    subst hj'
    rw [List.getElem?_append_left hij] at hi
    rw [List.getElem?_append_right (Nat.le_refl _)] at hj
    simp at hj; subst hj
    exact hy x (List.mem_of_getElem? hi) b hb
/-- a list of formulas that the call itself made -/
def OwnF (w : World) (g0 : Nat) (A : Option Addr) (n c : Nat) (L : List Fm) : Prop :=
  ∃ g, g0 ≤ g ∧ w.ownsRow g 110 3 (.slice A n c) n (L.flatMap Fm.cells) ∧ (∀ y ∈ L, y.ok' ∧ w.ownsRow (g + 1) 9 1 y.sl y.ws.length (y.ws.flatMap strC)) ∧ DistF L ∧ In (.slice A n c) g (g + 1)

theorem fm_set3 {xs : List Value} {L : List Fm} {k : Nat} {y : Fm} {n : Nat} (hx : xs.length = n * 3) (hk : k < n) (ht : xs.take (k * 3) = L.flatMap Fm.cells) :
    (((xs.set (k * 3) y.sl).set (k * 3 + 1) (.int .i64 y.fr)).set (k * 3 + 2) (.int .i64 y.to_)).take ((k + 1) * 3) = (L ++ [y]).flatMap Fm.cells := by
  rw [show (k + 1) * 3 = k * 3 + 2 + 1 by omega, take_set_succ (by simp; omega), take_set_succ (by simp; omega), take_set_succ (by omega), ht]
  simp

set_option maxRecDepth 100000 in
set_option maxHeartbeats 2000000 in
theorem toFormulaS_any (A : Option Addr) (l : List Fm) (c lo hi : Nat) (w : World) (hr : RdF w lo hi A l) (hhi : hi ≤ w.heap.size) (hn : l.length ≤ 2000000) (hrs : ∀ x ∈ l, x.ws.length ≤ 2000000) :
    Calls Tryz.prog 21 #[.slice A l.length c] w fun e w' => ∃ A' c' L, e = .returned (.slice A' l.length c') ∧ L.length = l.length ∧ L.map Fm.p = l.map Fm.p ∧ l.length ≤ c' ∧ c' ≤ maxLen ∧ OwnF w' w.heap.size A' l.length c' L ∧ Up w w' := by
  obtain ⟨i0, hi0, hz0, hz1, hz2⟩ := info_parts infoFm
  go_enter Tryz.func21, Tryz.ntmps21
  go_wp2_with ((refine wpList_make_full _ rfl _ _ 58 rfl w.heap.size 110 i0 _ 3 Tryz.underlying58 hi0 hz0 hz1 _ _ _ _ l.length rfl rfl rfl rfl ?b2 ?b3 ?b4 ?_))
  case b2 => rw [hz2]; omega
  case b3 => unfold maxLen; omega
  case b4 => exact Nat.le_refl _
  intro w1 hown hg
  have hup1 : Up w w1 := (Up.refl w).grown hg (fun k h => by cases h)
  generalize (madeCells _ _).toList = xs0 at hown
  clear hg
  go_wp2
  go_loopw [4] (fun i wr => ∃ k : Nat, ∃ xs, ∃ L : List Fm, k ≤ l.length ∧ i = .int .i64 k ∧ L.length = k ∧ wr.ownsRow w.heap.size 110 3 (.slice (some ⟨w.heap.size, 0, none⟩) l.length l.length) l.length xs ∧ xs.take (k * 3) = L.flatMap Fm.cells ∧ L.map Fm.p = (l.take k).map Fm.p ∧
      (∀ y ∈ L, y.ok' ∧ wr.ownsRow (w.heap.size + 1) 9 1 y.sl y.ws.length (y.ws.flatMap strC)) ∧ DistF L ∧ Up w wr) (fun i _ => l.length - (intOf i).toNat)
  case atStart => exact ⟨0, _, [], Nat.zero_le _, rfl, rfl, hown, by simp, by simp, by simp, DistF.nil_, hup1⟩
  case round =>
    obtain ⟨k, xs, L, hk, rfl, hL, hown, hxs, hmap, hin, hdis, hup⟩ := hrel
    have HX := Lib.hid hxs
    have HL := Lib.hid hL
    have HM := Lib.hid hmap
    have HIN := Lib.hid hin
    have HDI := Lib.hid hdis
    clear hxs hL hmap hin hdis
    by_cases hlt : k < l.length
    · obtain ⟨b, off, d, rfl, hlo, hb, hd, hrd, q0, q1, q2⟩ := (hr.up hup hhi).at_ hlt
      have HD := Lib.hid hd
      clear hd
      have hgs : w.heap.size < wr.heap.size := by
        obtain ⟨A', c', hv, -, -, hA, -⟩ := own_form hown
        simp only [Value.slice.injEq] at hv
        obtain ⟨rfl, -, -⟩ := hv
        obtain ⟨g', e, -, h⟩ := hA (by omega)
        cases e; exact h
      go_wp2_with (go_at_call 58; refine (toFormula_any d lo hi _ hrd (Nat.le_trans hhi hup.size) (hrs d (List.mem_of_getElem? HD.out))).mono ?_; rintro e w' ⟨y, rfl, hyp, hyo, hyw, hup'⟩; have HY := Lib.hid hyp; clear hyp; have hown' := own_up hown hup'; obtain ⟨u0, r0⟩ := own_cell hown' (p := k * 3) (by omega); obtain ⟨u1, r1⟩ := own_cell hown' (p := k * 3 + 1) (by omega); obtain ⟨u2, r2⟩ := own_cell hown' (p := k * 3 + 2) (by omega); have z0 := hown'.frozenAt (k * 3); have z1 := hown'.frozenAt (k * 3 + 1); have z2 := hown'.frozenAt (k * 3 + 2))
      go_roundw
      case rel => exact ⟨k + 1, _, L ++ [y], by omega, by go_num, by rw [List.length_append, HL.out]; rfl, (((hown'.stored _ _).1.stored _ _).1.stored _ _).1, fm_set3 hown'.1 hlt HX.out,
        by rw [List.map_append, HM.out, List.take_succ_eq_append_getElem hlt, List.map_append, (List.getElem?_eq_some_iff.1 HD.out).2]; simp [HY.out],
        fun z hz => by
          rcases List.mem_append.1 hz with h | h
          · have h1 := HIN.out z h
            exact ⟨h1.1, ownsRow_setCell_below (ownsRow_setCell_below (ownsRow_setCell_below (own_up h1.2 hup') (by simp) _) (by simp) _) (by simp) _⟩
          · simp at h; subst h
            exact ⟨hyo, ownsRow_setCell_below (ownsRow_setCell_below (ownsRow_setCell_below (own_base hyw hgs) (by simp) _) (by simp) _) (by simp) _⟩,
        HDI.out.snoc (fun x hx b hb hb' => by
          have h1 := ((HIN.out x hx).2.lt b hb).2
          have h2 := (hyw.lt b hb').1
          omega),
        (((hup.trans hup').setCell (by simp) _).setCell (by simp) _).setCell (by simp) _⟩
      case measure => simp [intOf]; omega
    · go_wp2
      go_ret
      have hk2 : k = l.length := by omega
      have hx := HX.out
      have hm := HM.out
      rw [hk2] at hx hm
      rw [List.take_of_length_le (by rw [hown.1]; omega)] at hx
      rw [List.take_of_length_le (Nat.le_refl _)] at hm
      subst hx
      exact ⟨_, _, L, rfl, by rw [HL.out, hk2], hm, Nat.le_refl _, by unfold maxLen; omega, ⟨w.heap.size, Nat.le_refl _, hown, HIN.out, HDI.out, fun g hg => by simp [Value.ownBlock] at hg; omega⟩, hup⟩

theorem OwnF.up {w w' : World} {g0 n c : Nat} {A : Option Addr} {L : List Fm} (h : OwnF w g0 A n c L) (hu : Up w w') : OwnF w' g0 A n c L := by
  obtain ⟨g, h1, h2, h3, h4, h5⟩ := h
  exact ⟨g, h1, own_up h2 hu, fun y hy => ⟨(h3 y hy).1, own_up (h3 y hy).2 hu⟩, h4, h5⟩
theorem OwnF.rd {w : World} {g0 c : Nat} {A : Option Addr} {L : List Fm} (h : OwnF w g0 A L.length c L) : RdF w g0 w.heap.size A L := by
  obtain ⟨g, h1, h2, h3, -, -⟩ := h
  exact ⟨(Rd.own fm_len h2).wide h1 (Nat.le_refl _), fun x hx => (Rd.own strC_len (h3 x hx).2).wide (by omega) (Nat.le_refl _)⟩
end Go.Proofs.YtblpjjcjnaigiaaGreatDoor

namespace Go.Proofs.YtblpjjcjnaigiaaGreatDoor
open Go.RowKit Go.Sort

theorem szFs_len : ∀ (l : List Fm) (z : Int), 0 ≤ z → ¬ szFs l z < 0 → szFs l z ≤ z ∧ ∀ x ∈ l, (x.ws.length : Int) ≤ z
  | [], z, _, _ => ⟨Int.le_refl _, by simp⟩
  | d :: l, z, h0, h => by
    simp only [szFs] at h ⊢
    by_cases hd : szSL d.ws z < 0
    · rw [if_pos hd] at h; exact absurd (by omega) h
    · rw [if_neg hd] at h ⊢
      have h1 := szSL_le d.ws z h0
      have h2 := szSL_len h0 hd
      have h3 := szFs_len l _ (by omega) h
      refine ⟨by omega, fun x hx => ?_⟩
      rcases List.mem_cons.1 hx with rfl | hx
      · exact h2
      · have := h3.2 x hx; omega
theorem szFL_len {l : List Fm} {z : Int} (_h0 : 0 ≤ z) (h : ¬ szFL l z < 0) : szFL l z ≤ z ∧ (l.length : Int) ≤ z ∧ ∀ x ∈ l, (x.ws.length : Int) ≤ z := by
  by_cases c1 : z < l.length
  · rw [szFL_a c1] at h; exact absurd (by omega) h
  · rw [szFL_b c1] at h ⊢
    have h1 := szFs_len l (z - l.length) (by omega) h
    refine ⟨by omega, by omega, fun x hx => ?_⟩
    have := h1.2 x hx; omega
end Go.Proofs.YtblpjjcjnaigiaaGreatDoor

namespace Go.Proofs.YtblpjjcjnaigiaaGreatDoor
open Go.RowKit Go.Sort

def eqFs (L M : List Fm) : Bool := decide (L.map Fm.p = M.map Fm.p)
theorem eqFs_len {l m : List Fm} (h : l.length ≠ m.length) : eqFs l m = false := by unfold eqFs; rw [decide_eq_false_iff_not]; intro e; apply h; simpa using congrArg List.length e
theorem eqFs_ne {l m : List Fm} {k : Nat} {a b : Fm} (ha : l[k]? = some a) (hb : m[k]? = some b) (h : eqF a b = false) : eqFs l m = false := by
  unfold eqFs; rw [decide_eq_false_iff_not]; intro e
  have e2 : (l.map Fm.p)[k]? = (m.map Fm.p)[k]? := by rw [e]
  rw [List.getElem?_map, List.getElem?_map, ha, hb] at e2
  simp only [Option.map_some, Option.some.injEq] at e2
  simp [eqF, e2] at h
theorem eqFs_eq {l m : List Fm} (h : (l.take l.length).map Fm.p = (m.take l.length).map Fm.p) (hl : l.length = m.length) : eqFs l m = true := by
  unfold eqFs; rw [decide_eq_true_iff]
  rwa [List.take_of_length_le (Nat.le_refl _), hl, List.take_of_length_le (Nat.le_refl _)] at h
theorem eqFs_self {l m : List Fm} (h : l.map Fm.p = m.map Fm.p) : eqFs l m = true := by simp [eqFs, h]
theorem take_succ_mapF {l m : List Fm} {k : Nat} {a b : Fm} (h : (l.take k).map Fm.p = (m.take k).map Fm.p) (ha : l[k]? = some a) (hb : m[k]? = some b) (hab : eqF a b = true) : (l.take (k + 1)).map Fm.p = (m.take (k + 1)).map Fm.p := by
  rw [List.take_succ_eq_append_getElem (List.getElem?_eq_some_iff.1 ha).1, List.take_succ_eq_append_getElem (List.getElem?_eq_some_iff.1 hb).1, List.map_append, List.map_append, h, (List.getElem?_eq_some_iff.1 ha).2, (List.getElem?_eq_some_iff.1 hb).2]
  simp only [eqF, decide_eq_true_eq] at hab
  simp [hab]
set_option maxRecDepth 100000 in
set_option maxHeartbeats 2000000 in
theorem eqFormulaS_any (A B : Option Addr) (l m : List Fm) (c c' lo hi lo' hi' : Nat) (w : World) (hr : RdF w lo hi A l) (hhi : hi ≤ w.heap.size) (hr' : RdF w lo' hi' B m) (hhi' : hi' ≤ w.heap.size) (hm : m.length ≤ 2000000) (hrs : ∀ x ∈ l, x.ws.length ≤ 2000000) :
    Calls Tryz.prog 32 #[.slice A l.length c, .slice B m.length c'] w fun e w' => e = .returned (.bool (eqFs l m)) ∧ Up w w' := by
  by_cases hne : l.length = m.length
  · have HL := Lib.hid hne
    have hb0 : ((l.length : Int) != (m.length : Int)) = false := by simp [hne]
    have hlm : l.length ≤ m.length := by omega
    clear hne
    go_enter Tryz.func32, Tryz.ntmps32
    go_wp2
    go_loopw [5] (fun i wr => ∃ k : Nat, k ≤ l.length ∧ i = .int .i64 k ∧ (l.take k).map Fm.p = (m.take k).map Fm.p ∧ Up w wr) (fun i _ => l.length - (intOf i).toNat)
    case atStart => exact ⟨0, Nat.zero_le _, rfl, by simp, Up.refl _⟩
    case round =>
      obtain ⟨k, hk, rfl, ht, hup⟩ := hrel
      have HT := Lib.hid ht
      clear ht
      by_cases hlt : k < l.length
      · have hlt' : k < m.length := by omega
        obtain ⟨b1, o1, d1, rfl, -, -, hd1, i1, p0, p1, p2⟩ := (hr.up hup hhi).at_ hlt
        obtain ⟨b2, o2, d2, rfl, -, -, hd2, i2, q0, q1, q2⟩ := (hr'.up hup hhi').at_ hlt'
        have HD1 := Lib.hid hd1
        have HD2 := Lib.hid hd2
        have I1 := Lib.hid i1
        have I2 := Lib.hid i2
        clear hd1 hd2 i1 i2
        have hh1 : hi ≤ wr.heap.size := Nat.le_trans hhi hup.size
        have hh2 : hi' ≤ wr.heap.size := Nat.le_trans hhi' hup.size
        have P0 := cell_regrown p0
        have P1 := cell_regrown p1
        have P2 := cell_regrown p2
        have Q0 := cell_regrown q0
        have Q1 := cell_regrown q1
        have Q2 := cell_regrown q2
        go_wp2_with fail
        refine wp_region_quiet_below (by kernel_rfl) (by kernel_rfl) ?_
        repeat (quiet_step ((go_at_call 77; exact Calls.regrown_of (eqFormula_any d1 d2 lo hi lo' hi' _ (I1.out.up (below_regrown _ _ _) hh1) (Nat.le_trans hh1 (below_regrown _ _ _).size) (I2.out.up (below_regrown _ _ _) hh2) (Nat.le_trans hh2 (below_regrown _ _ _).size) (hrs d1 (List.mem_of_getElem? HD1.out))))))
        refine wpQuiet_nil ?_
        intro w2 hw2
        obtain ⟨⟨dq, osq⟩, hw2⟩ := hw2
        have hup2 : Up wr w2 := by rw [hw2]; exact below_regrown _ _ _
        clear hw2 P0 P1 P2 Q0 Q1 Q2
        go_wp2
        · have hq : (!eqF d1 d2) = true := by assumption
          go_ret
          exact ⟨ret_bool (eqFs_ne HD1.out HD2.out (by simpa using hq)).symm, hup.trans hup2⟩
        · have hq : (!eqF d1 d2) = false := by assumption
          go_roundw
          case rel => exact ⟨k + 1, by omega, by go_num, take_succ_mapF HT.out HD1.out HD2.out (by simpa using hq), hup.trans hup2⟩
          case measure => simp [intOf]; omega
      · go_wp2
        go_ret
        exact ⟨ret_bool (eqFs_eq (by rw [show k = l.length by omega] at HT; exact HT.out) HL.out).symm, hup⟩
  · have hb0 : ((l.length : Int) != (m.length : Int)) = true := by rw [bne_iff_ne]; omega
    have H := Lib.hid hne
    clear hne
    go_enter Tryz.func32, Tryz.ntmps32
    go_wp2
    go_ret
    exact ⟨ret_bool (eqFs_len H.out).symm, Up.refl _⟩
end Go.Proofs.YtblpjjcjnaigiaaGreatDoor

namespace Go.Proofs.YtblpjjcjnaigiaaGreatDoor
open Go.RowKit Go.Sort

theorem szStrU (A : Option Addr) (l : List ByteArray) (c lo hi : Nat) (left : Int) (w : World) (hr : RdT w lo hi A l) (_hhi : hi ≤ w.heap.size) (hsz : ∀ x ∈ l, x.size ≤ maxLen) (h0 : 0 ≤ left) (hl : left ≤ 2000000) (hn : l.length ≤ maxLen) :
    Calls Tryz.prog 49 #[.slice A l.length c, .int .i64 left] w fun e w' => e = .returned (.int .i64 (szSL l left)) ∧ Up w w' :=
  (szStringS_any A l c lo hi left w hr hsz hn h0 hl).mono fun e w' ⟨h, h2⟩ => ⟨h, by rw [← h2]; exact Up.refl _⟩
theorem toStrU (A : Option Addr) (l : List ByteArray) (c lo hi : Nat) (w : World) (hr : RdT w lo hi A l) (hhi : hi ≤ w.heap.size) (hn : l.length ≤ 2000000) :
    Calls Tryz.prog 59 #[.slice A l.length c] w fun e w' => ∃ A' c', e = .returned (.slice A' l.length c') ∧ l.length ≤ c' ∧ c' ≤ maxLen ∧ RdT w' w.heap.size w'.heap.size A' l ∧ w'.ownsRow w.heap.size 9 1 (.slice A' l.length c') l.length (l.flatMap strC) ∧ Up w w' :=
  (toStringS_any A l c lo hi w hr hhi hn).mono fun e w' ⟨v, h, ho, hu⟩ => by
    obtain ⟨A', c', rfl, h1, h2, -, -⟩ := own_form ho
    exact ⟨A', c', h, h1, h2, Rd.own strC_len ho, ho, hu⟩
end Go.Proofs.YtblpjjcjnaigiaaGreatDoor
