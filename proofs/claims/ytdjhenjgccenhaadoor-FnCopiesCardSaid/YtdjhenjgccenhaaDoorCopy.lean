/- Copies as Lean data (a name and its readings, and where they lie), and the walks of the law package's helpers over copies. -/
import Derived.Test.YtdjhenjgccenhaaDoorProg
import Derived.Test.YtdjhenjgccenhaaDoorInts
import Derived.Test.YtdjhenjgccenhaaDoorMark0
namespace Go.Proofs.YtdjhenjgccenhaaDoor
open Go.RowKit Go.Sort

structure Cp where
  name : ByteArray
  A : Option Addr
  c : Nat
  rs : List Int
abbrev Cp.cells (x : Cp) : List Value := [.string x.name, .slice x.A x.rs.length x.c]
abbrev Cp.val (x : Cp) : Value := .agg #[.string x.name, .slice x.A x.rs.length x.c]
/-- what a copy says -/
def Cp.p (x : Cp) : ByteArray × List Int := (x.name, x.rs)
def Cp.ok (x : Cp) : Prop := x.name.size ≤ maxLen ∧ x.rs.length ≤ x.c ∧ x.c ≤ maxLen
def Cp.ok' (x : Cp) : Prop := x.rs.length ≤ x.c ∧ x.c ≤ maxLen
theorem cp_len (x : Cp) : x.cells.length = 2 := rfl

def RdC (w : World) (lo hi : Nat) (A : Option Addr) (l : List Cp) : Prop := Rd w lo hi 2 Cp.cells A l ∧ ∀ x ∈ l, RdI w lo hi x.A x.rs
theorem RdC.up {w w' : World} {lo hi : Nat} {A : Option Addr} {l : List Cp} (h : RdC w lo hi A l) (hu : Up w w') (hB : hi ≤ w.heap.size) : RdC w' lo hi A l :=
  ⟨h.1.up hu hB, fun x hx => (h.2 x hx).up hu hB⟩
theorem RdC.take {w : World} {lo hi : Nat} {A : Option Addr} {l : List Cp} (h : RdC w lo hi A l) (k : Nat) : RdC w lo hi A (l.take k) :=
  ⟨h.1.take k, fun x hx => h.2 x (List.mem_of_mem_take hx)⟩
theorem RdC.at_ {w : World} {lo hi : Nat} {A : Option Addr} {l : List Cp} (h : RdC w lo hi A l) {k : Nat} (hk : k < l.length) :
    ∃ b off x, A = some ⟨b, off, none⟩ ∧ lo ≤ b ∧ b < hi ∧ l[k]? = some x ∧ RdI w lo hi x.A x.rs ∧ w.cell? ⟨b, off + k * 2, none⟩ = some (.string x.name) ∧ w.cell? ⟨b, off + k * 2 + 1, none⟩ = some (.slice x.A x.rs.length x.c) := by
  obtain ⟨b, off, x, e, h1, h2, h3, h4⟩ := Rd.at_ h.1 hk
  exact ⟨b, off, x, e, h1, h2, h3, h.2 x (List.mem_of_getElem? h3), h4 0 _ rfl, h4 1 _ rfl⟩

/-- the sizes -/
def szI (n : Nat) (left : Int) : Int := if left < n then -1 else left - n
theorem szI_a {n : Nat} {left : Int} (h : left < n) : szI n left = -1 := by unfold szI; rw [if_pos h]
theorem szI_b {n : Nat} {left : Int} (h : ¬ left < n) : szI n left = left - n := by unfold szI; rw [if_neg h]
theorem szI_le (n : Nat) (left : Int) (h : 0 ≤ left) : szI n left ≤ left := by unfold szI; split <;> omega
set_option maxHeartbeats 400000 in
theorem szInt64S_any (A : Option Addr) (n c : Nat) (left : Int) (w : World) (hn : n ≤ maxLen) (h0 : 0 ≤ left) (hl : left ≤ 2000000) :
    Calls Tryd.prog 84 #[.slice A n c, .int .i64 left] w fun e w' => e = .returned (.int .i64 (szI n left)) ∧ w = w' := by
  unfold maxLen at hn
  by_cases c1 : left < n
  · go_enter Tryd.func84, Tryd.ntmps84
    go_wp2
    go_ret
    exact ⟨ret_int (szI_a (by omega)).symm, rfl⟩
  · go_enter Tryd.func84, Tryd.ntmps84
    go_wp2
    go_ret
    exact ⟨ret_int (szI_b (by omega)).symm, rfl⟩
def szC (x : Cp) (left : Int) : Int := if left < x.name.size then -1 else szI x.rs.length (left - x.name.size)
theorem szC_a {x : Cp} {left : Int} (h : left < x.name.size) : szC x left = -1 := by unfold szC; rw [if_pos h]
theorem szC_b {x : Cp} {left : Int} (h : ¬ left < x.name.size) : szC x left = szI x.rs.length (left - x.name.size) := by unfold szC; rw [if_neg h]
theorem szC_le (x : Cp) (left : Int) (h : 0 ≤ left) : szC x left ≤ left := by
  unfold szC; split
  · omega
  · have := szI_le x.rs.length (left - x.name.size) (by omega); omega
theorem szI_neg {n : Nat} {left : Int} (h : szI n left < 0) (_h0 : 0 ≤ left) : szI n left = -1 := by
  by_cases c : left < n
  · exact szI_a c
  · rw [szI_b c] at h; omega
theorem szC_neg {x : Cp} {left : Int} (h : szC x left < 0) (_h0 : 0 ≤ left) : szC x left = -1 := by
  by_cases c1 : left < x.name.size
  · exact szC_a c1
  · rw [szC_b c1] at h ⊢; exact szI_neg h (by omega)
set_option maxHeartbeats 400000 in
theorem szCopy_any (x : Cp) (hd : x.ok) (left : Int) (w : World) (h0 : 0 ≤ left) (hl : left ≤ 2000000) :
    Calls Tryd.prog 46 #[x.val, .int .i64 left] w fun e w' => e = .returned (.int .i64 (szC x left)) ∧ Up w w' := by
  obtain ⟨h1, h2, h3⟩ := hd
  have h4 : x.rs.length ≤ maxLen := by omega
  unfold maxLen at h1
  by_cases c1 : left < x.name.size
  · go_enter Tryd.func46, Tryd.ntmps46
    go_wp2
    go_ret
    exact ⟨ret_int (szC_a (by omega)).symm, Up.alloc _ _⟩
  · have e := szC_b c1
    rcases Int.lt_or_le (szI x.rs.length (left - x.name.size)) 0 with hz | hz
    · have hz' := szI_neg hz (by omega)
      rw [hz'] at e
      have E := Lib.hid e
      have hdz : decide (szI x.rs.length (left - x.name.size) < 0) = true := by simpa using hz
      have Z := Lib.hid hz'
      clear e hz'
      go_enter Tryd.func46, Tryd.ntmps46
      go_wp2_with (go_at_call 84; refine (szInt64S_any _ _ _ _ _ h4 (by omega) (by omega)).mono ?_; rintro e w' ⟨rfl, rfl⟩)
      go_ret
      exact ⟨ret_int E.out.symm, Up.alloc _ _⟩
    · have E := Lib.hid e
      clear e
      have hdz : decide (szI x.rs.length (left - x.name.size) < 0) = false := by simpa using hz
      go_enter Tryd.func46, Tryd.ntmps46
      go_wp2_with (go_at_call 84; refine (szInt64S_any _ _ _ _ _ h4 (by omega) (by omega)).mono ?_; rintro e w' ⟨rfl, rfl⟩)
      go_ret
      exact ⟨ret_int E.out.symm, Up.alloc _ _⟩

def szCs : List Cp → Int → Int
  | [], left => left
  | x :: l, left => if szC x left < 0 then -1 else szCs l (szC x left)
def szCL (l : List Cp) (left : Int) : Int := if left < l.length then -1 else szCs l (left - l.length)
theorem szCL_a {l : List Cp} {left : Int} (h : left < l.length) : szCL l left = -1 := by unfold szCL; rw [if_pos h]
theorem szCL_b {l : List Cp} {left : Int} (h : ¬ left < l.length) : szCL l left = szCs l (left - l.length) := by unfold szCL; rw [if_neg h]
theorem szCs_yes {l : List Cp} {k : Nat} {d : Cp} {z : Int} (hd : l[k]? = some d) (h : ¬ szC d z < 0) : szCs (l.drop k) z = szCs (l.drop (k + 1)) (szC d z) := by
  have hk : k < l.length := (List.getElem?_eq_some_iff.1 hd).1
  rw [List.drop_eq_getElem_cons hk]
  simp [szCs, (List.getElem?_eq_some_iff.1 hd).2, h]
theorem szCs_no {l : List Cp} {k : Nat} {d : Cp} {z : Int} (hd : l[k]? = some d) (h : szC d z < 0) : szCs (l.drop k) z = -1 := by
  have hk : k < l.length := (List.getElem?_eq_some_iff.1 hd).1
  rw [List.drop_eq_getElem_cons hk]
  simp [szCs, (List.getElem?_eq_some_iff.1 hd).2, h]
theorem szCs_end {l : List Cp} {k : Nat} {z : Int} (h : l.length ≤ k) : szCs (l.drop k) z = z := by rw [List.drop_eq_nil_of_le h]; rfl
/-- how many marks a list of copies takes -/
def cpTot : List Cp → Nat
  | [] => 0
  | x :: l => 1 + x.rs.length + cpTot l
theorem szCs_tot : ∀ (l : List Cp) (left : Int), 0 ≤ left → ¬ szCs l left < 0 → szCs l left ≤ left ∧ (cpTot l : Int) ≤ left + l.length
  | [], left, h, _ => by simp [szCs, cpTot]; omega
  | x :: l, left, h, hz => by
    unfold szCs at hz ⊢
    split
    · rename_i hh; rw [if_pos hh] at hz; exact absurd (by omega) hz
    · rename_i hh
      rw [if_neg hh] at hz
      obtain ⟨h1, h2⟩ := szCs_tot l (szC x left) (by omega) hz
      have h3 := szC_le x left h
      have h4 : szC x left ≤ left - x.rs.length := by
        by_cases c1 : left < x.name.size
        · rw [szC_a c1] at hh; exact absurd (by omega) hh
        · rw [szC_b c1] at hh ⊢
          by_cases c2 : left - x.name.size < x.rs.length
          · rw [szI_a c2] at hh; exact absurd (by omega) hh
          · rw [szI_b c2]; omega
      refine ⟨by omega, ?_⟩
      simp only [cpTot, List.length_cons]
      omega
theorem szCL_tot {l : List Cp} {left : Int} (_h : 0 ≤ left) (hz : ¬ szCL l left < 0) : (l.length : Int) ≤ left ∧ szCL l left ≤ left ∧ (cpTot l : Int) ≤ left := by
  by_cases c1 : left < l.length
  · rw [szCL_a c1] at hz; exact absurd (by omega) hz
  · rw [szCL_b c1] at hz ⊢
    have := szCs_tot l (left - l.length) (by omega) hz
    omega

set_option maxHeartbeats 1000000 in
theorem szCopyS_any (A : Option Addr) (l : List Cp) (c lo hi : Nat) (left : Int) (w : World) (hr : RdC w lo hi A l) (hhi : hi ≤ w.heap.size) (hok : ∀ d ∈ l, d.ok) (h0 : 0 ≤ left) (hl : left ≤ 2000000) (hn : l.length ≤ maxLen) :
    Calls Tryd.prog 15 #[.slice A l.length c, .int .i64 left] w fun e w' => e = .returned (.int .i64 (szCL l left)) ∧ Up w w' := by
  unfold maxLen at hn
  by_cases c1 : left < l.length
  · go_enter Tryd.func15, Tryd.ntmps15
    go_wp2
    go_ret
    exact ⟨ret_int (szCL_a (by omega)).symm, Up.refl _⟩
  · go_enter Tryd.func15, Tryd.ntmps15
    have hb0 : decide (left - (l.length : Int) < 0) = false := by simp; omega
    go_wp2
    go_loopw [4, 1, 5] (fun r lf i wr => ∃ k : Nat, ∃ z : Int, k ≤ l.length ∧ i = .int .i64 k ∧ lf = .int .i64 z ∧ 0 ≤ z ∧ z ≤ left ∧ szCs l (left - l.length) = szCs (l.drop k) z ∧ Up w wr) (fun _ _ i _ => l.length - (intOf i).toNat)
    case atStart => exact ⟨0, _, Nat.zero_le _, rfl, rfl, by omega, by omega, rfl, Up.refl _⟩
    case round =>
      obtain ⟨k, z, hk, rfl, rfl, hz0, hz1, hs, hup⟩ := hrel
      have HS := Lib.hid hs
      clear hs
      by_cases hlt : k < l.length
      · obtain ⟨b, off, d, rfl, hlo, hb, hd, hin, q0, q1⟩ := (hr.up hup hhi).at_ hlt
        have HD := Lib.hid hd
        clear hd hin
        have hle := szC_le d z hz0
        by_cases c2 : szC d z < 0
        · have hdec : decide (szC d z < 0) = true := by simpa using c2
          go_wp2_with (go_at_call 46; refine (szCopy_any d (hok d (List.mem_of_getElem? HD.out)) _ _ (by omega) (by omega)).mono ?_; rintro e w' ⟨rfl, hup'⟩)
          go_ret
          exact ⟨ret_int (by rw [szCL_b (by omega), HS.out, szCs_no HD.out (by omega)]), hup.trans hup'⟩
        · have hdec : decide (szC d z < 0) = false := by simpa using c2
          go_wp2_with (go_at_call 46; refine (szCopy_any d (hok d (List.mem_of_getElem? HD.out)) _ _ (by omega) (by omega)).mono ?_; rintro e w' ⟨rfl, hup'⟩)
          go_roundw
          case rel => exact ⟨k + 1, _, by omega, by go_num, rfl, by omega, by omega, by rw [HS.out, szCs_yes HD.out (by omega)], hup.trans hup'⟩
          case measure => simp [intOf]; omega
      · go_wp2
        go_ret
        exact ⟨ret_int (by rw [szCL_b (by omega), HS.out, szCs_end (by omega)]), hup⟩

theorem infoInt : (Tryd.prog.info? 2).map (fun i => (i.zero, i.size, i.bytes)) = some (some (.int .i64 0), 1, 8) := by kernel_rfl
theorem infoCp : (Tryd.prog.info? 43).map (fun i => (i.zero, i.size, i.bytes)) = some (some (.agg #[.string ByteArray.empty, .slice none 0 0]), 2, 40) := by kernel_rfl

set_option maxHeartbeats 1000000 in
theorem toInt64S_any (A : Option Addr) (l : List Int) (c lo hi : Nat) (w : World) (hr : RdI w lo hi A l) (hhi : hi ≤ w.heap.size) (hn : l.length ≤ 2000000) :
    Calls Tryd.prog 29 #[.slice A l.length c] w fun e w' => ∃ v, e = .returned v ∧ w'.ownsRow w.heap.size 2 1 v l.length (l.flatMap intCells) ∧ Up w w' := by
  obtain ⟨i0, hi0, hz0, hz1, hz2⟩ := info_parts infoInt
  go_enter Tryd.func29, Tryd.ntmps29
  go_wp2_with ((refine wpList_make_full _ rfl _ _ 32 rfl w.heap.size 2 i0 _ 1 Tryd.underlying32 hi0 hz0 hz1 _ _ _ _ l.length rfl rfl rfl rfl ?b2 ?b3 ?b4 ?_))
  case b2 => rw [hz2]; omega
  case b3 => unfold maxLen; omega
  case b4 => exact Nat.le_refl _
  intro w1 hown hg
  have hup1 : Up w w1 := (Up.refl w).grown hg (fun k h => by cases h)
  generalize (madeCells _ _).toList = xs0 at hown
  clear hg
  go_wp2
  go_loopw [4] (fun i wr => ∃ k : Nat, ∃ xs, k ≤ l.length ∧ i = .int .i64 k ∧ wr.ownsRow w.heap.size 2 1 (.slice (some ⟨w.heap.size, 0, none⟩) l.length l.length) l.length xs ∧ xs.take k = (l.take k).flatMap intCells ∧ Up w wr) (fun i _ => l.length - (intOf i).toNat)
  case atStart => exact ⟨0, _, Nat.zero_le _, rfl, hown, by simp, hup1⟩
  case round =>
    obtain ⟨k, xs, hk, rfl, hown, hxs, hup⟩ := hrel
    have HX := Lib.hid hxs
    clear hxs
    by_cases hlt : k < l.length
    · obtain ⟨b, off, d, rfl, hlo, hb, hd, q0⟩ := (hr.up hup hhi).int hlt
      have HD := Lib.hid hd
      clear hd
      obtain ⟨u0, r0⟩ := own_cell hown (p := k) (by omega)
      have z0 := hown.frozenAt k
      go_wp2
      go_roundw
      case rel => exact ⟨k + 1, _, by omega, by go_num, (hown.stored _ _).1, by rw [take_set_succ (by rw [hown.1]; omega), HX.out, take_flat_succ _ HD.out], hup.setCell (by simp) _⟩
      case measure => simp [intOf]; omega
    · go_wp2
      go_ret
      have hk2 : k = l.length := by omega
      subst hk2
      have hx := HX.out
      rw [List.take_of_length_le (by rw [hown.1]; omega), List.take_of_length_le (Nat.le_refl _)] at hx
      subst hx
      exact ⟨_, rfl, hown, hup⟩

set_option maxHeartbeats 1000000 in
theorem toCopy_any (x : Cp) (lo hi : Nat) (w : World) (hr : RdI w lo hi x.A x.rs) (hhi : hi ≤ w.heap.size) (hn : x.rs.length ≤ 2000000) :
    Calls Tryd.prog 48 #[x.val] w fun e w' => ∃ y : Cp, e = .returned y.val ∧ y.p = x.p ∧ y.ok' ∧ w'.ownsRow w.heap.size 2 1 (.slice y.A y.rs.length y.c) y.rs.length (y.rs.flatMap intCells) ∧ Up w w' := by
  go_enter Tryd.func48, Tryd.ntmps48
  go_wp2_with fail
  refine (toInt64S_any x.A x.rs x.c lo hi _ (Rd.up hr ?hu hhi) ?hs hn).mono ?_
  case hu => repeat (first | exact Up.alloc _ _ | refine Up.allocs ?_ _)
  case hs => simp; omega
  rintro e w2 ⟨v, rfl, hown, hup⟩
  obtain ⟨A', c', rfl, h1, h2, -, -⟩ := own_form hown
  have r0 := hup.cell (a := ⟨w.heap.size + 1, 0, none⟩) (v := .string ⟨#[]⟩) (by go_simp)
  have r1 := hup.cell (a := ⟨w.heap.size + 1, 1, none⟩) (v := .slice none 0 0) (by go_simp)
  have o0 := hup.cell (a := ⟨w.heap.size + 1 + 1, 0, none⟩) (v := .string x.name) (by go_simp)
  have o1 := hup.cell (a := ⟨w.heap.size + 1 + 1, 1, none⟩) (v := .slice none 0 0) (by go_simp)
  have f0 : w2.frozen? ⟨w.heap.size + 1, 0, none⟩ = false := (Below.frozen hup (p := ⟨w.heap.size + 1, 0, none⟩) (by simp)).trans (by go_simp)
  have f1 : w2.frozen? ⟨w.heap.size + 1, 1, none⟩ = false := (Below.frozen hup (p := ⟨w.heap.size + 1, 1, none⟩) (by simp)).trans (by go_simp)
  have g1 : w2.frozen? ⟨w.heap.size + 1 + 1, 1, none⟩ = false := (Below.frozen hup (p := ⟨w.heap.size + 1 + 1, 1, none⟩) (by simp)).trans (by go_simp)
  have hsz : w.heap.size + 3 ≤ w2.heap.size := by have := hup.size; simp at this; omega
  have hwu : Up w w2 := Up.trans (by repeat (first | exact Up.alloc _ _ | refine Up.allocs ?_ _)) hup
  have hown1 := own_base (base' := w.heap.size + 3) hown (by simp)
  clear hup hown
  go_wp2
  have hown2 : ((w2.setCell ⟨w.heap.size + 1 + 1, 1, none⟩ (.slice A' x.rs.length c')).setCell ⟨w.heap.size + 1, 0, none⟩ (.string x.name) |>.setCell ⟨w.heap.size + 1, 1, none⟩ (.slice A' x.rs.length c')).ownsRow w.heap.size 2 1 (.slice A' x.rs.length c') x.rs.length (x.rs.flatMap intCells) :=
    own_base (ownsRow_setCell_below (ownsRow_setCell_below (ownsRow_setCell_below hown1 (by first | (simp; done) | (simp; omega)) _) (by first | (simp; done) | (simp; omega)) _) (by simp) _) (by omega)
  refine bodyPost_ret (v := (Cp.mk x.name A' c' x.rs).val) (by simp [results, Tryd.results48, go_sem, r0, r1]) rfl ⟨⟨x.name, A', c', x.rs⟩, rfl, rfl, ⟨h1, h2⟩, hown2, ((hwu.setCell (by first | (simp; done) | (simp; omega)) _).setCell (by simp) _).setCell (by simp) _⟩

abbrev Cp.sl (x : Cp) : Value := .slice x.A x.rs.length x.c
/-- no two copies' readings lie in one block -/
def Dist (L : List Cp) : Prop := ∀ (i j : Nat) (x y : Cp), i < j → L[i]? = some x → L[j]? = some y → ∀ b, x.sl.ownBlock = some b → y.sl.ownBlock ≠ some b
theorem Dist.nil_ : Dist [] := fun i j x y _ h => by simp at h
theorem Dist.snoc {L : List Cp} {y : Cp} (h : Dist L) (hy : ∀ x ∈ L, ∀ b, x.sl.ownBlock = some b → y.sl.ownBlock ≠ some b) : Dist (L ++ [y]) := by
  intro i j x z hij hi hj b hb
  rcases Nat.lt_or_ge j L.length with h1 | h1
  · rw [List.getElem?_append_left h1] at hj
    rw [List.getElem?_append_left (by omega)] at hi
    exact h i j x z hij hi hj b hb
  · have hj' : j = L.length := by
      have := (List.getElem?_eq_some_iff.1 hj).1
      simp at this; omega
    subst hj'
    rw [List.getElem?_append_left hij] at hi
    rw [List.getElem?_append_right (Nat.le_refl _)] at hj
    simp at hj; subst hj
    exact hy x (List.mem_of_getElem? hi) b hb
/-- a list of copies that the call itself made -/
def OwnC (w : World) (g0 : Nat) (A : Option Addr) (n c : Nat) (L : List Cp) : Prop :=
  ∃ g, g0 ≤ g ∧ w.ownsRow g 43 2 (.slice A n c) n (L.flatMap Cp.cells) ∧ (∀ y ∈ L, y.ok' ∧ w.ownsRow (g + 1) 2 1 y.sl y.rs.length (y.rs.flatMap intCells)) ∧ Dist L ∧ In (.slice A n c) g (g + 1)

theorem cp_set2 {xs : List Value} {L : List Cp} {k : Nat} {y : Cp} {n : Nat} (hx : xs.length = n * 2) (hk : k < n) (ht : xs.take (k * 2) = L.flatMap Cp.cells) :
    ((xs.set (k * 2) (.string y.name)).set (k * 2 + 1) y.sl).take ((k + 1) * 2) = (L ++ [y]).flatMap Cp.cells := by
  rw [show (k + 1) * 2 = k * 2 + 1 + 1 by omega, take_set_succ (by simp; omega), take_set_succ (by omega), ht]
  simp

set_option maxRecDepth 100000 in
set_option maxHeartbeats 2000000 in
theorem toCopyS_any (A : Option Addr) (l : List Cp) (c lo hi : Nat) (w : World) (hr : RdC w lo hi A l) (hhi : hi ≤ w.heap.size) (hn : l.length ≤ 2000000) (hrs : ∀ x ∈ l, x.rs.length ≤ 2000000) :
    Calls Tryd.prog 17 #[.slice A l.length c] w fun e w' => ∃ A' c' L, e = .returned (.slice A' l.length c') ∧ L.length = l.length ∧ L.map Cp.p = l.map Cp.p ∧ l.length ≤ c' ∧ c' ≤ maxLen ∧ OwnC w' w.heap.size A' l.length c' L ∧ Up w w' := by
  obtain ⟨i0, hi0, hz0, hz1, hz2⟩ := info_parts infoCp
  go_enter Tryd.func17, Tryd.ntmps17
  go_wp2_with ((refine wpList_make_full _ rfl _ _ 25 rfl w.heap.size 43 i0 _ 2 Tryd.underlying25 hi0 hz0 hz1 _ _ _ _ l.length rfl rfl rfl rfl ?b2 ?b3 ?b4 ?_))
  case b2 => rw [hz2]; omega
  case b3 => unfold maxLen; omega
  case b4 => exact Nat.le_refl _
  intro w1 hown hg
  have hup1 : Up w w1 := (Up.refl w).grown hg (fun k h => by cases h)
  generalize (madeCells _ _).toList = xs0 at hown
  clear hg
  go_wp2
  go_loopw [4] (fun i wr => ∃ k : Nat, ∃ xs, ∃ L : List Cp, k ≤ l.length ∧ i = .int .i64 k ∧ L.length = k ∧ wr.ownsRow w.heap.size 43 2 (.slice (some ⟨w.heap.size, 0, none⟩) l.length l.length) l.length xs ∧ xs.take (k * 2) = L.flatMap Cp.cells ∧ L.map Cp.p = (l.take k).map Cp.p ∧
      (∀ y ∈ L, y.ok' ∧ wr.ownsRow (w.heap.size + 1) 2 1 y.sl y.rs.length (y.rs.flatMap intCells)) ∧ Dist L ∧ Up w wr) (fun i _ => l.length - (intOf i).toNat)
  case atStart => exact ⟨0, _, [], Nat.zero_le _, rfl, rfl, hown, by simp, by simp, by simp, Dist.nil_, hup1⟩
  case round =>
    obtain ⟨k, xs, L, hk, rfl, hL, hown, hxs, hmap, hin, hdis, hup⟩ := hrel
    have HX := Lib.hid hxs
    have HL := Lib.hid hL
    have HM := Lib.hid hmap
    have HIN := Lib.hid hin
    have HDI := Lib.hid hdis
    clear hxs hL hmap hin hdis
    by_cases hlt : k < l.length
    · obtain ⟨b, off, d, rfl, hlo, hb, hd, hrd, q0, q1⟩ := (hr.up hup hhi).at_ hlt
      have HD := Lib.hid hd
      clear hd
      have hgs : w.heap.size < wr.heap.size := by
        obtain ⟨A', c', hv, -, -, hA, -⟩ := own_form hown
        simp only [Value.slice.injEq] at hv
        obtain ⟨rfl, -, -⟩ := hv
        obtain ⟨g', e, -, h⟩ := hA (by omega)
        cases e; exact h
      go_wp2_with (go_at_call 48; refine (toCopy_any d lo hi _ hrd (Nat.le_trans hhi hup.size) (hrs d (List.mem_of_getElem? HD.out))).mono ?_; rintro e w' ⟨y, rfl, hyp, hyo, hyw, hup'⟩; have HY := Lib.hid hyp; clear hyp; have hown' := own_up hown hup'; obtain ⟨u0, r0⟩ := own_cell hown' (p := k * 2) (by omega); obtain ⟨u1, r1⟩ := own_cell hown' (p := k * 2 + 1) (by omega); have z0 := hown'.frozenAt (k * 2); have z1 := hown'.frozenAt (k * 2 + 1))
      go_roundw
      case rel => exact ⟨k + 1, _, L ++ [y], by omega, by go_num, by rw [List.length_append, HL.out]; rfl, ((hown'.stored _ _).1.stored _ _).1, cp_set2 hown'.1 hlt HX.out,
        by rw [List.map_append, HM.out, List.take_succ_eq_append_getElem hlt, List.map_append, (List.getElem?_eq_some_iff.1 HD.out).2]; simp [HY.out],
        fun z hz => by
          rcases List.mem_append.1 hz with h | h
          · have h1 := HIN.out z h
            exact ⟨h1.1, ownsRow_setCell_below (ownsRow_setCell_below (own_up h1.2 hup') (by simp) _) (by simp) _⟩
          · simp at h; subst h
            exact ⟨hyo, ownsRow_setCell_below (ownsRow_setCell_below (own_base hyw hgs) (by simp) _) (by simp) _⟩,
        HDI.out.snoc (fun x hx b hb hb' => by
          have h1 := ((HIN.out x hx).2.lt b hb).2
          have h2 := (hyw.lt b hb').1
          omega),
        ((hup.trans hup').setCell (by simp) _).setCell (by simp) _⟩
      case measure => simp [intOf]; omega
    · go_wp2
      go_ret
      have hk2 : k = l.length := by omega
      have hx := HX.out
      have hm := HM.out
      rw [hk2] at hx hm
      rw [List.take_of_length_le (by rw [hown.1]; omega)] at hx
      rw [List.take_of_length_le (Nat.le_refl _)] at hm
      subst hx
      exact ⟨_, _, L, rfl, by rw [HL.out, hk2], hm, Nat.le_refl _, by unfold maxLen; omega, ⟨w.heap.size, Nat.le_refl _, hown, HIN.out, HDI.out, fun g hg => by simp [Value.ownBlock] at hg; omega⟩, hup⟩

theorem OwnC.up {w w' : World} {g0 n c : Nat} {A : Option Addr} {L : List Cp} (h : OwnC w g0 A n c L) (hu : Up w w') : OwnC w' g0 A n c L := by
  obtain ⟨g, h1, h2, h3, h4, h5⟩ := h
  exact ⟨g, h1, own_up h2 hu, fun y hy => ⟨(h3 y hy).1, own_up (h3 y hy).2 hu⟩, h4, h5⟩
theorem OwnC.rd {w : World} {g0 c : Nat} {A : Option Addr} {L : List Cp} (h : OwnC w g0 A L.length c L) : RdC w g0 w.heap.size A L := by
  obtain ⟨g, h1, h2, h3, -, -⟩ := h
  exact ⟨(Rd.own cp_len h2).wide h1 (Nat.le_refl _), fun x hx => (Rd.own int_len (h3 x hx).2).wide (by omega) (Nat.le_refl _)⟩

def eqC (a b : Cp) : Bool := decide (a.p = b.p)
theorem eqC_a {a b : Cp} (h : (!a.name.toList == b.name.toList) = true) : eqC a b = false := by
  unfold eqC Cp.p; rw [decide_eq_false_iff_not]; intro e; simp only [Prod.mk.injEq] at e; rw [e.1] at h; simp at h
theorem eqC_b {a b : Cp} (h : (!a.name.toList == b.name.toList) = false) : eqC a b = eqIs a.rs b.rs := by
  have : a.name = b.name := bytes_inj.1 (by simpa using h)
  unfold eqC Cp.p eqIs; simp [this]
set_option maxHeartbeats 1000000 in
theorem eqCopy_any (a b : Cp) (lo hi lo' hi' : Nat) (w : World) (hr : RdI w lo hi a.A a.rs) (hhi : hi ≤ w.heap.size) (hr' : RdI w lo' hi' b.A b.rs) (hhi' : hi' ≤ w.heap.size) (hn : a.rs.length ≤ 2000000) :
    Calls Tryd.prog 33 #[a.val, b.val] w fun e w' => e = .returned (.bool (eqC a b)) ∧ Up w w' := by
  by_cases hne : (!a.name.toList == b.name.toList) = true
  · have H := Lib.hid hne
    go_enter Tryd.func33, Tryd.ntmps33
    go_wp2
    go_ret
    exact ⟨ret_bool (eqC_a H.out).symm, ((Up.refl _).allocs _).allocs _⟩
  · have hne' : (!a.name.toList == b.name.toList) = false := by simpa using hne
    have H := Lib.hid (eqC_b hne')
    clear hne
    go_enter Tryd.func33, Tryd.ntmps33
    go_wp2_with fail
    refine (eqInt64S_any a.A b.A a.rs b.rs a.c b.c lo hi lo' hi' _ (Rd.up hr (((Up.refl _).allocs _).allocs _) hhi) ?hs1 (Rd.up hr' (((Up.refl _).allocs _).allocs _) hhi') ?hs2 hn).mono ?_
    case hs1 => simp; omega
    case hs2 => simp; omega
    rintro e w2 ⟨rfl, hup⟩
    go_wp2
    all_goals (go_ret; refine ⟨ret_bool ?_, (((Up.refl _).allocs _).allocs _).trans hup⟩; rw [H.out]; simp_all)

def eqCs (L M : List Cp) : Bool := decide (L.map Cp.p = M.map Cp.p)
theorem eqCs_len {l m : List Cp} (h : l.length ≠ m.length) : eqCs l m = false := by unfold eqCs; rw [decide_eq_false_iff_not]; intro e; apply h; simpa using congrArg List.length e
theorem eqCs_ne {l m : List Cp} {k : Nat} {a b : Cp} (ha : l[k]? = some a) (hb : m[k]? = some b) (h : eqC a b = false) : eqCs l m = false := by
  unfold eqCs; rw [decide_eq_false_iff_not]; intro e
  have e2 : (l.map Cp.p)[k]? = (m.map Cp.p)[k]? := by rw [e]
  rw [List.getElem?_map, List.getElem?_map, ha, hb] at e2
  simp only [Option.map_some, Option.some.injEq] at e2
  simp [eqC, e2] at h
theorem eqCs_eq {l m : List Cp} (h : (l.take l.length).map Cp.p = (m.take l.length).map Cp.p) (hl : l.length = m.length) : eqCs l m = true := by
  unfold eqCs; rw [decide_eq_true_iff]
  rwa [List.take_of_length_le (Nat.le_refl _), hl, List.take_of_length_le (Nat.le_refl _)] at h
theorem eqCs_self {l m : List Cp} (h : l.map Cp.p = m.map Cp.p) : eqCs l m = true := by simp [eqCs, h]
theorem take_succ_map {l m : List Cp} {k : Nat} {a b : Cp} (h : (l.take k).map Cp.p = (m.take k).map Cp.p) (ha : l[k]? = some a) (hb : m[k]? = some b) (hab : eqC a b = true) : (l.take (k + 1)).map Cp.p = (m.take (k + 1)).map Cp.p := by
  rw [List.take_succ_eq_append_getElem (List.getElem?_eq_some_iff.1 ha).1, List.take_succ_eq_append_getElem (List.getElem?_eq_some_iff.1 hb).1, List.map_append, List.map_append, h, (List.getElem?_eq_some_iff.1 ha).2, (List.getElem?_eq_some_iff.1 hb).2]
  simp only [eqC, decide_eq_true_eq] at hab
  simp [hab]
set_option maxRecDepth 100000 in
set_option maxHeartbeats 2000000 in
theorem eqCopyS_any (A B : Option Addr) (l m : List Cp) (c c' lo hi lo' hi' : Nat) (w : World) (hr : RdC w lo hi A l) (hhi : hi ≤ w.heap.size) (hr' : RdC w lo' hi' B m) (hhi' : hi' ≤ w.heap.size) (hm : m.length ≤ 2000000) (hrs : ∀ x ∈ l, x.rs.length ≤ 2000000) :
    Calls Tryd.prog 19 #[.slice A l.length c, .slice B m.length c'] w fun e w' => e = .returned (.bool (eqCs l m)) ∧ Up w w' := by
  by_cases hne : l.length = m.length
  · have HL := Lib.hid hne
    have hb0 : ((l.length : Int) != (m.length : Int)) = false := by simp [hne]
    have hlm : l.length ≤ m.length := by omega
    clear hne
    go_enter Tryd.func19, Tryd.ntmps19
    go_wp2
    go_loopw [5] (fun i wr => ∃ k : Nat, k ≤ l.length ∧ i = .int .i64 k ∧ (l.take k).map Cp.p = (m.take k).map Cp.p ∧ Up w wr) (fun i _ => l.length - (intOf i).toNat)
    case atStart => exact ⟨0, Nat.zero_le _, rfl, by simp, Up.refl _⟩
    case round =>
      obtain ⟨k, hk, rfl, ht, hup⟩ := hrel
      have HT := Lib.hid ht
      clear ht
      by_cases hlt : k < l.length
      · have hlt' : k < m.length := by omega
        obtain ⟨b1, o1, d1, rfl, -, -, hd1, i1, p0, p1⟩ := (hr.up hup hhi).at_ hlt
        obtain ⟨b2, o2, d2, rfl, -, -, hd2, i2, q0, q1⟩ := (hr'.up hup hhi').at_ hlt'
        have HD1 := Lib.hid hd1
        have HD2 := Lib.hid hd2
        have I1 := Lib.hid i1
        have I2 := Lib.hid i2
        clear hd1 hd2 i1 i2
        have hh1 : hi ≤ wr.heap.size := Nat.le_trans hhi hup.size
        have hh2 : hi' ≤ wr.heap.size := Nat.le_trans hhi' hup.size
        have P0 := cell_regrown p0
        have P1 := cell_regrown p1
        have Q0 := cell_regrown q0
        have Q1 := cell_regrown q1
        go_wp2_with fail
        refine wp_region_quiet_below (by kernel_rfl) (by kernel_rfl) ?_
        repeat (quiet_step ((go_at_call 33; exact Calls.regrown_of (eqCopy_any d1 d2 lo hi lo' hi' _ (I1.out.up (below_regrown _ _ _) hh1) (Nat.le_trans hh1 (below_regrown _ _ _).size) (I2.out.up (below_regrown _ _ _) hh2) (Nat.le_trans hh2 (below_regrown _ _ _).size) (hrs d1 (List.mem_of_getElem? HD1.out))))))
        refine wpQuiet_nil ?_
        intro w2 hw2
        obtain ⟨⟨dq, osq⟩, hw2⟩ := hw2
        have hup2 : Up wr w2 := by rw [hw2]; exact below_regrown _ _ _
        clear hw2 P0 P1 Q0 Q1
        go_wp2
        · have hq : (!eqC d1 d2) = true := by assumption
          go_ret
          exact ⟨ret_bool (eqCs_ne HD1.out HD2.out (by simpa using hq)).symm, hup.trans hup2⟩
        · have hq : (!eqC d1 d2) = false := by assumption
          go_roundw
          case rel => exact ⟨k + 1, by omega, by go_num, take_succ_map HT.out HD1.out HD2.out (by simpa using hq), hup.trans hup2⟩
          case measure => simp [intOf]; omega
      · go_wp2
        go_ret
        exact ⟨ret_bool (eqCs_eq (by rw [show k = l.length by omega] at HT; exact HT.out) HL.out).symm, hup⟩
  · have hb0 : ((l.length : Int) != (m.length : Int)) = true := by rw [bne_iff_ne]; omega
    have H := Lib.hid hne
    clear hne
    go_enter Tryd.func19, Tryd.ntmps19
    go_wp2
    go_ret
    exact ⟨ret_bool (eqCs_len H.out).symm, Up.refl _⟩
end Go.Proofs.YtdjhenjgccenhaaDoor
