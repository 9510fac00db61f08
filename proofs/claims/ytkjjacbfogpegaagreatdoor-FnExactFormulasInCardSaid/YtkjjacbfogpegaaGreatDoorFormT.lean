/- Lists of formulas: new copies of them. -/
import Derived.Test.YtkjjacbfogpegaaGreatDoorFormC
namespace Go.Proofs.YtkjjacbfogpegaaGreatDoor
open Go.RowKit Go.Sort

theorem infoFm : (Tryz.prog.info? 57).map (fun i => (i.zero, i.size, i.bytes)) = some (some (.agg #[.slice none 0 0, .int .i64 0, .int .i64 0]), 3, 40) := by kernel_rfl

abbrev Fm.sl (x : Fm) : Value := .slice x.A x.ws.length x.c
/-- no two formulas' words lie in one block -/
def DistF (L : List Fm) : Prop := ∀ (i j : Nat) (x y : Fm), i < j → L[i]? = some x → L[j]? = some y → ∀ b, x.sl.ownBlock = some b → y.sl.ownBlock ≠ some b
theorem DistF.nil_ : DistF [] := fun i j x y _ h => by simp at h
theorem DistF.snoc {L : List Fm} {y : Fm} (h : DistF L) (hy : ∀ x ∈ L, ∀ b, x.sl.ownBlock = some b → y.sl.ownBlock ≠ some b) : DistF (L ++ [y]) := by
  intro i j x z hij hi hj b hb
  rcases Nat.lt_or_ge j L.length with h1 | h1
  · rw [List.getElem?_append_left h1] at hj
    rw [List.getElem?_append_left (by omega)] at hi
    exact h i j x z hij hi hj b hb
  · have hj' : j = L.length := by
      have := (List.getElem?_eq_some_iff.1 hj).1
      simp at this; omega
    subst hj'
    rw [List.getElem?_append_left hij] at hi
    rw [List.getElem?_append_right (Nat.le_refl _)] at hj
    simp at hj; subst hj
    exact hy x (List.mem_of_getElem? hi) b hb
/-- a list of formulas that the call itself made -/
def OwnF (w : World) (g0 : Nat) (A : Option Addr) (n c : Nat) (L : List Fm) : Prop :=
  ∃ g, g0 ≤ g ∧ w.ownsRow g 57 3 (.slice A n c) n (L.flatMap Fm.cells) ∧ (∀ y ∈ L, y.ok' ∧ w.ownsRow (g + 1) 9 1 y.sl y.ws.length (y.ws.flatMap strC)) ∧ DistF L ∧ In (.slice A n c) g (g + 1)

theorem fm_set3 {xs : List Value} {L : List Fm} {k : Nat} {y : Fm} {n : Nat} (hx : xs.length = n * 3) (hk : k < n) (ht : xs.take (k * 3) = L.flatMap Fm.cells) :
    (((xs.set (k * 3) y.sl).set (k * 3 + 1) (.int .i64 y.fr)).set (k * 3 + 2) (.int .i64 y.to_)).take ((k + 1) * 3) = (L ++ [y]).flatMap Fm.cells := by
  rw [show (k + 1) * 3 = k * 3 + 2 + 1 by omega, take_set_succ (by simp; omega), take_set_succ (by simp; omega), take_set_succ (by omega), ht]
  simp

set_option maxRecDepth 100000 in
set_option maxHeartbeats 2000000 in
theorem toFormulaS_any (A : Option Addr) (l : List Fm) (c lo hi : Nat) (w : World) (hr : RdF w lo hi A l) (hhi : hi ≤ w.heap.size) (hn : l.length ≤ 2000000) (hrs : ∀ x ∈ l, x.ws.length ≤ 2000000) :
    Calls Tryz.prog 12 #[.slice A l.length c] w fun e w' => ∃ A' c' L, e = .returned (.slice A' l.length c') ∧ L.length = l.length ∧ L.map Fm.p = l.map Fm.p ∧ l.length ≤ c' ∧ c' ≤ maxLen ∧ OwnF w' w.heap.size A' l.length c' L ∧ Up w w' := by
  obtain ⟨i0, hi0, hz0, hz1, hz2⟩ := info_parts infoFm
  go_enter Tryz.func12, Tryz.ntmps12
  go_wp2_with ((refine wpList_make_full _ rfl _ _ 29 rfl w.heap.size 57 i0 _ 3 Tryz.underlying29 hi0 hz0 hz1 _ _ _ _ l.length rfl rfl rfl rfl ?b2 ?b3 ?b4 ?_))
  case b2 => rw [hz2]; omega
  case b3 => unfold maxLen; omega
  case b4 => exact Nat.le_refl _
  intro w1 hown hg
  have hup1 : Up w w1 := (Up.refl w).grown hg (fun k h => by cases h)
  generalize (madeCells _ _).toList = xs0 at hown
  clear hg
  go_wp2
  go_loopw [4] (fun i wr => ∃ k : Nat, ∃ xs, ∃ L : List Fm, k ≤ l.length ∧ i = .int .i64 k ∧ L.length = k ∧ wr.ownsRow w.heap.size 57 3 (.slice (some ⟨w.heap.size, 0, none⟩) l.length l.length) l.length xs ∧ xs.take (k * 3) = L.flatMap Fm.cells ∧ L.map Fm.p = (l.take k).map Fm.p ∧
      (∀ y ∈ L, y.ok' ∧ wr.ownsRow (w.heap.size + 1) 9 1 y.sl y.ws.length (y.ws.flatMap strC)) ∧ DistF L ∧ Up w wr) (fun i _ => l.length - (intOf i).toNat)
  case atStart => exact ⟨0, _, [], Nat.zero_le _, rfl, rfl, hown, by simp, by simp, by simp, DistF.nil_, hup1⟩
  case round =>
    obtain ⟨k, xs, L, hk, rfl, hL, hown, hxs, hmap, hin, hdis, hup⟩ := hrel
    have HX := Lib.hid hxs
    have HL := Lib.hid hL
    have HM := Lib.hid hmap
    have HIN := Lib.hid hin
    have HDI := Lib.hid hdis
    clear hxs hL hmap hin hdis
    by_cases hlt : k < l.length
    · obtain ⟨b, off, d, rfl, hlo, hb, hd, hrd, q0, q1, q2⟩ := (hr.up hup hhi).at_ hlt
      have HD := Lib.hid hd
      clear hd
      have hgs : w.heap.size < wr.heap.size := by
        obtain ⟨A', c', hv, -, -, hA, -⟩ := own_form hown
        simp only [Value.slice.injEq] at hv
        obtain ⟨rfl, -, -⟩ := hv
        obtain ⟨g', e, -, h⟩ := hA (by omega)
        cases e; exact h
      go_wp2_with (go_at_call 52; refine (toFormula_any d lo hi _ hrd (Nat.le_trans hhi hup.size) (hrs d (List.mem_of_getElem? HD.out))).mono ?_; rintro e w' ⟨y, rfl, hyp, hyo, hyw, hup'⟩; have HY := Lib.hid hyp; clear hyp; have hown' := own_up hown hup'; obtain ⟨u0, r0⟩ := own_cell hown' (p := k * 3) (by omega); obtain ⟨u1, r1⟩ := own_cell hown' (p := k * 3 + 1) (by omega); obtain ⟨u2, r2⟩ := own_cell hown' (p := k * 3 + 2) (by omega); have z0 := hown'.frozenAt (k * 3); have z1 := hown'.frozenAt (k * 3 + 1); have z2 := hown'.frozenAt (k * 3 + 2))
      go_roundw
      case rel => exact ⟨k + 1, _, L ++ [y], by omega, by go_num, by rw [List.length_append, HL.out]; rfl, (((hown'.stored _ _).1.stored _ _).1.stored _ _).1, fm_set3 hown'.1 hlt HX.out,
        by rw [List.map_append, HM.out, List.take_succ_eq_append_getElem hlt, List.map_append, (List.getElem?_eq_some_iff.1 HD.out).2]; simp [HY.out],
        fun z hz => by
          rcases List.mem_append.1 hz with h | h
          · have h1 := HIN.out z h
            exact ⟨h1.1, ownsRow_setCell_below (ownsRow_setCell_below (ownsRow_setCell_below (own_up h1.2 hup') (by simp) _) (by simp) _) (by simp) _⟩
          · simp at h; subst h
            exact ⟨hyo, ownsRow_setCell_below (ownsRow_setCell_below (ownsRow_setCell_below (own_base hyw hgs) (by simp) _) (by simp) _) (by simp) _⟩,
        HDI.out.snoc (fun x hx b hb hb' => by
          have h1 := ((HIN.out x hx).2.lt b hb).2
          have h2 := (hyw.lt b hb').1
          omega),
        (((hup.trans hup').setCell (by simp) _).setCell (by simp) _).setCell (by simp) _⟩
      case measure => simp [intOf]; omega
    · go_wp2
      go_ret
      have hk2 : k = l.length := by omega
      have hx := HX.out
      have hm := HM.out
      rw [hk2] at hx hm
      rw [List.take_of_length_le (by rw [hown.1]; omega)] at hx
      rw [List.take_of_length_le (Nat.le_refl _)] at hm
      subst hx
      exact ⟨_, _, L, rfl, by rw [HL.out, hk2], hm, Nat.le_refl _, by unfold maxLen; omega, ⟨w.heap.size, Nat.le_refl _, hown, HIN.out, HDI.out, fun g hg => by simp [Value.ownBlock] at hg; omega⟩, hup⟩

theorem OwnF.up {w w' : World} {g0 n c : Nat} {A : Option Addr} {L : List Fm} (h : OwnF w g0 A n c L) (hu : Up w w') : OwnF w' g0 A n c L := by
  obtain ⟨g, h1, h2, h3, h4, h5⟩ := h
  exact ⟨g, h1, own_up h2 hu, fun y hy => ⟨(h3 y hy).1, own_up (h3 y hy).2 hu⟩, h4, h5⟩
theorem OwnF.rd {w : World} {g0 c : Nat} {A : Option Addr} {L : List Fm} (h : OwnF w g0 A L.length c L) : RdF w g0 w.heap.size A L := by
  obtain ⟨g, h1, h2, h3, -, -⟩ := h
  exact ⟨(Rd.own fm_len h2).wide h1 (Nat.le_refl _), fun x hx => (Rd.own strC_len (h3 x hx).2).wide (by omega) (Nat.le_refl _)⟩
