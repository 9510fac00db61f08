/- A drawn copy. -/
import Derived.Test.YtncmenfdnpmblaaDoorDrawK2
import Derived.Test.YtncmenfdnpmblaaDoorRcopy
namespace Go.Proofs.YtncmenfdnpmblaaDoor
open Go.RowKit Go.Sort

set_option maxRecDepth 100000 in
set_option maxHeartbeats 2000000 in
theorem drawCopyText_any (A : Option Addr) (L0 : List UInt8) (c0 lo hi : Nat) (w : World) (hr : RdY w lo hi A L0) (hhi : hi ≤ w.heap.size) (hn : L0.length ≤ 2000000) :
    Calls Tryd.prog 28 #[.slice A L0.length c0] w fun e w' => ∃ y : Cp, e = .returned y.val ∧ (y.ok' ∧ y.name.size ≤ 5 ∧ y.rs.length ≤ 40) ∧ w'.ownsRow w.heap.size 2 1 y.sl y.rs.length (y.rs.flatMap intCells) ∧ Up w w' := by
  go_enter Tryd.func28, Tryd.ntmps28
  go_wp2_with fail
  obtain ⟨wa, hwa⟩ : ∃ x, x = w.alloc (.cells #[.string ⟨#[]⟩, .slice none 0 0] 49) := ⟨_, rfl⟩
  have hua : Up w wa := by rw [hwa]; exact Up.alloc _ _
  have hbx : Box wa w.heap.size (.string ⟨#[]⟩) (.slice none 0 0) := by rw [hwa]; exact ⟨by go_simp, by go_simp, by go_simp, by go_simp⟩
  have hga : Hid (wa.heap.size = w.heap.size + 1) := Lib.hid (by rw [hwa]; simp)
  rw [← hwa]
  clear hwa
  refine (l01From_any A L0 c0 lo hi wa (hr.up hua hhi) (Nat.le_trans hhi hua.size) hn).mono ?_
  rintro e w1 ⟨rfl, h1, S1, u1⟩
  go_wp2_with fail
  refine (l22Draw_any A L0 c0 lo wa.heap.size w1 S1 h1 hn).mono ?_
  rintro e w2 ⟨vo, o, vl, L, rfl, T2, hF, ho, hl, S2, m2⟩
  have hb1 : wa.heap.size < w1.heap.size + 1 := by omega
  have u2 := u1.mk m2 (Nat.le_refl _)
  have h2 := Nat.lt_of_lt_of_le h1 m2.size
  have hbx2 := hbx.up u2
  obtain ⟨Cl, cl, rfl, -, -, -⟩ := own_formz T2.list
  have hz1 := u1.size
  clear S1 m2 u1 hbx
  rcases Nat.eq_zero_or_pos L.length with hnil | hpos
  · obtain rfl := List.length_eq_zero_iff.1 hnil
    have hnb : (((([] : List Cp).length : Nat) : Int) == 0) = true := rfl
    obtain ⟨f0, f1, f2, f3⟩ := hbx2
    have UU := hua.trans u2
    clear hnil T2 hF S2 u2 hua
    go_wp2
    refine bodyPost_ret (v := Cp.val ⟨⟨#[120]⟩, none, 0, []⟩) (by simp [results, Tryd.results28, go_sem, f0, f1]) rfl ⟨⟨⟨#[120]⟩, none, 0, []⟩, rfl, ⟨⟨Nat.le_refl _, by simp [maxLen]⟩, by decide, by simp⟩, World.ownsRow_nil _ _ _ _, (UU.setCell (by simp) _).setCell (by simp) _⟩
  · have hnb : ((L.length : Int) == 0) = false := by rw [beq_eq_false_iff_ne]; omega
    have HT2 := Lib.hid T2
    have HF := Lib.hid hF
    clear T2 hF
    go_wp2_with fail
    refine (l01Next_any A L0 c0 lo wa.heap.size (L.length : Int) w2 S2 h2 hn (by omega)).mono ?_
    rintro e w3 ⟨z, rfl, hz, S3, m3⟩
    obtain ⟨hz0, hzl⟩ := hz.lt (by omega)
    obtain ⟨q, rfl⟩ : ∃ q : Nat, z = (q : Int) := ⟨z.toNat, by omega⟩
    have hq : q < L.length := by omega
    have T3 := HT2.out.gr (gr_mk m3) hb1
    have u3 := u2.mk m3 (Nat.le_refl _)
    obtain ⟨f0, f1, f2, f3⟩ := hbx2.up (Up.refl _)
    have hlt : w.heap.size < wa.heap.size := by have := hga.out; omega
    have g0 := m3.cell f0 (.inl hlt)
    have g1 := m3.cell f1 (.inl hlt)
    have g2 : w3.frozen? ⟨w.heap.size, 0, none⟩ = false := (m3.frozen (p := ⟨w.heap.size, 0, none⟩) (block_lt_of_cell f0) (.inl hlt)).trans f2
    have g3 : w3.frozen? ⟨w.heap.size, 1, none⟩ = false := (m3.frozen (p := ⟨w.heap.size, 1, none⟩) (block_lt_of_cell f1) (.inl hlt)).trans f3
    obtain ⟨b, off, x, rfl, hlo, hhi', hx, -, qn, qs⟩ := T3.rdc.at_ hq
    have hm := List.mem_of_getElem? hx
    have HO := Lib.hid (T3.each x hm)
    have HX := Lib.hid (HF.out x hm)
    have UU := hua.trans u3
    clear S2 S3 m3 T3 u3 u2 hua hz f0 f1 f2 f3 hbx2 hx hm hpos
    go_wp2
    refine bodyPost_ret (v := x.val) (by simp [results, Tryd.results28, go_sem, g0, g1]) rfl ⟨x, rfl, HX.out, own_base (ownsRow_setCell_below (ownsRow_setCell_below HO.out (by show w.heap.size < w1.heap.size + 1; have := hga.out; omega) _) (by show w.heap.size < w1.heap.size + 1; have := hga.out; omega) _) (by have := hga.out; omega), (UU.setCell (by simp) _).setCell (by simp) _⟩
end Go.Proofs.YtncmenfdnpmblaaDoor
