/- ReadCopy: the program's walk. -/
import Derived.Test.YtncmenfdnpmblaaDoorSplit
import Derived.Test.YtncmenfdnpmblaaDoorCtext
import Derived.Deep.AppendLies
import Derived.Deep.RegionLaw
import Derived.StillTailTactics
namespace Go.Proofs.YtncmenfdnpmblaaDoor
open Go.RowKit Go.Sort

/-- a struct of two cells in a block of its own -/
def Box (w : World) (g : Nat) (a b : Value) : Prop := w.cell? ⟨g, 0, none⟩ = some a ∧ w.cell? ⟨g, 1, none⟩ = some b ∧ w.frozen? ⟨g, 0, none⟩ = false ∧ w.frozen? ⟨g, 1, none⟩ = false
theorem Box.lt {w : World} {g : Nat} {a b : Value} (h : Box w g a b) : g < w.heap.size := block_lt_of_cell h.1
theorem Box.up {w w' : World} {g : Nat} {a b : Value} (h : Box w g a b) (hu : Up w w') : Box w' g a b :=
  ⟨hu.cell h.1, hu.cell h.2.1, (Below.frozen hu (p := ⟨g, 0, none⟩) h.lt).trans h.2.2.1, (Below.frozen hu (p := ⟨g, 1, none⟩) h.lt).trans h.2.2.2⟩
theorem Box.grown {w w' : World} {g : Nat} {a b : Value} {row : Option Nat} (h : Box w g a b) (hg : w.grownBy w' row) (hne : some g ≠ row) : Box w' g a b :=
  ⟨(hg.cell_far ⟨g, 0, none⟩ h.lt hne).trans h.1, (hg.cell_far ⟨g, 1, none⟩ h.lt hne).trans h.2.1, (hg.frozen_far ⟨g, 0, none⟩ h.lt hne).trans h.2.2.1, (hg.frozen_far ⟨g, 1, none⟩ h.lt hne).trans h.2.2.2⟩
theorem Box.put {w : World} {g : Nat} {a b : Value} (h : Box w g a b) (u : Value) : Box (w.setCell ⟨g, 1, none⟩ u) g a u := by
  obtain ⟨h0, h1, h2, h3⟩ := h
  refine ⟨?_, ?_, ?_, ?_⟩ <;> go_simp
theorem Box.other {w : World} {g g' j : Nat} {a b : Value} (h : Box w g a b) (hne : g' ≠ g) (u : Value) : Box (w.setCell ⟨g', j, none⟩ u) g a b := by
  obtain ⟨h0, h1, h2, h3⟩ := h
  refine ⟨?_, ?_, ?_, ?_⟩ <;> go_simp

/-- one copy in a slice that was just built -/
theorem one_cp1 (w : World) (x : Cp) {lo hi : Nat} (hr : RdI w lo hi x.A x.rs) (hhi : hi ≤ w.heap.size) : RdC (w.alloc (.cells #[.string x.name, .slice x.A x.rs.length x.c] 49)) 0 (w.heap.size + 1) (some ⟨w.heap.size, 0, none⟩) [x] := by
  refine ⟨fun _ => ⟨w.heap.size, 0, rfl, Nat.zero_le _, by omega, fun i y hy j u hu => ?_⟩, fun y hy => ?_⟩
  · match i, hy with
    | 0, hy =>
      simp at hy; subst hy
      match j, hu with
      | 0, hu => simp at hu; subst hu; go_simp
      | 1, hu => simp at hu; subst hu; go_simp
  · simp at hy; subst hy
    exact Rd.wide (hr.up (Up.alloc _ _) hhi) (Nat.zero_le _) (by omega)
/-- the readings that a text of digits stands for -/
def rcR (r : ByteArray) : List Int := r.data.toList.map fun b => (b.toNat : Int) - 48
theorem rcR_len (r : ByteArray) : (rcR r).length = r.size := by simp [rcR]
theorem rcR_at {r : ByteArray} {k : Nat} (h : k < r.size) : (rcR r)[k]? = some ((r[k].toNat : Int) - 48) := by
  unfold rcR
  rw [List.getElem?_map, List.getElem?_eq_getElem (by simpa using h)]; rfl
theorem rcR_step {w' : World} {base : Nat} {T : TypeId} {v' : Value} {r : ByteArray} {k : Nat} (h : k < r.size) (ho : w'.ownsRow base T 1 v' (k + 1) (((rcR r).take k).flatMap intCells ++ [.int .i64 ((r[k].toNat : Int) - 48)])) : w'.ownsRow base T 1 v' (k + 1) (((rcR r).take (k + 1)).flatMap intCells) := by
  rw [take_flat_succ intCells (rcR_at h)]; exact ho
def rcK (s : ByteArray) : Bool := ctF 58 s && arB [(ctN 58 s, rcR (ctR 58 s))]
def rcP (s : ByteArray) : PC := if rcK s = true then (ctN 58 s, rcR (ctR 58 s)) else (⟨#[]⟩, [])
def rcC (s : ByteArray) : Int := if rcK s = true then 0 else 6
theorem rc_no {s : ByteArray} (h : rcK s = false) : rcP s = (⟨#[]⟩, []) ∧ rcC s = 6 := by simp [rcP, rcC, h]
theorem rc_yes {s : ByteArray} (h : rcK s = true) : rcP s = (ctN 58 s, rcR (ctR 58 s)) ∧ rcC s = 0 := by simp [rcP, rcC, h]
theorem ext_size (s : ByteArray) (a b : Nat) : (s.extract a b).size ≤ s.size := by
  have := congrArg List.length (Lib.extract_data s a b)
  rw [dl_len, List.length_take, List.length_drop, dl_len] at this; omega
theorem ctN_size (c : UInt8) (s : ByteArray) : (ctN c s).size ≤ s.size := by
  unfold ctN; split
  · exact Nat.le_refl _
  · exact ext_size _ _ _
theorem ctR_size (c : UInt8) (s : ByteArray) : (ctR c s).size ≤ s.size := by
  unfold ctR; split
  · exact Nat.zero_le _
  · exact ext_size _ _ _

set_option maxRecDepth 100000 in
set_option maxHeartbeats 4000000 in
theorem implReadCopy_any (s : ByteArray) (w : World) (hs : s.size ≤ 1048576) :
    Calls Tryd.prog 32 #[.string s] w fun e w' => ∃ y : Cp, e = .returned (.tuple #[y.val, .int .i64 (rcC s)]) ∧ y.p = rcP s ∧ y.ok' ∧ w'.ownsRow w.heap.size 2 1 (.slice y.A y.rs.length y.c) y.rs.length (y.rs.flatMap intCells) ∧ Up w w' := by
  obtain ⟨i0, hi0, hz0, hz1, hz2⟩ := info_parts infoInt
  have hN := ctN_size 58 s
  have hR := ctR_size 58 s
  have HRK := Lib.hid (show rcK s = (ctF 58 s && arB [(ctN 58 s, rcR (ctR 58 s))]) from rfl)
  obtain ⟨nm, hnm⟩ : ∃ x, x = ctN 58 s := ⟨_, rfl⟩
  obtain ⟨rr, hrr⟩ : ∃ x, x = ctR 58 s := ⟨_, rfl⟩
  have HC := cut_any s 58 (w.alloc (.cells #[.string ⟨#[]⟩, .slice none 0 0] 49)) (by omega)
  rw [← hnm, ← hrr] at HC HRK
  rw [← hnm] at hN
  rw [← hrr] at hR
  have HCC := Lib.hid HC
  have HNM := Lib.hid hnm
  have HRR := Lib.hid hrr
  clear HC hnm hrr
  go_enter Tryd.func32, Tryd.ntmps32
  go_wp2_with fail
  refine HCC.out.mono ?_
  rintro e w1 ⟨rfl, hup1⟩
  have hu1 := (Up.alloc w (.cells #[.string ⟨#[]⟩, .slice none 0 0] 49)).trans hup1
  have hbx : Box (w.alloc (.cells #[.string ⟨#[]⟩, .slice none 0 0] 49)) w.heap.size (.string ⟨#[]⟩) (.slice none 0 0) := ⟨by go_simp, by go_simp, by go_simp, by go_simp⟩
  have hrv := hbx.up hup1
  clear hbx
  go_wp2
  have hb0 : Box (w1.alloc (.cells #[.string nm, .slice none 0 0] 49)) w1.heap.size (.string nm) (.slice none 0 0) := ⟨by go_simp, by go_simp, by go_simp, by go_simp⟩
  have hrv0 := hrv.up (Up.alloc w1 (.cells #[.string nm, .slice none 0 0] 49))
  have hu2 := hu1.allocs (.cells #[.string nm, .slice none 0 0] 49)
  have hgr : w.heap.size < w1.heap.size := hrv.lt
  have hgs : w1.heap.size + 1 ≤ (w1.alloc (.cells #[.string nm, .slice none 0 0] 49)).heap.size := by simp
  obtain ⟨g0, hg0⟩ : ∃ g, g = w1.heap.size := ⟨_, rfl⟩
  rw [← hg0] at hb0 hgr hgs ⊢
  generalize w1.alloc (.cells #[.string nm, .slice none 0 0] 49) = w2 at *
  clear hg0 hup1 hu1 hrv
  go_loopw [8, 19] (fun _ i wr => ∃ (k : Nat) (C : Option Addr) (cc : Nat), k ≤ rr.size ∧ i = .int .i64 k ∧ Box wr g0 (.string nm) (.slice C k cc) ∧ Box wr w.heap.size (.string ⟨#[]⟩) (.slice none 0 0) ∧ wr.ownsRow (g0 + 1) 2 1 (.slice C k cc) k (((rcR rr).take k).flatMap intCells) ∧ g0 + 1 ≤ wr.heap.size ∧ Up w wr) (fun _ i _ => rr.size - (intOf i).toNat)
  case atStart => exact ⟨0, none, 0, Nat.zero_le _, rfl, hb0, hrv0, World.ownsRow_nil _ _ _ _, hgs, hu2⟩
  case round =>
    obtain ⟨k, C, cc, hk, rfl, hbx, hbr, hown, hgw, hup⟩ := hrel
    by_cases hlt : k < rr.size
    · have hbx2 := hbx
      obtain ⟨p0, p1, p2, p3⟩ := hbx
      have hne : some g0 ≠ (Value.slice C k cc).ownBlock := fun e => by have := hown.lt g0 e.symm; omega
      have hne2 : some w.heap.size ≠ (Value.slice C k cc).ownBlock := fun e => by have := hown.lt w.heap.size e.symm; omega
      have hua := Up.alloc wr (.cells #[.int .i64 ((rr[k].toNat : Int) - 48)] 2)
      have hbx3 := Lib.hid (show Box (wr.alloc (.cells #[.int .i64 ((rr[k].toNat : Int) - 48)] 2)).drew g0 (.string nm) (.slice C k cc) from hbx2.up hua.drew)
      have hbr3 := Lib.hid (show Box (wr.alloc (.cells #[.int .i64 ((rr[k].toNat : Int) - 48)] 2)).drew w.heap.size (.string ⟨#[]⟩) (.slice none 0 0) from hbr.up hua.drew)
      have hb1 := rr[k].toNat_lt
      obtain ⟨z, hz⟩ : ∃ z : Int, z = (rr[k].toNat : Int) - 48 := ⟨_, rfl⟩
      have hzr : -48 ≤ z ∧ z < 208 := by omega
      have hwr : IntKind.i64.wrap ((rr[k].toNat : Int) - 48) = (rr[k].toNat : Int) - 48 := IntWalk.i64_in _ (by omega)
      have hwr0 : IntKind.i64.wrap (rr[k].toNat : Int) = (rr[k].toNat : Int) := IntWalk.i64_in _ (by omega)
      have n1 : k + 1 ≤ maxLen := by unfold maxLen; omega
      have n2 : (k + 1) * 8 ≤ 140737488355328 := by omega
      have n3 : g0 + 1 ≤ (wr.alloc (.cells #[.int .i64 ((rr[k].toNat : Int) - 48)] 2)).heap.size := by simp; omega
      have q1 := (Up.alloc wr (.cells #[.int .i64 ((rr[k].toNat : Int) - 48)] 2)).cell p1
      clear hz
      go_wp2_with fail
      go_region_law ((refine step_append_lies _ rfl (.tmp 23) (.tmp 29) 25 rfl (g0 + 1) 2 i0 (.int .i64 0) 1 8 Tryd.underlying25 hi0 hz0 hz1 hz2 rfl (by decide) (.slice C k cc) k _ (by simp [Act.eval]) (hown.alloc (.cells #[.int .i64 ((rr[k].toNat : Int) - 48)] 2)) ⟨wr.heap.size, 0, none⟩ 1 1 [.int .i64 ((rr[k].toNat : Int) - 48)] (by simp [Act.eval]) rfl (cell_one_new _ _ _) (by simp [Value.oneCell']) (by decide) n1 n2 n3 _ rfl ?_; intro g cap w' hown' hgrow hat hlt'; have hbw := Box.grown hbx3.out hgrow hne; have hbv := Box.grown hbr3.out hgrow hne2; obtain ⟨y0, y1, y2, y3⟩ := hbw))
      all_goals
        have hbf : Box w' g0 (.string nm) (.slice C k cc) := ⟨y0, y1, y2, y3⟩
        have hzz := hgrow.size
        have hUU := (hup.trans hua.drew).grown hgrow (fun b hb => by have := hown.lt b hb; omega)
        have hO := rcR_step hlt hown'
        have hgg : g0 + 1 ≤ w'.heap.size := Nat.le_trans n3 hzz
        clear y0 y1 y2 y3 hown' hgrow q1 p0 p1 p2 p3 hwr hwr0
        go_wp2
        go_roundw
        case rel => exact ⟨k + 1, some ⟨g, 0, none⟩, cap, by omega, by go_num, hbf.put _, hbv.other (by omega) _, ownsRow_setCell_below hO (by show g0 < g0 + 1; omega) _, by simpa using hgg, hUU.setCell (by show w.heap.size ≤ g0; omega) _⟩
        case measure => simp [intOf]; omega
    · have hkl : k = (rcR rr).length := by rw [rcR_len]; omega
      have hrl := rcR_len rr
      have HRL := Lib.hid hrl
      have hrl2 : (rcR rr).length ≤ 1048576 := by omega
      have hrl3 : ¬ (rcR rr).length < rr.size := by omega
      subst hkl
      clear hrl hlt hk
      have hown2 : wr.ownsRow (g0 + 1) 2 1 (.slice C (rcR rr).length cc) (rcR rr).length ((rcR rr).flatMap intCells) := by
        have h := hown; rw [List.take_of_length_le (Nat.le_refl _)] at h; exact h
      have HOWN := Lib.hid hown2
      clear hown hown2
      obtain ⟨v0, v1, v2, v3⟩ := hbr
      obtain ⟨p0, p1, p2, p3⟩ := hbx
      rcases hF : ctF 58 s with _ | _
      · rw [hF] at HRK
        have HP := Lib.hid (rc_no (s := s) HRK.out)
        go_wp2
        refine bodyPost_ret (v := .tuple #[.agg #[.string ⟨#[]⟩, .slice none 0 0], .int .i64 6]) (by simp [results, Tryd.results32, go_sem, v0, v1]) rfl ⟨⟨⟨#[]⟩, none, 0, []⟩, ?_, HP.out.1.symm, ⟨Nat.le_refl _, by simp [maxLen]⟩, World.ownsRow_nil _ _ _ _, (hup.setCell (by simp) _).setCell (by simp) _⟩
        rw [HP.out.2]; rfl
      · have hA := implAre (some ⟨wr.heap.size, 0, none⟩) [⟨nm, C, cc, rcR rr⟩] 1 0 (wr.heap.size + 1) _ (one_cp1 wr ⟨nm, C, cc, rcR rr⟩ (Rd.own int_len HOWN.out) (Nat.le_refl _)) (by simp) ⟨by intro d hd; simp at hd; subst hd; show nm.size ≤ maxLen; unfold maxLen; omega, by intro d hd; simp at hd; subst hd; show (rcR rr).length ≤ 2000000; omega, by simp, by simp, by simp [maxLen]⟩
        simp only [List.map_cons, List.map_nil, Cp.p, List.length_singleton] at hA
        have hua := Up.alloc wr (.cells #[.string nm, .slice C (rcR rr).length cc] 49)
        rw [hF, Bool.true_and] at HRK
        obtain ⟨bb, hbb⟩ : ∃ bb, bb = arB [((nm, rcR rr) : PC)] := ⟨_, rfl⟩
        rw [← hbb] at hA HRK
        have HA := Lib.hid hA
        clear hA hbb
        cases bb
        · have HP := Lib.hid (rc_no (s := s) HRK.out)
          go_wp2_with fail
          refine HA.out.mono ?_
          rintro e w5 ⟨rfl, hup5⟩
          have hu5 := hua.trans hup5
          have hz5 := hu5.size
          have f0 := hu5.cell v0
          have f1 := hu5.cell v1
          have f2 : w5.frozen? ⟨w.heap.size, 0, none⟩ = false := (Below.frozen hu5 (p := ⟨w.heap.size, 0, none⟩) (block_lt_of_cell v0)).trans v2
          have f3 : w5.frozen? ⟨w.heap.size, 1, none⟩ = false := (Below.frozen hu5 (p := ⟨w.heap.size, 1, none⟩) (block_lt_of_cell v1)).trans v3
          have hUU := hup.trans hu5
          clear hup5 v0 v1 v2 v3 p0 p1 p2 p3
          go_wp2
          refine bodyPost_ret (v := .tuple #[.agg #[.string ⟨#[]⟩, .slice none 0 0], .int .i64 6]) (by simp [results, Tryd.results32, go_sem, f0, f1]) rfl ⟨⟨⟨#[]⟩, none, 0, []⟩, ?_, HP.out.1.symm, ⟨Nat.le_refl _, by simp [maxLen]⟩, World.ownsRow_nil _ _ _ _, (hUU.setCell (by simp) _).setCell (by simp) _⟩
          rw [HP.out.2]; rfl
        · have HP := Lib.hid (rc_yes (s := s) HRK.out)
          go_wp2_with fail
          refine HA.out.mono ?_
          rintro e w5 ⟨rfl, hup5⟩
          have hu5 := hua.trans hup5
          have hz5 := hu5.size
          have f0 := hu5.cell v0
          have f1 := hu5.cell v1
          have t0 := hu5.cell p0
          have t1 := hu5.cell p1
          have f2 : w5.frozen? ⟨w.heap.size, 0, none⟩ = false := (Below.frozen hu5 (p := ⟨w.heap.size, 0, none⟩) (block_lt_of_cell v0)).trans v2
          have f3 : w5.frozen? ⟨w.heap.size, 1, none⟩ = false := (Below.frozen hu5 (p := ⟨w.heap.size, 1, none⟩) (block_lt_of_cell v1)).trans v3
          have hUU := hup.trans hu5
          have HO5 := Lib.hid (own_up HOWN.out hu5)
          obtain ⟨A', c', hv', hlc, hcm, -, -⟩ := own_form HOWN.out
          cases hv'
          clear hup5 v0 v1 v2 v3 p0 p1 p2 p3
          go_wp2
          refine bodyPost_ret (v := .tuple #[.agg #[.string nm, .slice C (rcR rr).length cc], .int .i64 0]) (by simp [results, Tryd.results32, go_sem, f0, f1]) rfl ⟨⟨nm, C, cc, rcR rr⟩, ?_, ?_, ⟨hlc, hcm⟩, own_base (ownsRow_setCell_below (ownsRow_setCell_below HO5.out (by show w.heap.size < g0 + 1; omega) _) (by show w.heap.size < g0 + 1; omega) _) (by omega), (hUU.setCell (by simp) _).setCell (by simp) _⟩
          · rw [HP.out.2]
          · rw [HP.out.1, ← HNM.out, ← HRR.out]; rfl
end Go.Proofs.YtncmenfdnpmblaaDoor
