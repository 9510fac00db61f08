/- ReadCopy: the reference's walk. -/
import Derived.Test.YtncmenfdnpmblaaDoorRsp
namespace Go.Proofs.YtncmenfdnpmblaaDoor
open Go.RowKit Go.Sort

theorem grown_set (w : World) (a : Addr) (u : Value) : w.grownBy (w.setCell a u) (some a.block) :=
  ⟨rfl, rfl, rfl, by simp, fun k _ hk => heap_setCell_other w a k u (fun e => hk (by rw [e]))⟩
theorem own_set {w : World} {base : Nat} {e : TypeId} {size : Nat} {v : Value} {n : Nat} {xs : List Value} (h : w.ownsRow base e size v n xs) (a : Addr) (u : Value) (hne : v.ownBlock ≠ some a.block) : (w.setCell a u).ownsRow base e size v n xs :=
  h.kept (grown_set w a u) (.inr hne)

set_option maxRecDepth 100000 in
set_option maxHeartbeats 4000000 in
theorem specReadCopy_any (s : ByteArray) (w : World) (hs : s.size ≤ 1048576) :
    Calls Tryd.prog 33 #[.string s] w fun e w' => ∃ y : Cp, e = .returned (.tuple #[y.val, .int .i64 (rcC s)]) ∧ y.p = rcP s ∧ y.ok' ∧ w'.ownsRow w.heap.size 2 1 (.slice y.A y.rs.length y.c) y.rs.length (y.rs.flatMap intCells) ∧ Up w w' := by
  obtain ⟨i0, hi0, hz0, hz1, hz2⟩ := info_parts infoInt
  have hN := ctN_size 58 s
  have hR := ctR_size 58 s
  have HC := l01Split_any s 58 (w.alloc (.cells #[.string ⟨#[]⟩, .slice none 0 0] 49)) (by omega)
  simp only [show ((58 : UInt8).toNat : Int) = 58 from rfl] at HC
  have hbx : Box (w.alloc (.cells #[.string ⟨#[]⟩, .slice none 0 0] 49)) w.heap.size (.string ⟨#[]⟩) (.slice none 0 0) := ⟨by go_simp, by go_simp, by go_simp, by go_simp⟩
  have hspl := spL_len 58 s
  by_cases h2 : (spL 58 s).length = 2
  case neg =>
    have HP := Lib.hid (rc_no (sp_no h2))
    have hb : (((spL 58 s).length : Int) != 2) = true := by rw [bne_iff_ne]; omega
    have HCC := Lib.hid HC
    clear h2 HC
    go_enter Tryd.func33, Tryd.ntmps33
    go_wp2_with fail
    refine HCC.out.mono ?_
    rintro e w1 ⟨v, rfl, ho, hup1⟩
    obtain ⟨C1, c1, rfl, -, -, -, -⟩ := own_form ho
    have hUU := (Up.alloc w (.cells #[.string ⟨#[]⟩, .slice none 0 0] 49)).trans hup1
    obtain ⟨f0, f1, f2, f3⟩ := hbx.up hup1
    clear ho hup1
    go_wp2
    refine bodyPost_ret (v := .tuple #[.agg #[.string ⟨#[]⟩, .slice none 0 0], .int .i64 6]) (by simp [results, Tryd.results33, go_sem, f0, f1]) rfl ⟨⟨⟨#[]⟩, none, 0, []⟩, ?_, HP.out.1.symm, ⟨Nat.le_refl _, by simp [maxLen]⟩, World.ownsRow_nil _ _ _ _, (hUU.setCell (by simp) _).setCell (by simp) _⟩
    rw [HP.out.2]; rfl
  obtain ⟨hF, hsp⟩ := sp_yes h2
  have HRK := Lib.hid (show rcK s = arB [(ctN 58 s, rcR (ctR 58 s))] by unfold rcK; rw [hF, Bool.true_and])
  rw [h2, hsp] at HC
  obtain ⟨nm, hnm⟩ : ∃ x, x = ctN 58 s := ⟨_, rfl⟩
  obtain ⟨rr, hrr⟩ : ∃ x, x = ctR 58 s := ⟨_, rfl⟩
  rw [← hnm, ← hrr] at HC HRK
  rw [← hnm] at hN
  rw [← hrr] at hR
  have HCC := Lib.hid HC
  have HNM := Lib.hid hnm
  have HRR := Lib.hid hrr
  clear HC hnm hrr hF hsp h2 hspl
  go_enter Tryd.func33, Tryd.ntmps33
  go_wp2_with fail
  refine HCC.out.mono ?_
  rintro e w1 ⟨v, rfl, ho, hup1⟩
  obtain ⟨C1, c1, rfl, -, -, hC1, -⟩ := own_form ho
  obtain ⟨g1, rfl, -, hg1⟩ := hC1 (by omega)
  have t0 : w1.cell? ⟨g1, 0, none⟩ = some (.string nm) := by rw [ho.cellAt 0 (by omega)]; rfl
  have t1 : w1.cell? ⟨g1, 1, none⟩ = some (.string rr) := by rw [ho.cellAt 1 (by omega)]; rfl
  have hu1 := (Up.alloc w (.cells #[.string ⟨#[]⟩, .slice none 0 0] 49)).trans hup1
  have hrv := hbx.up hup1
  clear hbx ho hup1 hC1
  go_wp2
  have hb0 : Box ((w1.alloc (.cells #[] 2)).alloc (.cells #[.string nm, .slice (some ⟨w1.heap.size, 0, none⟩) 0 0] 49)) (w1.heap.size + 1) (.string nm) (.slice (some ⟨w1.heap.size, 0, none⟩) 0 0) := ⟨by go_simp, by go_simp, by go_simp, by go_simp⟩
  have hlit := own_up (World.ownsRow_lit (base := w1.heap.size) (e := 2) (size := 1) w1 #[] 0 (Nat.le_refl _) (by simp [maxLen]) rfl) (Up.alloc _ (.cells #[.string nm, .slice (some ⟨w1.heap.size, 0, none⟩) 0 0] 49))
  have hu2 := ((Up.refl w1).allocs (.cells #[] 2)).allocs (.cells #[.string nm, .slice (some ⟨w1.heap.size, 0, none⟩) 0 0] 49)
  have hgs : w1.heap.size + 1 < ((w1.alloc (.cells #[] 2)).alloc (.cells #[.string nm, .slice (some ⟨w1.heap.size, 0, none⟩) 0 0] 49)).heap.size := by simp
  have hnb : (Value.slice (some ⟨w1.heap.size, 0, none⟩) 0 0).ownBlock ≠ some (w1.heap.size + 1) := by simp [Value.ownBlock]
  obtain ⟨g0, hg0⟩ : ∃ g, g = w1.heap.size + 1 := ⟨_, rfl⟩
  rw [← hg0] at hb0 hgs hnb ⊢
  have hg01 : w1.heap.size < g0 := by omega
  have hgr : w.heap.size < w1.heap.size := hrv.lt
  obtain ⟨v0, hv0⟩ : ∃ v, v = Value.slice (some ⟨w1.heap.size, 0, none⟩) 0 0 := ⟨_, rfl⟩
  generalize ((w1.alloc (.cells #[] 2)).alloc (.cells #[.string nm, .slice (some ⟨w1.heap.size, 0, none⟩) 0 0] 49)) = w2 at *
  clear hg0
  go_loopw [6] (fun i wr => ∃ (k : Nat) (C : Option Addr) (cc : Nat), k ≤ rr.size ∧ i = .int .i64 k ∧ Box wr g0 (.string nm) (.slice C k cc) ∧ wr.ownsRow w1.heap.size 2 1 (.slice C k cc) k (((rcR rr).take k).flatMap intCells) ∧ (Value.slice C k cc).ownBlock ≠ some g0 ∧ g0 < wr.heap.size ∧ Up w1 wr) (fun i _ => rr.size - (intOf i).toNat)
  case atStart => exact ⟨0, some ⟨w1.heap.size, 0, none⟩, 0, Nat.zero_le _, rfl, hb0, hlit, hnb, hgs, hu2⟩
  case round =>
    obtain ⟨k, C, cc, hk, rfl, hbx, hown, hnb, hgw, hup⟩ := hrel
    have x1 := hup.cell t1
    by_cases hlt : k < rr.size
    · have hbx2 := hbx
      obtain ⟨p0, p1, p2, p3⟩ := hbx
      have hne : some g0 ≠ (Value.slice C k cc).ownBlock := fun e => hnb e.symm
      have hua := Up.alloc wr (.cells #[.int .i64 ((rr[k].toNat : Int) - 48)] 2)
      have hbx3 := Lib.hid (show Box (wr.alloc (.cells #[.int .i64 ((rr[k].toNat : Int) - 48)] 2)).drew g0 (.string nm) (.slice C k cc) from hbx2.up hua.drew)
      have hb1 := rr[k].toNat_lt
      have hwr : IntKind.i64.wrap ((rr[k].toNat : Int) - 48) = (rr[k].toNat : Int) - 48 := IntWalk.i64_in _ (by omega)
      have hwr0 : IntKind.i64.wrap (rr[k].toNat : Int) = (rr[k].toNat : Int) := IntWalk.i64_in _ (by omega)
      have n1 : k + 1 ≤ maxLen := by unfold maxLen; omega
      have n2 : (k + 1) * 8 ≤ 140737488355328 := by omega
      have n3 : w1.heap.size ≤ (wr.alloc (.cells #[.int .i64 ((rr[k].toNat : Int) - 48)] 2)).heap.size := by simp; omega
      have q1 := hua.cell p1
      have z1 := hua.cell x1
      go_wp2_with fail
      go_region_law ((refine step_append_lies _ rfl (.tmp 27) (.tmp 35) 25 rfl w1.heap.size 2 i0 (.int .i64 0) 1 8 Tryd.underlying25 hi0 hz0 hz1 hz2 rfl (by decide) (.slice C k cc) k _ (by simp [Act.eval]) (hown.alloc (.cells #[.int .i64 ((rr[k].toNat : Int) - 48)] 2)) ⟨wr.heap.size, 0, none⟩ 1 1 [.int .i64 ((rr[k].toNat : Int) - 48)] (by simp [Act.eval]) rfl (cell_one_new _ _ _) (by simp [Value.oneCell']) (by decide) n1 n2 n3 _ rfl ?_; intro g cap w' hown' hgrow hat hlt'; have hbw := Box.grown hbx3.out hgrow hne; obtain ⟨y0, y1, y2, y3⟩ := hbw))
      all_goals
        have hbf : Box w' g0 (.string nm) (.slice C k cc) := ⟨y0, y1, y2, y3⟩
        have hzz := hgrow.size
        have hUU := (hup.trans hua.drew).grown hgrow (fun b hb => (hown.lt b hb).1)
        have hO := rcR_step hlt hown'
        have hgg : g0 < w'.heap.size := Nat.lt_of_lt_of_le (by simp; omega : g0 < (wr.alloc (.cells #[.int .i64 ((rr[k].toNat : Int) - 48)] 2)).heap.size) hzz
        have hnb2 : (Value.slice (some ⟨g, 0, none⟩) (k + 1) cap).ownBlock ≠ some g0 := by
          intro e
          have e' : g = g0 := by simpa [Value.ownBlock] using e
          rcases hat with h | h
          · rw [e'] at h; exact hnb h
          · simp at h; omega
        clear y0 y1 y2 y3 hown' hgrow q1 p0 p1 p2 p3 hwr hwr0 hat x1 z1
        go_wp2
        go_roundw
        case rel => exact ⟨k + 1, some ⟨g, 0, none⟩, cap, by omega, by go_num, hbf.put _, own_set hO _ _ hnb2, hnb2, by simpa using hgg, hUU.setCell (by show w1.heap.size ≤ g0; omega) _⟩
        case measure => simp [intOf]; omega
    · have hkl : k = (rcR rr).length := by rw [rcR_len]; omega
      have hrl := rcR_len rr
      have HRL := Lib.hid hrl
      have hrl2 : (rcR rr).length ≤ 1048576 := by omega
      have hrl3 : ¬ (rcR rr).length < rr.size := by omega
      subst hkl
      clear hrl hlt hk
      have hown2 : wr.ownsRow w1.heap.size 2 1 (.slice C (rcR rr).length cc) (rcR rr).length ((rcR rr).flatMap intCells) := by
        have h := hown; rw [List.take_of_length_le (Nat.le_refl _)] at h; exact h
      have HOWN := Lib.hid hown2
      clear hown hown2
      obtain ⟨v0, v1, v2, v3⟩ := hrv.up hup
      obtain ⟨p0, p1, p2, p3⟩ := hbx
      have hA := specAre (some ⟨wr.heap.size, 0, none⟩) [⟨nm, C, cc, rcR rr⟩] 1 0 (wr.heap.size + 1) _ (one_cp1 wr ⟨nm, C, cc, rcR rr⟩ (Rd.own int_len HOWN.out) (Nat.le_refl _)) (by simp) ⟨by intro d hd; simp at hd; subst hd; show nm.size ≤ maxLen; unfold maxLen; omega, by intro d hd; simp at hd; subst hd; show (rcR rr).length ≤ 2000000; omega, by simp, by simp, by simp [maxLen]⟩
      simp only [List.map_cons, List.map_nil, Cp.p, List.length_singleton] at hA
      have hua := Up.alloc wr (.cells #[.string nm, .slice C (rcR rr).length cc] 49)
      obtain ⟨bb, hbb⟩ : ∃ bb, bb = arB [((nm, rcR rr) : PC)] := ⟨_, rfl⟩
      rw [← hbb] at hA HRK
      have HA := Lib.hid hA
      clear hA hbb
      cases bb
      · have HP := Lib.hid (rc_no (s := s) HRK.out)
        go_wp2_with fail
        refine HA.out.mono ?_
        rintro e w5 ⟨rfl, hup5⟩
        have hu5 := hua.trans hup5
        have hz5 := hu5.size
        have f0 := hu5.cell v0
        have f1 := hu5.cell v1
        have f2 : w5.frozen? ⟨w.heap.size, 0, none⟩ = false := (Below.frozen hu5 (p := ⟨w.heap.size, 0, none⟩) (block_lt_of_cell v0)).trans v2
        have f3 : w5.frozen? ⟨w.heap.size, 1, none⟩ = false := (Below.frozen hu5 (p := ⟨w.heap.size, 1, none⟩) (block_lt_of_cell v1)).trans v3
        have hUU := hu1.trans (hup.trans hu5)
        clear hup5 v0 v1 v2 v3 p0 p1 p2 p3
        go_wp2
        refine bodyPost_ret (v := .tuple #[.agg #[.string ⟨#[]⟩, .slice none 0 0], .int .i64 6]) (by simp [results, Tryd.results33, go_sem, f0, f1]) rfl ⟨⟨⟨#[]⟩, none, 0, []⟩, ?_, HP.out.1.symm, ⟨Nat.le_refl _, by simp [maxLen]⟩, World.ownsRow_nil _ _ _ _, (hUU.setCell (by simp) _).setCell (by simp) _⟩
        rw [HP.out.2]; rfl
      · have HP := Lib.hid (rc_yes (s := s) HRK.out)
        go_wp2_with fail
        refine HA.out.mono ?_
        rintro e w5 ⟨rfl, hup5⟩
        have hu5 := hua.trans hup5
        have hz5 := hu5.size
        have f0 := hu5.cell v0
        have f1 := hu5.cell v1
        have t0 := hu5.cell p0
        have t1 := hu5.cell p1
        have f2 : w5.frozen? ⟨w.heap.size, 0, none⟩ = false := (Below.frozen hu5 (p := ⟨w.heap.size, 0, none⟩) (block_lt_of_cell v0)).trans v2
        have f3 : w5.frozen? ⟨w.heap.size, 1, none⟩ = false := (Below.frozen hu5 (p := ⟨w.heap.size, 1, none⟩) (block_lt_of_cell v1)).trans v3
        have hUU := hu1.trans (hup.trans hu5)
        have HO5 := Lib.hid (own_up HOWN.out hu5)
        obtain ⟨A', c', hv', hlc, hcm, -, -⟩ := own_form HOWN.out
        cases hv'
        clear hup5 v0 v1 v2 v3 p0 p1 p2 p3
        go_wp2
        refine bodyPost_ret (v := .tuple #[.agg #[.string nm, .slice C (rcR rr).length cc], .int .i64 0]) (by simp [results, Tryd.results33, go_sem, f0, f1]) rfl ⟨⟨nm, C, cc, rcR rr⟩, ?_, ?_, ⟨hlc, hcm⟩, own_base (ownsRow_setCell_below (ownsRow_setCell_below HO5.out (by show w.heap.size < w1.heap.size; omega) _) (by show w.heap.size < w1.heap.size; omega) _) (by omega), (hUU.setCell (by simp) _).setCell (by simp) _⟩
        · rw [HP.out.2]
        · rw [HP.out.1, ← HNM.out, ← HRR.out]; rfl
end Go.Proofs.YtncmenfdnpmblaaDoor
