/- Drawn words. Drawn lists of words. Drawn lists of formulas, phrases and days. Drawn phrases and days; what the laws over formulas draw. What FnFormulas and FnBorrowed draw: a phrase with a formula, formulas with words, two phrases. What FnBorrowed draws: two phrases and a number; formulas with words and a day. The laws' likeTexts9, likeFormulas9. -/
import Derived.Test.YtehoaoeahfmfpaaGreatDoorSrc
import Derived.Test.YtehoaoeahfmfpaaGreatDoorFormA
import Derived.Test.YtehoaoeahfmfpaaGreatDoorPhrase
import Derived.Deep.RegionLaw
import Derived.Deep.AppendLies
import Derived.Deep.Cut
import Derived.Deep.DeepCutAuto
import Derived.Test.YtehoaoeahfmfpaaGreatDoorLearnO
namespace Go.Proofs.YtehoaoeahfmfpaaGreatDoor
open Go.RowKit Go.Sort

theorem run_str_hi {P : Program} {t : TypeId} (ht : P.underlying t = some .string) (s : ByteArray) (k : Nat) (hk : k ≤ s.size) (w : World) :
    (Instr.sliceAt t (.string s) none (some (.int .i64 (k : Int))) none).run P w = .ok (.string (s.extract 0 k)) w := by
  rw [run_sliceAt_string w t _ _ _ _ ht, run_slice_string_h w t s ht .i64 (k : Int) (by omega) (by omega)]; rfl
theorem run_str_lo {P : Program} {t : TypeId} (ht : P.underlying t = some .string) (s : ByteArray) (k : Nat) (hk : k ≤ s.size) (w : World) :
    (Instr.sliceAt t (.string s) (some (.int .i64 (k : Int))) none none).run P w = .ok (.string (s.extract k s.size)) w := by
  rw [run_sliceAt_string w t _ _ _ _ ht, run_slice_string_l w t s ht .i64 (k : Int) (by omega) (by omega), Int.toNat_natCast]
theorem ext_le (s : ByteArray) (a b : Nat) : (s.extract a b).size ≤ s.size := by
  have d1 : ∀ s : ByteArray, s.data.toList.length = s.size := fun s => by simp
  have := congrArg List.length (Lib.extract_data s a b)
  rw [d1, List.length_take, List.length_drop, d1] at this; omega
abbrev wc5 : Array Value := #[.string ⟨#[]⟩, .string ⟨#[65, 98, 99]⟩, .string ⟨#[97, 32, 98]⟩, .string ⟨#[97, 98, 99, 100, 101, 102, 103, 104, 105, 106, 107, 108, 109, 110, 111, 112, 113, 114, 115, 116, 117]⟩, .string ⟨#[97, 98, 99, 100, 101, 102, 103, 104, 105, 106, 107, 108, 109, 110, 111, 112, 113, 114, 115, 116]⟩]
abbrev wl5 : List ByteArray := [(⟨#[]⟩ : ByteArray), ⟨#[65, 98, 99]⟩, ⟨#[97, 32, 98]⟩, ⟨#[97, 98, 99, 100, 101, 102, 103, 104, 105, 106, 107, 108, 109, 110, 111, 112, 113, 114, 115, 116, 117]⟩, ⟨#[97, 98, 99, 100, 101, 102, 103, 104, 105, 106, 107, 108, 109, 110, 111, 112, 113, 114, 115, 116]⟩]
abbrev wc15 : Array Value := #[.string ⟨#[121, 101, 101, 114, 101]⟩, .string ⟨#[121, 101, 97, 114]⟩, .string ⟨#[105, 118, 100, 103, 101]⟩, .string ⟨#[105, 117, 100, 103, 101]⟩, .string ⟨#[107, 105, 110, 103]⟩, .string ⟨#[107, 121, 110, 103]⟩, .string ⟨#[119, 105, 116, 110, 101, 115, 115, 101]⟩, .string ⟨#[119, 121, 116, 110, 101, 115]⟩, .string ⟨#[108, 111, 114, 100]⟩, .string ⟨#[108, 111, 114, 100, 101]⟩, .string ⟨#[115, 101, 97, 108]⟩, .string ⟨#[115, 101, 97, 108, 101]⟩, .string ⟨#[101, 101]⟩, .string ⟨#[101]⟩, .string ⟨#[119, 119, 101]⟩]
abbrev wl15 : List ByteArray := [(⟨#[121, 101, 101, 114, 101]⟩ : ByteArray), ⟨#[121, 101, 97, 114]⟩, ⟨#[105, 118, 100, 103, 101]⟩, ⟨#[105, 117, 100, 103, 101]⟩, ⟨#[107, 105, 110, 103]⟩, ⟨#[107, 121, 110, 103]⟩, ⟨#[119, 105, 116, 110, 101, 115, 115, 101]⟩, ⟨#[119, 121, 116, 110, 101, 115]⟩, ⟨#[108, 111, 114, 100]⟩, ⟨#[108, 111, 114, 100, 101]⟩, ⟨#[115, 101, 97, 108]⟩, ⟨#[115, 101, 97, 108, 101]⟩, ⟨#[101, 101]⟩, ⟨#[101]⟩, ⟨#[119, 119, 101]⟩]
abbrev lc5 : Array Value := #[.string ⟨#[97]⟩, .string ⟨#[101]⟩, .string ⟨#[121]⟩, .string ⟨#[118]⟩, .string ⟨#[115]⟩]
abbrev ll5 : List ByteArray := [(⟨#[97]⟩ : ByteArray), ⟨#[101]⟩, ⟨#[121]⟩, ⟨#[118]⟩, ⟨#[115]⟩]
theorem wl5_sz : ∀ x ∈ wl5, x.size ≤ 21 := by decide
theorem wl15_sz : ∀ x ∈ wl15, x.size ≤ 8 := by decide
theorem ll5_sz : ∀ x ∈ ll5, x.size ≤ 1 := by decide
theorem rd_wc5 (w : World) : RdT (w.alloc (.cells wc5 9)) w.heap.size (w.heap.size + 1) (some ⟨w.heap.size, 0, none⟩) wl5 := by
  have h : RdT (w.alloc (.cells wc5 9)) w.heap.size _ (some ⟨w.heap.size, 0, none⟩) wl5 := Rd.own strC_len (World.ownsRow_lit (base := w.heap.size) (e := 9) (size := 1) w wc5 5 (Nat.le_refl _) (by simp [maxLen]) rfl)
  simpa using h
theorem rd_wc15 (w : World) : RdT (w.alloc (.cells wc15 9)) w.heap.size (w.heap.size + 1) (some ⟨w.heap.size, 0, none⟩) wl15 := by
  have h : RdT (w.alloc (.cells wc15 9)) w.heap.size _ (some ⟨w.heap.size, 0, none⟩) wl15 := Rd.own strC_len (World.ownsRow_lit (base := w.heap.size) (e := 9) (size := 1) w wc15 15 (Nat.le_refl _) (by simp [maxLen]) rfl)
  simpa using h
theorem rd_lc5 (w : World) : RdT (w.alloc (.cells lc5 9)) w.heap.size (w.heap.size + 1) (some ⟨w.heap.size, 0, none⟩) ll5 := by
  have h : RdT (w.alloc (.cells lc5 9)) w.heap.size _ (some ⟨w.heap.size, 0, none⟩) ll5 := Rd.own strC_len (World.ownsRow_lit (base := w.heap.size) (e := 9) (size := 1) w lc5 5 (Nat.le_refl _) (by simp [maxLen]) rfl)
  simpa using h
/-- one text of a row -/
theorem txt_pick {w : World} {lo hi b0 : Nat} {l : List ByteArray} (h : RdT w lo hi (some ⟨b0, 0, none⟩) l) {k : Nat} (hk : k < l.length) {m : Nat} (hm : ∀ x ∈ l, x.size ≤ m) : ∃ x : ByteArray, x.size ≤ m ∧ w.cell? ⟨b0, k, none⟩ = some (.string x) := by
  obtain ⟨b, off, x, e, -, -, hx, q⟩ := h.txt hk
  cases e
  exact ⟨x, hm x (List.mem_of_getElem? hx), by simpa using q⟩

set_option maxRecDepth 100000 in
set_option maxHeartbeats 4000000 in
theorem l10DrawWord_any (A : Option Addr) (L : List UInt8) (c lo g : Nat) (w : World) (hs : Src w g A L c lo) (hg : g < w.heap.size) (hL : L.length ≤ 2000000) :
    Calls Tryz.prog 91 #[.pointer (some ⟨g, 0, none⟩)] w fun e w' => ∃ s : ByteArray, e = .returned (.string s) ∧ s.size ≤ 21 ∧ Src w' g A L c lo ∧ Mk g (g + 1) w w' := by
  go_enter Tryz.func91, Tryz.ntmps91
  go_wp2_with fail
  refine (l01Next_any A L c lo g 40 w hs hg hL (by omega)).mono ?_
  rintro e w1 ⟨z1, rfl, hz1, S1, m1⟩
  have hg1 := Nat.lt_of_lt_of_le hg m1.size
  clear hz1
  by_cases hzz : z1 = 0
  · have hzb : (z1 == 0) = true := by simpa using hzz
    have hub := Up.alloc w1 (.cells wc5 9)
    have hrd := rd_wc5 w1
    have HN := Lib.hid (l01Next_any A L c lo g 5 _ (S1.up hub hg1) (Nat.lt_of_lt_of_le hg1 hub.size) hL (by omega))
    clear hzz
    go_wp2_with fail
    refine HN.out.mono ?_
    rintro e w2 ⟨z, rfl, hz, S2, m2⟩
    obtain ⟨hz0, hz2⟩ := hz.lt (by omega)
    obtain ⟨zn, rfl⟩ := Int.eq_ofNat_of_zero_le hz0
    obtain ⟨x, hxs, q0⟩ := txt_pick (m2.rd hrd (by simp) (.inr hg1)) (k := zn) (by show zn < 5; omega) wl5_sz
    have hM := m1.trans ((Mk.up (b0 := g) (b1 := g + 1) hub).trans m2)
    clear hz hrd HN m2 S1 m1
    go_wp2
    go_ret
    exact ⟨x, rfl, hxs, S2, hM⟩
  · have hzb : (z1 == 0) = false := by simpa using hzz
    have hub := Up.alloc w1 (.cells wc15 9)
    have hrd := rd_wc15 w1
    have HN := Lib.hid (l01Next_any A L c lo g 15 _ (S1.up hub hg1) (Nat.lt_of_lt_of_le hg1 hub.size) hL (by omega))
    clear hzz
    go_wp2_with fail
    refine HN.out.mono ?_
    rintro e w2 ⟨z, rfl, hz, S2, m2⟩
    obtain ⟨hz0, hz2⟩ := hz.lt (by omega)
    obtain ⟨zn, rfl⟩ := Int.eq_ofNat_of_zero_le hz0
    obtain ⟨x, hxs, q0⟩ := txt_pick (m2.rd hrd (by simp) (.inr hg1)) (k := zn) (by show zn < 15; omega) wl15_sz
    have M2 := m1.trans ((Mk.up (b0 := g) (b1 := g + 1) hub).trans m2)
    have hg2 := Nat.lt_of_lt_of_le hg M2.size
    clear hz hrd HN m2 S1 m1
    go_wp2_with fail
    refine (l01Next_any A L c lo g 4 w2 S2 hg2 hL (by omega)).mono ?_
    rintro e w3 ⟨z3, rfl, hz3, S3, m3⟩
    have M3 := M2.trans m3
    have hg3 := Nat.lt_of_lt_of_le hg M3.size
    clear hz3 S2 m3 M2 q0
    by_cases hz4 : z3 = 0
    · have hzb4 : (z3 == 0) = true := by simpa using hz4
      clear hz4
      go_wp2_with fail
      refine (l01Next_any A L c lo g ((x.size : Int) + 1) w3 S3 hg3 hL (by omega)).mono ?_
      rintro e w4 ⟨z4, rfl, hz4, S4, m4⟩
      obtain ⟨hk0, hk1⟩ := hz4.lt (by omega)
      obtain ⟨k, rfl⟩ := Int.eq_ofNat_of_zero_le hk0
      have hk : k ≤ x.size := by omega
      have M4 := M3.trans m4
      have hg4 := Nat.lt_of_lt_of_le hg M4.size
      have e1 := fun wx => run_str_hi (P := Tryz.prog) Tryz.underlying9 x k hk wx
      have e2 := fun wx => run_str_lo (P := Tryz.prog) Tryz.underlying9 x k hk wx
      have s1 := ext_le x 0 k
      have s2 := ext_le x k x.size
      have hub4 := Up.alloc w4 (.cells lc5 9)
      have hd4 : Up w4 w4.drew := (Up.refl _).drew
      have HNa := Lib.hid (l01Next_any A L c lo g 5 w4.drew (S4.up hd4 hg4) (Nat.lt_of_lt_of_le hg4 hd4.size) hL (by omega))
      have HNb := Lib.hid (l01Next_any A L c lo g 5 (w4.alloc (.cells lc5 9)).drew (S4.up hub4.drew hg4) (Nat.lt_of_lt_of_le hg4 hub4.drew.size) hL (by omega))
      have hrdb : RdT (w4.alloc (.cells lc5 9)).drew w4.heap.size (w4.heap.size + 1) (some ⟨w4.heap.size, 0, none⟩) ll5 := (rd_lc5 w4).up ((Up.refl _).drew) (by simp)
      have HRB := Lib.hid hrdb
      have HM4 := Lib.hid M4
      clear hz4 S3 m4 M3 hrdb S4 M4
      go_wp2_with fail
      go_region_law ((first
        | (go_simp; go_at_call 63; refine HNb.out.mono ?_; rintro e w6 ⟨z, rfl, hz, S6, m6⟩; obtain ⟨hz0, hz2⟩ := hz.lt (by omega); obtain ⟨zq, rfl⟩ := Int.eq_ofNat_of_zero_le hz0; obtain ⟨y, hys, q6⟩ := txt_pick (m6.rd HRB.out (by simp) (.inr hg4)) (k := zq) (by show zq < 5; omega) ll5_sz; have hc1 : ¬ 9223372036854775807 < k + y.size := (by omega); have hc2 : ¬ 9223372036854775807 < k + y.size + (x.size - k) := (by omega); have HF := Lib.hid (And.intro S6 (HM4.out.trans ((Mk.up (b0 := g) (b1 := g + 1) hub4.drew).trans m6))); clear hz S6 m6)
        | (go_simp; go_at_call 63; refine HNa.out.mono ?_; rintro e w6 ⟨z, rfl, hz, S6, m6⟩; obtain ⟨hz0, hz2⟩ := hz.lt (by omega); obtain ⟨zq, rfl⟩ := Int.eq_ofNat_of_zero_le hz0; obtain ⟨y, hys, q6⟩ := txt_pick (rd_lc5 w6) (k := zq) (by show zq < 5; omega) ll5_sz; have hc1 : ¬ 9223372036854775807 < k + y.size := (by omega); have hc2 : ¬ 9223372036854775807 < k + y.size + (x.size - k) := (by omega); have HF := Lib.hid (And.intro (S6.up (Up.alloc w6 (.cells lc5 9)) (Nat.lt_of_lt_of_le hg4 (Nat.le_trans hd4.size m6.size))) (HM4.out.trans ((Mk.up (b0 := g) (b1 := g + 1) hd4).trans (m6.trans (Mk.up (Up.alloc w6 (.cells lc5 9))))))); clear hz S6 m6)))
      all_goals
        go_wp2
        go_ret
        refine ⟨_, rfl, ?_, HF.out.1, HF.out.2⟩
        rw [ByteArray.size_append, ByteArray.size_append]; omega
    · have hzb4 : (z3 == 0) = false := by simpa using hz4
      clear hz4
      go_wp2
      go_ret
      exact ⟨x, rfl, by omega, S3, M3⟩
end Go.Proofs.YtehoaoeahfmfpaaGreatDoor

namespace Go.Proofs.YtehoaoeahfmfpaaGreatDoor
open Go.RowKit Go.Sort

theorem infoStrW : (Tryz.prog.info? 9).map (fun i => (i.zero, i.size, i.bytes)) = some (some (.string ByteArray.empty), 1, 16) := by kernel_rfl
theorem wsz_snoc {l : List ByteArray} {x : ByteArray} {m : Nat} (h : ∀ y ∈ l, y.size ≤ m) (hx : x.size ≤ m) : ∀ y ∈ l ++ [x], y.size ≤ m := fun y hy => by
  rcases List.mem_append.1 hy with h1 | h1
  · exact h y h1
  · rw [List.mem_singleton.1 h1]; exact hx

set_option maxRecDepth 100000 in
set_option maxHeartbeats 4000000 in
theorem l24DrawWords_any (A : Option Addr) (L : List UInt8) (c lo g : Nat) (w : World) (hs : Src w g A L c lo) (hg : g < w.heap.size) (hL : L.length ≤ 2000000) :
    Calls Tryz.prog 65 #[.pointer (some ⟨g, 0, none⟩)] w fun e w' => ∃ (v : Value) (l : List ByteArray), e = .returned v ∧ w'.ownsRow w.heap.size 9 1 v l.length (l.flatMap strC) ∧ (∀ x ∈ l, x.size ≤ 21) ∧ l.length ≤ 3 ∧ Src w' g A L c lo ∧ Mk g (g + 1) w w' := by
  obtain ⟨i0, hi0, hz0, hz1, hz2⟩ := info_parts infoStrW
  have hua := Up.alloc w (.cells #[] 9)
  have own0 := World.ownsRow_lit (base := w.heap.size) (e := 9) (size := 1) w #[] 0 (Nat.le_refl _) (by simp [maxLen]) rfl
  have HN := Lib.hid (l01Next_any A L c lo g 3 _ (hs.up hua hg) (Nat.lt_of_lt_of_le hg hua.size) hL (by omega))
  go_enter Tryz.func65, Tryz.ntmps65
  go_wp2_with fail
  obtain ⟨v0, hv0⟩ : ∃ v, v = Value.slice (some ⟨w.heap.size, 0, none⟩) 0 0 := ⟨_, rfl⟩
  rw [← hv0] at own0 ⊢
  generalize w.alloc (.cells #[] 9) = wa at *
  clear hv0
  refine HN.out.mono ?_
  rintro e w1 ⟨z, rfl, hz, S1, m1⟩
  obtain ⟨hz0', hz1'⟩ := hz.lt (by omega)
  obtain ⟨zn, rfl⟩ := Int.eq_ofNat_of_zero_le hz0'
  have G1 := gr_mk ((Mk.up (b0 := g) (b1 := g + 1) hua).trans m1)
  have own1 := own_gr own0 (gr_mk m1) hg
  clear HN own0 hua m1 hz
  go_wp2_with fail
  go_loopw [3, 4, 5] (fun o n _ wr => ∃ (k : Nat) (l : List ByteArray), n = .int .i64 k ∧ l.length + k ≤ 3 ∧ (∀ x ∈ l, x.size ≤ 21) ∧ wr.ownsRow w.heap.size 9 1 o l.length (l.flatMap strC) ∧ Src wr g A L c lo ∧ w.grownBy wr (some g)) (fun _ n _ _ => (intOf n).toNat)
  case atStart => exact ⟨1 + zn, [], by go_num, by simp; omega, by simp, own1, S1, G1⟩
  case round =>
    clear own1 S1 G1
    obtain ⟨k, l, rfl, hk, hsz, hown, hS, hG⟩ := hrel
    have HSZ := Lib.hid hsz
    clear hsz
    have hgr : g < wr.heap.size := Nat.lt_of_lt_of_le hg hG.size
    rcases k with _ | k
    · go_wp2
      go_ret
      exact ⟨_, l, rfl, hown, HSZ.out, by omega, hS, mk_gr hG⟩
    · go_wp2_with fail
      refine (l10DrawWord_any A L c lo g wr hS hgr hL).mono ?_
      rintro e w1 ⟨x, rfl, hx, S1, m1⟩
      have own1 := own_gr hown (gr_mk m1) hg
      have G1 := hG.trans (gr_mk m1)
      have hg1 := Nat.lt_of_lt_of_le hgr m1.size
      obtain ⟨nb, hnb⟩ : ∃ b, b = nameB x 20 := ⟨_, rfl⟩
      have hwd := specIsWord_any x w1 (by unfold maxLen; omega)
      rw [← hnb] at hwd
      have HWD := Lib.hid hwd
      clear hown hS hG m1 hwd hnb
      go_upto_region 6 with fail
      go_cut [22] (fun b wx => ∃ (W : World) (bb : Bool), W = wx ∧ b = .bool bb ∧ W.ownsRow w.heap.size 9 1 _ l.length (l.flatMap strC) ∧ Src W g A L c lo ∧ w.grownBy W (some g))
      case first =>
        go_wp2_with fail
        refine HWD.out.mono ?_
        rintro e w2 ⟨rfl, rfl⟩
        cases nb with
        | true =>
          go_wp2_with fail
          go_meet
          exact ⟨_, true, rfl, rfl, own1, S1, G1⟩
        | false =>
          go_wp2_with fail
          refine (l01Next_any A L c lo g 30 w1 S1 hg1 hL (by omega)).mono ?_
          rintro e w3 ⟨z3, rfl, hz3, S3, m3⟩
          have HH := Lib.hid (And.intro (own_gr own1 (gr_mk m3) hg) (And.intro S3 (G1.trans (gr_mk m3))))
          clear hz3 S3 m3
          go_wp2_with fail
          go_meet
          exact ⟨_, _, rfl, rfl, HH.out.1, HH.out.2.1, HH.out.2.2⟩
      case rest =>
        obtain ⟨W, bb, hW, rfl, ownW, SW, GW⟩ := hcut
        subst hW
        clear own1 S1 G1 HWD
        have hgW := Nat.lt_of_lt_of_le hg GW.size
        cases bb with
        | true =>
          have ub := Up.alloc W (.cells #[.string x] 9)
          have own4 := own_up ownW ub
          have S4 := SW.up ub hgW
          have G4 := gr_up GW ub
          have n1 : l.length + 1 ≤ maxLen := by unfold maxLen; omega
          have n2 : (l.length + 1) * 16 ≤ 140737488355328 := by omega
          have n3 : w.heap.size ≤ (W.alloc (.cells #[.string x] 9)).heap.size := Nat.le_trans GW.size ub.size
          have hg4 := Nat.lt_of_lt_of_le hgW ub.size
          clear ownW SW GW
          go_wp2_with ((at_builtin; refine wpList_append_own _ rfl _ _ 23 rfl w.heap.size 9 i0 _ 1 16 Tryz.underlying23 hi0 hz0 hz1 hz2 rfl (by decide) _ _ _ rfl own4 ⟨W.heap.size, 0, none⟩ 1 1 [.string x] rfl rfl (cell_one_new _ _ _) (by simp [Value.oneCell']) n1 n2 n3 ?_))
          intro v' w9 hown' hgrow _
          have S9 := S4.row own4 hgrow hg hg4
          have G9 := gr_row G4 hgrow (fun b hb => (own4.lt b hb).1)
          have ho : w9.ownsRow w.heap.size 9 1 v' (l ++ [x]).length ((l ++ [x]).flatMap strC) := by simpa using hown'
          have HO := Lib.hid ho
          clear hown' hgrow own4 S4 G4 ho
          go_wp2
          go_roundw
          case rel => first | exact ⟨k, l ++ [x], by go_num, by simp; omega, wsz_snoc HSZ.out hx, HO.out, S9, G9⟩ | (refine ⟨_, ?_⟩; exact ⟨⟨k, l ++ [x], by go_num, by simp; omega, wsz_snoc HSZ.out hx, HO.out, S9, G9⟩, rfl⟩) | ((repeat refine Exists.intro _ ?_); exact ⟨⟨k, l ++ [x], by go_num, by simp; omega, wsz_snoc HSZ.out hx, HO.out, S9, G9⟩, rfl⟩)
          case measure => first | (simp [intOf]; done) | (simp [intOf]; omega)
        | false =>
          go_wp2
          go_roundw
          case rel => first | exact ⟨k, l, by go_num, by omega, HSZ.out, ownW, SW, GW⟩ | (refine ⟨_, ?_⟩; exact ⟨⟨k, l, by go_num, by omega, HSZ.out, ownW, SW, GW⟩, rfl⟩) | ((repeat refine Exists.intro _ ?_); exact ⟨⟨k, l, by go_num, by omega, HSZ.out, ownW, SW, GW⟩, rfl⟩)
          case measure => first | (simp [intOf]; done) | (simp [intOf]; omega)

set_option maxRecDepth 100000 in
set_option maxHeartbeats 4000000 in
theorem l10DrawPhrase_any (A : Option Addr) (L : List UInt8) (c lo g : Nat) (w : World) (hs : Src w g A L c lo) (hg : g < w.heap.size) (hL : L.length ≤ 2000000) :
    Calls Tryz.prog 55 #[.pointer (some ⟨g, 0, none⟩)] w fun e w' => ∃ (v : Value) (l : List ByteArray), e = .returned v ∧ w'.ownsRow w.heap.size 9 1 v l.length (l.flatMap strC) ∧ (∀ x ∈ l, x.size ≤ 21) ∧ l.length ≤ 61 ∧ Src w' g A L c lo ∧ Mk g (g + 1) w w' := by
  obtain ⟨i0, hi0, hz0, hz1, hz2⟩ := info_parts infoStrW
  have hua := Up.alloc w (.cells #[] 9)
  have own0 := World.ownsRow_lit (base := w.heap.size) (e := 9) (size := 1) w #[] 0 (Nat.le_refl _) (by simp [maxLen]) rfl
  have HN := Lib.hid (l01Next_any A L c lo g 9 _ (hs.up hua hg) (Nat.lt_of_lt_of_le hg hua.size) hL (by omega))
  go_enter Tryz.func55, Tryz.ntmps55
  go_wp2_with fail
  obtain ⟨v0, hv0⟩ : ∃ v, v = Value.slice (some ⟨w.heap.size, 0, none⟩) 0 0 := ⟨_, rfl⟩
  rw [← hv0] at own0 ⊢
  generalize w.alloc (.cells #[] 9) = wa at *
  clear hv0
  refine HN.out.mono ?_
  rintro e w1 ⟨z, rfl, hz, S1, m1⟩
  obtain ⟨hz0', hz1'⟩ := hz.lt (by omega)
  obtain ⟨zn, rfl⟩ := Int.eq_ofNat_of_zero_le hz0'
  have G1 := gr_mk ((Mk.up (b0 := g) (b1 := g + 1) hua).trans m1)
  have own1 := own_gr own0 (gr_mk m1) hg
  clear HN own0 hua m1 hz
  go_wp2_with fail
  go_loopw [3, 4, 5] (fun o n _ wr => ∃ (k : Nat) (l : List ByteArray), n = .int .i64 k ∧ l.length + k ≤ 9 ∧ (∀ x ∈ l, x.size ≤ 21) ∧ wr.ownsRow w.heap.size 9 1 o l.length (l.flatMap strC) ∧ Src wr g A L c lo ∧ w.grownBy wr (some g)) (fun _ n _ _ => (intOf n).toNat)
  case atStart => exact ⟨zn, [], rfl, by simp; omega, by simp, own1, S1, G1⟩
  case round =>
    clear own1 S1 G1
    obtain ⟨k, l, rfl, hk, hsz, hown, hS, hG⟩ := hrel
    have HSZ := Lib.hid hsz
    clear hsz
    have hgr : g < wr.heap.size := Nat.lt_of_lt_of_le hg hG.size
    rcases k with _ | k
    · obtain ⟨wq, rfl⟩ : ∃ x, x = wr := ⟨_, rfl⟩
      go_wp2_with fail
      refine (l01Next_any A L c lo g 50 wq hS hgr hL (by omega)).mono ?_
      rintro e w1 ⟨zx, rfl, hzx, S1, m1⟩
      have own1 := own_gr hown (gr_mk m1) hg
      have G1 := hG.trans (gr_mk m1)
      have hg1 := Nat.lt_of_lt_of_le hgr m1.size
      clear hown hS hG m1 hzx
      by_cases hzz : zx = 0
      · have hzb : (zx == 0) = true := by simpa using hzz
        clear hzz own1
        have hua := Up.alloc w1 (.cells #[] 9)
        have own0 := World.ownsRow_lit (base := w.heap.size) (e := 9) (size := 1) w1 #[] 0 G1.size (by simp [maxLen]) rfl
        have HN := Lib.hid (l01Next_any A L c lo g 2 _ (S1.up hua hg1) (Nat.lt_of_lt_of_le hg1 hua.size) hL (by omega))
        have G2 := gr_up G1 hua
        clear S1 G1
        go_wp2_with fail
        obtain ⟨v0, hv0⟩ : ∃ v, v = Value.slice (some ⟨w1.heap.size, 0, none⟩) 0 0 := ⟨_, rfl⟩
        rw [← hv0] at own0 ⊢
        generalize w1.alloc (.cells #[] 9) = w2 at *
        clear hv0
        refine HN.out.mono ?_
        rintro e w3 ⟨z, rfl, hz, S3, m3⟩
        obtain ⟨hz0', hz1'⟩ := hz.lt (by omega)
        obtain ⟨zn, rfl⟩ := Int.eq_ofNat_of_zero_le hz0'
        have G3 := gr_mk ((mk_gr G2).trans m3)
        have own3 := own_gr own0 (gr_mk m3) hg
        clear HN own0 hua m3 hz G2
        go_wp2_with fail
        go_loopw [3, 6] (fun o n wr => ∃ (k : Nat) (l : List ByteArray), n = .int .i64 k ∧ l.length + k ≤ 61 ∧ (∀ x ∈ l, x.size ≤ 21) ∧ wr.ownsRow w.heap.size 9 1 o l.length (l.flatMap strC) ∧ Src wr g A L c lo ∧ w.grownBy wr (some g)) (fun _ n _ => (intOf n).toNat)
        case atStart => exact ⟨60 + zn, [], by go_num, by simp; omega, by simp, own3, S3, G3⟩
        case round =>
          obtain ⟨k, l2, rfl, hk2, hsh2, own4, S4, G4⟩ := hrel
          have HS2 := Lib.hid hsh2
          clear hsh2 own3 S3 G3 HSZ
          rcases k with _ | k
          · go_wp2
            go_ret
            exact ⟨_, l2, rfl, own4, HS2.out, by omega, S4, mk_gr G4⟩
          · have hgW := Nat.lt_of_lt_of_le hg G4.size
            have ub := Up.alloc wr (.cells #[.string ⟨#[97]⟩] 9)
            have own5 := own_up own4 ub
            have S5 := S4.up ub hgW
            have G5 := gr_up G4 ub
            have n1 : l2.length + 1 ≤ maxLen := by unfold maxLen; omega
            have n2 : (l2.length + 1) * 16 ≤ 140737488355328 := by omega
            have n3 : w.heap.size ≤ (wr.alloc (.cells #[.string ⟨#[97]⟩] 9)).heap.size := Nat.le_trans G4.size ub.size
            have hg5 := Nat.lt_of_lt_of_le hgW ub.size
            clear own4 S4 G4
            go_wp2_with ((at_builtin; refine wpList_append_own _ rfl _ _ 23 rfl w.heap.size 9 i0 _ 1 16 Tryz.underlying23 hi0 hz0 hz1 hz2 rfl (by decide) _ _ _ rfl own5 ⟨wr.heap.size, 0, none⟩ 1 1 [.string ⟨#[97]⟩] rfl rfl (cell_one_new _ _ _) (by simp [Value.oneCell']) n1 n2 n3 ?_))
            intro v' w9 hown' hgrow _
            have S9 := S5.row own5 hgrow hg hg5
            have G9 := gr_row G5 hgrow (fun b hb => (own5.lt b hb).1)
            have ho : w9.ownsRow w.heap.size 9 1 v' (l2 ++ [(⟨#[97]⟩ : ByteArray)]).length ((l2 ++ [(⟨#[97]⟩ : ByteArray)]).flatMap strC) := by simpa using hown'
            clear hown' hgrow own5 S5 G5
            go_wp2
            go_roundw
            case rel => exact ⟨k, l2 ++ [(⟨#[97]⟩ : ByteArray)], by go_num, by simp; omega, wsz_snoc HS2.out (by decide), ho, S9, G9⟩
            case measure => first | (simp [intOf]; done) | (simp [intOf]; omega)
      · have hzb : (zx == 0) = false := by simpa using hzz
        clear hzz
        go_wp2
        go_ret
        exact ⟨_, l, rfl, own1, HSZ.out, by omega, S1, mk_gr G1⟩
    · go_wp2_with fail
      refine (l10DrawWord_any A L c lo g wr hS hgr hL).mono ?_
      rintro e w1 ⟨x, rfl, hx, S1, m1⟩
      have own1 := own_gr hown (gr_mk m1) hg
      have G1 := hG.trans (gr_mk m1)
      have hg1 := Nat.lt_of_lt_of_le hgr m1.size
      obtain ⟨nb, hnb⟩ : ∃ b, b = nameB x 20 := ⟨_, rfl⟩
      have hwd := specIsWord_any x w1 (by unfold maxLen; omega)
      rw [← hnb] at hwd
      have HWD := Lib.hid hwd
      clear hown hS hG m1 hwd hnb
      go_upto_region 6 with fail
      go_cut [22] (fun b wx => ∃ (W : World) (bb : Bool), W = wx ∧ b = .bool bb ∧ W.ownsRow w.heap.size 9 1 _ l.length (l.flatMap strC) ∧ Src W g A L c lo ∧ w.grownBy W (some g))
      case first =>
        go_wp2_with fail
        refine HWD.out.mono ?_
        rintro e w2 ⟨rfl, rfl⟩
        cases nb with
        | true =>
          go_wp2_with fail
          go_meet
          exact ⟨_, true, rfl, rfl, own1, S1, G1⟩
        | false =>
          go_wp2_with fail
          refine (l01Next_any A L c lo g 4 w1 S1 hg1 hL (by omega)).mono ?_
          rintro e w3 ⟨z3, rfl, hz3, S3, m3⟩
          have HH := Lib.hid (And.intro (own_gr own1 (gr_mk m3) hg) (And.intro S3 (G1.trans (gr_mk m3))))
          clear hz3 S3 m3
          go_wp2_with fail
          go_meet
          exact ⟨_, _, rfl, rfl, HH.out.1, HH.out.2.1, HH.out.2.2⟩
      case rest =>
        obtain ⟨W, bb, hW, rfl, ownW, SW, GW⟩ := hcut
        subst hW
        clear own1 S1 G1 HWD
        have hgW := Nat.lt_of_lt_of_le hg GW.size
        cases bb with
        | true =>
          have ub := Up.alloc W (.cells #[.string x] 9)
          have own4 := own_up ownW ub
          have S4 := SW.up ub hgW
          have G4 := gr_up GW ub
          have n1 : l.length + 1 ≤ maxLen := by unfold maxLen; omega
          have n2 : (l.length + 1) * 16 ≤ 140737488355328 := by omega
          have n3 : w.heap.size ≤ (W.alloc (.cells #[.string x] 9)).heap.size := Nat.le_trans GW.size ub.size
          have hg4 := Nat.lt_of_lt_of_le hgW ub.size
          clear ownW SW GW
          go_wp2_with ((at_builtin; refine wpList_append_own _ rfl _ _ 23 rfl w.heap.size 9 i0 _ 1 16 Tryz.underlying23 hi0 hz0 hz1 hz2 rfl (by decide) _ _ _ rfl own4 ⟨W.heap.size, 0, none⟩ 1 1 [.string x] rfl rfl (cell_one_new _ _ _) (by simp [Value.oneCell']) n1 n2 n3 ?_))
          intro v' w9 hown' hgrow _
          have S9 := S4.row own4 hgrow hg hg4
          have G9 := gr_row G4 hgrow (fun b hb => (own4.lt b hb).1)
          have ho : w9.ownsRow w.heap.size 9 1 v' (l ++ [x]).length ((l ++ [x]).flatMap strC) := by simpa using hown'
          have HO := Lib.hid ho
          clear hown' hgrow own4 S4 G4 ho
          go_wp2
          go_roundw
          case rel => first | exact ⟨k, l ++ [x], by go_num, by simp; omega, wsz_snoc HSZ.out hx, HO.out, S9, G9⟩ | (refine ⟨_, ?_⟩; exact ⟨⟨k, l ++ [x], by go_num, by simp; omega, wsz_snoc HSZ.out hx, HO.out, S9, G9⟩, rfl⟩) | ((repeat refine Exists.intro _ ?_); exact ⟨⟨k, l ++ [x], by go_num, by simp; omega, wsz_snoc HSZ.out hx, HO.out, S9, G9⟩, rfl⟩)
          case measure => first | (simp [intOf]; done) | (simp [intOf]; omega)
        | false =>
          go_wp2
          go_roundw
          case rel => first | exact ⟨k, l, by go_num, by omega, HSZ.out, ownW, SW, GW⟩ | (refine ⟨_, ?_⟩; exact ⟨⟨k, l, by go_num, by omega, HSZ.out, ownW, SW, GW⟩, rfl⟩) | ((repeat refine Exists.intro _ ?_); exact ⟨⟨k, l, by go_num, by omega, HSZ.out, ownW, SW, GW⟩, rfl⟩)
          case measure => first | (simp [intOf]; done) | (simp [intOf]; omega)
end Go.Proofs.YtehoaoeahfmfpaaGreatDoor

namespace Go.Proofs.YtehoaoeahfmfpaaGreatDoor
open Go.RowKit Go.Sort

/-- words that are short and few -/
def SzF (L : List Fm) : Prop := ∀ y ∈ L, (∀ s ∈ y.ws, s.size ≤ 21) ∧ y.ws.length ≤ 3
theorem SzF.snoc {L : List Fm} {y : Fm} (h : SzF L) (h1 : ∀ s ∈ y.ws, s.size ≤ 21) (h2 : y.ws.length ≤ 3) : SzF (L ++ [y]) := fun x hx => by
  rcases List.mem_append.1 hx with h3 | h3
  · exact h x h3
  · rw [List.mem_singleton.1 h3]; exact ⟨h1, h2⟩
theorem SzF.oks {w : World} {B : Nat} {v : Value} {L : List Fm} (h : SzF L) (hs : StG w B v L) : ∀ x ∈ L, x.ok := fun x hx => ⟨fun s hs' => by have := (h x hx).1 s hs'; unfold maxLen; omega, hs.oks x hx⟩
theorem StG.row {w w' : World} {B : Nat} {v : Value} {L : List Fm} {row : Value} {B2 n : Nat} {e : TypeId} {size : Nat} {xs : List Value} (h : StG w B v L) (ho : w.ownsRow B2 e size row n xs) (hg : w.grownBy w' row.ownBlock) (hlow : ∀ b, v.ownBlock = some b ∨ (∃ x ∈ L, x.sl.ownBlock = some b) → b < B2) : StG w' B v L :=
  ⟨own_other h.list hg (fun b hb e => by have h1 := hlow b (.inl hb); have h2 := (ho.lt b e).1; omega), fun y hy => own_other (h.each y hy) hg (fun b hb e => by have h1 := hlow b (.inr ⟨y, hy, hb⟩); have h2 := (ho.lt b e).1; omega), h.far, h.dist⟩

theorem box_fmD (w : World) (v : Value) (a b : Int) : (w.alloc (.cells #[v, .int .i64 a, .int .i64 b] 51)).cell? ⟨w.heap.size, 0, none⟩ = some v ∧ (w.alloc (.cells #[v, .int .i64 a, .int .i64 b] 51)).cell? ⟨w.heap.size, 1, none⟩ = some (.int .i64 a) ∧ (w.alloc (.cells #[v, .int .i64 a, .int .i64 b] 51)).cell? ⟨w.heap.size, 2, none⟩ = some (.int .i64 b) := ⟨by go_simp, by go_simp, by go_simp⟩

set_option maxRecDepth 100000 in
set_option maxHeartbeats 8000000 in
theorem l24Draw_any (A : Option Addr) (L0 : List UInt8) (c lo g : Nat) (w : World) (hs : Src w g A L0 c lo) (hg : g < w.heap.size) (hL : L0.length ≤ 2000000) :
    Calls Tryz.prog 62 #[.pointer (some ⟨g, 0, none⟩)] w fun e w' => ∃ (v : Value) (L : List Fm), e = .returned v ∧ StG w' w.heap.size v L ∧ SzF L ∧ L.length ≤ 21 ∧ Src w' g A L0 c lo ∧ Mk g (g + 1) w w' := by
  obtain ⟨i1, hi1, hy0, hy1, hy2⟩ := info_parts infoFm
  have hua := Up.alloc w (.cells #[] 51)
  have own0 := World.ownsRow_lit (base := w.heap.size) (e := 51) (size := 3) w #[] 0 (Nat.le_refl _) (by simp [maxLen]) rfl
  have ST0 : StG (w.alloc (.cells #[] 51)) w.heap.size (.slice (some ⟨w.heap.size, 0, none⟩) 0 0) [] := StG.nil_ own0
  have HN := Lib.hid (l01Next_any A L0 c lo g 5 _ (hs.up hua hg) (Nat.lt_of_lt_of_le hg hua.size) hL (by omega))
  clear own0
  go_enter Tryz.func62, Tryz.ntmps62
  go_wp2_with fail
  obtain ⟨v0, hv0⟩ : ∃ v, v = Value.slice (some ⟨w.heap.size, 0, none⟩) 0 0 := ⟨_, rfl⟩
  rw [← hv0] at ST0 ⊢
  generalize w.alloc (.cells #[] 51) = wa at *
  clear hv0
  refine HN.out.mono ?_
  rintro e w1 ⟨z, rfl, hz, S1, m1⟩
  obtain ⟨hz0', hz1'⟩ := hz.lt (by omega)
  obtain ⟨zn, rfl⟩ := Int.eq_ofNat_of_zero_le hz0'
  have G1 := gr_mk ((Mk.up (b0 := g) (b1 := g + 1) hua).trans m1)
  have ST1 := ST0.gr (gr_mk m1) hg
  clear HN ST0 hua m1 hz
  go_wp2_with fail
  go_loopw [3, 4, 5, 6] (fun o n _ _ wr => ∃ (k : Nat) (L : List Fm), n = .int .i64 k ∧ L.length + k ≤ 4 ∧ SzF L ∧ StG wr w.heap.size o L ∧ Src wr g A L0 c lo ∧ w.grownBy wr (some g)) (fun _ n _ _ _ => (intOf n).toNat)
  case atStart => exact ⟨zn, [], rfl, by simp; omega, by simp [SzF], ST1, S1, G1⟩
  case round =>
    clear ST1 S1 G1
    obtain ⟨k, L, rfl, hk, hsz, hst, hS, hG⟩ := hrel
    have HSZ := Lib.hid hsz
    have HST := Lib.hid hst
    clear hsz hst
    have hgr : g < wr.heap.size := Nat.lt_of_lt_of_le hg hG.size
    rcases k with _ | k
    · obtain ⟨wq, rfl⟩ : ∃ x, x = wr := ⟨_, rfl⟩
      go_wp2_with fail
      refine (l01Next_any A L0 c lo g 40 wq hS hgr hL (by omega)).mono ?_
      rintro e w1 ⟨zx, rfl, hzx, S1, m1⟩
      have ST1 := Lib.hid (HST.out.gr (gr_mk m1) hg)
      have G1 := hG.trans (gr_mk m1)
      have hg1 := Nat.lt_of_lt_of_le hgr m1.size
      clear HST hS hG m1 hzx
      by_cases hzz : zx = 0
      · have hzb : (zx == 0) = true := by simpa using hzz
        clear hzz ST1
        have hua := Up.alloc w1 (.cells #[] 51)
        have own0 := World.ownsRow_lit (base := w.heap.size) (e := 51) (size := 3) w1 #[] 0 G1.size (by simp [maxLen]) rfl
        have ST0 : StG (w1.alloc (.cells #[] 51)) w.heap.size (.slice (some ⟨w1.heap.size, 0, none⟩) 0 0) [] := StG.nil_ own0
        have HN := Lib.hid (l01Next_any A L0 c lo g 2 _ (S1.up hua hg1) (Nat.lt_of_lt_of_le hg1 hua.size) hL (by omega))
        have G2 := gr_up G1 hua
        clear S1 G1 own0
        go_wp2_with fail
        obtain ⟨v0, hv0⟩ : ∃ v, v = Value.slice (some ⟨w1.heap.size, 0, none⟩) 0 0 := ⟨_, rfl⟩
        rw [← hv0] at ST0 ⊢
        generalize w1.alloc (.cells #[] 51) = w2 at *
        clear hv0
        refine HN.out.mono ?_
        rintro e w3 ⟨z, rfl, hz, S3, m3⟩
        obtain ⟨hz0', hz1'⟩ := hz.lt (by omega)
        obtain ⟨zn, rfl⟩ := Int.eq_ofNat_of_zero_le hz0'
        have G3 := gr_mk ((mk_gr G2).trans m3)
        have ST3 := ST0.gr (gr_mk m3) hg
        clear HN ST0 hua m3 hz G2
        go_wp2_with fail
        go_loopw [3, 7] (fun o n wr => ∃ (k : Nat) (L : List Fm), n = .int .i64 k ∧ L.length + k ≤ 21 ∧ SzF L ∧ StG wr w.heap.size o L ∧ Src wr g A L0 c lo ∧ w.grownBy wr (some g)) (fun _ n _ => (intOf n).toNat)
        case atStart => exact ⟨20 + zn, [], by go_num, by simp; omega, by simp [SzF], ST3, S3, G3⟩
        case round =>
          clear ST3 S3 G3 HSZ
          obtain ⟨k, L2, rfl, hk2, hsh2, hst2, S4, G4⟩ := hrel
          have HS2 := Lib.hid hsh2
          have HT2 := Lib.hid hst2
          clear hsh2 hst2
          rcases k with _ | k
          · go_wp2
            go_ret
            exact ⟨_, L2, rfl, HT2.out, HS2.out, by omega, S4, mk_gr G4⟩
          · have hgW := Nat.lt_of_lt_of_le hg G4.size
            have ub := Up.alloc wr (.cells #[.string ⟨#[115, 101, 97, 108]⟩] 9)
            have how : (wr.alloc (.cells #[.string ⟨#[115, 101, 97, 108]⟩] 9)).ownsRow wr.heap.size 9 1 (.slice (some ⟨wr.heap.size, 0, none⟩) 1 1) 1 ([(⟨#[115, 101, 97, 108]⟩ : ByteArray)].flatMap strC) := World.ownsRow_lit (base := wr.heap.size) (e := 9) (size := 1) wr #[.string ⟨#[115, 101, 97, 108]⟩] 1 (Nat.le_refl _) (by simp [maxLen]) rfl
            have ub2 := Up.alloc (wr.alloc (.cells #[.string ⟨#[115, 101, 97, 108]⟩] 9)) (.cells #[.slice (some ⟨wr.heap.size, 0, none⟩) 1 1, .int .i64 5, .int .i64 (((k + 1 : Nat) : Int) + 5)] 51)
            have uu := ub.trans ub2
            have hSB := HT2.out.up uu
            have S5 := S4.up uu hgW
            have G5 := gr_up G4 uu
            have hss : (wr.alloc (.cells #[.string ⟨#[115, 101, 97, 108]⟩] 9)).heap.size = wr.heap.size + 1 := by simp
            have hnews := fm_news (wr.alloc (.cells #[.string ⟨#[115, 101, 97, 108]⟩] 9)) (.slice (some ⟨wr.heap.size, 0, none⟩) 1 1) 5 (((k + 1 : Nat) : Int) + 5)
            rw [hss] at hnews
            have HNS := Lib.hid hnews
            have HOW := Lib.hid (own_up how ub2)
            have HG4 := Lib.hid G4.size
            have hlow : ∀ b, Value.ownBlock u3 = some b ∨ (∃ x ∈ L2, x.sl.ownBlock = some b) → ¬ (Fm.sl ⟨some ⟨wr.heap.size, 0, none⟩, 1, [(⟨#[115, 101, 97, 108]⟩ : ByteArray)], 5, (((k + 1 : Nat) : Int) + 5)⟩).ownBlock = some b := fun b hb e => by
              have h1 := HT2.out.low (Nat.le_refl _) b hb
              have h3 : wr.heap.size = b := by simpa [Value.ownBlock] using e
              omega
            have HLW := Lib.hid hlow
            have n1 : L2.length + 1 ≤ maxLen := by unfold maxLen; omega
            have n2 : (L2.length + 1) * 40 ≤ 140737488355328 := by omega
            have n3 : w.heap.size ≤ ((wr.alloc (.cells #[.string ⟨#[115, 101, 97, 108]⟩] 9)).alloc (.cells #[.slice (some ⟨wr.heap.size, 0, none⟩) 1 1, .int .i64 5, .int .i64 (((k + 1 : Nat) : Int) + 5)] 51)).heap.size := Nat.le_trans HG4.out uu.size
            have hg5 := Nat.lt_of_lt_of_le hgW uu.size
            clear S4 G4 hnews hss how hlow
            go_wp2_with ((at_builtin; refine wpList_append_lies (P := Tryz.prog) _ rfl _ _ 26 rfl w.heap.size 51 i1 _ 3 40 Tryz.underlying26 hi1 hy0 hy1 hy2 fm_zero (by decide) _ _ _ rfl hSB.list ⟨wr.heap.size + 1, 0, none⟩ 1 1 [.slice (some ⟨wr.heap.size, 0, none⟩) 1 1, .int .i64 5, .int .i64 (((k + 1 : Nat) : Int) + 5)] rfl rfl HNS.out (by simp [Value.oneCell']) (by decide) n1 n2 n3 _ rfl ?_))
            intro gN cN w9 hown9 hg9 hat hlt9
            have hvb : (Value.slice (some ⟨gN, 0, none⟩) (L2.length + 1) cN).ownBlock = Value.ownBlock u3 ∨ (Value.slice (some ⟨gN, 0, none⟩) (L2.length + 1) cN).ownBlock = some ((wr.alloc (.cells #[.string ⟨#[115, 101, 97, 108]⟩] 9)).alloc (.cells #[.slice (some ⟨wr.heap.size, 0, none⟩) 1 1, .int .i64 5, .int .i64 (((k + 1 : Nat) : Int) + 5)] 51)).heap.size := by
              rcases hat with h | h
              · exact .inl h.symm
              · exact .inr (by rw [h]; simp [Value.ownBlock])
            have hSN := StG.snoc (y := ⟨some ⟨wr.heap.size, 0, none⟩, 1, [(⟨#[115, 101, 97, 108]⟩ : ByteArray)], 5, (((k + 1 : Nat) : Int) + 5)⟩) hSB hown9 hg9 hvb HOW.out HG4.out HLW.out
            have S9 := S5.row hSB.list hg9 hg hg5
            have G9 := gr_row G5 hg9 (fun b hb => (hSB.list.lt b hb).1)
            have HSN := Lib.hid hSN
            clear hSN hSB hown9 hg9 hat hvb S5 G5
            go_wp2
            go_roundw
            case rel => exact ⟨k, L2 ++ [⟨some ⟨wr.heap.size, 0, none⟩, 1, [(⟨#[115, 101, 97, 108]⟩ : ByteArray)], 5, (((k + 1 : Nat) : Int) + 5)⟩], by go_num, by simp; omega, HS2.out.snoc (y := ⟨some ⟨wr.heap.size, 0, none⟩, 1, [(⟨#[115, 101, 97, 108]⟩ : ByteArray)], 5, (((k + 1 : Nat) : Int) + 5)⟩) (show ∀ s ∈ [(⟨#[115, 101, 97, 108]⟩ : ByteArray)], s.size ≤ 21 from by decide) (show 1 ≤ 3 from by decide), HSN.out, S9, G9⟩
            case measure => first | (simp [intOf]; done) | (simp [intOf]; omega)
      · have hzb : (zx == 0) = false := by simpa using hzz
        clear hzz
        go_wp2
        go_ret
        exact ⟨_, L, rfl, ST1.out, HSZ.out, by omega, S1, mk_gr G1⟩
    · go_wp2_with fail
      refine (l01Next_any A L0 c lo g 6000 wr hS hgr hL (by omega)).mono ?_
      rintro e w5 ⟨z5, rfl, hz5, S5, m5⟩
      obtain ⟨hz50, hz51⟩ := hz5.lt (by omega)
      have G5 := hG.trans (gr_mk m5)
      have hg5 := Nat.lt_of_lt_of_le hgr m5.size
      have R5 := gr_mk m5
      have hw5 : wr.heap.size ≤ w5.heap.size := m5.size
      clear hz5 hS m5
      go_wp2_with fail
      refine (l24DrawWords_any A L0 c lo g w5 S5 hg5 hL).mono ?_
      rintro e w6 ⟨v1, ws, rfl, how, hws, hwl, S6, m6⟩
      obtain ⟨C1, c1, rfl, -⟩ := own_form how
      have G6 := G5.trans (gr_mk m6)
      have R6 := R5.trans (gr_mk m6)
      have hg6 := Nat.lt_of_lt_of_le hg5 m6.size
      have HWS := Lib.hid hws
      clear S5 G5 R5 m6 hws
      go_wp2_with fail
      refine (l01Next_any A L0 c lo g 5000 w6 S6 hg6 hL (by omega)).mono ?_
      rintro e w7 ⟨z7, rfl, hz7, S7, m7⟩
      obtain ⟨hz70, hz71⟩ := hz7.lt (by omega)
      have ub := Up.alloc w7 (.cells #[.slice C1 ws.length c1, .int .i64 (419000 + z5), .int .i64 (419000 + z5 + z7)] 51)
      have hg7 := Nat.lt_of_lt_of_le hg6 m7.size
      have S8 := S7.up ub hg7
      have G8 := gr_up (G6.trans (gr_mk m7)) ub
      have R8 := gr_up (R6.trans (gr_mk m7)) ub
      have o8 := own_up (own_gr how (gr_mk m7) hg5) ub
      have bx := box_fmD w7 (.slice C1 ws.length c1) (419000 + z5) (419000 + z5 + z7)
      have hq := l24Formula_any ⟨C1, c1, ws, 419000 + z5, 419000 + z5 + z7⟩ _ _ _ (Rd.own strC_len o8) (Nat.le_refl _) (fun s hs => by have := HWS.out s hs; unfold maxLen; omega) (by show ws.length ≤ 2000000; omega)
      obtain ⟨fb, hfb⟩ : ∃ b, b = fmB (Fm.p ⟨C1, c1, ws, 419000 + z5, 419000 + z5 + z7⟩) := ⟨_, rfl⟩
      rw [← hfb] at hq
      have hgbg : g < w7.heap.size := hg7
      clear S6 G6 R6 S7 how hz7 m7 hfb
      go_upto_region 7 with fail
      obtain ⟨W8, hW8⟩ : ∃ z, z = w7.alloc (.cells #[.slice C1 ws.length c1, .int .i64 (419000 + z5), .int .i64 (419000 + z5 + z7)] 51) := ⟨_, rfl⟩
      obtain ⟨gb, hgb⟩ : ∃ z, z = w7.heap.size := ⟨_, rfl⟩
      rw [← hW8] at o8 S8 G8 R8 bx hq ⊢
      rw [← hgb] at bx hgbg ⊢
      have hg8 : g < W8.heap.size := Nat.lt_of_lt_of_le hg G8.size
      have HQ := Lib.hid hq
      have HBX := Lib.hid bx
      have HS8 := Lib.hid S8
      have HG8 := Lib.hid G8
      have HR8 := Lib.hid R8
      have HO8 := Lib.hid o8
      obtain ⟨x0, x1, x2⟩ := bx
      clear hW8 hgb hq S8 G8 R8 o8 ub
      go_cut [32] (fun b wx => ∃ (W : World) (bb : Bool), W = wx ∧ b = .bool bb ∧ Src W g A L0 c lo ∧ W8.grownBy W (some g))
      case first =>
        go_wp2_with fail
        refine HQ.out.mono ?_
        rintro e w9 ⟨rfl, u9⟩
        have S9 := HS8.out.up u9 hg8
        have R9 := gr_up (World.grownBy.refl W8 (some g)) u9
        cases fb with
        | true =>
          go_wp2_with fail
          go_meet
          exact ⟨_, true, rfl, rfl, S9, R9⟩
        | false =>
          clear x0 x1 x2
          go_wp2_with fail
          refine (l01Next_any A L0 c lo g 20 w9 S9 (Nat.lt_of_lt_of_le hg8 u9.size) hL (by omega)).mono ?_
          rintro e w10 ⟨z10, rfl, hz10, S10, m10⟩
          have HH := Lib.hid (And.intro S10 (R9.trans (gr_mk m10)))
          clear hz10 S10 m10 S9 R9
          go_wp2_with fail
          go_meet
          exact ⟨_, _, rfl, rfl, HH.out.1, HH.out.2⟩
      case rest =>
        obtain ⟨W, bb, hW, rfl, SW, RW⟩ := hcut
        subst hW
        have hgW := Nat.lt_of_lt_of_le hg8 RW.size
        have GW := HG8.out.trans RW
        have RRW := HR8.out.trans RW
        have STW := HST.out.gr RRW hg
        clear x0 x1 x2 HQ
        cases bb with
        | true =>
          obtain ⟨x0, x1, x2⟩ := HBX.out
          have hne : ∀ o, some (⟨gb, o, none⟩ : Addr).block ≠ some g := fun o e => Nat.ne_of_gt hgbg (by simpa using e)
          have y0 := (RW.cell_far ⟨gb, 0, none⟩ (block_lt_of_cell x0) (hne 0)).trans x0
          have y1 := (RW.cell_far ⟨gb, 1, none⟩ (block_lt_of_cell x1) (hne 1)).trans x1
          have y2 := (RW.cell_far ⟨gb, 2, none⟩ (block_lt_of_cell x2) (hne 2)).trans x2
          have ub := Up.alloc W (.cells #[.slice C1 ws.length c1, .int .i64 (419000 + z5), .int .i64 (419000 + z5 + z7)] 51)
          have hSB := STW.up ub
          have S5 := SW.up ub hgW
          have G5 := gr_up GW ub
          have HNS := Lib.hid (fm_news W (.slice C1 ws.length c1) (419000 + z5) (419000 + z5 + z7))
          have HOW := Lib.hid (own_up (own_gr HO8.out RW hg5) ub)
          have hwW5 : w.heap.size ≤ w5.heap.size := Nat.le_trans hG.size hw5
          have hlow : ∀ b, Value.ownBlock u3 = some b ∨ (∃ x ∈ L, x.sl.ownBlock = some b) → ¬ (Fm.sl ⟨C1, c1, ws, 419000 + z5, 419000 + z5 + z7⟩).ownBlock = some b := fun b hb e => by
            have h1 := HST.out.low (Nat.le_refl _) b hb
            have h2 := (HO8.out.lt b e).1
            omega
          have HLW := Lib.hid hlow
          have n1 : L.length + 1 ≤ maxLen := by unfold maxLen; omega
          have n2 : (L.length + 1) * 40 ≤ 140737488355328 := by omega
          have n3 : w.heap.size ≤ (W.alloc (.cells #[.slice C1 ws.length c1, .int .i64 (419000 + z5), .int .i64 (419000 + z5 + z7)] 51)).heap.size := Nat.le_trans GW.size ub.size
          have hg6' := Nat.lt_of_lt_of_le hgW ub.size
          clear SW RW GW RRW STW x0 x1 x2 hlow hG
          go_wp2_with ((at_builtin; refine wpList_append_lies (P := Tryz.prog) _ rfl _ _ 26 rfl w.heap.size 51 i1 _ 3 40 Tryz.underlying26 hi1 hy0 hy1 hy2 fm_zero (by decide) _ _ _ rfl hSB.list ⟨W.heap.size, 0, none⟩ 1 1 [.slice C1 ws.length c1, .int .i64 (419000 + z5), .int .i64 (419000 + z5 + z7)] rfl rfl HNS.out (by simp [Value.oneCell']) (by decide) n1 n2 n3 _ rfl ?_))
          intro gN cN w9 hown9 hg9 hat hlt9
          have hvb : (Value.slice (some ⟨gN, 0, none⟩) (L.length + 1) cN).ownBlock = Value.ownBlock u3 ∨ (Value.slice (some ⟨gN, 0, none⟩) (L.length + 1) cN).ownBlock = some (W.alloc (.cells #[.slice C1 ws.length c1, .int .i64 (419000 + z5), .int .i64 (419000 + z5 + z7)] 51)).heap.size := by
            rcases hat with h | h
            · exact .inl h.symm
            · exact .inr (by rw [h]; simp [Value.ownBlock])
          have hSN := StG.snoc (y := ⟨C1, c1, ws, 419000 + z5, 419000 + z5 + z7⟩) hSB hown9 hg9 hvb HOW.out hwW5 HLW.out
          have S9 := S5.row hSB.list hg9 hg hg6'
          have G9 := gr_row G5 hg9 (fun b hb => (hSB.list.lt b hb).1)
          have HSN := Lib.hid hSN
          clear hSN hSB hown9 hg9 hat hvb S5 G5 y0 y1 y2
          go_wp2
          go_roundw
          case rel => first | exact ⟨k, L ++ [⟨C1, c1, ws, 419000 + z5, 419000 + z5 + z7⟩], by go_num, by simp; omega, HSZ.out.snoc HWS.out hwl, HSN.out, S9, G9⟩ | (refine ⟨_, ?_⟩; exact ⟨⟨k, L ++ [⟨C1, c1, ws, 419000 + z5, 419000 + z5 + z7⟩], by go_num, by simp; omega, HSZ.out.snoc HWS.out hwl, HSN.out, S9, G9⟩, rfl⟩) | ((repeat refine Exists.intro _ ?_); exact ⟨⟨k, L ++ [⟨C1, c1, ws, 419000 + z5, 419000 + z5 + z7⟩], by go_num, by simp; omega, HSZ.out.snoc HWS.out hwl, HSN.out, S9, G9⟩, rfl⟩)
          case measure => first | (simp [intOf]; done) | (simp [intOf]; omega)
        | false =>
          go_wp2
          go_roundw
          case rel => first | exact ⟨k, L, by go_num, by omega, HSZ.out, STW, SW, GW⟩ | (refine ⟨_, ?_⟩; exact ⟨⟨k, L, by go_num, by omega, HSZ.out, STW, SW, GW⟩, rfl⟩) | ((repeat refine Exists.intro _ ?_); exact ⟨⟨k, L, by go_num, by omega, HSZ.out, STW, SW, GW⟩, rfl⟩)
          case measure => first | (simp [intOf]; done) | (simp [intOf]; omega)
end Go.Proofs.YtehoaoeahfmfpaaGreatDoor

namespace Go.Proofs.YtehoaoeahfmfpaaGreatDoor
open Go.RowKit Go.Sort

theorem wsz_app {l m : List ByteArray} {k : Nat} (h : ∀ y ∈ l, y.size ≤ k) (hm : ∀ y ∈ m, y.size ≤ k) : ∀ y ∈ l ++ m, y.size ≤ k := fun y hy => by
  rcases List.mem_append.1 hy with h1 | h1
  · exact h y h1
  · exact hm y h1

set_option maxRecDepth 100000 in
set_option maxHeartbeats 4000000 in
theorem l24DrawPhrase_any (A : Option Addr) (L0 : List UInt8) (c lo g : Nat) (A2 : Option Addr) (L : List Fm) (c2 B0 : Nat) (w : World) (hs : Src w g A L0 c lo) (hg : g < w.heap.size) (hL : L0.length ≤ 2000000) (hst : StG w B0 (.slice A2 L.length c2) L) (hgB : g < B0) (hsz : SzF L) (hLn : L.length ≤ 21) :
    Calls Tryz.prog 79 #[.pointer (some ⟨g, 0, none⟩), .slice A2 L.length c2] w fun e w' => ∃ (v : Value) (l : List ByteArray), e = .returned v ∧ w'.ownsRow w.heap.size 9 1 v l.length (l.flatMap strC) ∧ (∀ x ∈ l, x.size ≤ 21) ∧ l.length ≤ 64 ∧ Src w' g A L0 c lo ∧ Mk g (g + 1) w w' := by
  obtain ⟨i0, hi0, hz0, hz1, hz2⟩ := info_parts infoStrW
  have HSZ := Lib.hid hsz
  clear hsz
  go_enter Tryz.func79, Tryz.ntmps79
  go_wp2_with fail
  refine (l10DrawPhrase_any A L0 c lo g w hs hg hL).mono ?_
  rintro e w1 ⟨v, l, rfl, own1, hl, hln, S1, m1⟩
  obtain ⟨Av, cv, rfl, -⟩ := own_form own1
  have hg1 := Nat.lt_of_lt_of_le hg m1.size
  have T1 := hst.gr (gr_mk m1) hgB
  have HM1 := Lib.hid m1
  have HL := Lib.hid hl
  have HO1 := Lib.hid own1
  have HT1 := Lib.hid T1
  have HS1 := Lib.hid S1
  clear hst hs m1 hl own1 T1 S1
  go_upto_region 2 with fail
  go_cut [20] (fun b wx => ∃ (W : World) (bb : Bool), W = wx ∧ b = .bool bb ∧ (bb = true → 0 < L.length) ∧ (bb = true → l.length < 20) ∧ Src W g A L0 c lo ∧ w1.grownBy W (some g))
  case first =>
    by_cases h0 : 0 < L.length
    · have hd0 : decide ((0 : Int) < (L.length : Int)) = true := by rw [decide_eq_true_iff]; omega
      by_cases h20 : l.length < 20
      · have hd1 : decide ((l.length : Int) < 20) = true := by rw [decide_eq_true_iff]; omega
        go_wp2_with fail
        refine (l01Next_any A L0 c lo g 3 w1 HS1.out hg1 hL (by omega)).mono ?_
        rintro e w2 ⟨z, rfl, hz, S2, m2⟩
        have HH := Lib.hid (And.intro S2 (gr_mk m2))
        clear hz S2 m2
        go_wp2_with fail
        go_meet
        exact ⟨_, _, rfl, rfl, fun _ => h0, fun _ => h20, HH.out.1, HH.out.2⟩
      · have hd1 : decide ((l.length : Int) < 20) = false := by rw [decide_eq_false_iff_not]; omega
        go_wp2_with fail
        go_meet
        exact ⟨_, false, rfl, rfl, fun h => (by cases h), fun h => (by cases h), HS1.out, World.grownBy.refl _ _⟩
    · have hd0 : decide ((0 : Int) < (L.length : Int)) = false := by rw [decide_eq_false_iff_not]; omega
      go_wp2_with fail
      go_meet
      exact ⟨_, false, rfl, rfl, fun h => (by cases h), fun h => (by cases h), HS1.out, World.grownBy.refl _ _⟩
  case rest =>
    obtain ⟨W, bb, hW, rfl, hb0, hb1, SW, RW⟩ := hcut
    subst hW
    have hgW := Nat.lt_of_lt_of_le hg1 RW.size
    have HB0 := Lib.hid hb0
    have HB1 := Lib.hid hb1
    clear hb0 hb1
    cases bb with
    | false =>
      have HH := Lib.hid (And.intro (own_gr HO1.out RW hg) (HM1.out.trans (mk_gr RW)))
      go_wp2
      go_ret
      exact ⟨_, l, rfl, HH.out.1, HL.out, by omega, SW, HH.out.2⟩
    | true =>
      have h0 := HB0.out rfl
      have h20 := HB1.out rfl
      go_wp2_with fail
      refine (l01Next_any A L0 c lo g (L.length : Int) W SW hgW hL (by omega)).mono ?_
      rintro e w3 ⟨z, rfl, hz, S3, m3⟩
      obtain ⟨hz00, hz01⟩ := hz.lt (by omega)
      obtain ⟨zn, rfl⟩ := Int.eq_ofNat_of_zero_le hz00
      have R3 := RW.trans (gr_mk m3)
      have T3 := HT1.out.gr R3 hgB
      have own3 := own_gr HO1.out R3 hg
      obtain ⟨b, off, y, rfl, -, -, hy, hry, q0, -, -⟩ := T3.rdf.at_ (k := zn) (by omega)
      have hym := List.mem_of_getElem? hy
      have hyo := T3.each y hym
      obtain ⟨Ay, cy, hyv, -, -, hyz⟩ := own_formz hyo
      simp only [Fm.sl, Value.slice.injEq] at hyv
      obtain ⟨hyA, -, hyc⟩ := hyv
      have hys := HSZ.out y hym
      have hg3 := Nat.lt_of_lt_of_le hgW m3.size
      have hM3 := Lib.hid (HM1.out.trans (mk_gr R3))
      have hln1 : l.length + y.ws.length ≤ maxLen := by have := hys.2; unfold maxLen; omega
      have hln2 : (l.length + y.ws.length) * 16 ≤ 140737488355328 := by have := hys.2; omega
      have hln3 : w.heap.size ≤ w3.heap.size := hM3.out.size
      have hl64 : l.length + y.ws.length ≤ 64 := by have := hys.2; omega
      have hzl : (zn : Int) < (L.length : Int) := by omega
      clear hz m3 SW RW R3 T3 hy
      rcases hyB : y.A with _ | ad
      · have hws : y.ws = [] := by
          rcases hw0 : y.ws with _ | ⟨x, W0⟩
          · rfl
          · rw [hw0] at hry
            obtain ⟨b', off', e, _⟩ := hry (by simp)
            rw [hyB] at e; cases e
        have hcc : y.c = 0 := by rw [hyc]; exact hyz (by rw [← hyA]; exact hyB)
        rw [hyB, hws, hcc] at q0
        have q0' : w3.cell? ⟨b, off + zn * 3, none⟩ = some (.slice none 0 0) := q0
        have HO3 := Lib.hid own3
        clear hry hyo hyA hyc hyz hyB hws hcc q0 own3
        go_wp2_with ((at_builtin; refine wpList_append_own_none rfl _ _ 23 rfl w.heap.size 9 i0 1 Tryz.underlying23 hi0 _ l.length _ rfl HO3.out rfl ?_))
        go_ret
        exact ⟨_, l, rfl, HO3.out, HL.out, by omega, S3, hM3.out⟩
      · rw [hyB] at q0 hry
        have HN := Lib.hid (txt_news hry)
        have H0 := Lib.hid (show (y.ws.flatMap strC).length = y.ws.length * 1 from flat_length _ 1 strC_len y.ws)
        have HO := Lib.hid (txts_one y.ws)
        clear hry hyo hyA hyc hyz hyB
        go_wp2_with ((at_builtin; refine wpList_append_own _ rfl _ _ 23 rfl w.heap.size 9 i0 _ 1 16 Tryz.underlying23 hi0 hz0 hz1 hz2 rfl (by decide) _ _ _ rfl own3 ad y.ws.length y.c (y.ws.flatMap strC) rfl H0.out HN.out HO.out hln1 hln2 hln3 ?_))
        intro v' w9 hown' hgrow _
        have S9 := S3.row own3 hgrow hg hg3
        have M9 := mk_gr (gr_row (gr_mk hM3.out) hgrow (fun b hb => (own3.lt b hb).1))
        have ho : w9.ownsRow w.heap.size 9 1 v' (l ++ y.ws).length ((l ++ y.ws).flatMap strC) := by rw [List.length_append, List.flatMap_append]; exact hown'
        clear hown' hgrow own3
        go_wp2
        go_ret
        exact ⟨v', l ++ y.ws, rfl, ho, wsz_app HL.out hys.1, by rw [List.length_append]; exact hl64, S9, M9⟩

set_option maxRecDepth 100000 in
set_option maxHeartbeats 2000000 in
theorem l01DrawDay_any (A : Option Addr) (L0 : List UInt8) (c lo g : Nat) (w : World) (hs : Src w g A L0 c lo) (hg : g < w.heap.size) (hL : L0.length ≤ 2000000) :
    Calls Tryz.prog 95 #[.pointer (some ⟨g, 0, none⟩)] w fun e w' => ∃ z : Int, e = .returned (.int .i64 z) ∧ -1 ≤ z ∧ z ≤ 2000000 ∧ Src w' g A L0 c lo ∧ Mk g (g + 1) w w' := by
  go_enter Tryz.func95, Tryz.ntmps95
  go_wp2_with fail
  refine (l01Next_any A L0 c lo g 16 w hs hg hL (by omega)).mono ?_
  rintro e w1 ⟨z1, rfl, hz1, S1, m1⟩
  have hg1 := Nat.lt_of_lt_of_le hg m1.size
  clear hz1
  by_cases hzz : z1 = 0
  · have hzb : (z1 == 0) = true := by simpa using hzz
    clear hzz
    have hua := Up.alloc w1 (.cells #[.int .i64 (-1), .int .i64 0, .int .i64 1, .int .i64 2, .int .i64 730498, .int .i64 730499, .int .i64 730500] 2)
    have own := World.ownsRow_lit (base := w1.heap.size) (e := 2) (size := 1) w1 #[.int .i64 (-1), .int .i64 0, .int .i64 1, .int .i64 2, .int .i64 730498, .int .i64 730499, .int .i64 730500] 7 (Nat.le_refl _) (by simp [maxLen]) rfl
    have hrd : RdI (w1.alloc (.cells #[.int .i64 (-1), .int .i64 0, .int .i64 1, .int .i64 2, .int .i64 730498, .int .i64 730499, .int .i64 730500] 2)) w1.heap.size _ (some ⟨w1.heap.size, 0, none⟩) [(-1 : Int), 0, 1, 2, 730498, 730499, 730500] := Rd.own int_len own
    have HP := Lib.hid (l01Pick_any A L0 c lo g (some ⟨w1.heap.size, 0, none⟩) [(-1 : Int), 0, 1, 2, 730498, 730499, 730500] 7 w1.heap.size _ _ (S1.up hua hg1) (Nat.lt_of_lt_of_le hg1 hua.size) hL hrd (Nat.le_refl _) (.inr hg1) (by simp) (by simp))
    have M1 := m1.trans (Mk.up (b0 := g) (b1 := g + 1) hua)
    clear own hrd S1 m1
    go_wp2_with fail
    refine HP.out.mono ?_
    rintro e w2 ⟨z2, rfl, hz2, S2, m2⟩
    have hzr : -1 ≤ z2 ∧ z2 ≤ 2000000 := by
      simp at hz2
      omega
    have M2 := M1.trans m2
    clear hz2 m2 M1
    go_wp2
    go_ret
    exact ⟨z2, rfl, hzr.1, hzr.2, S2, M2⟩
  · have hzb : (z1 == 0) = false := by simpa using hzz
    clear hzz
    go_wp2_with fail
    refine (l01Next_any A L0 c lo g 730499 w1 S1 hg1 hL (by omega)).mono ?_
    rintro e w2 ⟨z2, rfl, hz2, S2, m2⟩
    obtain ⟨h0, h1⟩ := hz2.lt (by omega)
    have M2 := m1.trans m2
    clear hz2 m2 m1 S1
    go_wp2
    go_ret
    exact ⟨z2, rfl, by omega, by omega, S2, M2⟩

set_option maxRecDepth 100000 in
set_option maxHeartbeats 2000000 in
theorem l07DrawDay_any (A : Option Addr) (L0 : List UInt8) (c lo g : Nat) (w : World) (hs : Src w g A L0 c lo) (hg : g < w.heap.size) (hL : L0.length ≤ 2000000) :
    Calls Tryz.prog 64 #[.pointer (some ⟨g, 0, none⟩)] w fun e w' => ∃ z : Int, e = .returned (.int .i64 z) ∧ -1 ≤ z ∧ z ≤ 2000000 ∧ Src w' g A L0 c lo ∧ Mk g (g + 1) w w' := by
  go_enter Tryz.func64, Tryz.ntmps64
  go_wp2_with fail
  refine (l01Next_any A L0 c lo g 24 w hs hg hL (by omega)).mono ?_
  rintro e w1 ⟨z1, rfl, hz1, S1, m1⟩
  have hg1 := Nat.lt_of_lt_of_le hg m1.size
  clear hz1
  by_cases hzz : z1 = 0
  · have hzb : (z1 == 0) = true := by simpa using hzz
    clear hzz
    go_wp2_with fail
    refine (l01DrawDay_any A L0 c lo g w1 S1 hg1 hL).mono ?_
    rintro e w2 ⟨z2, rfl, h0, h1, S2, m2⟩
    have M2 := m1.trans m2
    clear m2 m1 S1
    go_wp2
    go_ret
    exact ⟨z2, rfl, h0, h1, S2, M2⟩
  · have hzb : (z1 == 0) = false := by simpa using hzz
    clear hzz
    go_wp2_with fail
    refine (l01Next_any A L0 c lo g 12000 w1 S1 hg1 hL (by omega)).mono ?_
    rintro e w2 ⟨z2, rfl, hz2, S2, m2⟩
    obtain ⟨h0, h1⟩ := hz2.lt (by omega)
    have M2 := m1.trans m2
    clear hz2 m2 m1 S1
    go_wp2
    go_ret
    exact ⟨420000 + z2, rfl, by omega, by omega, S2, M2⟩

/-- a drawn list of formulas and a drawn phrase -/
def OwnFP (w w' : World) (v : Value) (L : List Fm) (vp : Value) (l : List ByteArray) : Prop := StG w' w.heap.size v L ∧ SzF L ∧ L.length ≤ 21 ∧ w'.ownsRow w.heap.size 9 1 vp l.length (l.flatMap strC) ∧ (∀ x ∈ l, x.size ≤ 21) ∧ l.length ≤ 64

set_option maxRecDepth 100000 in
set_option maxHeartbeats 2000000 in
theorem drawStrange_any (A : Option Addr) (L0 : List UInt8) (c0 lo hi : Nat) (w : World) (hr : RdY w lo hi A L0) (hhi : hi ≤ w.heap.size) (hn : L0.length ≤ 2000000) :
    Calls Tryz.prog 29 #[.slice A L0.length c0] w fun e w' => ∃ (v : Value) (L : List Fm) (vp : Value) (l : List ByteArray) (n : Int), e = .returned (.tuple #[v, vp, .int .i64 n]) ∧ OwnFP w w' v L vp l ∧ (-1 ≤ n ∧ n ≤ 2000000) ∧ Up w w' := by
  go_enter Tryz.func29, Tryz.ntmps29
  go_wp2_with fail
  refine (l01From_any A L0 c0 lo hi w hr hhi hn).mono ?_
  rintro e w1 ⟨rfl, h1, S1, u1⟩
  go_wp2_with fail
  refine (l24Draw_any A L0 c0 lo w.heap.size w1 S1 h1 hn).mono ?_
  rintro e w2 ⟨v, L, rfl, T2, hsz, hLn, S2, m2⟩
  obtain ⟨Al, cl, rfl, -⟩ := own_form T2.list
  have h2 := Nat.lt_of_lt_of_le h1 m2.size
  have u2 := u1.mk m2 (Nat.le_refl _)
  have hsz1 := u1.size
  clear S1 m2
  go_wp2_with fail
  refine (l24DrawPhrase_any A L0 c0 lo w.heap.size Al L cl w1.heap.size w2 S2 h2 hn T2 h1 hsz hLn).mono ?_
  rintro e w3 ⟨vp, l, rfl, op, hl, hln, S3, m3⟩
  have h3 := Nat.lt_of_lt_of_le h2 m3.size
  have u3 := u2.mk m3 (Nat.le_refl _)
  have T3 := T2.gr (gr_mk m3) h1
  clear T2 S2 m3
  go_wp2_with fail
  refine (l07DrawDay_any A L0 c0 lo w.heap.size w3 S3 h3 hn).mono ?_
  rintro e w4 ⟨n, rfl, hn0, hn1, S4, m4⟩
  have u4 := u3.mk m4 (Nat.le_refl _)
  have H4 := Lib.hid (show OwnFP w w4 (.slice Al L.length cl) L vp l from ⟨(T3.gr (gr_mk m4) h1).base hsz1, hsz, hLn, own_base (own_gr op (gr_mk m4) h2) u2.size, hl, hln⟩)
  clear T3 S3 S4 m4 op hl hsz
  go_wp2
  refine bodyPost_ret (v := .tuple #[.slice Al L.length cl, vp, .int .i64 n]) (by simp [results, Tryz.results29, go_sem]) rfl ⟨_, L, _, l, n, rfl, H4.out, ⟨hn0, hn1⟩, u4⟩

set_option maxRecDepth 100000 in
set_option maxHeartbeats 2000000 in
theorem drawFormsIn_any (A : Option Addr) (L0 : List UInt8) (c0 lo hi : Nat) (w : World) (hr : RdY w lo hi A L0) (hhi : hi ≤ w.heap.size) (hn : L0.length ≤ 2000000) :
    Calls Tryz.prog 82 #[.slice A L0.length c0] w fun e w' => ∃ (v : Value) (L : List Fm) (vp : Value) (l : List ByteArray), e = .returned (.tuple #[v, vp]) ∧ OwnFP w w' v L vp l ∧ Up w w' := by
  go_enter Tryz.func82, Tryz.ntmps82
  go_wp2_with fail
  refine (l01From_any A L0 c0 lo hi w hr hhi hn).mono ?_
  rintro e w1 ⟨rfl, h1, S1, u1⟩
  go_wp2_with fail
  refine (l24Draw_any A L0 c0 lo w.heap.size w1 S1 h1 hn).mono ?_
  rintro e w2 ⟨v, L, rfl, T2, hsz, hLn, S2, m2⟩
  obtain ⟨Al, cl, rfl, -⟩ := own_form T2.list
  have h2 := Nat.lt_of_lt_of_le h1 m2.size
  have u2 := u1.mk m2 (Nat.le_refl _)
  have hsz1 := u1.size
  clear S1 m2
  go_wp2_with fail
  refine (l24DrawPhrase_any A L0 c0 lo w.heap.size Al L cl w1.heap.size w2 S2 h2 hn T2 h1 hsz hLn).mono ?_
  rintro e w3 ⟨vp, l, rfl, op, hl, hln, S3, m3⟩
  have u3 := u2.mk m3 (Nat.le_refl _)
  have H4 := Lib.hid (show OwnFP w w3 (.slice Al L.length cl) L vp l from ⟨(T2.gr (gr_mk m3) h1).base hsz1, hsz, hLn, own_base op u2.size, hl, hln⟩)
  clear T2 S2 S3 m3 op hl hsz
  go_wp2
  refine bodyPost_ret (v := .tuple #[.slice Al L.length cl, vp]) (by simp [results, Tryz.results82, go_sem]) rfl ⟨_, L, _, l, rfl, H4.out, u3⟩

set_option maxRecDepth 100000 in
set_option maxHeartbeats 2000000 in
theorem drawPhraseDays_any (A : Option Addr) (L0 : List UInt8) (c0 lo hi : Nat) (w : World) (hr : RdY w lo hi A L0) (hhi : hi ≤ w.heap.size) (hn : L0.length ≤ 2000000) :
    Calls Tryz.prog 31 #[.slice A L0.length c0] w fun e w' => ∃ (v : Value) (L : List Fm) (vp : Value) (l : List ByteArray), e = .returned (.tuple #[v, vp]) ∧ OwnFP w w' v L vp l ∧ Up w w' := by
  go_enter Tryz.func31, Tryz.ntmps31
  go_wp2_with fail
  refine (drawFormsIn_any A L0 c0 lo hi w hr hhi hn).mono ?_
  rintro e w1 ⟨v, L, vp, l, rfl, ho, u1⟩
  have H4 := Lib.hid ho
  clear ho
  go_wp2
  refine bodyPost_ret (v := .tuple #[v, vp]) (by simp [results, Tryz.results31, go_sem]) rfl ⟨_, L, _, l, rfl, H4.out, u1⟩
end Go.Proofs.YtehoaoeahfmfpaaGreatDoor

namespace Go.Proofs.YtehoaoeahfmfpaaGreatDoor
open Go.RowKit Go.Sort

/-- a formula in a block of its own, open to stores -/
def Fx (w : World) (g : Nat) (a b c : Value) : Prop := w.cell? ⟨g, 0, none⟩ = some a ∧ w.cell? ⟨g, 1, none⟩ = some b ∧ w.cell? ⟨g, 2, none⟩ = some c ∧ w.frozen? ⟨g, 0, none⟩ = false ∧ w.frozen? ⟨g, 1, none⟩ = false ∧ w.frozen? ⟨g, 2, none⟩ = false
theorem Fx.up {w w' : World} {g : Nat} {a b c : Value} (h : Fx w g a b c) (hu : Up w w') : Fx w' g a b c := by
  obtain ⟨h0, h1, h2, f0, f1, f2⟩ := h
  exact ⟨hu.cell h0, hu.cell h1, hu.cell h2, (Below.frozen hu (p := ⟨g, 0, none⟩) (block_lt_of_cell h0)).trans f0, (Below.frozen hu (p := ⟨g, 1, none⟩) (block_lt_of_cell h1)).trans f1, (Below.frozen hu (p := ⟨g, 2, none⟩) (block_lt_of_cell h2)).trans f2⟩
theorem Fx.mk {w w' : World} {g q : Nat} {a b c : Value} (h : Fx w g a b c) (m : Mk q (q + 1) w w') (hne : g < q) : Fx w' g a b c := by
  obtain ⟨h0, h1, h2, f0, f1, f2⟩ := h
  exact ⟨m.cell h0 (.inl hne), m.cell h1 (.inl hne), m.cell h2 (.inl hne), (m.frozen (p := ⟨g, 0, none⟩) (block_lt_of_cell h0) (.inl hne)).trans f0, (m.frozen (p := ⟨g, 1, none⟩) (block_lt_of_cell h1) (.inl hne)).trans f1, (m.frozen (p := ⟨g, 2, none⟩) (block_lt_of_cell h2) (.inl hne)).trans f2⟩
theorem Fx.new (w : World) (a b c : Value) : Fx (w.alloc (.cells #[a, b, c] 51)) w.heap.size a b c := ⟨by go_simp, by go_simp, by go_simp, by go_simp, by go_simp, by go_simp⟩

/-- a drawn phrase and a drawn formula -/
def OwnPF (w w' : World) (vp : Value) (l : List ByteArray) (y : Fm) : Prop := w'.ownsRow w.heap.size 9 1 vp l.length (l.flatMap strC) ∧ (∀ x ∈ l, x.size ≤ 21) ∧ l.length ≤ 64 ∧ w'.ownsRow w.heap.size 9 1 y.sl y.ws.length (y.ws.flatMap strC) ∧ (∀ x ∈ y.ws, x.size ≤ 21) ∧ y.ws.length ≤ 3

set_option maxRecDepth 100000 in
set_option maxHeartbeats 4000000 in
theorem drawFindFormula_any (A : Option Addr) (L0 : List UInt8) (c0 lo hi : Nat) (w : World) (hr : RdY w lo hi A L0) (hhi : hi ≤ w.heap.size) (hn : L0.length ≤ 2000000) :
    Calls Tryz.prog 35 #[.slice A L0.length c0] w fun e w' => ∃ (vp : Value) (l : List ByteArray) (y : Fm), e = .returned (.tuple #[vp, y.val]) ∧ OwnPF w w' vp l y ∧ Up w w' := by
  go_enter Tryz.func35, Tryz.ntmps35
  go_wp2_with fail
  obtain ⟨wa, hwa⟩ : ∃ x, x = w.alloc (.cells #[.slice none 0 0, .int .i64 0, .int .i64 0] 51) := ⟨_, rfl⟩
  have hua : Up w wa := by rw [hwa]; exact Up.alloc _ _
  have hfx : Fx wa w.heap.size (.slice none 0 0) (.int .i64 0) (.int .i64 0) := by rw [hwa]; exact Fx.new _ _ _ _
  have hga : Hid (wa.heap.size = w.heap.size + 1) := Lib.hid (by rw [hwa]; simp)
  have hgl : w.heap.size < wa.heap.size := by rw [hwa]; simp
  rw [← hwa]
  clear hwa
  refine (l01From_any A L0 c0 lo hi wa (hr.up hua hhi) (Nat.le_trans hhi hua.size) hn).mono ?_
  rintro e w1 ⟨rfl, h1, S1, u1⟩
  have fx1 := hfx.up u1
  have U1 := hua.trans u1
  clear hfx
  go_wp2_with fail
  refine (l24Draw_any A L0 c0 lo wa.heap.size w1 S1 h1 hn).mono ?_
  rintro e w2 ⟨v, L, rfl, T2, hsz, hLn, S2, m2⟩
  obtain ⟨Al, cl, rfl, -⟩ := own_form T2.list
  have h2 := Nat.lt_of_lt_of_le h1 m2.size
  have U2 := U1.mk m2 (Nat.le_of_lt hgl)
  have fx2 := fx1.mk m2 hgl
  have hs12 := m2.size
  clear S1 m2 fx1
  go_wp2_with fail
  refine (l24DrawPhrase_any A L0 c0 lo wa.heap.size Al L cl w1.heap.size w2 S2 h2 hn T2 h1 hsz hLn).mono ?_
  rintro e w3 ⟨vp, l, rfl, op, hl, hln, S3, m3⟩
  have h3 := Nat.lt_of_lt_of_le h2 m3.size
  have U3 := U2.mk m3 (Nat.le_of_lt hgl)
  have fx3 := fx2.mk m3 hgl
  have T3 := T2.gr (gr_mk m3) h1
  have HSZ := Lib.hid hsz
  have HLL := Lib.hid hl
  clear T2 S2 m3 fx2 hsz hl
  rcases Nat.eq_zero_or_pos L.length with hnil | hpos
  · obtain rfl := List.length_eq_zero_iff.1 hnil
    have hnb : (((([] : List Fm).length : Nat) : Int) == 0) = true := rfl
    clear hnil T3 HSZ
    go_wp2_with fail
    refine (l24DrawWords_any A L0 c0 lo wa.heap.size w3 S3 h3 hn).mono ?_
    rintro e w4 ⟨v1, ws, rfl, how, hws, hwl, S4, m4⟩
    obtain ⟨C1, c1, rfl, -⟩ := own_form how
    have h4 := Nat.lt_of_lt_of_le h3 m4.size
    have U4 := U3.mk m4 (Nat.le_of_lt hgl)
    have fx4 := fx3.mk m4 hgl
    have op4 := own_gr op (gr_mk m4) h2
    have HWS := Lib.hid hws
    have hs34 := m4.size
    clear S3 m4 fx3 op hws
    go_wp2_with fail
    refine (l01Next_any A L0 c0 lo wa.heap.size 9 w4 S4 h4 hn (by omega)).mono ?_
    rintro e w5 ⟨z, rfl, hz, S5, m5⟩
    obtain ⟨hz0, hz1⟩ := hz.lt (by omega)
    have U5 := U4.mk m5 (Nat.le_of_lt hgl)
    obtain ⟨f0, f1, f2, k0, k1, k2⟩ := fx4.mk m5 hgl
    have op5 := own_gr op4 (gr_mk m5) h2
    have how5 := own_gr how (gr_mk m5) h3
    have HO := Lib.hid (And.intro op5 how5)
    have HW2 := Lib.hid U2.size
    have HW3 := Lib.hid U3.size
    clear S4 S5 m5 fx4 op4 how hz op5 how5
    go_wp2
    have hb2 : w.heap.size < w2.heap.size := by have := hga.out; have := u1.size; omega
    have hb3 : w.heap.size < w3.heap.size := by have := hga.out; have := u1.size; have := HW3.out; omega
    refine bodyPost_ret (v := .tuple #[vp, .agg #[.slice C1 ws.length c1, .int .i64 5, .int .i64 (4 + z)]]) (by simp [results, Tryz.results35, go_sem, f0, f1, f2]) rfl ⟨vp, l, ⟨C1, c1, ws, 5, 4 + z⟩, rfl, ⟨own_base (ownsRow_setCell_below (ownsRow_setCell_below (ownsRow_setCell_below HO.out.1 hb2 _) hb2 _) hb2 _) (Nat.le_of_lt hb2), HLL.out, hln, own_base (ownsRow_setCell_below (ownsRow_setCell_below (ownsRow_setCell_below HO.out.2 hb3 _) hb3 _) hb3 _) (Nat.le_of_lt hb3), HWS.out, hwl⟩, ((U5.setCell (Nat.le_refl _) _).setCell (Nat.le_refl _) _).setCell (Nat.le_refl _) _⟩
  · have hnb : ((L.length : Int) == 0) = false := by rw [beq_eq_false_iff_ne]; omega
    have hd3 : Up w3 w3.drew := (Up.refl _).drew
    have HN := Lib.hid (l01Next_any A L0 c0 lo wa.heap.size (L.length : Int) w3.drew (S3.up hd3 h3) (Nat.lt_of_lt_of_le h3 hd3.size) hn (by omega))
    have HT3 := Lib.hid (T3.up hd3)
    have HFX := Lib.hid (fx3.up hd3)
    have HOP := Lib.hid (own_up op hd3)
    have HU3 := Lib.hid (U3.trans hd3)
    have hL0 : 0 < L.length := hpos
    clear S3 T3 fx3 op hpos
    go_wp2_with fail
    go_region_law ((go_simp; go_at_call 63; refine HN.out.mono ?_; rintro e w6 ⟨z, rfl, hz, S6, m6⟩; obtain ⟨hz0, hz1⟩ := hz.lt (by omega); obtain ⟨zn, rfl⟩ := Int.eq_ofNat_of_zero_le hz0; have hzl : (zn : Int) < (L.length : Int) := (by omega); have T6 := HT3.out.gr (gr_mk m6) h1; obtain ⟨b, off, y, hAl, -, -, hy, -, q0, q1, q2⟩ := T6.rdf.at_ (k := zn) (by omega); subst hAl; obtain ⟨f0, f1, f2, k0, k1, k2⟩ := HFX.out.mk m6 hgl))
    all_goals
      have hym := List.mem_of_getElem? hy
      have op6 := own_gr HOP.out (gr_mk m6) h2
      have hy6 := T6.each y hym
      have HO := Lib.hid (And.intro op6 hy6)
      have U6 := HU3.out.mk m6 (Nat.le_of_lt hgl)
      have HW2 := Lib.hid U2.size
      have hys := Lib.hid (HSZ.out y hym)
      clear op6 hy6 T6 S6 m6 hz hy hym
      go_wp2
      have hb2 : w.heap.size < w2.heap.size := by have := hga.out; have := u1.size; omega
      have hb1 : w.heap.size < w1.heap.size := by have := hga.out; have := u1.size; omega
      refine bodyPost_ret (v := .tuple #[vp, y.val]) (by simp [results, Tryz.results35, go_sem, f0, f1, f2]) rfl ⟨vp, l, y, rfl, ⟨own_base (ownsRow_setCell_below (ownsRow_setCell_below (ownsRow_setCell_below HO.out.1 hb2 _) hb2 _) hb2 _) (Nat.le_of_lt hb2), HLL.out, hln, own_base (ownsRow_setCell_below (ownsRow_setCell_below (ownsRow_setCell_below HO.out.2 hb1 _) hb1 _) hb1 _) (Nat.le_of_lt hb1), hys.out.1, hys.out.2⟩, ((U6.setCell (Nat.le_refl _) _).setCell (Nat.le_refl _) _).setCell (Nat.le_refl _) _⟩
end Go.Proofs.YtehoaoeahfmfpaaGreatDoor

namespace Go.Proofs.YtehoaoeahfmfpaaGreatDoor
open Go.RowKit Go.Sort

set_option maxRecDepth 100000 in
set_option maxHeartbeats 4000000 in
theorem drawBorrowed_any (A : Option Addr) (L0 : List UInt8) (c0 lo hi : Nat) (w : World) (hr : RdY w lo hi A L0) (hhi : hi ≤ w.heap.size) (hn : L0.length ≤ 2000000) :
    Calls Tryz.prog 18 #[.slice A L0.length c0] w fun e w' => ∃ (va vb : Value) (a b : List ByteArray) (n : Int), e = .returned (.tuple #[va, vb, .int .i64 n]) ∧ (w'.ownsRow w.heap.size 9 1 va a.length (a.flatMap strC) ∧ (∀ x ∈ a, x.size ≤ 21) ∧ a.length ≤ 61) ∧ (w'.ownsRow w.heap.size 9 1 vb b.length (b.flatMap strC) ∧ (∀ x ∈ b, x.size ≤ 21) ∧ b.length ≤ 61) ∧ (0 ≤ n ∧ n ≤ 61) ∧ Up w w' := by
  go_enter Tryz.func18, Tryz.ntmps18
  go_wp2_with fail
  refine (l01From_any A L0 c0 lo hi w hr hhi hn).mono ?_
  rintro e w1 ⟨rfl, h1, S1, u1⟩
  go_wp2_with fail
  refine (l10DrawPhrase_any A L0 c0 lo w.heap.size w1 S1 h1 hn).mono ?_
  rintro e w2 ⟨va, a, rfl, oa, ha, hal, S2, m2⟩
  have h2 := Nat.lt_of_lt_of_le h1 m2.size
  have u2 := u1.mk m2 (Nat.le_refl _)
  have hz1 := u1.size
  clear S1 m2
  go_wp2_with fail
  refine (l10DrawPhrase_any A L0 c0 lo w.heap.size w2 S2 h2 hn).mono ?_
  rintro e w3 ⟨vb, b, rfl, ob, hb, hbl, S3, m3⟩
  have h3 := Nat.lt_of_lt_of_le h2 m3.size
  have u3 := u2.mk m3 (Nat.le_refl _)
  have oa3 := own_gr oa (gr_mk m3) h1
  have hz2 := u2.size
  clear S2 m3 oa
  have hua := Up.alloc w3 (.cells #[.int .i64 0, .int .i64 60, .int .i64 61] 2)
  have hrd : RdI (w3.alloc (.cells #[.int .i64 0, .int .i64 60, .int .i64 61] 2)) w3.heap.size _ (some ⟨w3.heap.size, 0, none⟩) [(0 : Int), 60, 61] := Rd.own int_len (World.ownsRow_lit (base := w3.heap.size) (e := 2) (size := 1) w3 #[.int .i64 0, .int .i64 60, .int .i64 61] 3 (Nat.le_refl _) (by simp [maxLen]) rfl)
  have HP := Lib.hid (l01Pick_any A L0 c0 lo w.heap.size (some ⟨w3.heap.size, 0, none⟩) [(0 : Int), 60, 61] 3 w3.heap.size _ _ (S3.up hua h3) (Nat.lt_of_lt_of_le h3 hua.size) hn hrd (Nat.le_refl _) (.inr h3) (by simp) (by simp))
  have oa4 := own_up oa3 hua
  have ob4 := own_up ob hua
  have u4 := u3.trans hua
  have h4 := Nat.lt_of_lt_of_le h3 hua.size
  clear S3 hrd oa3 ob
  go_wp2_with fail
  refine HP.out.mono ?_
  rintro e w5 ⟨z, rfl, hz, S5, m5⟩
  have hzr : 0 ≤ z ∧ z ≤ 61 := by simp at hz; omega
  have h5 := Nat.lt_of_lt_of_le h4 m5.size
  have oa5 := own_gr oa4 (gr_mk m5) h1
  have ob5 := own_gr ob4 (gr_mk m5) h2
  have u5 := u4.mk m5 (Nat.le_refl _)
  clear HP oa4 ob4 m5 hz
  have hub := Up.alloc w5 (.cells #[.int .i64 1, .int .i64 1, .int .i64 2, .int .i64 3, .int .i64 z] 2)
  have hrd2 : RdI (w5.alloc (.cells #[.int .i64 1, .int .i64 1, .int .i64 2, .int .i64 3, .int .i64 z] 2)) w5.heap.size _ (some ⟨w5.heap.size, 0, none⟩) [(1 : Int), 1, 2, 3, z] := Rd.own int_len (World.ownsRow_lit (base := w5.heap.size) (e := 2) (size := 1) w5 #[.int .i64 1, .int .i64 1, .int .i64 2, .int .i64 3, .int .i64 z] 5 (Nat.le_refl _) (by simp [maxLen]) rfl)
  have HP2 := Lib.hid (l01Pick_any A L0 c0 lo w.heap.size (some ⟨w5.heap.size, 0, none⟩) [(1 : Int), 1, 2, 3, z] 5 w5.heap.size _ _ (S5.up hub h5) (Nat.lt_of_lt_of_le h5 hub.size) hn hrd2 (Nat.le_refl _) (.inr h5) (by simp) (by simp))
  have oa6 := own_up oa5 hub
  have ob6 := own_up ob5 hub
  have u6 := u5.trans hub
  clear S5 hrd2 oa5 ob5
  go_wp2_with fail
  refine HP2.out.mono ?_
  rintro e w7 ⟨n, rfl, hnz, S7, m7⟩
  have hnr : 0 ≤ n ∧ n ≤ 61 := by simp at hnz; omega
  have oa7 := own_gr oa6 (gr_mk m7) h1
  have ob7 := own_gr ob6 (gr_mk m7) h2
  have u7 := u6.mk m7 (Nat.le_refl _)
  have HH := Lib.hid (And.intro (own_base oa7 hz1) (own_base ob7 hz2))
  clear HP2 S7 m7 hnz oa6 ob6 oa7 ob7
  go_wp2
  refine bodyPost_ret (v := .tuple #[va, vb, .int .i64 n]) (by simp [results, Tryz.results18, go_sem]) rfl ⟨va, vb, a, b, n, rfl, ⟨HH.out.1, ha, hal⟩, ⟨HH.out.2, hb, hbl⟩, hnr, u7⟩

set_option maxRecDepth 100000 in
set_option maxHeartbeats 4000000 in
theorem drawLearn_any (A : Option Addr) (L0 : List UInt8) (c0 lo hi : Nat) (w : World) (hr : RdY w lo hi A L0) (hhi : hi ≤ w.heap.size) (hn : L0.length ≤ 2000000) :
    Calls Tryz.prog 21 #[.slice A L0.length c0] w fun e w' => ∃ (v : Value) (L : List Fm) (vp : Value) (l : List ByteArray) (n : Int), e = .returned (.tuple #[v, vp, .int .i64 n]) ∧ OwnFP w w' v L vp l ∧ (-1 ≤ n ∧ n ≤ 2000000) ∧ Up w w' := by
  obtain ⟨i0, hi0, hz0, hz1, hz2⟩ := info_parts infoStrW
  go_enter Tryz.func21, Tryz.ntmps21
  go_wp2_with fail
  refine (l01From_any A L0 c0 lo hi w hr hhi hn).mono ?_
  rintro e w1 ⟨rfl, h1, S1, u1⟩
  go_wp2_with fail
  refine (l24Draw_any A L0 c0 lo w.heap.size w1 S1 h1 hn).mono ?_
  rintro e w2 ⟨v, L, rfl, T2, hsz, hLn, S2, m2⟩
  obtain ⟨Al, cl, rfl, -⟩ := own_form T2.list
  have h2 := Nat.lt_of_lt_of_le h1 m2.size
  have u2 := u1.mk m2 (Nat.le_refl _)
  have hsz1 := u1.size
  have HT2 := Lib.hid T2
  have HS2 := Lib.hid S2
  have HSZ := Lib.hid hsz
  clear S1 m2 T2 S2 hsz
  go_upto_region 3 with fail
  go_cut [18] (fun b wx => ∃ (W : World) (bb : Bool), W = wx ∧ b = .bool bb ∧ (bb = true → 0 < L.length) ∧ Src W w.heap.size A L0 c0 lo ∧ w2.grownBy W (some w.heap.size))
  case first =>
    by_cases h0 : 0 < L.length
    · have hd0 : decide ((0 : Int) < (L.length : Int)) = true := by rw [decide_eq_true_iff]; omega
      go_wp2_with fail
      refine (l01Next_any A L0 c0 lo w.heap.size 2 w2 HS2.out h2 hn (by omega)).mono ?_
      rintro e w3 ⟨z, rfl, hz, S3, m3⟩
      have HH := Lib.hid (And.intro S3 (gr_mk m3))
      clear hz S3 m3
      go_wp2_with fail
      go_meet
      exact ⟨_, _, rfl, rfl, fun _ => h0, HH.out.1, HH.out.2⟩
    · have hd0 : decide ((0 : Int) < (L.length : Int)) = false := by rw [decide_eq_false_iff_not]; omega
      go_wp2_with fail
      go_meet
      exact ⟨_, false, rfl, rfl, fun h => (by cases h), HS2.out, World.grownBy.refl _ _⟩
  case rest =>
    obtain ⟨W, bb, hW, rfl, hb0, SW, RW⟩ := hcut
    subst hW
    have hgW := Nat.lt_of_lt_of_le h2 RW.size
    have HB0 := Lib.hid hb0
    have TW := HT2.out.gr RW h1
    have uW := u2.mk (mk_gr RW) (Nat.le_refl _)
    clear hb0 HS2
    cases bb with
    | false =>
      go_wp2_with fail
      refine (l24DrawWords_any A L0 c0 lo w.heap.size W SW hgW hn).mono ?_
      rintro e w4 ⟨v1, ws, rfl, how, hws, hwl, S4, m4⟩
      have h4 := Nat.lt_of_lt_of_le hgW m4.size
      have T4 := TW.gr (gr_mk m4) h1
      have u4 := uW.mk m4 (Nat.le_refl _)
      clear SW m4 TW
      go_wp2_with fail
      refine (l07DrawDay_any A L0 c0 lo w.heap.size w4 S4 h4 hn).mono ?_
      rintro e w5 ⟨n, rfl, hn0, hn1, S5, m5⟩
      have u5 := u4.mk m5 (Nat.le_refl _)
      have H5 := Lib.hid (show OwnFP w w5 (.slice Al L.length cl) L v1 ws from ⟨(T4.gr (gr_mk m5) h1).base hsz1, HSZ.out, hLn, own_base (own_gr how (gr_mk m5) hgW) uW.size, hws, by omega⟩)
      clear S4 S5 m5 T4 how hws
      go_wp2
      refine bodyPost_ret (v := .tuple #[.slice Al L.length cl, v1, .int .i64 n]) (by simp [results, Tryz.results21, go_sem]) rfl ⟨_, L, v1, ws, n, rfl, H5.out, ⟨hn0, hn1⟩, u5⟩
    | true =>
      have h0 := HB0.out rfl
      have hua := Up.alloc W (.cells #[] 9)
      have own0 := World.ownsRow_lit (base := W.heap.size) (e := 9) (size := 1) W #[] 0 (Nat.le_refl _) (by simp [maxLen]) rfl
      have HN := Lib.hid (l01Next_any A L0 c0 lo w.heap.size (L.length : Int) _ (SW.up hua hgW) (Nat.lt_of_lt_of_le hgW hua.size) hn (by omega))
      have Ta := TW.up hua
      have ua := uW.trans hua
      have hga := Nat.lt_of_lt_of_le hgW hua.size
      clear SW TW
      go_wp2_with fail
      refine HN.out.mono ?_
      rintro e w3 ⟨z, rfl, hz, S3, m3⟩
      obtain ⟨hz00, hz01⟩ := hz.lt (by omega)
      obtain ⟨zn, rfl⟩ := Int.eq_ofNat_of_zero_le hz00
      have T3 := Ta.gr (gr_mk m3) h1
      have own3 := own_gr own0 (gr_mk m3) hgW
      obtain ⟨b, off, y, hAl, -, -, hy, hry, q0, -, -⟩ := T3.rdf.at_ (k := zn) (by omega)
      subst hAl
      have hym := List.mem_of_getElem? hy
      have hyo := T3.each y hym
      obtain ⟨Ay, cy, hyv, -, -, hyz⟩ := own_formz hyo
      simp only [Fm.sl, Value.slice.injEq] at hyv
      obtain ⟨hyA, -, hyc⟩ := hyv
      have hys := HSZ.out y hym
      have hg3 := Nat.lt_of_lt_of_le hga m3.size
      have u3 := ua.mk m3 (Nat.le_refl _)
      have hln1 : 0 + y.ws.length ≤ maxLen := by have := hys.2; unfold maxLen; omega
      have hln2 : (0 + y.ws.length) * 16 ≤ 140737488355328 := by have := hys.2; omega
      have hln3 : W.heap.size ≤ w3.heap.size := Nat.le_trans hua.size m3.size
      have hzl : (zn : Int) < (L.length : Int) := by omega
      have HT3 := Lib.hid T3
      have HS3 := Lib.hid S3
      have HO3 := Lib.hid own3
      have HWS := Lib.hid uW.size
      have hlowT := HT2.out.low (Nat.le_refl _)
      have HLOW := Lib.hid (show ∀ b', (Value.slice (some ⟨b, off, none⟩) L.length cl).ownBlock = some b' ∨ (∃ x ∈ L, x.sl.ownBlock = some b') → b' < W.heap.size from fun b' hb' => by have h1 := hlowT b' hb'; have h2 := RW.size; omega)
      clear hz m3 T3 S3 own3 own0 HN Ta hy hlowT
      rcases hyB : y.A with _ | ad
      · have hws : y.ws = [] := by
          rcases hw0 : y.ws with _ | ⟨x, W0⟩
          · rfl
          · rw [hw0] at hry
            obtain ⟨b', off', e, _⟩ := hry (by simp)
            rw [hyB] at e; cases e
        have hcc : y.c = 0 := by rw [hyc]; exact hyz (by rw [← hyA]; exact hyB)
        rw [hyB, hws, hcc] at q0
        have q0' : w3.cell? ⟨b, off + zn * 3, none⟩ = some (.slice none 0 0) := q0
        clear hry hyo hyA hyc hyz hyB hws hcc q0
        go_wp2_with ((at_builtin; refine wpList_append_own_none rfl _ _ 23 rfl W.heap.size 9 i0 1 Tryz.underlying23 hi0 _ 0 [] rfl HO3.out rfl ?_))
        refine (l07DrawDay_any A L0 c0 lo w.heap.size w3 HS3.out hg3 hn).mono ?_
        rintro e w5 ⟨n, rfl, hn0, hn1, S5, m5⟩
        have u5 := u3.mk m5 (Nat.le_refl _)
        have H5 := Lib.hid (show OwnFP w w5 (.slice (some ⟨b, off, none⟩) L.length cl) L (.slice (some ⟨W.heap.size, 0, none⟩) 0 0) [] from ⟨(HT3.out.gr (gr_mk m5) h1).base hsz1, HSZ.out, hLn, own_base (own_gr HO3.out (gr_mk m5) hgW) HWS.out, by simp, by simp⟩)
        clear S5 m5
        go_wp2
        refine bodyPost_ret (v := .tuple #[.slice (some ⟨b, off, none⟩) L.length cl, .slice (some ⟨W.heap.size, 0, none⟩) 0 0, .int .i64 n]) (by simp [results, Tryz.results21, go_sem]) rfl ⟨_, L, _, [], n, rfl, H5.out, ⟨hn0, hn1⟩, u5⟩
      · rw [hyB] at q0 hry
        have HNW := Lib.hid (txt_news hry)
        have H0 := Lib.hid (show (y.ws.flatMap strC).length = y.ws.length * 1 from flat_length _ 1 strC_len y.ws)
        have HO := Lib.hid (txts_one y.ws)
        have HYS := Lib.hid hys
        clear hry hyo hyA hyc hyz hyB hys
        go_wp2_with ((at_builtin; refine wpList_append_own _ rfl _ _ 23 rfl W.heap.size 9 i0 _ 1 16 Tryz.underlying23 hi0 hz0 hz1 hz2 rfl (by decide) _ _ _ rfl HO3.out ad y.ws.length y.c (y.ws.flatMap strC) rfl H0.out HNW.out HO.out hln1 hln2 hln3 ?_))
        intro v' w9 hown' hgrow _
        have ho : w9.ownsRow W.heap.size 9 1 v' y.ws.length (y.ws.flatMap strC) := by simpa using hown'
        obtain ⟨Cv, cv, rfl, -⟩ := own_form ho
        have S9 := HS3.out.row HO3.out hgrow hgW hg3
        have T9 := HT3.out.row HO3.out hgrow HLOW.out
        have hg9 := Nat.lt_of_lt_of_le hg3 hgrow.size
        have u9 := u3.grown hgrow (fun b hb => by have h1 := (HO3.out.lt b hb).1; have h2 := HWS.out; omega)
        clear hown' hgrow
        go_wp2_with fail
        refine (l07DrawDay_any A L0 c0 lo w.heap.size w9 S9 hg9 hn).mono ?_
        rintro e w5 ⟨n, rfl, hn0, hn1, S5, m5⟩
        have u5 := u9.mk m5 (Nat.le_refl _)
        have H5 := Lib.hid (show OwnFP w w5 (.slice (some ⟨b, off, none⟩) L.length cl) L (.slice Cv y.ws.length cv) y.ws from ⟨(T9.gr (gr_mk m5) h1).base hsz1, HSZ.out, hLn, own_base (own_gr ho (gr_mk m5) hgW) HWS.out, HYS.out.1, by have := HYS.out.2; omega⟩)
        clear S5 m5 S9 T9 ho
        go_wp2
        refine bodyPost_ret (v := .tuple #[.slice (some ⟨b, off, none⟩) L.length cl, .slice Cv y.ws.length cv, .int .i64 n]) (by simp [results, Tryz.results21, go_sem]) rfl ⟨_, L, _, y.ws, n, rfl, H5.out, ⟨hn0, hn1⟩, u5⟩

set_option maxRecDepth 100000 in
set_option maxHeartbeats 2000000 in
theorem likeTexts_any (A B : Option Addr) (l : List ByteArray) (c c2 lo hi lo2 hi2 : Nat) (w : World) (hr : RdT w lo hi A l) (hhi : hi ≤ w.heap.size) (hr2 : RdT w lo2 hi2 B l) (hhi2 : hi2 ≤ w.heap.size) (hn : l.length ≤ 2000000) :
    Calls Tryz.prog 66 #[.slice A l.length c, .slice B l.length c2] w fun e w' => e = .returned (.bool true) ∧ Up w w' := by
  go_enter Tryz.func66, Tryz.ntmps66
  go_wp2
  go_loopw [5] (fun i wr => ∃ k : Nat, k ≤ l.length ∧ i = .int .i64 k ∧ Up w wr) (fun i _ => l.length - (intOf i).toNat)
  case atStart => exact ⟨0, Nat.zero_le _, rfl, Up.refl w⟩
  case round =>
    obtain ⟨k, hk, rfl, hup⟩ := hrel
    by_cases hlt : k < l.length
    · obtain ⟨b, off, d, rfl, -, -, hd, q0⟩ := (hr.up hup hhi).txt hlt
      obtain ⟨b2, off2, d2, rfl, -, -, hd2, p0⟩ := (hr2.up hup hhi2).txt hlt
      rw [hd] at hd2
      cases hd2
      clear hd
      have Q0 := cell_regrown q0
      have P0 := cell_regrown p0
      go_wp2_with fail
      refine wp_region_quiet_below (by kernel_rfl) (by kernel_rfl) ?_
      repeat (first | go_big_quiet_step (fail) | quiet_step (fail))
      refine wpQuiet_nil ?_
      intro w2 hw2
      obtain ⟨⟨dqa, osqa⟩, hw2⟩ := hw2
      have hu2 := hup.trans (show Up wr w2 by rw [hw2]; exact below_regrown _ _ _)
      clear hw2 Q0 P0
      go_wp2
      go_roundw
      case rel => exact ⟨k + 1, by omega, by go_num, hu2⟩
      case measure => simp [intOf]; omega
    · go_wp2
      go_ret
      exact ⟨rfl, hup⟩

set_option maxRecDepth 100000 in
set_option maxHeartbeats 4000000 in
theorem likeFormulas_any (A B : Option Addr) (l m : List Fm) (c c2 lo hi lo2 hi2 : Nat) (w : World) (hr : RdF w lo hi A l) (hhi : hi ≤ w.heap.size) (hr2 : RdF w lo2 hi2 B m) (hhi2 : hi2 ≤ w.heap.size) (hn : l.length ≤ 2000000) (hws : ∀ x ∈ l, x.ws.length ≤ 2000000) (heq : l.map Fm.p = m.map Fm.p) :
    Calls Tryz.prog 22 #[.slice A l.length c, .slice B m.length c2] w fun e w' => e = .returned (.bool true) ∧ Up w w' := by
  have hlm : l.length = m.length := by have := congrArg List.length heq; simpa using this
  have HE := Lib.hid heq
  have hb0 : ((l.length : Int) != (m.length : Int)) = false := by simp [hlm]
  have hle : l.length ≤ m.length := by omega
  clear heq hlm
  go_enter Tryz.func22, Tryz.ntmps22
  go_wp2
  go_loopw [5] (fun i wr => ∃ k : Nat, k ≤ l.length ∧ i = .int .i64 k ∧ Up w wr) (fun i _ => l.length - (intOf i).toNat)
  case atStart => exact ⟨0, Nat.zero_le _, rfl, Up.refl w⟩
  case round =>
    obtain ⟨k, hk, rfl, hup⟩ := hrel
    by_cases hlt : k < l.length
    · have hlt2 : k < m.length := by omega
      obtain ⟨b, off, d, rfl, -, -, hd, hrd, q0, q1, q2⟩ := (hr.up hup hhi).at_ hlt
      obtain ⟨b2, off2, d2, rfl, -, -, hd2, hrd2, p0, p1, p2⟩ := (hr2.up hup hhi2).at_ hlt2
      have hp : d.p = d2.p := by
        have e1 := congrArg (fun z => z[k]?) HE.out
        simp only [List.getElem?_map, hd, hd2, Option.map_some, Option.some.injEq] at e1
        exact e1
      have hwn := hws d (List.mem_of_getElem? hd)
      obtain ⟨dA, dc, dw, df, dt⟩ := d
      obtain ⟨eA, ec, ew, ef, et⟩ := d2
      simp only [Fm.p, Prod.mk.injEq] at hp
      obtain ⟨rfl, rfl, rfl⟩ := hp
      simp only at hrd hrd2 q0 q1 q2 p0 p1 p2 hwn
      have HC := Lib.hid (fun (wx : World) (hu : Up wr wx) => likeTexts_any dA eA dw dc ec _ _ _ _ wx (hrd.up hu (Nat.le_trans hhi hup.size)) (Nat.le_trans (Nat.le_trans hhi hup.size) hu.size) (hrd2.up hu (Nat.le_trans hhi2 hup.size)) (Nat.le_trans (Nat.le_trans hhi2 hup.size) hu.size) hwn)
      have Q0 := cell_regrown q0
      have Q1 := cell_regrown q1
      have Q2 := cell_regrown q2
      have P0 := cell_regrown p0
      have P1 := cell_regrown p1
      have P2 := cell_regrown p2
      clear hd hd2
      go_wp2_with fail
      refine wp_region_quiet_below (by kernel_rfl) (by kernel_rfl) ?_
      repeat (first | go_big_quiet_step ((go_at_call 66; exact Calls.regrown_of (HC.out _ (below_regrown _ _ _)))) | quiet_step ((go_at_call 66; exact Calls.regrown_of (HC.out _ (below_regrown _ _ _)))))
      refine wpQuiet_nil ?_
      intro w2 hw2
      obtain ⟨⟨dqa, osqa⟩, hw2⟩ := hw2
      have hu2 := hup.trans (show Up wr w2 by rw [hw2]; exact below_regrown _ _ _)
      clear hw2 Q0 Q1 Q2 P0 P1 P2
      go_wp2
      go_roundw
      case rel => exact ⟨k + 1, by omega, by go_num, hu2⟩
      case measure => simp [intOf]; omega
    · go_wp2
      go_ret
      exact ⟨rfl, hup⟩
end Go.Proofs.YtehoaoeahfmfpaaGreatDoor
