/- The normal form of a word, by the program; and whether two words are alike. -/
import Derived.Test.YtehoaoeahfmfpaaGreatDoorReplC
namespace Go.Proofs.YtehoaoeahfmfpaaGreatDoor
open Go.RowKit Go.Sort

theorem wideB_size (s : ByteArray) : (wideB s).size = (wideL s.data.toList).length := rfl
theorem wideB_at {s : ByteArray} {k : Nat} (h : k < (wideB s).size) : (wideL s.data.toList)[k]? = some (wideB s)[k] := bytes_at h
theorem W8.new (w : World) : W8 (w.alloc (.cells #[.string ⟨#[118]⟩, .string ⟨#[117]⟩, .string ⟨#[106]⟩, .string ⟨#[105]⟩, .string ⟨#[121]⟩, .string ⟨#[105]⟩, .string ⟨#[119]⟩, .string ⟨#[117, 117]⟩] 9)) w.heap.size :=
  ⟨by simp, by simp, by simp, by simp, by simp, by simp, by simp, by simp⟩
theorem rd8 {w : World} {B : Nat} (h : W8 w B) : RdT w 0 (B + 1) (some ⟨B, 0, none⟩) repW := fun _ => by
  refine ⟨B, 0, rfl, Nat.zero_le _, Nat.lt_succ_self _, fun i x hx j u hu => ?_⟩
  have hi := (List.getElem?_eq_some_iff.1 hx).1
  have hi8 : i < 8 := hi
  match j, hu with
  | 0, hu =>
    simp at hu; subst hu
    match i, hi8, hx with
    | 0, _, hx => cases hx; exact h.c0
    | 1, _, hx => cases hx; exact h.c1
    | 2, _, hx => cases hx; exact h.c2
    | 3, _, hx => cases hx; exact h.c3
    | 4, _, hx => cases hx; exact h.c4
    | 5, _, hx => cases hx; exact h.c5
    | 6, _, hx => cases hx; exact h.c6
    | 7, _, hx => cases hx; exact h.c7

set_option maxRecDepth 100000 in
set_option maxHeartbeats 4000000 in
theorem normalWord_any (s : ByteArray) (w : World) (hs : s.size < 32) :
    Calls Tryz.prog 103 #[.string s] w fun e w' => e = .returned (.string (nrm s)) ∧ Up w w' := by
  obtain ⟨i0, hi0, hz0, hz1, hz2⟩ := info_parts infoByt
  have hn8 := W8.new w
  have HN := Lib.hid (newReplacer_any ⟨w.heap.size, 0, none⟩ 8 0 (w.heap.size + 1) _ (rd8 hn8))
  have hua := Up.alloc w (.cells #[.string ⟨#[118]⟩, .string ⟨#[117]⟩, .string ⟨#[106]⟩, .string ⟨#[105]⟩, .string ⟨#[121]⟩, .string ⟨#[105]⟩, .string ⟨#[119]⟩, .string ⟨#[117, 117]⟩] 9)
  clear hn8
  go_enter Tryz.func103, Tryz.ntmps103
  go_wp2_with fail
  refine HN.out.mono ?_
  rintro e w1 ⟨g, v, rfl, hg, hrp, hown, hu1⟩
  obtain ⟨B', cc, e2, -, -, hB', -⟩ := own_form hown
  subst e2
  obtain ⟨B, rfl, -, -⟩ := hB' (by omega)
  have h8 : W8 w1 B := ⟨by rw [hown.cellAt 0 (by omega)]; rfl, by rw [hown.cellAt 1 (by omega)]; rfl, by rw [hown.cellAt 2 (by omega)]; rfl, by rw [hown.cellAt 3 (by omega)]; rfl, by rw [hown.cellAt 4 (by omega)]; rfl, by rw [hown.cellAt 5 (by omega)]; rfl, by rw [hown.cellAt 6 (by omega)]; rfl, by rw [hown.cellAt 7 (by omega)]; rfl⟩
  have hne : B ≠ g := by
    obtain ⟨cur, fr, e1⟩ := own_block_type hown (q := B) rfl
    obtain ⟨c2, e3, -⟩ := hrp
    rintro rfl; rw [e1] at e3; cases e3
  have hup1 := hua.trans hu1
  have HR := Lib.hid (replace_any s hs g B cc _ w w1 hrp h8 hne hup1 (by have := hua.size; omega))
  clear h8 hne hrp hown hB' hg
  go_wp2_with fail
  refine HR.out.mono ?_
  rintro e w2 ⟨rfl, hu2⟩
  obtain ⟨x, hx⟩ : ∃ x, x = wideB s := ⟨_, rfl⟩
  obtain ⟨L, hL⟩ : ∃ L, L = wideL s.data.toList := ⟨_, rfl⟩
  have hxs : x.size = L.length := by rw [hx, hL]; rfl
  have hxat : ∀ k (h : k < x.size), L[k]? = some x[k] := by subst hx; subst hL; exact fun k h => wideB_at h
  have hll : L.length ≤ 64 := by rw [hL]; have := wideL_len s.data.toList; simp at this; omega
  rw [← hx]
  have HL := Lib.hid hL
  have HX := Lib.hid hxat
  have HXS := Lib.hid hxs
  have hx64 : x.size ≤ 64 := by omega
  clear hx hL hxat HR HN hxs
  go_wp2
  have hown0 := World.ownsRow_lit (base := w2.heap.size) (e := 5) (size := 1) w2 #[] 0 (Nat.le_refl _) (by simp [maxLen]) rfl
  have hup0 := (Up.refl w2).allocs (.cells #[] 5)
  generalize w2.alloc (.cells #[] 5) = w3 at *
  go_loopw [3, 4, 13] (fun o _ i wr => ∃ (j C2 cc2 : Nat) (O : List UInt8), j ≤ x.size ∧ i = .int .i64 j ∧ O = sqK L j ∧ o = .slice (some ⟨C2, 0, none⟩) O.length cc2 ∧ wr.ownsRow w2.heap.size 5 1 (.slice (some ⟨C2, 0, none⟩) O.length cc2) O.length (O.flatMap bytC) ∧ Up w2 wr) (fun _ _ i _ => x.size - (intOf i).toNat)
  case atStart => exact ⟨0, w2.heap.size, 0, [], Nat.zero_le _, rfl, rfl, rfl, hown0, hup0⟩
  case round =>
    obtain ⟨j, C2, cc2, O, hj, rfl, hO, rfl, hown, hupr⟩ := hrel
    have hol : O.length ≤ j := by rw [hO]; exact sqK_len _ _
    have HO := Lib.hid hO
    clear hO
    by_cases hlt2 : j < x.size
    · have HZ := Lib.hid (HX.out j hlt2)
      by_cases hj0 : j = 0
      · have hb0 : ((j : Int) == 0) = true := by subst hj0; rfl
        have HJ := Lib.hid (show j = 0 ∨ L[j]? ≠ L[j - 1]? from .inl hj0)
        clear hj0
        go_wp2_with fail
        refine wp_region_quiet_below (by kernel_rfl) (by kernel_rfl) ?_
        repeat (first | go_big_quiet_step (fail) | quiet_step (fail))
        refine wpQuiet_nil ?_
        intro w5 hw5
        obtain ⟨⟨dq, osq⟩, hw5⟩ := hw5
        have hup5 : Up wr w5 := by rw [hw5]; exact below_regrown _ _ _
        clear hw5
        have HR := Lib.hid (sqK_take HZ.out HJ.out)
        rw [← HO.out] at HR
        have hown3 := own_up hown hup5
        have hupz := hupr.trans hup5
        have n1 : O.length + 1 ≤ maxLen := by unfold maxLen; omega
        have n2 : (O.length + 1) * 1 ≤ 140737488355328 := by omega
        have n3 : w2.heap.size ≤ (w5.alloc (.cells #[.int .u8 (x[j].toNat : Int)] 5)).heap.size := (hupz.allocs _).size
        go_wp2_with ((at_builtin; refine wpList_append_own _ rfl _ _ 35 rfl w2.heap.size 5 i0 _ 1 1 Tryz.underlying35 hi0 hz0 hz1 hz2 rfl (by decide) _ _ _ rfl (hown3.alloc _) ⟨w5.heap.size, 0, none⟩ 1 1 [.int .u8 (x[j].toNat : Int)] rfl rfl (cell_one_new _ _ _) (by simp [Value.oneCell']) n1 n2 n3 ?_))
        intro v' w6 hown' hgrow _
        have hln : O.length + 1 = (sqK L (j + 1)).length := by rw [HR.out, List.length_append]; rfl
        have ho := byt_step (m := [x[j]]) hown' HR.out hln
        have hu := (hupz.allocs (.cells #[.int .u8 (x[j].toNat : Int)] 5)).grown hgrow (fun k hk => (hown3.lt k hk).1)
        obtain ⟨O2, hO2⟩ : ∃ x, x = sqK L (j + 1) := ⟨_, rfl⟩
        rw [← hO2] at ho hln
        obtain ⟨C3', cc3, e2, -, -, hC3, -⟩ := own_form ho
        subst e2
        obtain ⟨C3, rfl, -, -⟩ := hC3 (by omega)
        clear hown' hgrow hC3 hln
        have HO2 := Lib.hid hO2
        clear hO2 HR
        go_wp2
        go_roundw
        case rel => exact ⟨j + 1, C3, cc3, O2, by omega, by go_num, HO2.out, rfl, ho, hu⟩
        case measure => simp [intOf]; omega
      · have hb0 : ((j : Int) == 0) = false := by rw [beq_eq_false_iff_ne]; omega
        obtain ⟨q, hq⟩ : ∃ q, q + 1 = j := ⟨j - 1, by omega⟩
        have hqL : q < x.size := by omega
        have hwr : IntKind.i64.wrap ((j : Int) - 1) = (q : Int) := by rw [IntWalk.i64_in _ (by omega)]; omega
        have hj1 : j - 1 = q := by omega
        have hy : L[j - 1]? = some x[q] := by rw [hj1]; exact HX.out q hqL
        have hj2 : j ≠ 0 := hj0
        have HJ2 := Lib.hid hj2
        have HY := Lib.hid hy
        clear hq hj1 hj2 hj0 hy
        by_cases hzy : x[j] = x[q]
        · have hne : ((x[j].toNat : Int) != (x[q].toNat : Int)) = false := by rw [hzy]; simp
          have HJ := Lib.hid (show L[j]? = L[j - 1]? by rw [HZ.out, HY.out, hzy])
          clear hzy
          go_wp2_with fail
          refine wp_region_quiet_below (by kernel_rfl) (by kernel_rfl) ?_
          repeat (first | go_big_quiet_step (fail) | quiet_step (fail))
          refine wpQuiet_nil ?_
          intro w5 hw5
          obtain ⟨⟨dq, osq⟩, hw5⟩ := hw5
          have hup5 : Up wr w5 := by rw [hw5]; exact below_regrown _ _ _
          clear hw5 hwr
          go_wp2
          go_roundw
          case rel => exact ⟨j + 1, C2, cc2, O, by omega, by go_num, by rw [sqK_skip HJ2.out HJ.out]; exact HO.out, rfl, own_up hown hup5, hupr.trans hup5⟩
          case measure => simp [intOf]; omega
        · have hne : ((x[j].toNat : Int) != (x[q].toNat : Int)) = true := by simp; exact fun e => hzy (UInt8.toNat_inj.1 (by omega))
          have HJ := Lib.hid (show j = 0 ∨ L[j]? ≠ L[j - 1]? from .inr (by rw [HZ.out, HY.out]; exact fun e => hzy (Option.some.inj e)))
          clear hzy
          go_wp2_with fail
          refine wp_region_quiet_below (by kernel_rfl) (by kernel_rfl) ?_
          repeat (first | go_big_quiet_step (fail) | quiet_step (fail))
          refine wpQuiet_nil ?_
          intro w5 hw5
          obtain ⟨⟨dq, osq⟩, hw5⟩ := hw5
          have hup5 : Up wr w5 := by rw [hw5]; exact below_regrown _ _ _
          clear hw5 hwr
          have HR := Lib.hid (sqK_take HZ.out HJ.out)
          rw [← HO.out] at HR
          have hown3 := own_up hown hup5
          have hupz := hupr.trans hup5
          have n1 : O.length + 1 ≤ maxLen := by unfold maxLen; omega
          have n2 : (O.length + 1) * 1 ≤ 140737488355328 := by omega
          have n3 : w2.heap.size ≤ (w5.alloc (.cells #[.int .u8 (x[j].toNat : Int)] 5)).heap.size := (hupz.allocs _).size
          go_wp2_with ((at_builtin; refine wpList_append_own _ rfl _ _ 35 rfl w2.heap.size 5 i0 _ 1 1 Tryz.underlying35 hi0 hz0 hz1 hz2 rfl (by decide) _ _ _ rfl (hown3.alloc _) ⟨w5.heap.size, 0, none⟩ 1 1 [.int .u8 (x[j].toNat : Int)] rfl rfl (cell_one_new _ _ _) (by simp [Value.oneCell']) n1 n2 n3 ?_))
          intro v' w6 hown' hgrow _
          have hln : O.length + 1 = (sqK L (j + 1)).length := by rw [HR.out, List.length_append]; rfl
          have ho := byt_step (m := [x[j]]) hown' HR.out hln
          have hu := (hupz.allocs (.cells #[.int .u8 (x[j].toNat : Int)] 5)).grown hgrow (fun k hk => (hown3.lt k hk).1)
          obtain ⟨O2, hO2⟩ : ∃ x, x = sqK L (j + 1) := ⟨_, rfl⟩
          rw [← hO2] at ho hln
          obtain ⟨C3', cc3, e2, -, -, hC3, -⟩ := own_form ho
          subst e2
          obtain ⟨C3, rfl, -, -⟩ := hC3 (by omega)
          clear hown' hgrow hC3 hln
          have HO2 := Lib.hid hO2
          clear hO2 HR
          go_wp2
          go_roundw
          case rel => exact ⟨j + 1, C3, cc3, O2, by omega, by go_num, HO2.out, rfl, ho, hu⟩
          case measure => simp [intOf]; omega
    · have HE := Lib.hid (show O = sqK (wideL s.data.toList) (wideL s.data.toList).length by rw [HO.out, ← HL.out, show j = L.length by have := HXS.out; omega])
      clear HO
      have hro := Rd.own bytC_len hown
      have hcv := fun (l : List UInt8) (cap : Nat) (hr : RdY wr w2.heap.size wr.heap.size (some ⟨C2, 0, none⟩) l) => run_strOf (P := Tryz.prog) Tryz.underlying35 Tryz.underlying5 Tryz.underlying9 wr (cap := cap) hr
      by_cases h3 : 3 ≤ O.length
      · have hd3 : decide ((2 : Int) < (O.length : Int)) = true := by simp; omega
        obtain ⟨m, hm⟩ : ∃ m, m + 1 = O.length := ⟨O.length - 1, by omega⟩
        have hm1 : O.length - 1 = m := by omega
        obtain ⟨z, hz, z0⟩ := hro.byt0 (show m < O.length by omega)
        rw [← hm1] at hz
        have hq := u8_is (a := z) 101 (by omega)
        have hwr : IntKind.i64.wrap ((O.length : Int) - 1) = (m : Int) := by rw [IntWalk.i64_in _ (by omega)]; omega
        have hml : m < O.length := by omega
        have hcap : O.length ≤ cc2 := by
          obtain ⟨A1, c1, e1, h1, -⟩ := own_form hown
          cases e1; exact h1
        have hmc : m ≤ cc2 := by omega
        have hcc : ¬ cc2 = 0 := by omega
        by_cases hz1 : z = 101
        · have hzb : ((z.toNat : Int) == 101) = true := hq.trans (decide_eq_true hz1)
          have HN := Lib.hid (nrm_c HE.out h3 hz hz1)
          have hlt3 : (O.take m).length = m := by rw [List.length_take]; omega
          have hcv1 := hcv (O.take m) cc2 (hro.take _)
          rw [hlt3] at hcv1
          have HM := Lib.hid hm1
          clear hm hm1 hcv hz hq hz1 hlt3
          go_wp2
          go_ret
          exact ⟨ret_ba (by rw [HN.out, HM.out]), hu2.trans hupr⟩
        · have hzb : ((z.toNat : Int) == 101) = false := hq.trans (decide_eq_false hz1)
          have HN := Lib.hid (nrm_b HE.out hz hz1)
          have hcv1 := hcv O cc2 hro
          clear hm hm1 hcv hz hq hz1
          go_wp2
          go_ret
          exact ⟨ret_ba HN.out.symm, hu2.trans hupr⟩
      · have hd3 : decide ((2 : Int) < (O.length : Int)) = false := by simp; omega
        have HN := Lib.hid (nrm_a HE.out h3)
        have hcv1 := hcv O cc2 hro
        clear hcv
        go_wp2
        go_ret
        exact ⟨ret_ba HN.out.symm, hu2.trans hupr⟩

def alkB (a b : ByteArray) : Bool := (nrm a).toList == (nrm b).toList
theorem alike_any (a b : ByteArray) (w : World) (ha : a.size < 32) (hb : b.size < 32) :
    Calls Tryz.prog 78 #[.string a, .string b] w fun e w' => e = .returned (.bool (alkB a b)) ∧ Up w w' := by
  have H1 := Lib.hid (normalWord_any a w ha)
  go_enter Tryz.func78, Tryz.ntmps78
  go_wp2_with fail
  refine H1.out.mono ?_
  rintro e w1 ⟨rfl, hu1⟩
  have H2 := Lib.hid (normalWord_any b w1 hb)
  go_wp2_with fail
  refine H2.out.mono ?_
  rintro e w2 ⟨rfl, hu2⟩
  go_wp2
  go_ret
  exact ⟨rfl, hu1.trans hu2⟩
end Go.Proofs.YtehoaoeahfmfpaaGreatDoor
