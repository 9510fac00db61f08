/- Drawn stemmas. -/
import Derived.Test.YtncmenfdnpmblaaDoorDrawK
import Derived.Test.YtncmenfdnpmblaaDoorBest
namespace Go.Proofs.YtncmenfdnpmblaaDoor
open Go.RowKit Go.Sort

set_option maxRecDepth 100000 in
set_option maxHeartbeats 4000000 in
theorem l23Draw_any (A : Option Addr) (L0 : List UInt8) (c0 lo g : Nat) (w : World) (hs : Src w g A L0 c0 lo) (hg : g < w.heap.size) (hL : L0.length ≤ 2000000) :
    Calls Tryd.prog 42 #[.pointer (some ⟨g, 0, none⟩)] w fun e w' => ∃ (vo : Value) (o : List Int) (vl : Value) (L : List Cp) (vp : Value) (ps : List Int), e = .returned (.tuple #[vo, vl, vp]) ∧ St w' (w.heap.size + 1) vo o vl L ∧ w'.ownsRow w.heap.size 2 1 vp ps.length (ps.flatMap intCells) ∧ Fine L ∧ o.length ≤ 20 ∧ L.length ≤ 9 ∧ ps.length ≤ 10 ∧ Src w' g A L0 c0 lo ∧ Mk g (g + 1) w w' := by
  obtain ⟨i0, hi0, hz0, hz1, hz2⟩ := info_parts infoIntD
  have hgB : g < w.heap.size + 1 := Nat.lt_succ_of_lt hg
  go_enter Tryd.func42, Tryd.ntmps42
  go_wp2_with fail
  refine (l22Draw_any A L0 c0 lo g w hs hg hL).mono ?_
  rintro e w1 ⟨vo, o, vl, L, rfl, T1, hF, ho, hl, S1, m1⟩
  have hg1 := Nat.lt_of_lt_of_le hg m1.size
  obtain ⟨Cl, cl, rfl, hc1, hc2, -⟩ := own_formz T1.list
  obtain ⟨Ao, ao, rfl, -, -, -⟩ := own_formz T1.orig
  have hfit := fit_of hF hl hc1 hc2
  have hw1 : w.heap.size + 1 ≤ w1.heap.size + 1 := by have := m1.size; omega
  have hlow := T1.orig
  have ub := Up.alloc w1 (.cells #[] 2)
  have own0 := World.ownsRow_lit (base := w1.heap.size) (e := 2) (size := 1) w1 #[] 0 (Nat.le_refl _) (by simp [maxLen]) rfl
  have S2 := S1.up ub hg1
  have G2 := gr_up (World.grownBy.refl w1 (some g)) ub
  have HT := Lib.hid T1
  have HF := Lib.hid hF
  have HFIT := Lib.hid hfit
  have HM := Lib.hid m1
  clear T1 hF hfit m1 hlow hs S1 hc1 hc2
  go_wp2_with fail
  obtain ⟨v0, hv0⟩ : ∃ v, v = Value.slice (some ⟨w1.heap.size, 0, none⟩) 0 0 := ⟨_, rfl⟩
  rw [← hv0] at own0 ⊢
  generalize w1.alloc (.cells #[] 2) = wa at *
  clear hv0 ub
  go_loopw [7, 8] (fun p i wr => ∃ (k : Nat) (ps : List Int), k ≤ L.length ∧ i = .int .i64 k ∧ ps.length = k ∧ wr.ownsRow w1.heap.size 2 1 p ps.length (ps.flatMap intCells) ∧ Src wr g A L0 c0 lo ∧ w1.grownBy wr (some g)) (fun _ i _ => L.length - (intOf i).toNat)
  case atStart => exact ⟨0, [], Nat.zero_le _, rfl, rfl, own0, S2, G2⟩
  case round =>
    clear own0 S2 G2
    obtain ⟨k, ps, hk, rfl, hpl, hown, hS, hG⟩ := hrel
    have HPL := Lib.hid hpl
    clear hpl
    have hgr : g < wr.heap.size := Nat.lt_of_lt_of_le hg1 hG.size
    by_cases hkl : k < L.length
    · go_wp2_with fail
      refine (l01Next_any A L0 c0 lo g ((k : Int) + 1) wr hS hgr hL (by omega)).mono ?_
      rintro e w3 ⟨z, rfl, hz, S3, m3⟩
      obtain ⟨hq0, hq1⟩ := hz.lt (by omega)
      have own3 := own_gr hown (gr_mk m3) hg1
      have G3 := hG.trans (gr_mk m3)
      have hg3 := Nat.lt_of_lt_of_le hgr m3.size
      have ub := Up.alloc w3 (.cells #[.int .i64 (z - 1)] 2)
      have own4 := own_up own3 ub
      have S4 := S3.up ub hg3
      have G4 := gr_up G3 ub
      have n1 : ps.length + 1 ≤ maxLen := by have := HPL.out; unfold maxLen; omega
      have n2 : (ps.length + 1) * 8 ≤ 140737488355328 := by have := HPL.out; omega
      have n3 : w1.heap.size ≤ (w3.alloc (.cells #[.int .i64 (z - 1)] 2)).heap.size := Nat.le_trans G3.size ub.size
      have hg4 : g < (w3.alloc (.cells #[.int .i64 (z - 1)] 2)).heap.size := Nat.lt_of_lt_of_le hg3 ub.size
      clear own3 S3 G3 hown hS m3 hz hG
      go_wp2_with ((at_builtin; refine wpList_append_own _ rfl _ _ 25 rfl w1.heap.size 2 i0 _ 1 8 Tryd.underlying25 hi0 hz0 hz1 hz2 rfl (by decide) _ _ _ rfl own4 ⟨w3.heap.size, 0, none⟩ 1 1 [.int .i64 (z - 1)] rfl rfl (cell_one_new _ _ _) (by simp [Value.oneCell']) n1 n2 n3 ?_))
      intro v' w9 hown' hgrow _
      have S9 := S4.row own4 hgrow hg1 hg4
      have G9 := gr_row G4 hgrow (fun b hb => (own4.lt b hb).1)
      have ho9 : w9.ownsRow w1.heap.size 2 1 v' (ps ++ [z - 1]).length ((ps ++ [z - 1]).flatMap intCells) := by simpa using hown'
      clear hown' hgrow own4 S4 G4
      go_wp2
      go_roundw
      case rel => exact ⟨k + 1, ps ++ [z - 1], by omega, by go_num, by have := HPL.out; simp; omega, ho9, S9, G9⟩
      case measure => simp [intOf]; omega
    · have hps9 : ps.length ≤ 9 := by have := HPL.out; omega
      obtain ⟨wq, rfl⟩ : ∃ x, x = wr := ⟨_, rfl⟩
      clear HPL hk
      go_wp2_with fail
      refine (l01Next_any A L0 c0 lo g 3 wq hS hgr hL (by omega)).mono ?_
      rintro e w3 ⟨z3, rfl, hz3, S3, m3⟩
      have own3 := own_gr hown (gr_mk m3) hg1
      have G3 := hG.trans (gr_mk m3)
      have hg3 := Nat.lt_of_lt_of_le hgr m3.size
      clear hown hS hG m3 hz3
      have HH := Lib.hid (And.intro own3 (And.intro S3 G3))
      have T3 := HT.out.gr G3 hgB
      have hb := specBest_any Ao o ao Cl L cl _ _ _ _ w3 (Rd.own int_len T3.orig) (Nat.le_refl _) (by omega) T3.rdc (Nat.le_refl _) HFIT.out
      have hbl := bc_len o (L.map Cp.p)
      rw [List.length_map] at hbl
      have HB := Lib.hid hb
      have HBL := Lib.hid hbl
      clear own3 S3 G3 T3 hb hbl
      go_upto_if 34 with fail
      go_cut [7, 9, 10, 11] (fun p _ _ _ wx => ∃ (W : World) (ps' : List Int), W = wx ∧ ps'.length ≤ 9 ∧ W.ownsRow w1.heap.size 2 1 p ps'.length (ps'.flatMap intCells) ∧ Src W g A L0 c0 lo ∧ w1.grownBy W (some g))
      case first =>
        by_cases hzz : z3 = 0
        · have hzb : (z3 == 0) = true := by simpa using hzz
          clear hzz
          go_wp2_with fail
          refine HB.out.mono ?_
          rintro e w4 ⟨vb, rfl, ownb, u4⟩
          have H4 := Lib.hid (And.intro (own_up HH.out.1 u4) (And.intro (HH.out.2.1.up u4 hg3) (gr_up HH.out.2.2 u4)))
          have hb4 := Lib.hid (own_base ownb HH.out.2.2.size)
          clear ownb u4
          by_cases hbc : bcC o (L.map Cp.p) = 0
          · have hbb : (bcC o (L.map Cp.p) == 0) = true := by simpa using hbc
            generalize bcC o (L.map Cp.p) = bc at *
            generalize bcL o (L.map Cp.p) = bl at *
            clear hbc
            go_wp2_with fail
            go_meet
            exact ⟨_, bl, rfl, by have := HBL.out; omega, hb4.out, H4.out.2.1, H4.out.2.2⟩
          · have hbb : (bcC o (L.map Cp.p) == 0) = false := by simpa using hbc
            generalize bcC o (L.map Cp.p) = bc at *
            clear hbc
            go_wp2_with fail
            go_meet
            exact ⟨_, ps, rfl, hps9, H4.out.1, H4.out.2.1, H4.out.2.2⟩
        · have hzb : (z3 == 0) = false := by simpa using hzz
          clear hzz
          go_wp2_with fail
          go_meet
          exact ⟨_, ps, rfl, hps9, HH.out.1, HH.out.2.1, HH.out.2.2⟩
      case rest =>
        obtain ⟨W, ps', hW, hp9, ownW, SW, GW⟩ := hcut
        subst hW
        clear HH HB HBL hps9
        have hgW := Nat.lt_of_lt_of_le hg1 GW.size
        go_wp2_with fail
        refine (l01Next_any A L0 c0 lo g 40 W SW hgW hL (by omega)).mono ?_
        rintro e w5 ⟨z5, rfl, hz5, S5, m5⟩
        have own5 := own_gr ownW (gr_mk m5) hg1
        have G5 := GW.trans (gr_mk m5)
        have hg5 := Nat.lt_of_lt_of_le hgW m5.size
        clear ownW SW GW m5 hz5
        by_cases h0 : z5 = 0
        · have hzb : (z5 == 0) = true := by simpa using h0
          have ub := Up.alloc w5 (.cells #[.int .i64 (-1)] 2)
          have own6 := own_up own5 ub
          have S6 := S5.up ub hg5
          have G6 := gr_up G5 ub
          have n1 : ps'.length + 1 ≤ maxLen := by unfold maxLen; omega
          have n2 : (ps'.length + 1) * 8 ≤ 140737488355328 := by omega
          have n3 : w1.heap.size ≤ (w5.alloc (.cells #[.int .i64 (-1)] 2)).heap.size := Nat.le_trans G5.size ub.size
          have hg6 := Nat.lt_of_lt_of_le hg5 ub.size
          clear own5 S5 G5 h0
          go_wp2_with ((at_builtin; refine wpList_append_own _ rfl _ _ 25 rfl w1.heap.size 2 i0 _ 1 8 Tryd.underlying25 hi0 hz0 hz1 hz2 rfl (by decide) _ _ _ rfl own6 ⟨w5.heap.size, 0, none⟩ 1 1 [.int .i64 (-1)] rfl rfl (cell_one_new _ _ _) (by simp [Value.oneCell']) n1 n2 n3 ?_))
          intro v' w9 hown' hgrow _
          have S9 := S6.row own6 hgrow hg1 hg6
          have G9 := gr_row G6 hgrow (fun b hb => (own6.lt b hb).1)
          have ho9 : w9.ownsRow w1.heap.size 2 1 v' (ps' ++ [-1]).length ((ps' ++ [-1]).flatMap intCells) := by simpa using hown'
          have M9 := HM.out.trans (mk_gr G9)
          have T9 := HT.out.gr G9 hgB
          have ho10 := own_base ho9 HM.out.size
          have HE := Lib.hid (And.intro T9 (And.intro ho10 (And.intro S9 M9)))
          clear hown' hgrow own6 S6 G6 S9 G9 ho9 M9 T9 ho10
          go_wp2
          refine bodyPost_ret (v := .tuple #[.slice Ao o.length ao, .slice Cl L.length cl, v']) (by simp [results, Tryd.results42, go_sem]) rfl ⟨_, o, _, L, _, ps' ++ [-1], rfl, HE.out.1, HE.out.2.1, HF.out, ho, hl, by simp; omega, HE.out.2.2.1, HE.out.2.2.2⟩
        · have hzb : (z5 == 0) = false := by simpa using h0
          have HEND := Lib.hid (fun (wf : World) (vf : Value) (pf : List Int) (hp : pf.length ≤ 10) (ho : wf.ownsRow w1.heap.size 2 1 vf pf.length (pf.flatMap intCells)) (hS : Src wf g A L0 c0 lo) (hG : w1.grownBy wf (some g)) => (⟨_, o, _, L, vf, pf, rfl, HT.out.gr hG hgB, own_base ho HM.out.size, HF.out, by assumption, by assumption, hp, hS, HM.out.trans (mk_gr hG)⟩ : ∃ (vo : Value) (o' : List Int) (vl : Value) (L' : List Cp) (vp : Value) (ps : List Int), Ending.returned (.tuple #[.slice Ao o.length ao, .slice Cl L.length cl, vf]) = .returned (.tuple #[vo, vl, vp]) ∧ St wf (w.heap.size + 1) vo o' vl L' ∧ wf.ownsRow w.heap.size 2 1 vp ps.length (ps.flatMap intCells) ∧ Fine L' ∧ o'.length ≤ 20 ∧ L'.length ≤ 9 ∧ ps.length ≤ 10 ∧ Src wf g A L0 c0 lo ∧ Mk g (g + 1) w wf))
          clear HT HF HM h0
          by_cases h1 : z5 = 1
          · have hzb1 : (z5 == 1) = true := by simpa using h1
            clear h1
            by_cases hp1 : 1 < ps'.length
            · have hpd : decide ((1 : Int) < (ps'.length : Int)) = true := by simp; omega
              obtain ⟨A', c', hv, -, -, hA, -⟩ := own_form own5
              subst hv
              obtain ⟨gR, rfl, hgR, -⟩ := hA (by omega)
              have hua := Up.alloc w5 (.cells #[.int .i64 0, .int .i64 1, .int .i64 (-2), .int .i64 (ps'.length : Int)] 2)
              have own := World.ownsRow_lit (base := w5.heap.size) (e := 2) (size := 1) w5 #[.int .i64 0, .int .i64 1, .int .i64 (-2), .int .i64 (ps'.length : Int)] 4 (Nat.le_refl _) (by simp [maxLen]) rfl
              have hrd : RdI (w5.alloc (.cells #[.int .i64 0, .int .i64 1, .int .i64 (-2), .int .i64 (ps'.length : Int)] 2)) w5.heap.size (w5.alloc (.cells #[.int .i64 0, .int .i64 1, .int .i64 (-2), .int .i64 (ps'.length : Int)] 2)).heap.size (some ⟨w5.heap.size, 0, none⟩) [(0 : Int), 1, -2, (ps'.length : Int)] := Rd.own int_len own
              have HP := Lib.hid (l01Pick_any A L0 c0 lo g (some ⟨w5.heap.size, 0, none⟩) [(0 : Int), 1, -2, (ps'.length : Int)] 4 w5.heap.size _ _ (S5.up hua hg5) (Nat.lt_of_lt_of_le hg5 hua.size) hL hrd (Nat.le_refl _) (.inr hg5) (by simp) (by simp))
              have own6 := own_up own5 hua
              have G6 := gr_up G5 hua
              clear own hrd S5 own5 G5 hA
              go_wp2_with fail
              refine HP.out.mono ?_
              rintro e w7 ⟨z7, rfl, -, S7, m7⟩
              have own7 := own_gr own6 (gr_mk m7) hg1
              have G7 := G6.trans (gr_mk m7)
              clear own6 G6 m7 HP
              have hgR2 : g < gR := by omega
              obtain ⟨u0, r0⟩ := own_cell own7 (p := 0) (by omega)
              have z0 := own7.frozenAt 0
              have hst := (own7.stored 0 (.int .i64 z7)).1
              rw [set_intD] at hst
              have S8 := S7.store ⟨gR, 0, none⟩ (.int .i64 z7) hgR2
              have G8 := gr_store G7 ⟨gR, 0, none⟩ (.int .i64 z7) hgR
              have HH := Lib.hid (HEND.out _ _ (ps'.set 0 z7) (by rw [List.length_set]; omega) (by rw [List.length_set]; exact hst) S8 G8)
              clear hst S8 G8 S7 G7 own7 HEND
              go_wp2
              refine bodyPost_ret (v := .tuple #[.slice Ao o.length ao, .slice Cl L.length cl, .slice (some ⟨gR, 0, none⟩) ps'.length c']) (by simp [results, Tryd.results42, go_sem]) rfl HH.out
            · have hpd : decide ((1 : Int) < (ps'.length : Int)) = false := by simp; omega
              obtain ⟨A', c', rfl, -, -, -, -⟩ := own_form own5
              have HH := Lib.hid (HEND.out _ _ ps' (by omega) own5 S5 G5)
              clear own5 S5 G5 HEND hp1
              go_wp2
              refine bodyPost_ret (v := .tuple #[.slice Ao o.length ao, .slice Cl L.length cl, .slice A' ps'.length c']) (by simp [results, Tryd.results42, go_sem]) rfl HH.out
          · have hzb1 : (z5 == 1) = false := by simpa using h1
            have HH := Lib.hid (HEND.out _ _ ps' (by omega) own5 S5 G5)
            clear own5 S5 G5 HEND h1
            go_wp2
            refine bodyPost_ret (v := .tuple #[.slice Ao o.length ao, .slice Cl L.length cl, _]) (by simp [results, Tryd.results42, go_sem]) rfl HH.out

/-- what a draw of a stemma gives -/
def OwnS (w w' : World) (vo : Value) (o : List Int) (vl : Value) (L : List Cp) (vp : Value) (ps : List Int) : Prop := OwnK w w' vo o vl L ∧ w'.ownsRow w.heap.size 2 1 vp ps.length (ps.flatMap intCells) ∧ ps.length ≤ 10

set_option maxRecDepth 100000 in
set_option maxHeartbeats 2000000 in
theorem drawStemmaCost_any (A : Option Addr) (L0 : List UInt8) (c0 lo hi : Nat) (w : World) (hr : RdY w lo hi A L0) (hhi : hi ≤ w.heap.size) (hn : L0.length ≤ 2000000) :
    Calls Tryd.prog 20 #[.slice A L0.length c0] w fun e w' => ∃ (vo : Value) (o : List Int) (vl : Value) (L : List Cp) (vp : Value) (ps : List Int), e = .returned (.tuple #[vo, vl, vp]) ∧ OwnS w w' vo o vl L vp ps ∧ Up w w' := by
  go_enter Tryd.func20, Tryd.ntmps20
  go_wp2_with fail
  refine (l01From_any A L0 c0 lo hi w hr hhi hn).mono ?_
  rintro e w1 ⟨rfl, h1, S1, u1⟩
  go_wp2_with fail
  refine (l23Draw_any A L0 c0 lo w.heap.size w1 S1 h1 hn).mono ?_
  rintro e w2 ⟨vo, o, vl, L, vp, ps, rfl, T2, op, hF, ho, hl, hp, S2, m2⟩
  have H3 := Lib.hid (show OwnS w w2 vo o vl L vp ps from ⟨⟨T2.base (by have := u1.size; omega), hF, ho, hl⟩, own_base op u1.size, hp⟩)
  have u3 := u1.mk m2 (Nat.le_refl _)
  clear S1 S2 m2 T2 op hF ho hl hp
  go_wp2
  refine bodyPost_ret (v := .tuple #[vo, vl, vp]) (by simp [results, Tryd.results20, go_sem]) rfl ⟨_, o, _, L, _, ps, rfl, H3.out, u3⟩

set_option maxRecDepth 100000 in
set_option maxHeartbeats 2000000 in
theorem drawIsStemma_any (A : Option Addr) (L0 : List UInt8) (c0 lo hi : Nat) (w : World) (hr : RdY w lo hi A L0) (hhi : hi ≤ w.heap.size) (hn : L0.length ≤ 2000000) :
    Calls Tryd.prog 60 #[.slice A L0.length c0] w fun e w' => ∃ (vo : Value) (o : List Int) (vl : Value) (L : List Cp) (vp : Value) (ps : List Int), e = .returned (.tuple #[vl, vp]) ∧ OwnS w w' vo o vl L vp ps ∧ Up w w' := by
  go_enter Tryd.func60, Tryd.ntmps60
  go_wp2_with fail
  refine (l01From_any A L0 c0 lo hi w hr hhi hn).mono ?_
  rintro e w1 ⟨rfl, h1, S1, u1⟩
  go_wp2_with fail
  refine (l23Draw_any A L0 c0 lo w.heap.size w1 S1 h1 hn).mono ?_
  rintro e w2 ⟨vo, o, vl, L, vp, ps, rfl, T2, op, hF, ho, hl, hp, S2, m2⟩
  have H3 := Lib.hid (show OwnS w w2 vo o vl L vp ps from ⟨⟨T2.base (by have := u1.size; omega), hF, ho, hl⟩, own_base op u1.size, hp⟩)
  have u3 := u1.mk m2 (Nat.le_refl _)
  clear S1 S2 m2 T2 op hF ho hl hp
  go_wp2
  refine bodyPost_ret (v := .tuple #[vl, vp]) (by simp [results, Tryd.results60, go_sem]) rfl ⟨_, o, _, L, _, ps, rfl, H3.out, u3⟩

set_option maxRecDepth 100000 in
set_option maxHeartbeats 2000000 in
theorem drawStemmaText_any (A : Option Addr) (L0 : List UInt8) (c0 lo hi : Nat) (w : World) (hr : RdY w lo hi A L0) (hhi : hi ≤ w.heap.size) (hn : L0.length ≤ 2000000) :
    Calls Tryd.prog 24 #[.slice A L0.length c0] w fun e w' => ∃ (vo : Value) (o : List Int) (vl : Value) (L : List Cp) (vp : Value) (ps : List Int), e = .returned (.tuple #[vl, vp]) ∧ OwnS w w' vo o vl L vp ps ∧ Up w w' := by
  go_enter Tryd.func24, Tryd.ntmps24
  go_wp2_with fail
  refine (drawIsStemma_any A L0 c0 lo hi w hr hhi hn).mono ?_
  rintro e w1 ⟨vo, o, vl, L, vp, ps, rfl, hS, u1⟩
  have H4 := Lib.hid hS
  clear hS
  go_wp2
  refine bodyPost_ret (v := .tuple #[vl, vp]) (by simp [results, Tryd.results24, go_sem]) rfl ⟨_, o, _, L, _, ps, rfl, H4.out, u1⟩

set_option maxRecDepth 100000 in
set_option maxHeartbeats 2000000 in
theorem drawCommonA_any (A : Option Addr) (L0 : List UInt8) (c0 lo hi : Nat) (w : World) (hr : RdY w lo hi A L0) (hhi : hi ≤ w.heap.size) (hn : L0.length ≤ 2000000) :
    Calls Tryd.prog 7 #[.slice A L0.length c0] w fun e w' => ∃ (vo : Value) (o : List Int) (vl : Value) (L : List Cp) (vp : Value) (ps : List Int) (i k : Int), e = .returned (.tuple #[vl, vp, .int .i64 i, .int .i64 k]) ∧ OwnS w w' vo o vl L vp ps ∧ (-1 ≤ i ∧ i ≤ 100 ∧ -1 ≤ k ∧ k ≤ 100) ∧ Up w w' := by
  go_enter Tryd.func7, Tryd.ntmps7
  go_wp2_with fail
  refine (l01From_any A L0 c0 lo hi w hr hhi hn).mono ?_
  rintro e w1 ⟨rfl, h1, S1, u1⟩
  go_wp2_with fail
  refine (l23Draw_any A L0 c0 lo w.heap.size w1 S1 h1 hn).mono ?_
  rintro e w2 ⟨vo, o, vl, L, vp, ps, rfl, T2, op, hF, ho, hl, hp, S2, m2⟩
  have hb1 : w.heap.size < w1.heap.size + 1 := by omega
  have hb0 : w.heap.size < w1.heap.size := h1
  have u2 := u1.mk m2 (Nat.le_refl _)
  have h2 := Nat.lt_of_lt_of_le h1 m2.size
  obtain ⟨Cl, cl, rfl, -, -, -⟩ := own_formz T2.list
  clear S1 m2
  go_wp2_with fail
  refine (l22DrawIndex_any A L0 c0 lo w.heap.size Cl L.length cl w2 S2 h2 hn (by omega)).mono ?_
  rintro e w3 ⟨i, rfl, hi1, hi2, S3, m3⟩
  have T3 := T2.gr (gr_mk m3) hb1
  have op3 := own_gr op (gr_mk m3) hb0
  have u3 := u2.mk m3 (Nat.le_refl _)
  have h3 := Nat.lt_of_lt_of_le h2 m3.size
  clear S2 m3 T2 op
  go_wp2_with fail
  refine (l22DrawIndex_any A L0 c0 lo w.heap.size Cl L.length cl w3 S3 h3 hn (by omega)).mono ?_
  rintro e w4 ⟨k, rfl, hk1, hk2, S4, m4⟩
  have H4 := Lib.hid (show OwnS w w4 vo o (.slice Cl L.length cl) L vp ps from ⟨⟨(T3.gr (gr_mk m4) hb1).base (by omega), hF, ho, hl⟩, own_base (own_gr op3 (gr_mk m4) hb0) (Nat.le_of_lt hb0), hp⟩)
  have u4 := u3.mk m4 (Nat.le_refl _)
  clear S3 S4 m4 T3 hF ho hl op3 hp
  go_wp2
  refine bodyPost_ret (v := .tuple #[.slice Cl L.length cl, vp, .int .i64 i, .int .i64 k]) (by simp [results, Tryd.results7, go_sem]) rfl ⟨_, o, _, L, _, ps, i, k, rfl, H4.out, ⟨hi1, hi2, hk1, hk2⟩, u4⟩

set_option maxRecDepth 100000 in
set_option maxHeartbeats 2000000 in
theorem drawChangesOn_any (A : Option Addr) (L0 : List UInt8) (c0 lo hi : Nat) (w : World) (hr : RdY w lo hi A L0) (hhi : hi ≤ w.heap.size) (hn : L0.length ≤ 2000000) :
    Calls Tryd.prog 14 #[.slice A L0.length c0] w fun e w' => ∃ (vo : Value) (o : List Int) (vl : Value) (L : List Cp) (vp : Value) (ps : List Int) (i : Int), e = .returned (.tuple #[vo, vl, vp, .int .i64 i]) ∧ OwnS w w' vo o vl L vp ps ∧ (-1 ≤ i ∧ i ≤ 100) ∧ Up w w' := by
  go_enter Tryd.func14, Tryd.ntmps14
  go_wp2_with fail
  refine (l01From_any A L0 c0 lo hi w hr hhi hn).mono ?_
  rintro e w1 ⟨rfl, h1, S1, u1⟩
  go_wp2_with fail
  refine (l23Draw_any A L0 c0 lo w.heap.size w1 S1 h1 hn).mono ?_
  rintro e w2 ⟨vo, o, vl, L, vp, ps, rfl, T2, op, hF, ho, hl, hp, S2, m2⟩
  have hb1 : w.heap.size < w1.heap.size + 1 := by omega
  have hb0 : w.heap.size < w1.heap.size := h1
  have u2 := u1.mk m2 (Nat.le_refl _)
  have h2 := Nat.lt_of_lt_of_le h1 m2.size
  obtain ⟨Cl, cl, rfl, -, -, -⟩ := own_formz T2.list
  clear S1 m2
  go_wp2_with fail
  refine (l22DrawIndex_any A L0 c0 lo w.heap.size Cl L.length cl w2 S2 h2 hn (by omega)).mono ?_
  rintro e w3 ⟨i, rfl, hi1, hi2, S3, m3⟩
  have H4 := Lib.hid (show OwnS w w3 vo o (.slice Cl L.length cl) L vp ps from ⟨⟨(T2.gr (gr_mk m3) hb1).base (by omega), hF, ho, hl⟩, own_base (own_gr op (gr_mk m3) hb0) (Nat.le_of_lt hb0), hp⟩)
  have u3 := u2.mk m3 (Nat.le_refl _)
  clear S2 S3 m3 T2 op hF ho hl hp
  go_wp2
  refine bodyPost_ret (v := .tuple #[vo, .slice Cl L.length cl, vp, .int .i64 i]) (by simp [results, Tryd.results14, go_sem]) rfl ⟨_, o, _, L, _, ps, i, rfl, H4.out, ⟨hi1, hi2⟩, u3⟩
end Go.Proofs.YtncmenfdnpmblaaDoor
