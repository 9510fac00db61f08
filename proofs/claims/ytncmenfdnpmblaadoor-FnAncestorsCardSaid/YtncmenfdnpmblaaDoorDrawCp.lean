/- The reference's draw of an original and of copies. -/
import Derived.Test.YtncmenfdnpmblaaDoorDrawC
import Derived.Deep.AppendLies
import Derived.Deep.Cut
import Derived.Deep.DeepCutAuto
namespace Go.Proofs.YtncmenfdnpmblaaDoor
open Go.RowKit Go.Sort

abbrev nmCells : Array Value := #[.string ⟨#[97]⟩, .string ⟨#[98]⟩, .string ⟨#[99]⟩, .string ⟨#[100]⟩, .string ⟨#[101]⟩, .string ⟨#[102]⟩, .string ⟨#[103]⟩, .string ⟨#[104]⟩, .string ⟨#[105]⟩]
theorem Nm9.new (W : World) : Nm9 (W.alloc (.cells #[.string ⟨#[97]⟩, .string ⟨#[98]⟩, .string ⟨#[99]⟩, .string ⟨#[100]⟩, .string ⟨#[101]⟩, .string ⟨#[102]⟩, .string ⟨#[103]⟩, .string ⟨#[104]⟩, .string ⟨#[105]⟩] 9)) W.heap.size := by
  intro z hz
  have h9 : z = 0 ∨ z = 1 ∨ z = 2 ∨ z = 3 ∨ z = 4 ∨ z = 5 ∨ z = 6 ∨ z = 7 ∨ z = 8 := by omega
  rcases h9 with rfl | rfl | rfl | rfl | rfl | rfl | rfl | rfl | rfl <;> exact ⟨_, by go_simp; rfl, by decide⟩
def FineD (L : List Cp) : Prop := ∀ y ∈ L, y.ok' ∧ y.name.size ≤ 5 ∧ y.rs.length ≤ 20
theorem fineD_snoc {L : List Cp} {y : Cp} (h : FineD L) (hy : y.ok' ∧ y.name.size ≤ 5 ∧ y.rs.length ≤ 20) : FineD (L ++ [y]) := fun x hx => by
  rcases List.mem_append.1 hx with h1 | h1
  · exact h x h1
  · rw [List.mem_singleton.1 h1]; exact hy

set_option maxRecDepth 100000 in
set_option maxHeartbeats 8000000 in
theorem l22Draw_any (A : Option Addr) (L0 : List UInt8) (c0 lo g : Nat) (w : World) (hs : Src w g A L0 c0 lo) (hg : g < w.heap.size) (hL : L0.length ≤ 2000000) :
    Calls Tryd.prog 66 #[.pointer (some ⟨g, 0, none⟩)] w fun e w' => ∃ (vo : Value) (o : List Int) (vl : Value) (L : List Cp), e = .returned (.tuple #[vo, vl]) ∧ St w' (w.heap.size + 1) vo o vl L ∧ Fine L ∧ o.length ≤ 20 ∧ L.length ≤ 9 ∧ Src w' g A L0 c0 lo ∧ Mk g (g + 1) w w' := by
  obtain ⟨i0, hi0, hz0, hz1, hz2⟩ := info_parts infoIntD
  obtain ⟨i1, hi1, hy0, hy1, hy2⟩ := info_parts infoCpD
  have hzm : (Value.agg #[.string ByteArray.empty, .slice none 0 0]).cells.size = 2 := rfl
  have hua := Up.alloc w (.cells #[.string ⟨#[97]⟩, .string ⟨#[98]⟩, .string ⟨#[99]⟩, .string ⟨#[100]⟩, .string ⟨#[101]⟩, .string ⟨#[102]⟩, .string ⟨#[103]⟩, .string ⟨#[104]⟩, .string ⟨#[105]⟩] 9)
  have N0 := Nm9.new w
  have hsa := hs.up hua hg
  have hga := Nat.lt_of_lt_of_le hg hua.size
  have hza : (w.alloc (.cells #[.string ⟨#[97]⟩, .string ⟨#[98]⟩, .string ⟨#[99]⟩, .string ⟨#[100]⟩, .string ⟨#[101]⟩, .string ⟨#[102]⟩, .string ⟨#[103]⟩, .string ⟨#[104]⟩, .string ⟨#[105]⟩] 9)).heap.size = w.heap.size + 1 := by simp
  go_enter Tryd.func66, Tryd.ntmps66
  go_wp2_with fail
  generalize w.alloc (.cells #[.string ⟨#[97]⟩, .string ⟨#[98]⟩, .string ⟨#[99]⟩, .string ⟨#[100]⟩, .string ⟨#[101]⟩, .string ⟨#[102]⟩, .string ⟨#[103]⟩, .string ⟨#[104]⟩, .string ⟨#[105]⟩] 9) = wa at *
  have hub := Up.alloc wa (.cells #[] 2)
  have own0 := World.ownsRow_lit (base := w.heap.size + 1) (e := 2) (size := 1) wa #[] 0 (by omega) (by simp [maxLen]) rfl
  have hsb := hsa.up hub hga
  have hgb := Nat.lt_of_lt_of_le hga hub.size
  have NB := N0.up hub
  have GB := gr_up (World.grownBy.refl w (some g)) (hua.trans hub)
  rw [hza] at own0
  obtain ⟨v0, hv0⟩ : ∃ v, v = Value.slice (some ⟨w.heap.size + 1, 0, none⟩) 0 0 := ⟨_, rfl⟩
  rw [← hv0] at own0 ⊢
  generalize wa.alloc (.cells #[] 2) = wb at *
  have HV0 := Lib.hid hv0
  clear hv0 hua hub N0 hsa hga hza
  refine (l01Next_any A L0 c0 lo g 10 wb hsb hgb hL (by omega)).mono ?_
  rintro e w1 ⟨z1, rfl, hz1', S1, m1⟩
  obtain ⟨hp0, hp1⟩ := hz1'.lt (by omega)
  obtain ⟨zn, rfl⟩ := Int.eq_ofNat_of_zero_le hp0
  have G1 := GB.trans (gr_mk m1)
  have hgB : g < w.heap.size + 1 := Nat.lt_succ_of_lt hg
  have own1 := own_gr own0 (gr_mk m1) hgB
  have N1 := NB.gr (gr_mk m1) (Nat.ne_of_gt hg)
  clear own0 m1 hz1' GB NB hsb hgb hp0
  go_wp2_with fail
  go_loopw [5, 6] (fun o n wr => ∃ (k : Nat) (l : List Int), n = .int .i64 k ∧ l.length + k ≤ 10 ∧ (∃ C cc, o = .slice C l.length cc ∧ (C = none → cc = 0)) ∧ wr.ownsRow (w.heap.size + 1) 2 1 o l.length (l.flatMap intCells) ∧ Src wr g A L0 c0 lo ∧ Nm9 wr w.heap.size ∧ w.grownBy wr (some g)) (fun _ n _ => (intOf n).toNat)
  case atStart => exact ⟨zn, [], rfl, by simp; omega, ⟨_, _, HV0.out, fun h => by cases h⟩, own1, S1, N1, G1⟩
  case round =>
    clear own1 S1 N1 G1
    obtain ⟨k, l, rfl, hk, ⟨CO, co, rfl, hco⟩, hown, hS, hN, hG⟩ := hrel
    have hgr : g < wr.heap.size := Nat.lt_of_lt_of_le hg hG.size
    rcases Nat.eq_zero_or_pos k with hk0 | hk0
    case inr =>
      have hd : decide ((0 : Int) < (k : Int)) = true := by simp; omega
      obtain ⟨k', rfl⟩ : ∃ k', k = k' + 1 := ⟨k - 1, by omega⟩
      go_wp2_with fail
      refine (l01Next_any A L0 c0 lo g 2 wr hS hgr hL (by omega)).mono ?_
      rintro e w3 ⟨z3, rfl, hz3, S3, m3⟩
      obtain ⟨hq0, hq1⟩ := hz3.lt (by omega)
      have own3 := own_gr hown (gr_mk m3) hgB
      have G3 := hG.trans (gr_mk m3)
      have N3 := hN.gr (gr_mk m3) (Nat.ne_of_gt hg)
      have hg3 := Nat.lt_of_lt_of_le hgr m3.size
      have ub := Up.alloc w3 (.cells #[.int .i64 (1 + z3)] 2)
      have own4 := own_up own3 ub
      have S4 := S3.up ub hg3
      have N4 := N3.up ub
      have G4 := gr_up G3 ub
      have n1 : l.length + 1 ≤ maxLen := by unfold maxLen; omega
      have n2 : (l.length + 1) * 8 ≤ 140737488355328 := by omega
      have n3 : w.heap.size + 1 ≤ (w3.alloc (.cells #[.int .i64 (1 + z3)] 2)).heap.size := Nat.le_trans hN.lt (Nat.le_trans m3.size ub.size)
      have hg4 : g < (w3.alloc (.cells #[.int .i64 (1 + z3)] 2)).heap.size := Nat.lt_of_lt_of_le hg3 ub.size
      clear own3 S3 N3 G3 hown hS hN m3 hz3
      go_wp2_with ((at_builtin; refine wpList_append_own _ rfl _ _ 25 rfl (w.heap.size + 1) 2 i0 _ 1 8 Tryd.underlying25 hi0 hz0 hz1 hz2 rfl (by decide) _ _ _ rfl own4 ⟨w3.heap.size, 0, none⟩ 1 1 [.int .i64 (1 + z3)] rfl rfl (cell_one_new _ _ _) (by simp [Value.oneCell']) n1 n2 n3 ?_))
      intro v' w9 hown' hgrow _
      have S9 := S4.row own4 hgrow hgB hg4
      have G9 := gr_row G4 hgrow (fun b hb => Nat.le_of_succ_le (own4.lt b hb).1)
      have N9 := N4.other hgrow (fun e => by have := (own4.lt _ e).1; omega)
      have ho : w9.ownsRow (w.heap.size + 1) 2 1 v' (l ++ [1 + z3]).length ((l ++ [1 + z3]).flatMap intCells) := by simpa using hown'
      obtain ⟨C9, c9, hv9, -, -, hz9⟩ := own_formz ho
      have HV9 := Lib.hid (show ∃ C cc, v' = .slice C (l ++ [1 + z3]).length cc ∧ (C = none → cc = 0) from ⟨C9, c9, hv9, hz9⟩)
      clear hown' hgrow own4 S4 N4 G4 hv9 hz9
      go_wp2
      go_roundw
      case rel => exact ⟨k', l ++ [1 + z3], by go_num, by simp; omega, HV9.out, ho, S9, N9, G9⟩
      case measure => first | (simp [intOf]; done) | (simp [intOf]; omega)
    case inl =>
      subst hk0
      obtain ⟨wq, rfl⟩ : ∃ x, x = wr := ⟨_, rfl⟩
      have ho10 : l.length ≤ 10 := by omega
      have hup0 := Up.alloc wq (.cells #[] 49)
      have hbw : w.heap.size + 1 ≤ wq.heap.size := hN.lt
      have ownl := World.ownsRow_lit (base := w.heap.size + 1) (e := 49) (size := 2) wq #[] 0 hbw (by simp [maxLen]) rfl
      have hst : St (wq.alloc (.cells #[] 49)) (w.heap.size + 1) (.slice CO l.length co) l (.slice (some ⟨wq.heap.size, 0, none⟩) 0 0) [] :=
        ⟨own_up hown hup0, ownl, by simp, fun b hb e => by
          have h2 := (hown.lt b hb).2
          have h3 : wq.heap.size = b := by simpa [Value.ownBlock] using e
          omega, by simp, Dist.nil_⟩
      have S2 := hS.up hup0 hgr
      have hg2 := Nat.lt_of_lt_of_le hgr hup0.size
      have N2 := hN.up hup0
      have G2 := gr_up hG hup0
      clear ownl hown hS hN hG hk
      go_wp2_with fail
      obtain ⟨vl0, hvl0⟩ : ∃ v, v = Value.slice (some ⟨wq.heap.size, 0, none⟩) 0 0 := ⟨_, rfl⟩
      rw [← hvl0] at hst ⊢
      generalize wq.alloc (.cells #[] 49) = wb2 at *
      have HVL := Lib.hid hvl0
      clear hvl0 hup0
      refine (l01Next_any A L0 c0 lo g 6 wb2 S2 hg2 hL (by omega)).mono ?_
      rintro e w5 ⟨z5, rfl, hz5, S5, m5⟩
      obtain ⟨hp0, hp1⟩ := hz5.lt (by omega)
      obtain ⟨z5n, rfl⟩ := Int.eq_ofNat_of_zero_le hp0
      have G5 := G2.trans (gr_mk m5)
      have T5 := hst.gr (gr_mk m5) hgB
      have N5 := N2.gr (gr_mk m5) (Nat.ne_of_gt hg)
      clear hst m5 hz5 G2 N2 S2 hg2 hp0
      go_wp2_with fail
      go_loopw [7, 8] (fun ls n wr => ∃ (k : Nat) (L : List Cp) (C : Option Addr) (cc : Nat), n = .int .i64 k ∧ L.length + k ≤ 6 ∧ ls = .slice C L.length cc ∧ St wr (w.heap.size + 1) (.slice CO l.length co) l (.slice C L.length cc) L ∧ FineD L ∧ Src wr g A L0 c0 lo ∧ Nm9 wr w.heap.size ∧ w.grownBy wr (some g)) (fun _ n _ => (intOf n).toNat)
      case atStart => exact ⟨z5n, [], _, _, rfl, by simp; omega, HVL.out, by have h := T5; rw [HVL.out] at h; exact h, by simp [FineD], S5, N5, G5⟩
      case round =>
        clear S5 T5 N5 G5
        obtain ⟨k, L, C, cc, rfl, hk, rfl, hT, hF, hS, hN, hG⟩ := hrel
        have HF := Lib.hid hF
        have HT := Lib.hid hT
        have hgr2 : g < wr.heap.size := Nat.lt_of_lt_of_le hg hG.size
        obtain ⟨wo, rfl⟩ : ∃ x, x = wr := ⟨_, rfl⟩
        clear hT hF
        rcases Nat.eq_zero_or_pos k with hk0 | hk0
        case inr =>
          have hd : decide ((0 : Int) < (k : Int)) = true := by simp; omega
          obtain ⟨k', rfl⟩ : ∃ k', k = k' + 1 := ⟨k - 1, by omega⟩
          go_wp2_with fail
          refine (l01Own_any CO l co _ _ wo (Rd.own int_len HT.out.orig) (Nat.le_refl _) (by omega) hco).mono ?_
          rintro e w6 ⟨v9, rfl, own9, u6⟩
          have S6 := hS.up u6 hgr2
          have hg6 := Nat.lt_of_lt_of_le hgr2 u6.size
          have R6 := gr_up (World.grownBy.refl wo (some g)) u6
          have HS6 := Lib.hid S6
          have HR6 := Lib.hid R6
          have HO6 := Lib.hid own9
          clear S6 R6 own9
          go_upto_region 12 with fail
          go_cut [42] (fun v42 wx => ∃ (wy : World) (b : Bool), wy = wx ∧ v42 = .bool b ∧ (b = true → 0 < L.length) ∧ wo.grownBy wy (some g) ∧ Src wy g A L0 c0 lo ∧ wy.ownsRow wo.heap.size 2 1 v9 l.length (l.flatMap intCells))
          case first =>
            rcases Nat.eq_zero_or_pos L.length with hL0 | hL0
            · obtain rfl : L = [] := List.eq_nil_of_length_eq_zero hL0
              clear hL0
              go_wp2_with fail
              go_meet
              exact ⟨_, false, rfl, rfl, fun h => (by cases h), HR6.out, HS6.out, HO6.out⟩
            · have hdl : decide ((0 : Int) < (L.length : Int)) = true := by simp; omega
              go_wp2_with fail
              refine (l01Next_any A L0 c0 lo g 2 w6 HS6.out hg6 hL (by omega)).mono ?_
              rintro e w7 ⟨z7, rfl, hz7, S7, m7⟩
              have HH := Lib.hid (show wo.grownBy w7 (some g) ∧ Src w7 g A L0 c0 lo ∧ w7.ownsRow wo.heap.size 2 1 v9 l.length (l.flatMap intCells) from ⟨HR6.out.trans (gr_mk m7), S7, own_gr HO6.out (gr_mk m7) hgr2⟩)
              clear S7 m7 hz7
              go_wp2_with fail
              go_meet
              exact ⟨_, _, rfl, rfl, fun _ => hL0, HH.out.1, HH.out.2.1, HH.out.2.2⟩
          case rest =>
          obtain ⟨w7, b7, hw7, rfl, hbL, R7, S7, own7⟩ := hcut
          subst hw7
          have hg7 := Nat.lt_of_lt_of_le hgr2 R7.size
          have HBL := Lib.hid hbL
          have HR7 := Lib.hid R7
          have HS7 := Lib.hid S7
          have HO7 := Lib.hid own7
          clear R7 S7 own7 hbL HS6 HR6 HO6
          go_upto_if 42 with fail
          go_cut [9] (fun v9' wx => ∃ (W : World) (CR : Option Addr) (cr : Nat) (rs : List Int), W = wx ∧ v9' = .slice CR rs.length cr ∧ rs.length ≤ cr ∧ cr ≤ maxLen ∧ rs.length ≤ 20 ∧ wo.grownBy W (some g) ∧ Src W g A L0 c0 lo ∧ W.ownsRow wo.heap.size 2 1 (.slice CR rs.length cr) rs.length (rs.flatMap intCells))
          case first =>
            cases b7 with
            | false =>
              obtain ⟨C9, c9, rfl, hcc1, hcc2, -⟩ := own_formz HO7.out
              go_wp2_with fail
              go_meet
              exact ⟨_, C9, c9, l, rfl, rfl, hcc1, hcc2, by omega, HR7.out, HS7.out, HO7.out⟩
            | true =>
              have hL0 := HBL.out rfl
              go_wp2_with fail
              refine (l01Next_any A L0 c0 lo g (L.length : Int) w7 HS7.out hg7 hL (by omega)).mono ?_
              rintro e w8 ⟨z8, rfl, hz8, S8, m8⟩
              obtain ⟨hx0, hx1⟩ := hz8.lt (by omega)
              obtain ⟨zi, rfl⟩ := Int.eq_ofNat_of_zero_le hx0
              have hzl : zi < L.length := by omega
              have hg8 := Nat.lt_of_lt_of_le hg7 m8.size
              have R8 := HR7.out.trans (gr_mk m8)
              have T8 := HT.out.gr R8 hgB
              obtain ⟨bL, oL, y, rfl, -, -, hyL, hry, q0, q1⟩ := T8.rdc.at_ hzl
              have hym := List.mem_of_getElem? hyL
              have hyz := own_formz (T8.each y hym)
              have hyz2 : y.A = none → y.c = 0 := by
                obtain ⟨a', c', e, -, -, h⟩ := hyz
                simp only [Cp.sl, Value.slice.injEq] at e
                rw [e.1, e.2.2]; exact h
              have hf20 := (HF.out y hym).2.2
              clear m8 hz8 hx0 hx1 hyz hyL
              go_wp2_with fail
              refine (l01Own_any y.A y.rs y.c _ _ w8 hry (Nat.le_refl _) (by omega) hyz2).mono ?_
              rintro e w9 ⟨v10, rfl, own10, u9⟩
              have ownR0 := own_base own10 R8.size
              obtain ⟨C9, c9, rfl, hcc1, hcc2, -⟩ := own_formz ownR0
              have HH := Lib.hid (And.intro (S8.up u9 hg8) (And.intro (gr_up R8 u9) ownR0))
              clear own10 u9 S8 R8 q0 q1 hry T8 ownR0
              go_wp2_with fail
              go_meet
              exact ⟨_, C9, c9, y.rs, rfl, rfl, hcc1, hcc2, hf20, HH.out.2.1, HH.out.1, HH.out.2.2⟩
          case rest =>
            obtain ⟨W, CR, cr, rs, hW, rfl, hcr1, hcr2, hf20, GR0, SR0, ownR0⟩ := hcut
            subst hW
            clear HR7 HS7 HO7 HBL
            have hgW := Nat.lt_of_lt_of_le hgr2 GR0.size
            go_wp2_with fail
            refine (l01Next_any A L0 c0 lo g 3 W SR0 hgW hL (by omega)).mono ?_
            rintro e w11 ⟨z11, rfl, hz11, S11, m11⟩
            obtain ⟨hx0, hx1⟩ := hz11.lt (by omega)
            obtain ⟨z11n, rfl⟩ := Int.eq_ofNat_of_zero_le hx0
            have R11 := GR0.trans (gr_mk m11)
            have own11 := own_gr ownR0 (gr_mk m11) hgr2
            clear SR0 GR0 ownR0 m11 hz11 hx0 hgW
            go_wp2_with fail
            go_loopw [10] (fun kk wr => ∃ (j : Nat) (rs' : List Int), kk = .int .i64 j ∧ j ≤ 3 ∧ rs'.length = rs.length ∧ wr.ownsRow wo.heap.size 2 1 (.slice CR rs.length cr) rs.length (rs'.flatMap intCells) ∧ Src wr g A L0 c0 lo ∧ wo.grownBy wr (some g)) (fun kk _ => (intOf kk).toNat)
            case atStart => exact ⟨z11n, rs, rfl, by omega, rfl, own11, S11, R11⟩
            case round =>
              clear own11 S11 R11
              obtain ⟨j, rs', rfl, hj3, hrl, hown', hS', hR'⟩ := hrel
              have hgw := Nat.lt_of_lt_of_le hgr2 hR'.size
              by_cases hjn : 0 < j ∧ 0 < rs.length
              case pos =>
                obtain ⟨hj0, hn0⟩ := hjn
                obtain ⟨j', rfl⟩ : ∃ j', j = j' + 1 := ⟨j - 1, by omega⟩
                have e1 : decide ((0 : Int) < ((j' + 1 : Nat) : Int)) = true := by first | (simp; done) | (simp; omega)
                have e2 : decide ((0 : Int) < (rs.length : Int)) = true := by simp; omega
                go_wp2_with fail
                refine (l01Next_any A L0 c0 lo g (rs.length : Int) wr hS' hgw hL (by omega)).mono ?_
                rintro e y1 ⟨za, rfl, hza, Sa, ma⟩
                obtain ⟨ha0, ha1⟩ := hza.lt (by omega)
                obtain ⟨zan, rfl⟩ := Int.eq_ofNat_of_zero_le ha0
                have hga := Nat.lt_of_lt_of_le hgw ma.size
                go_wp2_with fail
                refine (l01Next_any A L0 c0 lo g 4 y1 Sa hga hL (by omega)).mono ?_
                rintro e y2 ⟨zb, rfl, hzb2, Sb, mb⟩
                have ownb := own_gr (own_gr hown' (gr_mk ma) hgr2) (gr_mk mb) hgr2
                have Rb := (hR'.trans (gr_mk ma)).trans (gr_mk mb)
                obtain ⟨A', c', hv, -, -, hA, -⟩ := own_form ownb
                simp only [Value.slice.injEq] at hv
                obtain ⟨rfl, -, rfl⟩ := hv
                obtain ⟨gR, rfl, hgR, -⟩ := hA (by omega)
                have hzl : zan < rs.length := by omega
                obtain ⟨u0, r0⟩ := own_cell ownb (p := zan) (by omega)
                have z0 := ownb.frozenAt zan
                have hst := (ownb.stored zan (.int .i64 zb)).1
                rw [set_intD] at hst
                have HST := Lib.hid hst
                have hgRg : g < gR := by omega
                have Sc := Sb.store ⟨gR, zan, none⟩ (.int .i64 zb) hgRg
                have Rc := gr_store Rb ⟨gR, zan, none⟩ (.int .i64 zb) hgR
                have HSC := Lib.hid (And.intro Sc Rc)
                clear hst ownb hown' hS' hR' Sa Sb ma mb Sc Rc Rb hza hzb2 hA
                go_wp2
                go_roundw
                case rel => exact ⟨j', rs'.set zan zb, by go_num, by omega, by rw [List.length_set]; exact hrl, HST.out, HSC.out.1, HSC.out.2⟩
                case measure => first | (simp [intOf]; done) | (simp [intOf]; omega)
              case neg =>
                have hbw2 : w.heap.size + 1 ≤ wo.heap.size := hN.lt
                have NN := hN.gr hR' (Nat.ne_of_gt hg)
                have TT := HT.out.gr hR' hgB
                obtain ⟨nm, hnmc, hnms⟩ := NN L.length (by omega)
                have hgwo : wo.heap.size ≤ wr.heap.size := hR'.size
                have hln9 : (L.length : Int) < 9 := by omega
                have hlow := HT.out.low (Nat.le_refl _)
                obtain ⟨y, hy⟩ : ∃ y : Cp, y = ⟨nm, CR, cr, rs'⟩ := ⟨_, rfl⟩
                have ub := Up.alloc wr (.cells #[.string nm, .slice CR rs.length cr] 49)
                have ownL := own_up TT.list ub
                have TU := TT.up ub
                have ownY : (wr.alloc (.cells #[.string nm, .slice CR rs.length cr] 49)).ownsRow wo.heap.size 2 1 y.sl y.rs.length (y.rs.flatMap intCells) := by rw [hy]; show World.ownsRow _ _ _ _ (.slice CR rs'.length cr) rs'.length _; rw [hrl]; exact own_up hown' ub
                have hyc : y.cells = [.string nm, .slice CR rs.length cr] := by rw [hy]; show [Value.string nm, .slice CR rs'.length cr] = _; rw [hrl]
                have hyo : y.ok' ∧ y.name.size ≤ 5 ∧ y.rs.length ≤ 20 := by rw [hy]; exact ⟨⟨by show rs'.length ≤ cr; omega, hcr2⟩, hnms, by show rs'.length ≤ 20; omega⟩
                have hgU := Nat.lt_of_lt_of_le hgw ub.size
                have SU := hS'.up ub hgw
                have RU := gr_up hR' ub
                have NU := NN.up ub
                have GU := (hG.trans RU)
                have hnews : ∀ (j : Nat) u, [Value.string nm, .slice CR rs.length cr][j]? = some u → (wr.alloc (.cells #[.string nm, .slice CR rs.length cr] 49)).cell? ((⟨wr.heap.size, 0, none⟩ : Addr).add j) = some u := fun j u hu => by
                  match j, hu with
                  | 0, hu => simp at hu; subst hu; simp [Addr.add]
                  | 1, hu => simp at hu; subst hu; simp [Addr.add]
                have n1 : L.length + 1 ≤ maxLen := by unfold maxLen; omega
                have n2 : (L.length + 1) * 40 ≤ 140737488355328 := by omega
                have n3 : w.heap.size + 1 ≤ (wr.alloc (.cells #[.string nm, .slice CR rs.length cr] 49)).heap.size := Nat.le_trans NN.lt ub.size
                have HLOW := Lib.hid hlow
                have HTU := Lib.hid TU
                have HOY := Lib.hid ownY
                have HYC := Lib.hid hyc
                have HYO := Lib.hid hyo
                have HNS := Lib.hid hnews
                clear hlow TU ownY hyc hyo hnews NN TT hN hS' hown' hR' HT hy
                have hjd : j = 0 ∨ (0 < j ∧ rs.length = 0) := by omega
                rcases hjd with hj0 | ⟨hj0, hn0⟩
                case' inl =>
                  have e1 : decide ((0 : Int) < (j : Int)) = false := by rw [hj0]; rfl
                  have e3 : ¬ 0 < j := by omega
                  clear hj0
                case' inr =>
                  have e1 : decide ((0 : Int) < (j : Int)) = true := by simp; omega
                  have e2 : decide ((0 : Int) < (rs.length : Int)) = false := by rw [hn0]; rfl
                  have e3 : ¬ 0 < rs.length := by omega
                  clear hn0
                all_goals
                  clear hrl
                  go_wp2_with ((at_builtin; refine wpList_append_lies (P := Tryd.prog) _ rfl _ _ 24 rfl (w.heap.size + 1) 49 i1 _ 2 40 Tryd.underlying24 hi1 hy0 hy1 hy2 hzm (by decide) _ _ _ rfl ownL ⟨wr.heap.size, 0, none⟩ 1 1 [.string nm, .slice CR rs.length cr] rfl rfl HNS.out (by simp [Value.oneCell']) (by decide) n1 n2 n3 _ rfl ?_))
                  intro gN cN w12 hown2 hgrow hat hlt
                  have hvb : (Value.slice (some ⟨gN, 0, none⟩) (L.length + 1) cN).ownBlock = (Value.slice C L.length cc).ownBlock ∨ (Value.slice (some ⟨gN, 0, none⟩) (L.length + 1) cN).ownBlock = some (wr.alloc (.cells #[.string nm, .slice CR rs.length cr] 49)).heap.size := by
                    rcases hat with h | h
                    · exact .inl h.symm
                    · exact .inr (by rw [h]; simp [Value.ownBlock])
                  have S12 := SU.row ownL hgrow hgB hgU
                  have N12 := NU.other hgrow (fun e => by have := (ownL.lt _ e).1; omega)
                  have G12 := gr_row GU hgrow (fun b hb => Nat.le_of_succ_le (ownL.lt b hb).1)
                  have T12 := HTU.out.snoc (by rw [HYC.out]; exact hown2) hgrow hvb HOY.out hbw2 HLOW.out
                  have HX := Lib.hid (show St w12 (w.heap.size + 1) (.slice CO l.length co) l (.slice (some ⟨gN, 0, none⟩) (L ++ [y]).length cN) (L ++ [y]) ∧ FineD (L ++ [y]) ∧ (L ++ [y]).length = L.length + 1 from ⟨by rw [List.length_append, List.length_singleton]; exact T12, fineD_snoc HF.out HYO.out, by simp⟩)
                  clear hown2 hgrow hat hvb SU NU GU ownL T12 RU
                  go_wp2
                  go_roundw
                  case rel => exact ⟨k', L ++ [y], some ⟨gN, 0, none⟩, cN, by go_num, by rw [HX.out.2.2]; omega, by rw [HX.out.2.2], HX.out.1, HX.out.2.1, S12, N12, G12⟩
                  case measure => first | (simp [intOf]; done) | (simp [intOf]; omega)
        case inl =>
          subst hk0
          have hd : decide ((0 : Int) < ((0 : Nat) : Int)) = false := rfl
          go_wp2_with fail
          refine (l01Next_any A L0 c0 lo g 60 wo hS hgr2 hL (by omega)).mono ?_
          rintro e w20 ⟨zc, rfl, hzc, S20, m20⟩
          obtain ⟨hc0, hc1⟩ := hzc.lt (by omega)
          have G20 := hG.trans (gr_mk m20)
          have hg20 := Nat.lt_of_lt_of_le hgr2 m20.size
          have hqq : w.heap.size + 1 ≤ w20.heap.size := Nat.le_trans hN.lt m20.size
          have T20 := HT.out.gr (gr_mk m20) hgB
          have N20 := hN.gr (gr_mk m20) (Nat.ne_of_gt hg)
          have hF20 : Fine L := fun y hy => by have := HF.out y hy; exact ⟨this.1, this.2.1, by omega⟩
          have HTT := Lib.hid T20
          have HFF := Lib.hid hF20
          have HFL := Lib.hid (show ∀ y ∈ L, y.rs.length ≤ 20 from fun y hy => (HF.out y hy).2.2)
          clear hS hG hN HT HF m20 hzc T20 hF20
          by_cases h4 : 4 ≤ zc
          · have h0 : (zc == 0) = false := by simp; omega
            have h1 : (zc == 1) = false := by simp; omega
            have h2 : (zc == 2) = false := by simp; omega
            have h3 : (zc == 3) = false := by simp; omega
            go_wp2
            go_ret2
            exact ⟨_, l, _, L, rfl, HTT.out, HFF.out, by omega, by omega, S20, mk_gr G20⟩
          · have h5 : zc = 0 ∨ zc = 1 ∨ zc = 2 ∨ zc = 3 := by omega
            rcases h5 with rfl | rfl | rfl | rfl
            · have hua := Up.alloc w20 (.cells #[.int .i64 0, .int .i64 1, .int .i64 9, .int .i64 10] 2)
              have own := World.ownsRow_lit (base := w20.heap.size) (e := 2) (size := 1) w20 #[.int .i64 0, .int .i64 1, .int .i64 9, .int .i64 10] 4 (Nat.le_refl _) (by simp [maxLen]) rfl
              have hrd : RdI (w20.alloc (.cells #[.int .i64 0, .int .i64 1, .int .i64 9, .int .i64 10] 2)) w20.heap.size (w20.alloc (.cells #[.int .i64 0, .int .i64 1, .int .i64 9, .int .i64 10] 2)).heap.size (some ⟨w20.heap.size, 0, none⟩) [(0 : Int), (1 : Int), (9 : Int), (10 : Int)] := Rd.own int_len own
              have HP := Lib.hid (l01Pick_any A L0 c0 lo g (some ⟨w20.heap.size, 0, none⟩) [(0 : Int), (1 : Int), (9 : Int), (10 : Int)] 4 w20.heap.size _ _ (S20.up hua hg20) (Nat.lt_of_lt_of_le hg20 hua.size) hL hrd (Nat.le_refl _) (.inr hg20) (by decide) (by decide))
              have TA := Lib.hid (HTT.out.up hua)
              have GA := gr_up G20 hua
              clear own hrd
              go_wp2_with fail
              refine HP.out.mono ?_
              rintro e w21 ⟨zp, rfl, -, S21, m21⟩
              have T21 := TA.out.gr (gr_mk m21) hgB
              have G21 := GA.trans (gr_mk m21)
              have hg21 : g < w21.heap.size := Nat.lt_of_lt_of_le hg G21.size
              have ub := Up.alloc w21 (.cells #[.int .i64 zp] 2)
              have T22 := T21.up ub
              have S22 := S21.up ub hg21
              have G22 := gr_up G21 ub
              have hg22 : g < (w21.alloc (.cells #[.int .i64 zp] 2)).heap.size := Nat.lt_of_lt_of_le hg21 ub.size
              have ownO := T22.orig
              have n1 : l.length + 1 ≤ maxLen := by unfold maxLen; omega
              have n2 : (l.length + 1) * 8 ≤ 140737488355328 := by omega
              have n3 : w.heap.size + 1 ≤ (w21.alloc (.cells #[.int .i64 zp] 2)).heap.size := Nat.le_trans hqq (Nat.le_trans (Nat.le_trans hua.size m21.size) ub.size)
              have HT22 := Lib.hid T22
              clear T21 T22 S21 G21 m21 HP GA
              go_wp2_with ((at_builtin; refine wpList_append_lies (P := Tryd.prog) _ rfl _ _ 25 rfl (w.heap.size + 1) 2 i0 _ 1 8 Tryd.underlying25 hi0 hz0 hz1 hz2 rfl (by decide) _ _ _ rfl ownO ⟨w21.heap.size, 0, none⟩ 1 1 [.int .i64 zp] rfl rfl (cell_one_new _ _ _) (by simp [Value.oneCell']) (by decide) n1 n2 n3 _ rfl ?_))
              intro gN cN w23 hown2 hgrow hat hlt
              have hvb : (Value.slice (some ⟨gN, 0, none⟩) (l.length + 1) cN).ownBlock = (Value.slice CO l.length co).ownBlock ∨ (Value.slice (some ⟨gN, 0, none⟩) (l.length + 1) cN).ownBlock = some (w21.alloc (.cells #[.int .i64 zp] 2)).heap.size := by
                rcases hat with h | h
                · exact .inl h.symm
                · exact .inr (by rw [h]; simp [Value.ownBlock])
              have S23 := S22.row ownO hgrow hgB hg22
              have G23 := gr_row G22 hgrow (fun b hb => Nat.le_of_succ_le (ownO.lt b hb).1)
              have T23 := Lib.hid (HT22.out.orig_app (o' := l ++ [zp]) (by rw [List.length_append, List.length_singleton, List.flatMap_append]; simpa using hown2) hgrow hvb)
              clear hown2 hgrow hat hvb S22 G22 ownO
              go_wp2
              go_ret2
              exact ⟨_, l ++ [zp], _, L, rfl, T23.out, HFF.out, by simp; omega, by omega, S23, mk_gr G23⟩
            · by_cases hL0 : 0 < L.length
              case neg =>
                obtain rfl : L = [] := List.eq_nil_of_length_eq_zero (by omega)
                go_wp2
                go_ret2
                exact ⟨_, l, _, [], rfl, HTT.out, HFF.out, by omega, by simp, S20, mk_gr G20⟩
              case pos =>
                obtain ⟨y, L', rfl⟩ : ∃ y L', L = y :: L' := by
                  rcases L with _ | ⟨y, L'⟩
                  · simp at hL0
                  · exact ⟨y, L', rfl⟩
                have hyf := HFF.out y (by simp)
                have ownY := HTT.out.each y (by simp)
                obtain ⟨bL, oL, y2, rfl, -, hbL2, hyL, -, q0, q1⟩ := HTT.out.rdc.at_ (k := 0) hL0
                simp at hyL; subst hyL
                obtain ⟨A', c', hv, -, -, -, hA⟩ := own_form HTT.out.list
                simp only [Value.slice.injEq] at hv
                obtain ⟨rfl, -, rfl⟩ := hv
                obtain ⟨gl, hgl, -, -⟩ := hA _ rfl
                simp only [Addr.mk.injEq] at hgl
                obtain ⟨rfl, rfl, -⟩ := hgl
                have ub := Up.alloc w20 (.cells #[.int .i64 5] 2)
                have ownY2 := own_up ownY ub
                have S22 := S20.up ub hg20
                have G22 := gr_up G20 ub
                have hg22 : g < (w20.alloc (.cells #[.int .i64 5] 2)).heap.size := Nat.lt_of_lt_of_le hg20 ub.size
                have HT22 := Lib.hid (HTT.out.up ub)
                have n1 : y.rs.length + 1 ≤ maxLen := by unfold maxLen; omega
                have n2 : (y.rs.length + 1) * 8 ≤ 140737488355328 := by omega
                have n3 : w.heap.size + 1 ≤ (w20.alloc (.cells #[.int .i64 5] 2)).heap.size := Nat.le_trans hqq ub.size
                have q1' : w20.cell? ⟨bL, 1, none⟩ = some (.slice y.A y.rs.length y.c) := by simpa using q1
                have HFY := Lib.hid hyf
                clear q0 q1 hL0 ownY hA
                go_wp2_with ((at_builtin; refine wpList_append_lies (P := Tryd.prog) _ rfl _ _ 25 rfl (w.heap.size + 1) 2 i0 _ 1 8 Tryd.underlying25 hi0 hz0 hz1 hz2 rfl (by decide) _ _ _ rfl ownY2 ⟨w20.heap.size, 0, none⟩ 1 1 [.int .i64 5] rfl rfl (cell_one_new _ _ _) (by simp [Value.oneCell']) (by decide) n1 n2 n3 _ rfl ?_))
                intro gN cN w23 hown2 hgrow hat hlt
                obtain ⟨y', hy'⟩ : ∃ y' : Cp, y' = ⟨y.name, some ⟨gN, 0, none⟩, cN, y.rs ++ [5]⟩ := ⟨_, rfl⟩
                have hysl : y'.sl = .slice (some ⟨gN, 0, none⟩) (y.rs.length + 1) cN := by rw [hy']; show Value.slice _ (y.rs ++ [5]).length _ = _; rw [List.length_append, List.length_singleton]
                have hvb : y'.sl.ownBlock = y.sl.ownBlock ∨ y'.sl.ownBlock = some (w20.alloc (.cells #[.int .i64 5] 2)).heap.size := by
                  rw [hysl]
                  rcases hat with h | h
                  · exact .inl h.symm
                  · exact .inr (by rw [h]; simp [Value.ownBlock])
                have hfar := (HT22.out.far y (by simp))
                have hlist : w23.ownsRow (w.heap.size + 1) 49 2 (.slice (some ⟨bL, 0, none⟩) (L'.length + 1) cc) (L'.length + 1) ((y :: L').flatMap Cp.cells) := own_other HT22.out.list hgrow (fun b hb e => (hfar b e).2 hb)
                obtain ⟨u1, r1⟩ := own_cell hlist (p := 1) (by omega)
                have f1 := hlist.frozenAt 1
                have S23 := S22.row ownY2 hgrow hgB hg22
                have G23 := gr_row G22 hgrow (fun b hb => Nat.le_of_succ_le (ownY2.lt b hb).1)
                have hbl : w.heap.size + 1 ≤ bL := (hlist.lt bL rfl).1
                have hz9 := own_formz hown2
                have hyo : y'.ok' ∧ y'.name.size ≤ 5 ∧ y'.rs.length ≤ 40 := by
                  obtain ⟨a9, c9, e9, h91, h92, -⟩ := hz9
                  simp only [Value.slice.injEq] at e9
                  rw [hy']
                  refine ⟨⟨?_, ?_⟩, HFY.out.2.1, ?_⟩
                  · show (y.rs ++ [5]).length ≤ cN
                    rw [List.length_append, List.length_singleton]; omega
                  · show cN ≤ maxLen; omega
                  · show (y.rs ++ [5]).length ≤ 40
                    rw [List.length_append, List.length_singleton]; have := HFL.out y (by simp); omega
                have T23 := HT22.out.head (y' := y') hgrow (by rw [hysl, hy']; show World.ownsRow _ _ _ _ _ (y.rs ++ [5]).length _; rw [List.length_append, List.length_singleton, List.flatMap_append]; simpa using hown2) (by rw [hy']) hvb
                rw [hysl] at T23
                have S24 := S23.store ⟨bL, 1, none⟩ (.slice (some ⟨gN, 0, none⟩) (y.rs.length + 1) cN) (by show g < bL; omega)
                have G24 := gr_store G23 ⟨bL, 1, none⟩ (.slice (some ⟨gN, 0, none⟩) (y.rs.length + 1) cN) (by show w.heap.size ≤ bL; omega)
                have HX := Lib.hid (And.intro T23 (And.intro hyo (And.intro S24 G24)))
                clear hown2 hgrow hat hvb hfar hlist S23 G23 T23 S24 G24 hyo hy' hysl hz9 S22 G22 ownY2
                go_wp2
                go_ret2
                exact ⟨_, l, _, y' :: L', rfl, HX.out.1, (fun x hx => by
                  rcases List.mem_cons.1 hx with rfl | hx
                  · exact HX.out.2.1
                  · exact HFF.out x (by simp [hx])), by omega, by simp at hk ⊢; omega, HX.out.2.2.1, mk_gr HX.out.2.2.2⟩
            · by_cases hL1 : 1 < L.length
              case neg =>
                have hd : decide ((1 : Int) < (L.length : Int)) = false := by simp; omega
                go_wp2
                go_ret2
                exact ⟨_, l, _, L, rfl, HTT.out, HFF.out, by omega, by omega, S20, mk_gr G20⟩
              case pos =>
                obtain ⟨y0, y1, L', rfl⟩ : ∃ y0 y1 L', L = y0 :: y1 :: L' := by
                  rcases L with _ | ⟨y0, _ | ⟨y1, L'⟩⟩
                  · simp at hL1
                  · simp at hL1
                  · exact ⟨y0, y1, L', rfl⟩
                obtain ⟨A', c', hv, -, -, hA, -⟩ := own_form HTT.out.list
                simp only [Value.slice.injEq] at hv
                obtain ⟨rfl, -, rfl⟩ := hv
                obtain ⟨gl, rfl, hgl, -⟩ := hA (by simp)
                have q0 := HTT.out.list.cellAt 0 (by simp)
                obtain ⟨u2, r2⟩ := own_cell HTT.out.list (p := 2) (by simp)
                have f2 := HTT.out.list.frozenAt 2
                have q0' : w20.cell? ⟨gl, 0, none⟩ = some (.string y0.name) := q0.trans rfl
                have T24 := HTT.out.second
                have S24 := S20.store ⟨gl, 2, none⟩ (.string y0.name) (by show g < gl; omega)
                have G24 := gr_store G20 ⟨gl, 2, none⟩ (.string y0.name) (by show w.heap.size ≤ gl; omega)
                have HX := Lib.hid (And.intro T24 (And.intro S24 G24))
                clear q0 hA T24 S24 G24 hL1
                go_wp2
                go_ret2
                exact ⟨_, l, _, y0 :: { y1 with name := y0.name } :: L', rfl, HX.out.1, (fun x hx => by
                  rcases List.mem_cons.1 hx with rfl | hx
                  · exact HFF.out x (by simp)
                  · rcases List.mem_cons.1 hx with rfl | hx
                    · have h1 := HFF.out y1 (by simp)
                      exact ⟨h1.1, (HFF.out y0 (by simp)).2.1, h1.2.2⟩
                    · exact HFF.out x (by simp [hx])), by omega, by simp at hk ⊢; omega, HX.out.2.1, mk_gr HX.out.2.2⟩
            · have hup1 := Up.alloc w20 (.cells #[] 49)
              have ownl := World.ownsRow_lit (base := w.heap.size + 1) (e := 49) (size := 2) w20 #[] 0 hqq (by simp [maxLen]) rfl
              have T25 : St (w20.alloc (.cells #[] 49)) (w.heap.size + 1) (.slice CO l.length co) l (.slice (some ⟨w20.heap.size, 0, none⟩) 0 0) [] :=
                ⟨own_up HTT.out.orig hup1, ownl, by simp, fun b hb e => by
                  have h2 := (HTT.out.orig.lt b hb).2
                  have h3 : w20.heap.size = b := by simpa [Value.ownBlock] using e
                  omega, by simp, Dist.nil_⟩
              have S25 := S20.up hup1 hg20
              have N25 := N20.up hup1
              have G25 := gr_up G20 hup1
              clear ownl S20 N20 G20 HTT
              go_wp2_with fail
              obtain ⟨vl1, hvl1⟩ : ∃ v, v = Value.slice (some ⟨w20.heap.size, 0, none⟩) 0 0 := ⟨_, rfl⟩
              rw [← hvl1] at T25 ⊢
              generalize w20.alloc (.cells #[] 49) = wb3 at *
              have HVL1 := Lib.hid hvl1
              clear hvl1 hup1
              go_loopw [7, 11] (fun ls n wr => ∃ (L : List Cp) (C : Option Addr) (cc : Nat), n = .int .i64 (L.length : Int) ∧ L.length ≤ 9 ∧ ls = .slice C L.length cc ∧ St wr (w.heap.size + 1) (.slice CO l.length co) l (.slice C L.length cc) L ∧ FineD L ∧ Src wr g A L0 c0 lo ∧ Nm9 wr w.heap.size ∧ w.grownBy wr (some g)) (fun _ n _ => 9 - (intOf n).toNat)
              case atStart => exact ⟨[], _, _, rfl, by simp, HVL1.out, by have h := T25; rw [HVL1.out] at h; exact h, by simp [FineD], S25, N25, G25⟩
              case round =>
                clear S25 N25 G25 T25
                obtain ⟨L2, C, cc, rfl, hk9, rfl, hT, hF, hS, hN, hG⟩ := hrel
                have hgr3 : g < wr.heap.size := Nat.lt_of_lt_of_le hg hG.size
                have HT := Lib.hid hT
                have HF := Lib.hid hF
                clear hT hF
                go_wp2_with fail
                refine (l01Next_any A L0 c0 lo g 2 wr hS hgr3 hL (by omega)).mono ?_
                rintro e w30 ⟨z30, rfl, hz30, S30, m30⟩
                obtain ⟨hx0, hx1⟩ := hz30.lt (by omega)
                have hg30 := Nat.lt_of_lt_of_le hgr3 m30.size
                have T30 := HT.out.gr (gr_mk m30) hgB
                have N30 := hN.gr (gr_mk m30) (Nat.ne_of_gt hg)
                have G30 := hG.trans (gr_mk m30)
                clear hS hN hG m30 hz30
                by_cases hlt : (L2.length : Int) < 8 + z30
                case neg =>
                  have hd : decide ((L2.length : Int) < 8 + z30) = false := by simpa using hlt
                  have HX := Lib.hid (And.intro T30 (And.intro S30 G30))
                  clear T30 S30 G30 hlt
                  go_wp2
                  go_ret2
                  exact ⟨_, l, _, L2, rfl, HX.out.1, (fun y hy => by have := HF.out y hy; exact ⟨this.1, this.2.1, by omega⟩), by omega, hk9, HX.out.2.1, mk_gr HX.out.2.2⟩
                case pos =>
                  have hd : decide ((L2.length : Int) < 8 + z30) = true := by simpa using hlt
                  obtain ⟨nm, hnmc, hnms⟩ := N30 L2.length (by omega)
                  have hl9 : (L2.length : Int) < 9 := by omega
                  have hdr : Up w30 w30.drew := (Up.refl _).drew
                  have HOW := Lib.hid (l01Own_any CO l co _ _ w30.drew ((Rd.own int_len T30.orig).up hdr (Nat.le_refl _)) hdr.size (by omega) hco)
                  have n1 : L2.length + 1 ≤ maxLen := by unfold maxLen; omega
                  have n2 : (L2.length + 1) * 40 ≤ 140737488355328 := by omega
                  have hbw3 : w.heap.size + 1 ≤ w30.heap.size := N30.lt
                  have HT30 := Lib.hid T30
                  have HS30 := Lib.hid S30
                  have HN30 := Lib.hid N30
                  have HG30 := Lib.hid G30
                  clear T30 S30 N30 G30 hlt HT
                  go_wp2_with fail
                  go_region_law (first
                    | (go_simp
                       go_at_call 91
                       refine HOW.out.mono ?_
                       rintro e w6 ⟨v9, rfl, own9, u6⟩
                       obtain ⟨C9, c9, rfl, hcr1, hcr2, -⟩ := own_formz own9
                       have hU6 : Up w30 w6 := Up.trans hdr u6
                       have hnm6 := hU6.cell hnmc
                       have ub := Up.alloc w6 (.cells #[.string nm, .slice C9 l.length c9] 49)
                       have TU := Lib.hid ((HT30.out.up hU6).up ub)
                       have ownL6 := own_up (own_up HT30.out.list hU6) ub
                       have ownY := Lib.hid (own_up (own_base own9 hdr.size) ub)
                       have HNS := Lib.hid (show ∀ (j : Nat) u, [Value.string nm, .slice C9 l.length c9][j]? = some u → (w6.alloc (.cells #[.string nm, .slice C9 l.length c9] 49)).cell? ((⟨w6.heap.size, 0, none⟩ : Addr).add j) = some u from fun j u hu => by
                         match j, hu with
                         | 0, hu => simp at hu; subst hu; simp [Addr.add]
                         | 1, hu => simp at hu; subst hu; simp [Addr.add])
                       have n3 : w.heap.size + 1 ≤ (w6.alloc (.cells #[.string nm, .slice C9 l.length c9] 49)).heap.size := Nat.le_trans hbw3 (hU6.trans ub).size)
                    | (refine step_append_lies _ rfl (.tmp 127) (.tmp 135) 24 rfl (w.heap.size + 1) 49 i1 (.agg #[.string ByteArray.empty, .slice none 0 0]) 2 40 Tryd.underlying24 hi1 hy0 hy1 hy2 hzm (by decide) (.slice C L2.length cc) L2.length _ (by simp [Act.eval]) ownL6 ⟨w6.heap.size, 0, none⟩ 1 1 [.string nm, .slice C9 l.length c9] (by simp [Act.eval]) rfl HNS.out (by simp [Value.oneCell']) (by decide) n1 n2 n3 _ rfl ?_
                       intro gN cN w12 hown2 hgrow hat hlt))
                  all_goals
                    have hvb : (Value.slice (some ⟨gN, 0, none⟩) (L2.length + 1) cN).ownBlock = (Value.slice C L2.length cc).ownBlock ∨ (Value.slice (some ⟨gN, 0, none⟩) (L2.length + 1) cN).ownBlock = some (w6.alloc (.cells #[.string nm, .slice C9 l.length c9] 49)).heap.size := by
                      rcases hat with h | h
                      · exact .inl h.symm
                      · exact .inr (by rw [h]; simp [Value.ownBlock])
                    obtain ⟨y, hy⟩ : ∃ y : Cp, y = ⟨nm, C9, c9, l⟩ := ⟨_, rfl⟩
                    have hgU : g < (w6.alloc (.cells #[.string nm, .slice C9 l.length c9] 49)).heap.size := Nat.lt_of_lt_of_le hg30 (hU6.trans ub).size
                    have S12 := ((HS30.out.up hU6 hg30).up ub (Nat.lt_of_lt_of_le hg30 hU6.size)).row ownL6 hgrow hgB hgU
                    have N12 := ((HN30.out.up hU6).up ub).other hgrow (fun e => by have := (ownL6.lt _ e).1; omega)
                    have G12 := gr_row (gr_up (gr_up HG30.out hU6) ub) hgrow (fun b hb => Nat.le_of_succ_le (ownL6.lt b hb).1)
                    have T12 := TU.out.snoc (y := y) (B2 := w30.heap.size) (by rw [hy]; exact hown2) hgrow hvb (by rw [hy]; exact ownY.out) hbw3 (HT30.out.low (Nat.le_refl _))
                    have HX := Lib.hid (show St w12 (w.heap.size + 1) (.slice CO l.length co) l (.slice (some ⟨gN, 0, none⟩) (L2 ++ [y]).length cN) (L2 ++ [y]) ∧ FineD (L2 ++ [y]) ∧ (L2 ++ [y]).length = L2.length + 1 from ⟨by rw [List.length_append, List.length_singleton]; exact T12, fineD_snoc HF.out (by rw [hy]; exact ⟨⟨hcr1, hcr2⟩, hnms, by show l.length ≤ 20; omega⟩), by simp⟩)
                    clear hown2 hgrow hat hvb ownL6 T12 hnm6 hy own9 u6
                    go_wp2
                    go_roundw
                    case rel => exact ⟨L2 ++ [y], some ⟨gN, 0, none⟩, cN, by rw [HX.out.2.2]; go_num, by rw [HX.out.2.2]; omega, by rw [HX.out.2.2], HX.out.1, HX.out.2.1, S12, N12, G12⟩
                    case measure => first | (simp [intOf]; done) | (simp [intOf]; omega)
end Go.Proofs.YtncmenfdnpmblaaDoor
