/- BestStemma: the program's walk. -/
import Derived.Test.YtncmenfdnpmblaaDoorBest
namespace Go.Proofs.YtncmenfdnpmblaaDoor
open Go.RowKit Go.Sort

set_option maxRecDepth 100000 in
set_option maxHeartbeats 8000000 in
theorem implBest_any (B : Option Addr) (o : List Int) (cb : Nat) (A : Option Addr) (l : List Cp) (c lo hi lo' hi' : Nat) (w : World) (hr' : RdI w lo' hi' B o) (hhi' : hi' ≤ w.heap.size) (hn' : o.length ≤ 2000000) (hr : RdC w lo hi A l) (hhi : hi ≤ w.heap.size) (hf : Fit l c) :
    Calls Tryd.prog 22 #[.slice B o.length cb, .slice A l.length c] w fun e w' => ∃ v, e = .returned (.tuple #[v, .int .i64 (bcV o (l.map Cp.p)), .int .i64 (bcC o (l.map Cp.p))]) ∧ w'.ownsRow w.heap.size 2 1 v (bcL o (l.map Cp.p)).length ((bcL o (l.map Cp.p)).flatMap intCells) ∧ Up w w' := by
  obtain ⟨i0, hi0, hz0, hz1, hz2⟩ := info_parts infoInt
  obtain ⟨j0, hj0, jz0, jz1, jz2⟩ := info_parts infoBool
  have HS := Lib.hid (checkText_any B o cb A none l [] c 0 lo hi lo' hi' 0 0 w hr' hhi' hn' hr hhi hf (fun h => absurd rfl h) (Nat.zero_le _) (by simp))
  have hll : (l.map Cp.p).length = l.length := by simp
  have HLL := Lib.hid hll
  clear hll
  by_cases hk : bcC o (l.map Cp.p) = 0
  case neg =>
    have h0' : (cdB (orB o (l.map Cp.p)) (l.map Cp.p) [] != 0) = true := by simpa [bcC] using hk
    have HE := Lib.hid (bc_no hk)
    clear hk hf
    go_enter Tryd.func22, Tryd.ntmps22
    go_wp2_with fail
    refine HS.out.mono ?_
    rintro e w1 ⟨rfl, hup⟩
    go_wp2
    go_ret3
    exact ⟨_, ret_vII HE.out.2.symm rfl, by rw [HE.out.1]; exact World.ownsRow_nil _ _ _ _, hup⟩
  case pos =>
      have h0' : (cdB (orB o (l.map Cp.p)) (l.map Cp.p) [] != 0) = false := by simpa [bcC] using hk
      obtain ⟨h1, h2, -⟩ := cd_inv (show cdB (orB o (l.map Cp.p)) (l.map Cp.p) [] = 0 from hk)
      have HE := Lib.hid (bc_yes hk)
      have HK := Lib.hid hk
      have HA := Lib.hid h1
      have HO := Lib.hid h2
      have HF := Lib.hid hf
      have ho20 := orB_20 h2
      have hl8 : l.length ≤ 8 := by have := arB_8' h1; simpa using this
      clear hk hf h2 h1
      go_enter Tryd.func22, Tryd.ntmps22
      go_wp2_with fail
      refine HS.out.mono ?_
      rintro e w1 ⟨rfl, hup⟩
      go_wp2_with ((refine wpList_make_full _ rfl _ _ 25 rfl w1.heap.size 2 i0 _ 1 Tryd.underlying25 hi0 hz0 hz1 _ _ _ _ l.length rfl rfl rfl rfl ?b2 ?b3 ?b4 ?_))
      case b2 => rw [hz2]; omega
      case b3 => unfold maxLen; omega
      case b4 => exact Nat.le_refl _
      intro w3 hown3 hg3
      have hup3 : Up w1 w3 := (Up.refl w1).grown hg3 (fun k h => by cases h)
      rw [toList_madeCells_one] at hown3
      have hown3' : w3.ownsRow w1.heap.size 2 1 (.slice (some ⟨w1.heap.size, 0, none⟩) l.length l.length) l.length ((bsR o (l.map Cp.p) l.length 0).1.flatMap intCells) := by
        rw [show (bsR o (l.map Cp.p) l.length 0).1 = List.replicate l.length 0 from rfl, flat_rep intCells 0 _ rfl]; exact hown3
      clear hg3 hown3 h0'
      go_wp2_with ((refine wpList_make_full _ rfl _ _ 76 rfl w3.heap.size 4 j0 _ 1 Tryd.underlying76 hj0 jz0 jz1 _ _ _ _ l.length rfl rfl rfl rfl ?d2 ?d3 ?d4 ?_))
      case d2 => rw [jz2]; omega
      case d3 => unfold maxLen; omega
      case d4 => exact Nat.le_refl _
      intro w4 hown4 hg4
      have hup4 : Up w3 w4 := (Up.refl w3).grown hg4 (fun k h => by cases h)
      rw [toList_madeCells_one] at hown4
      have hgt : w1.heap.size < w3.heap.size := by
        obtain ⟨A', c', hv, -, -, -, hA⟩ := own_form hown3'
        cases hv
        obtain ⟨g', e, -, h⟩ := hA _ rfl
        cases e; exact h
      have hbs0 : BS w4 w1.heap.size w1.heap.size w3.heap.size l.length (bsR o (l.map Cp.p) l.length 0).1 (bsR o (l.map Cp.p) l.length 0).2 :=
        ⟨own_up hown3' hup4, by
          rw [show (bsR o (l.map Cp.p) l.length 0).2 = List.replicate l.length false from rfl, flat_rep boolCells false _ rfl]; exact own_base hown4 hgt, hgt, Nat.le_refl _⟩
      have hup14 := hup3.trans hup4
      clear hg4 hown4 hown3' hup3 hup4
      generalize w3.heap.size = gt at *
      generalize hgp : w1.heap.size = gp at *
      have HGP := Lib.hid hgp
      clear hgp
      go_wp2
      go_loopw [11, 12, 13, 14, 15, 16, 30, 33] (fun _ _ _ _ _ _ i _ wr => ∃ (r : Nat) (Q : List Int) (T : List Bool), r ≤ l.length ∧ i = .int .i64 r ∧ bsR o (l.map Cp.p) l.length r = (Q, T) ∧ BS wr gp gp gt l.length Q T ∧ Up w1 wr) (fun _ _ _ _ _ _ i _ _ => l.length - (intOf i).toNat)
      case atStart => exact ⟨0, _, _, Nat.zero_le _, rfl, rfl, hbs0, hup14⟩
      case round =>
        obtain ⟨r, Q, T, hr0, rfl, hbr, hbs, hup2⟩ := hrel
        have HBR := Lib.hid hbr
        have HRK := Lib.hid (by have := bsR_ok o (l.map Cp.p) l.length r hr0; rw [hbr] at this; exact this : Rok l.length r Q T)
        have HBS := Lib.hid hbs
        obtain ⟨wo, rfl⟩ : ∃ x, x = wr := ⟨_, rfl⟩
        clear hbr hbs
        by_cases hlt : r < l.length
        · have HFIN := Lib.hid (bsI_fin (o := o) (P := l.map Cp.p) HRK.out hlt)
          have htl : T.length = l.length := HRK.out.t
          have HTL := Lib.hid htl
          clear htl
          go_wp2_with fail
          go_loopw [11, 12, 13, 14, 15, 16, 33] (fun be fr le _ _ _ i wr => ∃ (m : Nat) (sb sf sd : Int), m ≤ l.length ∧ i = .int .i64 m ∧ be = .int .i64 sb ∧ fr = .int .i64 sf ∧ le = .int .i64 sd ∧ bsI o (l.map Cp.p) T l.length m = (sb, sf, sd) ∧ Up wo wr) (fun _ _ _ _ _ _ i _ => l.length - (intOf i).toNat)
          case atStart => exact ⟨0, -1, -1, 0, Nat.zero_le _, rfl, rfl, rfl, rfl, rfl, Up.refl _⟩
          case round =>
            obtain ⟨i, sb0, sf0, sd0, hi_, rfl, rfl, rfl, rfl, hst0, hupo⟩ := hrel
            have HST0 := Lib.hid hst0
            have hsk := bsI_ok (o := o) (P := l.map Cp.p) (T := T) (n := l.length) (by omega) i hi_
            rw [hst0] at hsk
            have HSK := Lib.hid hsk
            clear hst0 hsk
            obtain ⟨wm, rfl⟩ : ∃ x, x = wr := ⟨_, rfl⟩
            by_cases hil : i < l.length
            · have hupm := hup2.trans hupo
              go_wp2_with fail
              go_loopw [11, 12, 13, 15, 16] (fun be fr le k _ wr => ∃ (kz sb sf sd : Int), -1 ≤ kz ∧ kz ≤ l.length ∧ k = .int .i64 kz ∧ be = .int .i64 sb ∧ fr = .int .i64 sf ∧ le = .int .i64 sd ∧ bsK o (l.map Cp.p) T i (kz + 1).toNat (sb0, sf0, sd0) = (sb, sf, sd) ∧ -1 ≤ sb ∧ sb < l.length ∧ -1 ≤ sf ∧ sf < l.length ∧ 0 ≤ sd ∧ sd ≤ 20 ∧ Up wm wr) (fun _ _ _ k _ _ => l.length + 1 - (intOf k + 1).toNat)
              case atStart => exact ⟨-1, sb0, sf0, sd0, by omega, by omega, rfl, rfl, rfl, rfl, rfl, HSK.out.1, HSK.out.2.1, HSK.out.2.2.2.1, HSK.out.2.2.2.2.1, HSK.out.2.2.2.2.2.1, Int.le_trans HSK.out.2.2.2.2.2.2 (by omega), Up.refl _⟩
              case round =>
                obtain ⟨kz, sb, sf, sd, hk0, hk1, rfl, rfl, rfl, rfl, hst, s1, s2, s3, s4, s5, s6, hupi⟩ := hrel
                have HST := Lib.hid hst
                clear hst
                have hupx := hup.trans (hupm.trans hupi)
                have hbw := HBS.out.up (hupo.trans hupi)
                obtain ⟨t, ht⟩ : ∃ t, T[i]? = some t := ⟨_, List.getElem?_eq_getElem (by rw [HTL.out]; exact hil)⟩
                have x0 := hbw.there hil ht
                have HTI := Lib.hid (gT_of ht)
                clear ht
                by_cases hml : kz < l.length
                · have hmd : decide (kz < (l.length : Int)) = true := by rw [decide_eq_true_eq]; exact hml
                  cases t
                  · have hds := Nat.le_trans (ds_le o (l.map Cp.p) kz (i : Int)) ho20
                    by_cases hm0 : kz = -1
                    · subst hm0
                      have HOK := Lib.hid (okK_o T)
                      have hq := changesOn_any B o cb A l c lo hi lo' hi' (-1) i wr (hr'.up hupx hhi') (Nat.le_trans hhi' hupx.size) (hr.up hupx hhi) (Nat.le_trans hhi hupx.size) HF.out HA.out HO.out (by omega) (by omega) hil
                      have HQ := Lib.hid hq
                      have HDL := Lib.hid (show (chL o (l.map Cp.p) (-1) (i : Int)).length = dsN o (l.map Cp.p) (-1) (i : Int) from rfl)
                      clear hq
                      go_wp2_with fail
                      refine HQ.out.mono ?_
                      rintro e w7 ⟨v, rfl, ho, hup7⟩
                      rw [HDL.out] at ho
                      obtain ⟨A7, c7, rfl, -, -, -, -⟩ := own_form ho
                      clear ho
                      by_cases hlt : sb < 0
                      · have HB := Lib.hid (bsS_3 (o := o) (P := l.map Cp.p) HTI.out HOK.out (s := (sb, sf, sd)) (Or.inl hlt))
                        go_wp2
                        go_roundw
                        case rel => exact ⟨0, _, _, _, by omega, by omega, by go_num, rfl, rfl, rfl, (bsK_at (kz := (-1)) (by omega)).trans (by rw [HST.out, HB.out]), by omega, by omega, by omega, by omega, by omega, by omega, hupi.trans hup7⟩
                        case measure => first | (simp [intOf]; done) | (simp [intOf]; omega)
                      · by_cases hdl : (dsN o (l.map Cp.p) (-1) (i : Int) : Int) < sd
                        · have HB := Lib.hid (bsS_3 (o := o) (P := l.map Cp.p) HTI.out HOK.out (s := (sb, sf, sd)) (Or.inr hdl))
                          go_wp2
                          go_roundw
                          case rel => exact ⟨0, _, _, _, by omega, by omega, by go_num, rfl, rfl, rfl, (bsK_at (kz := (-1)) (by omega)).trans (by rw [HST.out, HB.out]), by omega, by omega, by omega, by omega, by omega, by omega, hupi.trans hup7⟩
                          case measure => first | (simp [intOf]; done) | (simp [intOf]; omega)
                        · have HB := Lib.hid (bsS_4 (o := o) (P := l.map Cp.p) (T := T) (i := i) (k := (-1)) (s := (sb, sf, sd)) (by simp only; omega))
                          go_wp2
                          go_roundw
                          case rel => exact ⟨0, sb, sf, sd, by omega, by omega, by go_num, rfl, rfl, rfl, (bsK_at (kz := (-1)) (by omega)).trans (by rw [HST.out, HB.out]), by omega, by omega, by omega, by omega, by omega, by omega, hupi.trans hup7⟩
                          case measure => first | (simp [intOf]; done) | (simp [intOf]; omega)
                    · obtain ⟨k, rfl⟩ : ∃ k : Nat, kz = (k : Int) := ⟨kz.toNat, by omega⟩
                      have hkl : k < l.length := by omega
                      have hkb : ((k : Int) != -1) = true := by simp
                      obtain ⟨t2, ht2⟩ : ∃ t, T[k]? = some t := ⟨_, List.getElem?_eq_getElem (by rw [HTL.out]; exact hkl)⟩
                      have x1 := hbw.there hkl ht2
                      have HTK := Lib.hid ((okK_c T k).trans (gT_of ht2))
                      clear ht2
                      cases t2
                      · have HB := Lib.hid (bsS_2 (o := o) (P := l.map Cp.p) (T := T) (i := i) (k := (k : Int)) (s := (sb, sf, sd)) HTK.out)
                        go_wp2
                        go_roundw
                        case rel => exact ⟨(k : Int) + 1, sb, sf, sd, by omega, by omega, by go_num, rfl, rfl, rfl, (bsK_at (kz := (k : Int)) (by omega)).trans (by rw [HST.out, HB.out]), by omega, by omega, by omega, by omega, by omega, by omega, hupi⟩
                        case measure => simp [intOf]; omega
                      · have HOK := Lib.hid HTK.out
                        have hq := changesOn_any B o cb A l c lo hi lo' hi' (k : Int) i wr (hr'.up hupx hhi') (Nat.le_trans hhi' hupx.size) (hr.up hupx hhi) (Nat.le_trans hhi hupx.size) HF.out HA.out HO.out (by omega) (by omega) hil
                        have HQ := Lib.hid hq
                        have HDL := Lib.hid (show (chL o (l.map Cp.p) (k : Int) (i : Int)).length = dsN o (l.map Cp.p) (k : Int) (i : Int) from rfl)
                        clear hq
                        go_wp2_with fail
                        refine HQ.out.mono ?_
                        rintro e w7 ⟨v, rfl, ho, hup7⟩
                        rw [HDL.out] at ho
                        obtain ⟨A7, c7, rfl, -, -, -, -⟩ := own_form ho
                        clear ho
                        by_cases hlt : sb < 0
                        · have HB := Lib.hid (bsS_3 (o := o) (P := l.map Cp.p) HTI.out HOK.out (s := (sb, sf, sd)) (Or.inl hlt))
                          go_wp2
                          go_roundw
                          case rel => exact ⟨((k : Int) + 1), _, _, _, by omega, by omega, by go_num, rfl, rfl, rfl, (bsK_at (kz := (k : Int)) (by omega)).trans (by rw [HST.out, HB.out]), by omega, by omega, by omega, by omega, by omega, by omega, hupi.trans hup7⟩
                          case measure => first | (simp [intOf]; done) | (simp [intOf]; omega)
                        · by_cases hdl : (dsN o (l.map Cp.p) (k : Int) (i : Int) : Int) < sd
                          · have HB := Lib.hid (bsS_3 (o := o) (P := l.map Cp.p) HTI.out HOK.out (s := (sb, sf, sd)) (Or.inr hdl))
                            go_wp2
                            go_roundw
                            case rel => exact ⟨((k : Int) + 1), _, _, _, by omega, by omega, by go_num, rfl, rfl, rfl, (bsK_at (kz := (k : Int)) (by omega)).trans (by rw [HST.out, HB.out]), by omega, by omega, by omega, by omega, by omega, by omega, hupi.trans hup7⟩
                            case measure => first | (simp [intOf]; done) | (simp [intOf]; omega)
                          · have HB := Lib.hid (bsS_4 (o := o) (P := l.map Cp.p) (T := T) (i := i) (k := (k : Int)) (s := (sb, sf, sd)) (by simp only; omega))
                            go_wp2
                            go_roundw
                            case rel => exact ⟨((k : Int) + 1), sb, sf, sd, by omega, by omega, by go_num, rfl, rfl, rfl, (bsK_at (kz := (k : Int)) (by omega)).trans (by rw [HST.out, HB.out]), by omega, by omega, by omega, by omega, by omega, by omega, hupi.trans hup7⟩
                            case measure => first | (simp [intOf]; done) | (simp [intOf]; omega)
                  · have HK2 := Lib.hid (show bsI o (l.map Cp.p) T l.length (i + 1) = (sb, sf, sd) by rw [bsI, bsK_there HTI.out, HST0.out, ← HST.out, bsK_there HTI.out])
                    go_wp2
                    go_roundw
                    case rel => exact ⟨i + 1, sb, sf, sd, by omega, by go_num, rfl, rfl, rfl, HK2.out, hupo.trans hupi⟩
                    case measure => simp [intOf]; omega
                · have hmd : decide (kz < (l.length : Int)) = false := by rw [decide_eq_false_iff_not]; exact hml
                  have HK2 := Lib.hid (show bsI o (l.map Cp.p) T l.length (i + 1) = (sb, sf, sd) by rw [bsI, HST0.out, ← HST.out]; congr 1; omega)
                  go_wp2
                  go_roundw
                  case rel => exact ⟨i + 1, sb, sf, sd, by omega, by go_num, rfl, rfl, rfl, HK2.out, hupo.trans hupi⟩
                  case measure => simp [intOf]; omega
            · have HIL := Lib.hid (show i = l.length by omega)
              have HSF := Lib.hid (show bsI o (l.map Cp.p) T l.length l.length = (sb0, sf0, sd0) by rw [← HST0.out, HIL.out])
              have hpos : 0 ≤ sb0 := by have h := HFIN.out.1; rw [HSF.out] at h; exact h
              have hrng := HSK.out.2.1
              obtain ⟨j, rfl⟩ : ∃ j : Nat, sb0 = (j : Int) := ⟨sb0.toNat, by omega⟩
              have hjl : j < l.length := by simp only at hrng; omega
              have hbw := HBS.out.up hupo
              have ht := HFIN.out.2.2
              rw [HSF.out] at ht
              have x0 := hbw.there hjl (by simpa using ht)
              obtain ⟨u0, y0⟩ := own_cell hbw.1 (p := j) (by omega)
              have f0 := hbw.1.frozenAt j
              have f1 := hbw.2.1.frozenAt j
              have hb1 := (hbw.put (j := j) sf0).puts (j := j)
              have hne : gp < gt := hbw.2.2.1
              have hgp1 := hbw.2.2.2
              have HBR2 := Lib.hid (show bsR o (l.map Cp.p) l.length (r + 1) = (Q.set j sf0, T.set j true) by rw [bsR, HBR.out]; simp only; rw [HSF.out]; rfl)
              clear ht hrng
              go_wp2
              go_roundw
              case rel => exact ⟨r + 1, _, _, by omega, by go_num, HBR2.out, hb1, ((hup2.trans hupo).setCell (by show w1.heap.size ≤ gp; rw [HGP.out]; exact Nat.le_refl _) _).setCell (by show w1.heap.size ≤ gt; rw [HGP.out]; omega) _⟩
              case measure => simp [intOf]; omega
        · have HR := Lib.hid (show r = l.length by omega)
          have hq : Q.length = l.length := HRK.out.q
          have hownq : wo.ownsRow gp 2 1 (.slice (some ⟨gp, 0, none⟩) Q.length l.length) Q.length (Q.flatMap intCells) := by rw [hq]; exact HBS.out.1
          have hrq := Rd.own int_len hownq
          have hup3 := hup.trans hup2
          have hC := stemmaCost_any B o cb A l c (some ⟨gp, 0, none⟩) Q l.length lo hi lo' hi' gp wo.heap.size wo (hr'.up hup3 hhi') (Nat.le_trans hhi' hup3.size) (hr.up hup3 hhi) (Nat.le_trans hhi hup3.size) HF.out hrq (Nat.le_refl _) HA.out HO.out hq (by rw [hq]; exact HRK.out.p)
          rw [hq] at hC
          have HC := Lib.hid hC
          have HQ := Lib.hid (show (bsR o (l.map Cp.p) (l.map Cp.p).length (l.map Cp.p).length).1 = Q by rw [HLL.out]; have h := HBR.out; rw [HR.out] at h; rw [h])
          have HOWN := Lib.hid hownq
          have HQL := Lib.hid hq
          clear hq hownq hC
          go_wp2_with fail
          refine HC.out.mono ?_
          rintro e w7 ⟨rfl, hup7⟩
          go_wp2
          go_ret3
          exact ⟨_, ret_vII (by rw [HE.out.2, HQ.out, HLL.out]) HK.out.symm, by rw [HE.out.1, HQ.out]; exact own_base (own_up (by have h := HOWN.out; rw [HQL.out] at h ⊢; exact h) hup7) (by rw [← HGP.out]; exact hup.size), hup3.trans hup7⟩
end Go.Proofs.YtncmenfdnpmblaaDoor
