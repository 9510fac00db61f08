/- BestStemma: the reference's walk. -/
import Derived.Test.YtncmenfdnpmblaaDoorBestL
namespace Go.Proofs.YtncmenfdnpmblaaDoor
open Go.RowKit Go.Sort

theorem infoBool : (Tryd.prog.info? 4).map (fun i => (i.zero, i.size, i.bytes)) = some (some (.bool false), 1, 1) := by kernel_rfl
theorem ret_vII {k k' : IntKind} {v : Value} {a b a' b' : Int} (h : a = b) (h' : a' = b') : Ending.returned (.tuple #[v, .int k a, .int k' a']) = .returned (.tuple #[v, .int k b, .int k' b']) := by rw [h, h']
theorem in_blk (g n c : Nat) : In (.slice (some ⟨g, 0, none⟩) n c) g (g + 1) := fun b hb => by simp [Value.ownBlock] at hb; omega
/-- the two slices that the search writes -/
def BS (w : World) (base gp gt n : Nat) (Q : List Int) (T : List Bool) : Prop :=
  w.ownsRow base 2 1 (.slice (some ⟨gp, 0, none⟩) n n) n (Q.flatMap intCells) ∧ w.ownsRow (gp + 1) 4 1 (.slice (some ⟨gt, 0, none⟩) n n) n (T.flatMap boolCells) ∧ gp < gt ∧ base ≤ gp
theorem BS.up {w w' : World} {base gp gt n : Nat} {Q : List Int} {T : List Bool} (h : BS w base gp gt n Q T) (hu : Up w w') : BS w' base gp gt n Q T := ⟨own_up h.1 hu, own_up h.2.1 hu, h.2.2⟩
theorem BS.there {w : World} {base gp gt n j : Nat} {Q : List Int} {T : List Bool} {t : Bool} (h : BS w base gp gt n Q T) (hj : j < n) (ht : T[j]? = some t) : w.cell? ⟨gt, j, none⟩ = some (.bool t) := by
  rw [h.2.1.cellAt j (by omega), bcells_at ht]
theorem BS.put {w : World} {base gp gt n j : Nat} {Q : List Int} {T : List Bool} (h : BS w base gp gt n Q T) (z : Int) : BS (w.setCell ⟨gp, j, none⟩ (.int .i64 z)) base gp gt n (Q.set j z) T := by
  refine ⟨?_, ownsRow_setCell_below h.2.1 (by show gp < gp + 1; omega) _, h.2.2⟩
  rw [← icells_set]; exact (h.1.stored j _).1
theorem BS.puts {w : World} {base gp gt n j : Nat} {Q : List Int} {T : List Bool} (h : BS w base gp gt n Q T) : BS (w.setCell ⟨gt, j, none⟩ (.bool true)) base gp gt n Q (T.set j true) := by
  refine ⟨own_grown (v := .slice (some ⟨gt, 0, none⟩) n n) h.1 (h.2.1.stored j (.bool true)).2 (in_blk gt n n) (in_blk gp n n) (.inl h.2.2.1), ?_, h.2.2⟩
  rw [← bcells_set]; exact (h.2.1.stored j _).1

set_option maxRecDepth 100000 in
set_option maxHeartbeats 8000000 in
theorem specBest_any (B : Option Addr) (o : List Int) (cb : Nat) (A : Option Addr) (l : List Cp) (c lo hi lo' hi' : Nat) (w : World) (hr' : RdI w lo' hi' B o) (hhi' : hi' ≤ w.heap.size) (hn' : o.length ≤ 2000000) (hr : RdC w lo hi A l) (hhi : hi ≤ w.heap.size) (hf : Fit l c) :
    Calls Tryd.prog 23 #[.slice B o.length cb, .slice A l.length c] w fun e w' => ∃ v, e = .returned (.tuple #[v, .int .i64 (bcV o (l.map Cp.p)), .int .i64 (bcC o (l.map Cp.p))]) ∧ w'.ownsRow w.heap.size 2 1 v (bcL o (l.map Cp.p)).length ((bcL o (l.map Cp.p)).flatMap intCells) ∧ Up w w' := by
  obtain ⟨i0, hi0, hz0, hz1, hz2⟩ := info_parts infoInt
  obtain ⟨j0, hj0, jz0, jz1, jz2⟩ := info_parts infoBool
  have HS := Lib.hid (specAre A l c lo hi w hr hhi hf)
  have HOR := Lib.hid (fun (w1 : World) (hu : Up w w1) => l22Original_any B o cb A l c lo hi lo' hi' w1 (hr'.up hu hhi') hn' (hr.up hu hhi) hf)
  have hll : (l.map Cp.p).length = l.length := by simp
  have HLL := Lib.hid hll
  clear hll
  rcases h1 : arB (l.map Cp.p) with _ | _
  · have hk : bcC o (l.map Cp.p) = 1 := cd_1 (by rw [h1]; rfl)
    have HE := Lib.hid (bc_no (o := o) (P := l.map Cp.p) (by rw [hk]; decide))
    have HK := Lib.hid hk
    clear hk hf
    go_enter Tryd.func23, Tryd.ntmps23
    go_wp2_with fail
    refine HS.out.mono ?_
    rintro e w1 ⟨rfl, hup⟩
    go_wp2
    go_ret3
    exact ⟨_, ret_vII HE.out.2.symm HK.out.symm, by rw [HE.out.1]; exact World.ownsRow_nil _ _ _ _, hup⟩
  · rcases h2 : orB o (l.map Cp.p) with _ | _
    · have hk : bcC o (l.map Cp.p) = 1 := cd_1 (by rw [h2, Bool.and_false])
      have h3 : orS o (l.map Cp.p) = false := by rw [or_eq h1]; exact h2
      have HE := Lib.hid (bc_no (o := o) (P := l.map Cp.p) (by rw [hk]; decide))
      have HK := Lib.hid hk
      clear hk hf h2
      go_enter Tryd.func23, Tryd.ntmps23
      go_wp2_with fail
      refine HS.out.mono ?_
      rintro e w1 ⟨rfl, hup⟩
      go_wp2_with fail
      refine (HOR.out w1 hup).mono ?_
      rintro e w2 ⟨rfl, rfl⟩
      go_wp2
      go_ret3
      exact ⟨_, ret_vII HE.out.2.symm HK.out.symm, by rw [HE.out.1]; exact World.ownsRow_nil _ _ _ _, hup⟩
    · have hk : bcC o (l.map Cp.p) = 0 := cd_0 (by rw [h1, h2]; rfl) (by simp)
      have h3 : orS o (l.map Cp.p) = true := by rw [or_eq h1]; exact h2
      have HE := Lib.hid (bc_yes hk)
      have HK := Lib.hid hk
      have HA := Lib.hid h1
      have HO := Lib.hid h2
      have HF := Lib.hid hf
      have ho20 := orB_20 h2
      have hl8 : l.length ≤ 8 := by have := arB_8' h1; simpa using this
      clear hk hf h2
      go_enter Tryd.func23, Tryd.ntmps23
      go_wp2_with fail
      refine HS.out.mono ?_
      rintro e w1 ⟨rfl, hup⟩
      go_wp2_with fail
      refine (HOR.out w1 hup).mono ?_
      rintro e w2 ⟨rfl, rfl⟩
      go_wp2_with ((refine wpList_make_full _ rfl _ _ 25 rfl w1.heap.size 2 i0 _ 1 Tryd.underlying25 hi0 hz0 hz1 _ _ _ _ l.length rfl rfl rfl rfl ?b2 ?b3 ?b4 ?_))
      case b2 => rw [hz2]; omega
      case b3 => unfold maxLen; omega
      case b4 => exact Nat.le_refl _
      intro w3 hown3 hg3
      have hup3 : Up w1 w3 := (Up.refl w1).grown hg3 (fun k h => by cases h)
      rw [toList_madeCells_one] at hown3
      have hown3' : w3.ownsRow w1.heap.size 2 1 (.slice (some ⟨w1.heap.size, 0, none⟩) l.length l.length) l.length ((bsR o (l.map Cp.p) l.length 0).1.flatMap intCells) := by
        rw [show (bsR o (l.map Cp.p) l.length 0).1 = List.replicate l.length 0 from rfl, flat_rep intCells 0 _ rfl]; exact hown3
      clear hg3 hown3 h1 h3
      go_wp2_with ((refine wpList_make_full _ rfl _ _ 76 rfl w3.heap.size 4 j0 _ 1 Tryd.underlying76 hj0 jz0 jz1 _ _ _ _ l.length rfl rfl rfl rfl ?d2 ?d3 ?d4 ?_))
      case d2 => rw [jz2]; omega
      case d3 => unfold maxLen; omega
      case d4 => exact Nat.le_refl _
      intro w4 hown4 hg4
      have hup4 : Up w3 w4 := (Up.refl w3).grown hg4 (fun k h => by cases h)
      rw [toList_madeCells_one] at hown4
      have hgt : w1.heap.size < w3.heap.size := by
        obtain ⟨A', c', hv, -, -, -, hA⟩ := own_form hown3'
        cases hv
        obtain ⟨g', e, -, h⟩ := hA _ rfl
        cases e; exact h
      have hbs0 : BS w4 w1.heap.size w1.heap.size w3.heap.size l.length (bsR o (l.map Cp.p) l.length 0).1 (bsR o (l.map Cp.p) l.length 0).2 :=
        ⟨own_up hown3' hup4, by
          rw [show (bsR o (l.map Cp.p) l.length 0).2 = List.replicate l.length false from rfl, flat_rep boolCells false _ rfl]; exact own_base hown4 hgt, hgt, Nat.le_refl _⟩
      have hup14 := hup3.trans hup4
      clear hg4 hown4 hown3' hup3 hup4
      generalize w3.heap.size = gt at *
      generalize hgp : w1.heap.size = gp at *
      have HGP := Lib.hid hgp
      clear hgp
      go_wp2
      go_loopw [9, 10, 11, 12, 13, 14, 15] (fun i _ _ _ _ _ _ wr => ∃ (r : Nat) (Q : List Int) (T : List Bool), r ≤ l.length ∧ i = .int .i64 r ∧ bsR o (l.map Cp.p) l.length r = (Q, T) ∧ BS wr gp gp gt l.length Q T ∧ Up w1 wr) (fun i _ _ _ _ _ _ _ => l.length - (intOf i).toNat)
      case atStart => exact ⟨0, _, _, Nat.zero_le _, rfl, rfl, hbs0, hup14⟩
      case round =>
        obtain ⟨r, Q, T, hr0, rfl, hbr, hbs, hup2⟩ := hrel
        have HBR := Lib.hid hbr
        have HRK := Lib.hid (by have := bsR_ok o (l.map Cp.p) l.length r hr0; rw [hbr] at this; exact this : Rok l.length r Q T)
        have HBS := Lib.hid hbs
        obtain ⟨wo, rfl⟩ : ∃ x, x = wr := ⟨_, rfl⟩
        clear hbr hbs
        by_cases hlt : r < l.length
        · have HFIN := Lib.hid (bsI_fin (o := o) (P := l.map Cp.p) HRK.out hlt)
          have htl : T.length = l.length := HRK.out.t
          have HTL := Lib.hid htl
          clear htl
          go_wp2_with fail
          go_loopw [10, 11, 12, 13, 14, 15] (fun be fr le i _ _ wr => ∃ (m : Nat) (sb sf sd : Int), m ≤ l.length ∧ i = .int .i64 m ∧ be = .int .i64 sb ∧ fr = .int .i64 sf ∧ le = .int .i64 sd ∧ bsI o (l.map Cp.p) T l.length m = (sb, sf, sd) ∧ Up wo wr) (fun _ _ _ i _ _ _ => l.length - (intOf i).toNat)
          case atStart => exact ⟨0, -1, -1, 0, Nat.zero_le _, rfl, rfl, rfl, rfl, rfl, Up.refl _⟩
          case round =>
            obtain ⟨i, sb0, sf0, sd0, hi_, rfl, rfl, rfl, rfl, hst0, hupo⟩ := hrel
            have HST0 := Lib.hid hst0
            have hsk := bsI_ok (o := o) (P := l.map Cp.p) (T := T) (n := l.length) (by omega) i hi_
            rw [hst0] at hsk
            have HSK := Lib.hid hsk
            clear hst0 hsk
            obtain ⟨wm, rfl⟩ : ∃ x, x = wr := ⟨_, rfl⟩
            by_cases hil : i < l.length
            · have hupm := hup2.trans hupo
              go_wp2_with fail
              go_loopw [10, 11, 12, 14, 15] (fun be fr le k _ wr => ∃ (kz sb sf sd : Int), -1 ≤ kz ∧ kz ≤ l.length ∧ k = .int .i64 kz ∧ be = .int .i64 sb ∧ fr = .int .i64 sf ∧ le = .int .i64 sd ∧ bsK o (l.map Cp.p) T i (kz + 1).toNat (sb0, sf0, sd0) = (sb, sf, sd) ∧ -1 ≤ sb ∧ sb < l.length ∧ -1 ≤ sf ∧ sf < l.length ∧ 0 ≤ sd ∧ sd ≤ 20 ∧ Up wm wr) (fun _ _ _ k _ _ => l.length + 1 - (intOf k + 1).toNat)
              case atStart => exact ⟨-1, sb0, sf0, sd0, by omega, by omega, rfl, rfl, rfl, rfl, rfl, HSK.out.1, HSK.out.2.1, HSK.out.2.2.2.1, HSK.out.2.2.2.2.1, HSK.out.2.2.2.2.2.1, Int.le_trans HSK.out.2.2.2.2.2.2 (by omega), Up.refl _⟩
              case round =>
                obtain ⟨kz, sb, sf, sd, hk0, hk1, rfl, rfl, rfl, rfl, hst, s1, s2, s3, s4, s5, s6, hupi⟩ := hrel
                have HST := Lib.hid hst
                clear hst
                by_cases hml : kz < l.length
                · have hupx := hup.trans (hupm.trans hupi)
                  have hbw := HBS.out.up (hupo.trans hupi)
                  obtain ⟨t, ht⟩ : ∃ t, T[i]? = some t := ⟨_, List.getElem?_eq_getElem (by rw [HTL.out]; exact hil)⟩
                  have x0 := hbw.there hil ht
                  have HTI := Lib.hid (gT_of ht)
                  clear ht
                  cases t
                  · have hds := Nat.le_trans (ds_le o (l.map Cp.p) kz (i : Int)) ho20
                    obtain ⟨A2, rs, c2, lo3, hi3, hrs, hr3, hhi3, hcall⟩ := source_ex B o cb A l c lo hi lo' hi' kz wr (hr'.up hupx hhi') (Nat.le_trans hhi' hupx.size) (hr.up hupx hhi) (Nat.le_trans hhi hupx.size) HF.out.2.2.1 (by omega) (by omega)
                    obtain ⟨b2, off2, y, rfl, -, -, hy, iy, q0, q1⟩ := (hr.up hupx hhi).at_ hil
                    have e1 : rs.length = o.length := by rw [hrs]; exact rdS_len HA.out HO.out (by omega) (by rw [HLL.out]; omega)
                    have e2 : y.rs.length = o.length := orB_same HA.out HO.out (getp hy)
                    have HDS := Lib.hid (show (pl (dfB y.rs rs) y.rs.length).length = dsN o (l.map Cp.p) kz (i : Int) by rw [← ds_swap, rdS_c (getp hy), ← hrs, e2]; rfl)
                    have hh := Nat.le_trans hhi hupx.size
                    obtain ⟨yn, yA, yc, yrs⟩ := y
                    simp only at q0 q1 e2 HDS iy
                    have HIY := Lib.hid iy
                    have HR3 := Lib.hid hr3
                    have HSR := Lib.hid hcall
                    have e1' : rs.length ≤ 20 := by omega
                    have e2' : yrs.length ≤ rs.length := by omega
                    clear hy iy hr3 hrs hcall e1 e2 q0
                    by_cases hm0 : kz = -1
                    · subst hm0
                      have HOK := Lib.hid (okK_o T)
                      have hE := fun dd os => l22Differences_any yA A2 yrs rs yc c2 lo hi lo3 hi3 (grow (redrawn wr dd) os) (HIY.out.up (below_regrown _ _ _) hh) (Nat.le_trans hh (below_regrown _ _ _).size) (HR3.out.up (below_regrown _ _ _) hhi3) (Nat.le_trans hhi3 (below_regrown _ _ _).size) (by omega) (by omega)
                      rw [HDS.out] at hE
                      have cD : ∀ dd os, Calls Tryd.prog 55 #[.slice yA yrs.length yc, .slice A2 rs.length c2] (grow (redrawn wr dd) os) fun e w'' => e = .returned (.int .i64 ((dsN o (l.map Cp.p) (-1) (i : Int) : Nat) : Int)) ∧ ∃ p : Regrown, w'' = grow (redrawn wr p.d) p.os :=
                        fun dd os => Calls.regrown_of (hE dd os)
                      have cS : ∀ dd os, Calls Tryd.prog 54 #[.slice B o.length cb, .slice (some ⟨b2, off2, none⟩) l.length c, .int .i64 (-1)] (grow (redrawn wr dd) os) fun e w'' => e = .returned (.slice A2 rs.length c2) ∧ ∃ p : Regrown, w'' = grow (redrawn wr p.d) p.os :=
                        fun dd os => Calls.regrown_of ((HSR.out _ (below_regrown _ _ _)).mono fun _ _ ⟨h1, h2⟩ => ⟨h1, by rw [← h2]; exact Up.refl _⟩)
                      have Q1 := cell_regrown q1
                      clear hE
                      go_wp2_with fail
                      refine wp_region_quiet_below (by kernel_rfl) (by kernel_rfl) ?_
                      repeat (quiet_step (first | (go_at_call 54; exact cS _ _) | (go_at_call 55; exact cD _ _)))
                      refine wpQuiet_nil ?_
                      intro w7 hw7
                      obtain ⟨⟨dq, osq⟩, hw7⟩ := hw7
                      have hup7 : Up wr w7 := by rw [hw7]; exact below_regrown _ _ _
                      clear hw7 Q1 cD cS
                      by_cases hlt : sb < 0
                      · have HB := Lib.hid (bsS_3 (o := o) (P := l.map Cp.p) HTI.out HOK.out (s := (sb, sf, sd)) (Or.inl hlt))
                        go_wp2
                        go_roundw
                        case rel => exact ⟨0, _, _, _, by omega, by omega, by go_num, rfl, rfl, rfl, (bsK_at (kz := (-1)) (by omega)).trans (by rw [HST.out, HB.out]), by omega, by omega, by omega, by omega, by omega, by omega, hupi.trans hup7⟩
                        case measure => first | (simp [intOf]; done) | (simp [intOf]; omega)
                      · by_cases hdl : (dsN o (l.map Cp.p) (-1) (i : Int) : Int) < sd
                        · have HB := Lib.hid (bsS_3 (o := o) (P := l.map Cp.p) HTI.out HOK.out (s := (sb, sf, sd)) (Or.inr hdl))
                          go_wp2
                          go_roundw
                          case rel => exact ⟨0, _, _, _, by omega, by omega, by go_num, rfl, rfl, rfl, (bsK_at (kz := (-1)) (by omega)).trans (by rw [HST.out, HB.out]), by omega, by omega, by omega, by omega, by omega, by omega, hupi.trans hup7⟩
                          case measure => first | (simp [intOf]; done) | (simp [intOf]; omega)
                        · have HB := Lib.hid (bsS_4 (o := o) (P := l.map Cp.p) (T := T) (i := i) (k := (-1)) (s := (sb, sf, sd)) (by simp only; omega))
                          go_wp2
                          go_roundw
                          case rel => exact ⟨0, sb, sf, sd, by omega, by omega, by go_num, rfl, rfl, rfl, (bsK_at (kz := (-1)) (by omega)).trans (by rw [HST.out, HB.out]), by omega, by omega, by omega, by omega, by omega, by omega, hupi.trans hup7⟩
                          case measure => first | (simp [intOf]; done) | (simp [intOf]; omega)
                    · obtain ⟨k, rfl⟩ : ∃ k : Nat, kz = (k : Int) := ⟨kz.toNat, by omega⟩
                      have hkl : k < l.length := by omega
                      have hkb : ((k : Int) != -1) = true := by simp
                      obtain ⟨t2, ht2⟩ : ∃ t, T[k]? = some t := ⟨_, List.getElem?_eq_getElem (by rw [HTL.out]; exact hkl)⟩
                      have x1 := hbw.there hkl ht2
                      have HTK := Lib.hid ((okK_c T k).trans (gT_of ht2))
                      clear ht2
                      cases t2
                      · have HB := Lib.hid (bsS_2 (o := o) (P := l.map Cp.p) (T := T) (i := i) (k := (k : Int)) (s := (sb, sf, sd)) HTK.out)
                        go_wp2
                        go_roundw
                        case rel => exact ⟨(k : Int) + 1, sb, sf, sd, by omega, by omega, by go_num, rfl, rfl, rfl, (bsK_at (kz := (k : Int)) (by omega)).trans (by rw [HST.out, HB.out]), by omega, by omega, by omega, by omega, by omega, by omega, hupi⟩
                        case measure => simp [intOf]; omega
                      · have HOK := Lib.hid HTK.out
                        have hE := fun dd os => l22Differences_any yA A2 yrs rs yc c2 lo hi lo3 hi3 (grow (redrawn wr dd) os) (HIY.out.up (below_regrown _ _ _) hh) (Nat.le_trans hh (below_regrown _ _ _).size) (HR3.out.up (below_regrown _ _ _) hhi3) (Nat.le_trans hhi3 (below_regrown _ _ _).size) (by omega) (by omega)
                        rw [HDS.out] at hE
                        have cD : ∀ dd os, Calls Tryd.prog 55 #[.slice yA yrs.length yc, .slice A2 rs.length c2] (grow (redrawn wr dd) os) fun e w'' => e = .returned (.int .i64 ((dsN o (l.map Cp.p) (k : Int) (i : Int) : Nat) : Int)) ∧ ∃ p : Regrown, w'' = grow (redrawn wr p.d) p.os :=
                          fun dd os => Calls.regrown_of (hE dd os)
                        have cS : ∀ dd os, Calls Tryd.prog 54 #[.slice B o.length cb, .slice (some ⟨b2, off2, none⟩) l.length c, .int .i64 (k : Int)] (grow (redrawn wr dd) os) fun e w'' => e = .returned (.slice A2 rs.length c2) ∧ ∃ p : Regrown, w'' = grow (redrawn wr p.d) p.os :=
                          fun dd os => Calls.regrown_of ((HSR.out _ (below_regrown _ _ _)).mono fun _ _ ⟨h1, h2⟩ => ⟨h1, by rw [← h2]; exact Up.refl _⟩)
                        have Q1 := cell_regrown q1
                        clear hE
                        go_wp2_with fail
                        refine wp_region_quiet_below (by kernel_rfl) (by kernel_rfl) ?_
                        repeat (quiet_step (first | (go_at_call 54; exact cS _ _) | (go_at_call 55; exact cD _ _)))
                        refine wpQuiet_nil ?_
                        intro w7 hw7
                        obtain ⟨⟨dq, osq⟩, hw7⟩ := hw7
                        have hup7 : Up wr w7 := by rw [hw7]; exact below_regrown _ _ _
                        clear hw7 Q1 cD cS
                        by_cases hlt : sb < 0
                        · have HB := Lib.hid (bsS_3 (o := o) (P := l.map Cp.p) HTI.out HOK.out (s := (sb, sf, sd)) (Or.inl hlt))
                          go_wp2
                          go_roundw
                          case rel => exact ⟨((k : Int) + 1), _, _, _, by omega, by omega, by go_num, rfl, rfl, rfl, (bsK_at (kz := (k : Int)) (by omega)).trans (by rw [HST.out, HB.out]), by omega, by omega, by omega, by omega, by omega, by omega, hupi.trans hup7⟩
                          case measure => first | (simp [intOf]; done) | (simp [intOf]; omega)
                        · by_cases hdl : (dsN o (l.map Cp.p) (k : Int) (i : Int) : Int) < sd
                          · have HB := Lib.hid (bsS_3 (o := o) (P := l.map Cp.p) HTI.out HOK.out (s := (sb, sf, sd)) (Or.inr hdl))
                            go_wp2
                            go_roundw
                            case rel => exact ⟨((k : Int) + 1), _, _, _, by omega, by omega, by go_num, rfl, rfl, rfl, (bsK_at (kz := (k : Int)) (by omega)).trans (by rw [HST.out, HB.out]), by omega, by omega, by omega, by omega, by omega, by omega, hupi.trans hup7⟩
                            case measure => first | (simp [intOf]; done) | (simp [intOf]; omega)
                          · have HB := Lib.hid (bsS_4 (o := o) (P := l.map Cp.p) (T := T) (i := i) (k := (k : Int)) (s := (sb, sf, sd)) (by simp only; omega))
                            go_wp2
                            go_roundw
                            case rel => exact ⟨((k : Int) + 1), sb, sf, sd, by omega, by omega, by go_num, rfl, rfl, rfl, (bsK_at (kz := (k : Int)) (by omega)).trans (by rw [HST.out, HB.out]), by omega, by omega, by omega, by omega, by omega, by omega, hupi.trans hup7⟩
                            case measure => first | (simp [intOf]; done) | (simp [intOf]; omega)
                  · have HB := Lib.hid (bsS_1 (o := o) (P := l.map Cp.p) (T := T) (i := i) (k := kz) (s := (sb, sf, sd)) HTI.out)
                    go_wp2
                    go_roundw
                    case rel => exact ⟨kz + 1, sb, sf, sd, by omega, by omega, by go_num, rfl, rfl, rfl, (bsK_at (kz := kz) (by omega)).trans (by rw [HST.out, HB.out]), by omega, by omega, by omega, by omega, by omega, by omega, hupi⟩
                    case measure => simp [intOf]; omega
                · have HK2 := Lib.hid (show bsI o (l.map Cp.p) T l.length (i + 1) = (sb, sf, sd) by rw [bsI, HST0.out, ← HST.out]; congr 1; omega)
                  go_wp2
                  go_roundw
                  case rel => exact ⟨i + 1, sb, sf, sd, by omega, by go_num, rfl, rfl, rfl, HK2.out, hupo.trans hupi⟩
                  case measure => simp [intOf]; omega
            · have HIL := Lib.hid (show i = l.length by omega)
              have HSF := Lib.hid (show bsI o (l.map Cp.p) T l.length l.length = (sb0, sf0, sd0) by rw [← HST0.out, HIL.out])
              have hpos : 0 ≤ sb0 := by have h := HFIN.out.1; rw [HSF.out] at h; exact h
              have hrng := HSK.out.2.1
              obtain ⟨j, rfl⟩ : ∃ j : Nat, sb0 = (j : Int) := ⟨sb0.toNat, by omega⟩
              have hjl : j < l.length := by simp only at hrng; omega
              have hbw := HBS.out.up hupo
              have ht := HFIN.out.2.2
              rw [HSF.out] at ht
              have x0 := hbw.there hjl (by simpa using ht)
              obtain ⟨u0, y0⟩ := own_cell hbw.1 (p := j) (by omega)
              have f0 := hbw.1.frozenAt j
              have f1 := hbw.2.1.frozenAt j
              have hb1 := (hbw.put (j := j) sf0).puts (j := j)
              have hne : gp < gt := hbw.2.2.1
              have hgp1 := hbw.2.2.2
              have HBR2 := Lib.hid (show bsR o (l.map Cp.p) l.length (r + 1) = (Q.set j sf0, T.set j true) by rw [bsR, HBR.out]; simp only; rw [HSF.out]; rfl)
              clear ht hrng
              go_wp2
              go_roundw
              case rel => exact ⟨r + 1, _, _, by omega, by go_num, HBR2.out, hb1, ((hup2.trans hupo).setCell (by show w1.heap.size ≤ gp; rw [HGP.out]; exact Nat.le_refl _) _).setCell (by show w1.heap.size ≤ gt; rw [HGP.out]; omega) _⟩
              case measure => simp [intOf]; omega
        · have HR := Lib.hid (show r = l.length by omega)
          have hq : Q.length = l.length := HRK.out.q
          have hownq : wo.ownsRow gp 2 1 (.slice (some ⟨gp, 0, none⟩) Q.length l.length) Q.length (Q.flatMap intCells) := by rw [hq]; exact HBS.out.1
          have hrq := Rd.own int_len hownq
          have hup3 := hup.trans hup2
          have hC := l23Cost_any B o cb A l c (some ⟨gp, 0, none⟩) Q l.length lo hi lo' hi' gp wo.heap.size wo (hr'.up hup3 hhi') (Nat.le_trans hhi' hup3.size) (hr.up hup3 hhi) (Nat.le_trans hhi hup3.size) HF.out hrq (Nat.le_refl _) HA.out HO.out hq (by rw [hq]; exact HRK.out.p)
          rw [hq] at hC
          have HC := Lib.hid hC
          have HQ := Lib.hid (show (bsR o (l.map Cp.p) (l.map Cp.p).length (l.map Cp.p).length).1 = Q by rw [HLL.out]; have h := HBR.out; rw [HR.out] at h; rw [h])
          have HOWN := Lib.hid hownq
          have HQL := Lib.hid hq
          clear hq hownq hC
          go_wp2_with fail
          refine HC.out.mono ?_
          rintro e w7 ⟨rfl, hup7⟩
          go_wp2
          go_ret3
          exact ⟨_, ret_vII (by rw [HE.out.2, HQ.out, HLL.out]) HK.out.symm, by rw [HE.out.1, HQ.out]; exact own_base (own_up (by have h := HOWN.out; rw [HQL.out] at h ⊢; exact h) hup7) (by rw [← HGP.out]; exact hup.size), hup3.trans hup7⟩
end Go.Proofs.YtncmenfdnpmblaaDoor
