/- UselessCopies: the program's and the reference's walks. -/
import Derived.Test.YtdjhenjgccenhaaDoorCom
namespace Go.Proofs.YtdjhenjgccenhaaDoor
open Go.RowKit Go.Sort

/-- copy i errs more than copy q and may derive from it -/
def us1 (o : List Int) (P : List PC) (i q : Nat) : Bool := match P[i]?, P[q]? with
  | some x, some y => decide ((pl (dfB y.2 o) o.length).length < (pl (dfB x.2 o) o.length).length) && deB x.2 y.2 o
  | _, _ => false
def usN (o : List Int) (P : List PC) (i k : Nat) : Bool := (List.range k).any (us1 o P i)
def usB (o : List Int) (P : List PC) (i : Nat) : Bool := usN o P i P.length
theorem usN_succ (o : List Int) (P : List PC) (i k : Nat) : usN o P i (k + 1) = (usN o P i k || us1 o P i k) := by simp [usN, List.range_succ]
theorem us1_of {o : List Int} {P : List PC} {i q : Nat} {x y : PC} (hx : P[i]? = some x) (hy : P[q]? = some y) : us1 o P i q = (decide ((pl (dfB y.2 o) o.length).length < (pl (dfB x.2 o) o.length).length) && deB x.2 y.2 o) := by
  unfold us1; rw [hx, hy]
def ucC (o : List Int) (P : List PC) : Int := cdB (orB o P) P []
def ucL (o : List Int) (P : List PC) : List Int := if ucC o P = 0 then pl (usB o P) P.length else []

set_option maxRecDepth 100000 in
set_option maxHeartbeats 4000000 in
theorem specUseless_any (B : Option Addr) (o : List Int) (cb : Nat) (A : Option Addr) (l : List Cp) (c lo hi lo' hi' : Nat) (w : World) (hr' : RdI w lo' hi' B o) (hhi' : hi' ≤ w.heap.size) (hn' : o.length ≤ 2000000) (hr : RdC w lo hi A l) (hhi : hi ≤ w.heap.size) (hf : Fit l c) :
    Calls Tryd.prog 40 #[.slice B o.length cb, .slice A l.length c] w fun e w' => ∃ v, e = .returned (.tuple #[v, .int .i64 (ucC o (l.map Cp.p))]) ∧ w'.ownsRow w.heap.size 2 1 v (ucL o (l.map Cp.p)).length ((ucL o (l.map Cp.p)).flatMap intCells) ∧ Up w w' := by
  obtain ⟨i0, hi0, hz0, hz1, hz2⟩ := info_parts infoInt
  have HA := Lib.hid (specAre A l c lo hi w hr hhi hf)
  have HO := Lib.hid (fun (w1 : World) (hu : Up w w1) => l22Original_any B o cb A l c lo hi lo' hi' w1 (hr'.up hu hhi') hn' (hr.up hu hhi) hf)
  have hn := hf.2.2.1
  have hrs := hf.2.1
  clear hf
  rcases h1 : arB (l.map Cp.p) with _ | _
  · have HE : ucC o (l.map Cp.p) = 1 := cd_1 (by rw [h1]; rfl)
    have HL : ucL o (l.map Cp.p) = [] := by unfold ucL; rw [HE]; rfl
    rw [HE, HL]
    have H1 := Lib.hid h1
    clear HE HL
    go_enter Tryd.func40, Tryd.ntmps40
    go_wp2_with (go_at_call 16; refine HA.out.mono ?_; rintro e w1 ⟨rfl, hup⟩)
    go_ret2
    exact ⟨_, rfl, World.ownsRow_nil _ _ _ _, by assumption⟩
  · rcases h2 : orS o (l.map Cp.p) with _ | _
    · have HE : ucC o (l.map Cp.p) = 1 := cd_1 (by rw [← or_eq h1, h2]; simp)
      have HL : ucL o (l.map Cp.p) = [] := by unfold ucL; rw [HE]; rfl
      rw [HE, HL]
      have H1 := Lib.hid h1
      have H2 := Lib.hid h2
      clear HE HL
      go_enter Tryd.func40, Tryd.ntmps40
      go_wp2_with fail
      refine HA.out.mono ?_
      rintro e w1 ⟨rfl, hup⟩
      go_wp2_with fail
      refine (HO.out w1 hup).mono ?_
      rintro e w2 ⟨rfl, rfl⟩
      go_wp2
      go_ret2
      exact ⟨_, rfl, World.ownsRow_nil _ _ _ _, hup⟩
    · have hob : orB o (l.map Cp.p) = true := by rw [← or_eq h1]; exact h2
      have HE : ucC o (l.map Cp.p) = 0 := cd_0 (by rw [h1, hob]; rfl) (by simp)
      have HL : ucL o (l.map Cp.p) = pl (usB o (l.map Cp.p)) l.length := by unfold ucL; rw [HE]; simp
      rw [HE, HL]
      have H1 := Lib.hid h1
      have H2 := Lib.hid h2
      have HOB := Lib.hid hob
      clear HE HL hob
      go_enter Tryd.func40, Tryd.ntmps40
      go_wp2_with fail
      refine HA.out.mono ?_
      rintro e w1 ⟨rfl, hup⟩
      go_wp2_with fail
      refine (HO.out w1 hup).mono ?_
      rintro e w2 ⟨rfl, rfl⟩
      go_wp2
      clear h1 h2
      have hown0 := World.ownsRow_lit (base := w1.heap.size) (e := 2) (size := 1) w1 #[] 0 (Nat.le_refl _) (by simp [maxLen]) rfl
      have hup0 := (Up.refl w1).allocs (.cells #[] 2)
      obtain ⟨v0, hv0⟩ : ∃ v, v = Value.slice (some ⟨w1.heap.size, 0, none⟩) 0 0 := ⟨_, rfl⟩
      rw [← hv0] at hown0 ⊢
      generalize w1.alloc (.cells #[] 2) = w2 at *
      clear hv0
      go_loopw [6, 7, 8, 9, 10] (fun out i u8 u9 u10 wr => ∃ k : Nat, k ≤ l.length ∧ i = .int .i64 k ∧ wr.ownsRow w1.heap.size 2 1 out (pl (usB o (l.map Cp.p)) k).length ((pl (usB o (l.map Cp.p)) k).flatMap intCells) ∧ Up w1 wr) (fun _ i _ _ _ _ => l.length - (intOf i).toNat)
      case atStart => exact ⟨0, Nat.zero_le _, rfl, hown0, hup0⟩
      case round =>
        obtain ⟨i, hi_, rfl, hown, hupr⟩ := hrel
        by_cases hlt : i < l.length
        · have hpl := pl_len (usB o (l.map Cp.p)) i
          go_wp2_with fail
          go_loopw [8, 9, 10] (fun u8 k u10 wi => ∃ q : Nat, q ≤ l.length ∧ k = .int .i64 q ∧ u8 = .bool (usN o (l.map Cp.p) i q) ∧ Up wr wi) (fun _ k _ _ => l.length - (intOf k).toNat)
          case atStart => exact ⟨0, Nat.zero_le _, rfl, by simp [usN], Up.refl _⟩
          case round =>
            obtain ⟨q, hq, rfl, rfl, hupi⟩ := hrel
            by_cases hltq : q < l.length
            · obtain ⟨b, off, x, rfl, -, -, hx, ix, p0, p1⟩ := (hr.up (hup.trans (hupr.trans hupi)) hhi).at_ hlt
              obtain ⟨b', off', y, he, -, -, hy, iy, q0, q1⟩ := (hr.up (hup.trans (hupr.trans hupi)) hhi).at_ hltq
              cases he
              have hox := orB_inv H1.out HOB.out (getp hx)
              have hoy := (orB_inv H1.out HOB.out (getp hy)).1
              have HU := Lib.hid (us1_of (o := o) (getp hx) (getp hy))
              have HX := hrs x (List.mem_of_getElem? hx)
              have HY := hrs y (List.mem_of_getElem? hy)
              obtain ⟨xn, xA, xc, xrs⟩ := x
              obtain ⟨yn, yA, yc, yrs⟩ := y
              simp only [Cp.p] at HU HX HY ix iy p0 p1 q0 q1 hox hoy
              have hwu := hup.trans (hupr.trans hupi)
              have hh := Nat.le_trans hhi hwu.size
              have hh' := Nat.le_trans hhi' hwu.size
              have HOX := Lib.hid hox.1
              have HOY := Lib.hid hoy
              have HAL := Lib.hid hox.2
              have HIX := Lib.hid ix
              have HIY := Lib.hid iy
              have hd : Up wr wr.drew := (Up.refl _).drew
              have HQX := Lib.hid (fun (w5 : World) (h5 : Up wr w5) => l22Errors_any xA B xn xrs o xc cb lo hi lo' hi' w5 (HIX.out.up h5 hh) (Nat.le_trans hh h5.size) (hr'.up (hwu.trans h5) hhi') (Nat.le_trans hh' h5.size) (by have h := HOX.out; omega) HX HAL.out)
              have HQY := Lib.hid (fun (w5 : World) (h5 : Up wr w5) => l22Errors_any yA B yn yrs o yc cb lo hi lo' hi' w5 (HIY.out.up h5 hh) (Nat.le_trans hh h5.size) (hr'.up (hwu.trans h5) hhi') (Nat.le_trans hh' h5.size) (by have h := HOY.out; omega) HY HAL.out)
              have hlx := pl_len (dfB xrs o) o.length
              have hly := pl_len (dfB yrs o) o.length
              clear hx hy ix iy hox hoy
              go_wp2_with fail
              go_region_held3 (fun w' => Up wr w' ∧ w'.cell? ⟨b, off + i * 2, none⟩ = some (.string xn) ∧ w'.cell? ⟨b, off + i * 2 + 1, none⟩ = some (.slice xA xrs.length xc) ∧ w'.cell? ⟨b, off + q * 2, none⟩ = some (.string yn) ∧ w'.cell? ⟨b, off + q * 2 + 1, none⟩ = some (.slice yA yrs.length yc))
                (first | exact ⟨Up.refl _, p0, p1, q0, q1⟩ | exact ⟨hd, p0, p1, q0, q1⟩ | exact ⟨by assumption, by assumption, by assumption, by assumption, by assumption⟩)
                (first
                  | (go_at_call 75
                     with_reducible refine (HQX.out _ (by assumption)).mono ?_
                     rintro e w5 ⟨v, rfl, ho, hup5⟩
                     obtain ⟨A5, c5, rfl, -, -, -, -⟩ := own_form ho
                     clear ho
                     have hS := Up.trans (by assumption) hup5
                     have g1 := hS.cell p0
                     have g2 := hS.cell p1
                     have g3 := hS.cell q0
                     have g4 := hS.cell q1)
                  | (go_at_call 75
                     with_reducible refine (HQY.out _ (by assumption)).mono ?_
                     rintro e w5 ⟨v, rfl, ho, hup5⟩
                     obtain ⟨A6, c6, rfl, -, -, -, -⟩ := own_form ho
                     clear ho
                     have hT := Up.trans (by assumption) hup5
                     have t1 := hT.cell p0
                     have t2 := hT.cell p1
                     have t3 := hT.cell q0
                     have t4 := hT.cell q1))
              have h6 : Up wr w5 := hS
              have P0 := cell_regrown g1
              have P1 := cell_regrown g2
              have Q0 := cell_regrown g3
              have Q1 := cell_regrown g4
              have hh5 := Nat.le_trans hh h6.size
              have hh5' := Nat.le_trans hh' h6.size
              have cD : ∀ dd os, Calls Tryd.prog 70 #[.slice B o.length cb, .agg #[.string xn, .slice xA xrs.length xc], .agg #[.string yn, .slice yA yrs.length yc]] (grow (redrawn w5 dd) os) fun e w'' => e = .returned (.bool (deB xrs yrs o)) ∧ ∃ p : Regrown, w'' = grow (redrawn w5 p.d) p.os :=
                fun dd os => Calls.regrown_of (l22Derives_any xA yA B xn yn xrs yrs o xc yc cb lo hi lo hi lo' hi' _ ((HIX.out.up h6 hh).up (below_regrown _ _ _) hh5) (Nat.le_trans hh5 (below_regrown _ _ _).size) ((HIY.out.up h6 hh).up (below_regrown _ _ _) hh5) (Nat.le_trans hh5 (below_regrown _ _ _).size) ((hr'.up (hwu.trans h6) hhi').up (below_regrown _ _ _) hh5') (Nat.le_trans hh5' (below_regrown _ _ _).size) (by rw [HOX.out]; exact Nat.le_refl _) (by rw [HOY.out]; exact Nat.le_refl _) HY HX HAL.out)
              clear HQX HQY g1 g2 g3 g4 t1 t2 t3 t4 p0 p1 q0 q1
              rcases hu8 : usN o (l.map Cp.p) i q with _ | _
              · have HU8 := Lib.hid hu8
                clear hu8
                by_cases hlt5 : (pl (dfB yrs o) o.length).length < (pl (dfB xrs o) o.length).length
                · have hl5 : decide ((pl (dfB yrs o) o.length).length < (pl (dfB xrs o) o.length).length) = true := by simpa using hlt5
                  rw [hl5]
                  have HLP := Lib.hid hlt5
                  clear hl5 hlt5
                  go_wp2_with fail
                  refine wp_region_quiet_below (by kernel_rfl) (by kernel_rfl) ?_
                  repeat (first | go_big_quiet_step ((go_at_call 70; exact cD _ _)) | quiet_step ((go_at_call 70; exact cD _ _)))
                  refine wpQuiet_nil ?_
                  intro w7 hw7
                  obtain ⟨⟨dq, osq⟩, hw7⟩ := hw7
                  have hup7 : Up w5 w7 := by rw [hw7]; exact below_regrown _ _ _
                  clear hw7 P0 P1 Q0 Q1 cD
                  go_wp2
                  go_roundw
                  case rel => exact ⟨q + 1, by omega, by go_num, by rw [usN_succ, HU.out, HU8.out]; simp [HLP.out], hupi.trans (h6.trans hup7)⟩
                  case measure => simp [intOf]; omega
                · have hl5 : decide ((pl (dfB yrs o) o.length).length < (pl (dfB xrs o) o.length).length) = false := by simpa using hlt5
                  rw [hl5]
                  have HLP := Lib.hid hlt5
                  clear hl5 hlt5
                  go_wp2_with fail
                  refine wp_region_quiet_below (by kernel_rfl) (by kernel_rfl) ?_
                  repeat (first | go_big_quiet_step ((go_at_call 70; exact cD _ _)) | quiet_step ((go_at_call 70; exact cD _ _)))
                  refine wpQuiet_nil ?_
                  intro w7 hw7
                  obtain ⟨⟨dq, osq⟩, hw7⟩ := hw7
                  have hup7 : Up w5 w7 := by rw [hw7]; exact below_regrown _ _ _
                  clear hw7 P0 P1 Q0 Q1 cD
                  go_wp2
                  go_roundw
                  case rel => exact ⟨q + 1, by omega, by go_num, by rw [usN_succ, HU.out, HU8.out]; simp [HLP.out], hupi.trans (h6.trans hup7)⟩
                  case measure => simp [intOf]; omega
              · have HU8 := Lib.hid hu8
                clear hu8
                generalize decide ((pl (dfB yrs o) o.length).length < (pl (dfB xrs o) o.length).length) = bl at *
                go_wp2_with fail
                refine wp_region_quiet_below (by kernel_rfl) (by kernel_rfl) ?_
                repeat (first | go_big_quiet_step ((go_at_call 70; exact cD _ _)) | quiet_step ((go_at_call 70; exact cD _ _)))
                refine wpQuiet_nil ?_
                intro w7 hw7
                obtain ⟨⟨dq, osq⟩, hw7⟩ := hw7
                have hup7 : Up w5 w7 := by rw [hw7]; exact below_regrown _ _ _
                clear hw7 P0 P1 Q0 Q1 cD
                go_wp2
                go_roundw
                case rel => exact ⟨q + 1, by omega, by go_num, by rw [usN_succ, HU.out, HU8.out]; simp, hupi.trans (h6.trans hup7)⟩
                case measure => simp [intOf]; omega
            · have e : q = l.length := by omega
              subst e
              have HUB : usN o (l.map Cp.p) i l.length = usB o (l.map Cp.p) i := by unfold usB; simp
              rw [HUB]
              have hown3 := own_up hown hupi
              have hupx := hupr.trans hupi
              clear HUB hown
              rcases hb : usB o (l.map Cp.p) i with _ | _
              · have HB := Lib.hid hb
                clear hb
                go_wp2
                go_roundw
                case rel => exact ⟨i + 1, by omega, by go_num, by rw [pl_no HB.out]; exact hown3, hupx⟩
                case measure => simp [intOf]; omega
              · have HB := Lib.hid hb
                clear hb
                have n1 : (pl (usB o (l.map Cp.p)) i).length + 1 ≤ maxLen := by unfold maxLen; omega
                have n2 : ((pl (usB o (l.map Cp.p)) i).length + 1) * 8 ≤ 140737488355328 := by omega
                have n3 : w1.heap.size ≤ (wr.alloc (.cells #[.int .i64 (i : Int)] 2)).heap.size := (hupx.allocs _).size
                go_wp2_with ((at_builtin; refine wpList_append_own _ rfl _ _ 32 rfl w1.heap.size 2 i0 _ 1 8 Tryd.underlying32 hi0 hz0 hz1 hz2 rfl (by decide) _ _ _ rfl (hown3.alloc _) ⟨wr.heap.size, 0, none⟩ 1 1 [.int .i64 (i : Int)] rfl rfl (cell_one_new _ _ _) (by simp [Value.oneCell']) n1 n2 n3 ?_))
                intro v' w4 hown' hgrow _
                have ho := pl_step HB.out hown'
                have hu := (hupx.allocs (.cells #[.int .i64 (i : Int)] 2)).grown hgrow (fun k hk => (hown3.lt k hk).1)
                clear hown' hgrow
                go_wp2
                go_roundw
                case rel => exact ⟨i + 1, by omega, by go_num, ho, hu⟩
                case measure => simp [intOf]; omega
        · have e : i = l.length := by omega
          subst e
          go_wp2
          go_ret2
          exact ⟨_, rfl, own_base hown hup.size, hup.trans hupr⟩
end Go.Proofs.YtdjhenjgccenhaaDoor
