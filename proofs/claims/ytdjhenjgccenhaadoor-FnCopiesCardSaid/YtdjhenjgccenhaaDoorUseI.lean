/- UselessCopies: the program's walk (turned out of the reference side). -/
import Derived.Test.YtdjhenjgccenhaaDoorUse
namespace Go.Proofs.YtdjhenjgccenhaaDoor
open Go.RowKit Go.Sort

set_option maxRecDepth 100000 in
set_option maxHeartbeats 4000000 in
theorem implUseless_any (B : Option Addr) (o : List Int) (cb : Nat) (A : Option Addr) (l : List Cp) (c lo hi lo' hi' : Nat) (w : World) (hr' : RdI w lo' hi' B o) (hhi' : hi' ≤ w.heap.size) (hn' : o.length ≤ 2000000) (hr : RdC w lo hi A l) (hhi : hi ≤ w.heap.size) (hf : Fit l c) :
    Calls Tryd.prog 41 #[.slice B o.length cb, .slice A l.length c] w fun e w' => ∃ v, e = .returned (.tuple #[v, .int .i64 (ucC o (l.map Cp.p))]) ∧ w'.ownsRow w.heap.size 2 1 v (ucL o (l.map Cp.p)).length ((ucL o (l.map Cp.p)).flatMap intCells) ∧ Up w w' := by
  obtain ⟨i0, hi0, hz0, hz1, hz2⟩ := info_parts infoInt
  have HC := Lib.hid (checkText_any B o cb A none l [] c 0 lo hi lo' hi' 0 0 w hr' hhi' hn' hr hhi hf (fun h => absurd rfl h) (Nat.zero_le _) (by simp))
  have hn := hf.2.2.1
  have hrs := hf.2.1
  have hfit := Lib.hid hf
  clear hf
  by_cases h0 : ucC o (l.map Cp.p) = 0
  case neg =>
    have h0' : (cdB (orB o (l.map Cp.p)) (l.map Cp.p) [] != 0) = true := by simpa [ucC] using h0
    have HL : ucL o (l.map Cp.p) = [] := by unfold ucL; rw [if_neg h0]
    rw [HL]
    clear HL h0
    go_enter Tryd.func41, Tryd.ntmps41
    go_wp2_with (go_at_call 71; refine HC.out.mono ?_; rintro e w1 ⟨rfl, hup⟩)
    go_ret2
    exact ⟨_, rfl, World.ownsRow_nil _ _ _ _, by assumption⟩
  case pos =>
      have h0' : (cdB (orB o (l.map Cp.p)) (l.map Cp.p) [] != 0) = false := by simpa [ucC] using h0
      obtain ⟨hA, hO, -⟩ := cd_inv (show cdB (orB o (l.map Cp.p)) (l.map Cp.p) [] = 0 from h0)
      have HL : ucL o (l.map Cp.p) = pl (usB o (l.map Cp.p)) l.length := by unfold ucL; rw [if_pos h0]; simp
      rw [HL, h0]
      have H0 := Lib.hid h0
      have H1 := Lib.hid hA
      have HOB := Lib.hid hO
      clear HL h0 hA hO
      go_enter Tryd.func41, Tryd.ntmps41
      go_wp2_with fail
      refine HC.out.mono ?_
      rintro e w1 ⟨rfl, hup⟩
      go_wp2
      clear h0'
      have hown0 := World.ownsRow_lit (base := w1.heap.size) (e := 2) (size := 1) w1 #[] 0 (Nat.le_refl _) (by simp [maxLen]) rfl
      have hup0 := (Up.refl w1).allocs (.cells #[] 2)
      obtain ⟨v0, hv0⟩ : ∃ v, v = Value.slice (some ⟨w1.heap.size, 0, none⟩) 0 0 := ⟨_, rfl⟩
      rw [← hv0] at hown0 ⊢
      generalize w1.alloc (.cells #[] 2) = w2 at *
      clear hv0
      go_loopw [7, 8, 9, 10, 11, 21, 26] (fun out _ _ _ _ i _ wr => ∃ k : Nat, k ≤ l.length ∧ i = .int .i64 k ∧ wr.ownsRow w1.heap.size 2 1 out (pl (usB o (l.map Cp.p)) k).length ((pl (usB o (l.map Cp.p)) k).flatMap intCells) ∧ Up w1 wr) (fun _ _ _ _ _ i _ _ => l.length - (intOf i).toNat)
      case atStart => exact ⟨0, Nat.zero_le _, rfl, hown0, hup0⟩
      case round =>
        obtain ⟨i, hi_, rfl, hown, hupr⟩ := hrel
        by_cases hlt : i < l.length
        · have hpl := pl_len (usB o (l.map Cp.p)) i
          go_wp2_with fail
          go_loopw [9, 10, 11, 26] (fun u8 _ _ k wi => ∃ q : Nat, q ≤ l.length ∧ k = .int .i64 q ∧ u8 = .bool (usN o (l.map Cp.p) i q) ∧ Up wr wi) (fun _ _ _ k _ => l.length - (intOf k).toNat)
          case atStart => exact ⟨0, Nat.zero_le _, rfl, by simp [usN], Up.refl _⟩
          case round =>
            obtain ⟨q, hq, rfl, rfl, hupi⟩ := hrel
            by_cases hltq : q < l.length
            · obtain ⟨b, off, x, rfl, -, -, hx, ix, p0, p1⟩ := (hr.up (hup.trans (hupr.trans hupi)) hhi).at_ hlt
              obtain ⟨b', off', y, he, -, -, hy, iy, q0, q1⟩ := (hr.up (hup.trans (hupr.trans hupi)) hhi).at_ hltq
              cases he
              have hox := orB_inv H1.out HOB.out (getp hx)
              have hoy := (orB_inv H1.out HOB.out (getp hy)).1
              have HU := Lib.hid (us1_of (o := o) (getp hx) (getp hy))
              have HGX := Lib.hid hx
              have HGY := Lib.hid hy
              have HX := hrs x (List.mem_of_getElem? hx)
              have HY := hrs y (List.mem_of_getElem? hy)
              obtain ⟨xn, xA, xc, xrs⟩ := x
              obtain ⟨yn, yA, yc, yrs⟩ := y
              simp only [Cp.p] at HU HX HY ix iy p0 p1 q0 q1 hox hoy
              have hwu := hup.trans (hupr.trans hupi)
              have hh := Nat.le_trans hhi hwu.size
              have hh' := Nat.le_trans hhi' hwu.size
              have HOX := Lib.hid hox.1
              have HOY := Lib.hid hoy
              have HAL := Lib.hid hox.2
              have HIX := Lib.hid ix
              have HIY := Lib.hid iy
              have hd : Up wr wr.drew := (Up.refl _).drew
              have HQX := Lib.hid (fun (w5 : World) (h5 : Up wr w5) => errorsOf_any xA B xn xrs o xc cb lo hi lo' hi' w5 (HIX.out.up h5 hh) (Nat.le_trans hh h5.size) (hr'.up (hwu.trans h5) hhi') (Nat.le_trans hh' h5.size) (by have h := HOX.out; omega) HX)
              have HQY := Lib.hid (fun (w5 : World) (h5 : Up wr w5) => errorsOf_any yA B yn yrs o yc cb lo hi lo' hi' w5 (HIY.out.up h5 hh) (Nat.le_trans hh h5.size) (hr'.up (hwu.trans h5) hhi') (Nat.le_trans hh' h5.size) (by have h := HOY.out; omega) HY)
              have hlx := pl_len (dfB xrs o) o.length
              have hly := pl_len (dfB yrs o) o.length
              clear hx hy ix iy hox hoy
              go_wp2_with fail
              go_region_held3 (fun w' => Up wr w' ∧ w'.cell? ⟨b, off + i * 2, none⟩ = some (.string xn) ∧ w'.cell? ⟨b, off + i * 2 + 1, none⟩ = some (.slice xA xrs.length xc) ∧ w'.cell? ⟨b, off + q * 2, none⟩ = some (.string yn) ∧ w'.cell? ⟨b, off + q * 2 + 1, none⟩ = some (.slice yA yrs.length yc))
                (first | exact ⟨Up.refl _, p0, p1, q0, q1⟩ | exact ⟨hd, p0, p1, q0, q1⟩ | exact ⟨by assumption, by assumption, by assumption, by assumption, by assumption⟩)
                (first
                  | (go_at_call 76
                     with_reducible refine (HQX.out _ (by assumption)).mono ?_
                     rintro e w5 ⟨v, rfl, ho, hup5⟩
                     obtain ⟨A5, c5, rfl, -, -, -, -⟩ := own_form ho
                     clear ho
                     have hS := Up.trans (by assumption) hup5
                     have g1 := hS.cell p0
                     have g2 := hS.cell p1
                     have g3 := hS.cell q0
                     have g4 := hS.cell q1)
                  | (go_at_call 76
                     with_reducible refine (HQY.out _ (by assumption)).mono ?_
                     rintro e w5 ⟨v, rfl, ho, hup5⟩
                     obtain ⟨A6, c6, rfl, -, -, -, -⟩ := own_form ho
                     clear ho
                     have hT := Up.trans (by assumption) hup5
                     have t1 := hT.cell p0
                     have t2 := hT.cell p1
                     have t3 := hT.cell q0
                     have t4 := hT.cell q1))
              have h6 : Up wr w5 := hS
              have HM := Lib.hid (mayDerive_any (some ⟨b, off, none⟩) B l o _ _ c cb lo hi lo' hi' i q w5 (hr.up (hwu.trans h6) hhi) (Nat.le_trans hh h6.size) hfit.out (hr'.up (hwu.trans h6) hhi') (Nat.le_trans hh' h6.size) hlt hltq HGX.out HGY.out (by have h := HOX.out; simp only; omega) (by have h := HOY.out; simp only; omega))
              clear HQX HQY g1 g2 g3 g4 t1 t2 t3 t4 p0 p1 q0 q1
              rcases hu8 : usN o (l.map Cp.p) i q with _ | _
              · have HU8 := Lib.hid hu8
                clear hu8
                by_cases hlt5 : (pl (dfB yrs o) o.length).length < (pl (dfB xrs o) o.length).length
                · have hl5 : decide ((pl (dfB yrs o) o.length).length < (pl (dfB xrs o) o.length).length) = true := by simpa using hlt5
                  rw [hl5]
                  have HLP := Lib.hid hlt5
                  clear hl5 hlt5
                  have hne : i ≠ q := by intro h; subst h; have h1 := HGX.out; have h2 := HGY.out; rw [h1] at h2; cases h2; exact absurd HLP.out (Nat.lt_irrefl _)
                  have HNE := Lib.hid hne
                  clear hne
                  go_wp2_with fail
                  refine HM.out.mono ?_
                  rintro e w7 ⟨rfl, hup7⟩
                  go_wp2
                  go_roundw
                  case rel => exact ⟨q + 1, by omega, by go_num, by rw [usN_succ, HU.out, HU8.out]; simp [HLP.out, HNE.out], hupi.trans (h6.trans hup7)⟩
                  case measure => simp [intOf]; omega
                · have hl5 : decide ((pl (dfB yrs o) o.length).length < (pl (dfB xrs o) o.length).length) = false := by simpa using hlt5
                  rw [hl5]
                  have HLP := Lib.hid hlt5
                  clear hl5 hlt5
                  have hup7 : Up w5 w5 := Up.refl _
                  go_wp2
                  go_roundw
                  case rel => exact ⟨q + 1, by omega, by go_num, by rw [usN_succ, HU.out, HU8.out]; simp [HLP.out], hupi.trans (h6.trans hup7)⟩
                  case measure => simp [intOf]; omega
              · have HU8 := Lib.hid hu8
                clear hu8
                generalize decide ((pl (dfB yrs o) o.length).length < (pl (dfB xrs o) o.length).length) = bl at *
                have hup7 : Up w5 w5 := Up.refl _
                go_wp2
                go_roundw
                case rel => exact ⟨q + 1, by omega, by go_num, by rw [usN_succ, HU.out, HU8.out]; simp, hupi.trans (h6.trans hup7)⟩
                case measure => simp [intOf]; omega
            · have e : q = l.length := by omega
              subst e
              have HUB : usN o (l.map Cp.p) i l.length = usB o (l.map Cp.p) i := by unfold usB; simp
              rw [HUB]
              have hown3 := own_up hown hupi
              have hupx := hupr.trans hupi
              clear HUB hown
              rcases hb : usB o (l.map Cp.p) i with _ | _
              · have HB := Lib.hid hb
                clear hb
                go_wp2
                go_roundw
                case rel => exact ⟨i + 1, by omega, by go_num, by rw [pl_no HB.out]; exact hown3, hupx⟩
                case measure => simp [intOf]; omega
              · have HB := Lib.hid hb
                clear hb
                have n1 : (pl (usB o (l.map Cp.p)) i).length + 1 ≤ maxLen := by unfold maxLen; omega
                have n2 : ((pl (usB o (l.map Cp.p)) i).length + 1) * 8 ≤ 140737488355328 := by omega
                have n3 : w1.heap.size ≤ (wr.alloc (.cells #[.int .i64 (i : Int)] 2)).heap.size := (hupx.allocs _).size
                go_wp2_with ((at_builtin; refine wpList_append_own _ rfl _ _ 32 rfl w1.heap.size 2 i0 _ 1 8 Tryd.underlying32 hi0 hz0 hz1 hz2 rfl (by decide) _ _ _ rfl (hown3.alloc _) ⟨wr.heap.size, 0, none⟩ 1 1 [.int .i64 (i : Int)] rfl rfl (cell_one_new _ _ _) (by simp [Value.oneCell']) n1 n2 n3 ?_))
                intro v' w4 hown' hgrow _
                have ho := pl_step HB.out hown'
                have hu := (hupx.allocs (.cells #[.int .i64 (i : Int)] 2)).grown hgrow (fun k hk => (hown3.lt k hk).1)
                clear hown' hgrow
                go_wp2
                go_roundw
                case rel => exact ⟨i + 1, by omega, by go_num, ho, hu⟩
                case measure => simp [intOf]; omega
        · have e : i = l.length := by omega
          subst e
          go_wp2
          go_ret2
          exact ⟨_, rfl, own_base hown hup.size, hup.trans hupr⟩
theorem uc_len (o : List Int) (P : List PC) : (ucL o P).length ≤ P.length := by
  unfold ucL
  split
  · exact pl_len _ _
  · simp
end Go.Proofs.YtdjhenjgccenhaaDoor
