/- RecoverLog by the reference. -/
import Derived.Test.YtngananoidplmaaGreatDoorReadD
import Derived.Test.YtngananoidplmaaGreatDoorDrawL
import Derived.Test.YtngananoidplmaaGreatDoorDecide
namespace Go.Proofs.YtngananoidplmaaGreatDoor
open Go.RowKit Go.Sort

theorem dS_at {l a b c : ByteArray} (h0 : (spL 32 l)[0]? = some a) (h1 : (spL 32 l)[1]? = some b) (h2 : (spL 32 l)[2]? = some c) (n : Int) (hn : n = if (spL 32 l).length = 5 then (dgV ((spL 32 l).getD 3 zB) : Int) else 0) :
    dS l = ⟨a, kdX b, n, c⟩ := by
  unfold dS
  simp only [List.getD_eq_getElem?_getD, h0, h1, h2, Option.getD_some] at hn ⊢
  rw [hn]
theorem okS_w {out : List Dec} {c : Nat} {l : ByteArray} (h : (spL 32 l).length < 4 ∨ 5 < (spL 32 l).length) : okS out c l = false := by
  unfold okS
  have : (decide (4 ≤ (spL 32 l).length) && decide ((spL 32 l).length ≤ 5)) = false := by
    rw [Bool.and_eq_false_iff]; simp; omega
  rw [this]; rfl
theorem okS_d {out : List Dec} {c : Nat} {l : ByteArray} (h : decB (dS l) = false) : okS out c l = false := by unfold okS; rw [h]; simp
theorem okS_m {out : List Dec} {c : Nat} {l : ByteArray} (h : mayB out (dS l) = false) : okS out c l = false := by unfold okS; rw [h]; simp
theorem okS_l {out : List Dec} {c : Nat} {l : ByteArray} (h : ((lnD (ckD c (dS l)) (dS l)).toList == l.toList) = false) : okS out c l = false := by unfold okS; rw [h]; simp
theorem okS_y {out : List Dec} {c : Nat} {l : ByteArray} (h4 : 4 ≤ (spL 32 l).length) (h5 : (spL 32 l).length ≤ 5) (h1 : decB (dS l) = true) (h2 : mayB out (dS l) = true) (h3 : ((lnD (ckD c (dS l)) (dS l)).toList == l.toList) = true) : okS out c l = true := by
  unfold okS; rw [h1, h2, h3]; simp [h4, h5]
theorem drop_last {Ls : List ByteArray} {k : Nat} {l : ByteArray} (hk : k + 1 < Ls.length) (hl : Ls[k]? = some l) : Ls.dropLast.drop k = l :: Ls.dropLast.drop (k + 1) := by
  have h1 : k < Ls.dropLast.length := by rw [List.length_dropLast]; omega
  rw [List.drop_eq_getElem_cons h1, List.getElem_dropLast]
  rw [(List.getElem?_eq_some_iff.1 hl).2]
theorem spL_ne (c : UInt8) (s : ByteArray) : 1 ≤ (spL c s).length := by
  unfold spL
  rw [List.length_map]
  rcases h : seg c [] s.data.toList with _ | ⟨x, r⟩
  · have : ∀ (l cur : List UInt8), seg c cur l ≠ [] := by
      intro l
      induction l with
      | nil => intro cur; simp [seg]
      | cons b r ih =>
        intro cur; rw [seg]; split
        · simp
        · exact ih _
    exact absurd h (this _ _)
  · simp
/-- the recovered list, as its pieces stand at a round -/
def RvI (s : ByteArray) (k : Nat) (out : List Dec) (m : Nat) : Prop := recR ((spL 10 s).dropLast.drop k) out m = rvL s ∧ m < 99989
theorem rv_end {s : ByteArray} {k m : Nat} {out : List Dec} (h : RvI s k out m) (hk : (spL 10 s).length ≤ k + 1) : rvL s = out := by
  have e : (spL 10 s).dropLast.drop k = [] := List.drop_eq_nil_of_le (by rw [List.length_dropLast]; omega)
  rw [← h.1, e]; rfl
theorem rv_80 {s : ByteArray} {k m : Nat} {out : List Dec} (h : RvI s k out m) (hk : ¬ out.length < 80) : rvL s = out := by
  rw [← h.1]
  rcases (spL 10 s).dropLast.drop k with _ | ⟨l, ls⟩
  · rfl
  · exact recR_no (fun h2 => hk h2.1)
theorem rv_stop {s l : ByteArray} {k m : Nat} {out : List Dec} (h : RvI s k out m) (hk : k + 1 < (spL 10 s).length) (hl : (spL 10 s)[k]? = some l) (ho : okS out m l = false) : rvL s = out := by
  rw [← h.1, drop_last hk hl]
  exact recR_no (fun h2 => by rw [ho] at h2; exact absurd h2.2 (by simp))
theorem rv_go {s l : ByteArray} {k m : Nat} {out : List Dec} (h : RvI s k out m) (hk : k + 1 < (spL 10 s).length) (hl : (spL 10 s)[k]? = some l) (h80 : out.length < 80) (ho : okS out m l = true) : RvI s (k + 1) (out ++ [dS l]) (ckD m (dS l)) := by
  refine ⟨?_, ckN_lt _ _ _ _⟩
  rw [← h.1, drop_last hk hl, recR_yes h80 ho]
theorem ret_vR {v : Value} {a b : Int} (h : a = b) : Ending.returned (.tuple #[v, .int .i64 a]) = .returned (.tuple #[v, .int .i64 b]) := by rw [h]

set_option maxRecDepth 100000 in
set_option maxHeartbeats 8000000 in
theorem specRecover_any (s : ByteArray) (w : World) (hs : s.size ≤ 1048576) :
    Calls Tryz.prog 5 #[.string s] w fun e w' => ∃ v, e = .returned (.tuple #[v, .int .i64 (rvC s)]) ∧ w'.ownsRow w.heap.size 43 4 v (rvL s).length ((rvL s).flatMap Dec.cells) ∧ Up w w' := by
  obtain ⟨i0, hi0, hz0, hz1, hz2⟩ := info_parts infoDec
  have hzm : (Value.agg #[.string ByteArray.empty, .int .i64 0, .int .i64 0, .string ByteArray.empty]).cells.size = 4 := rfl
  by_cases h5 : s.size ≤ 5000
  case neg =>
    have HV := Lib.hid (show rvC s = 3 ∧ rvL s = [] by unfold rvC rvL; rw [if_neg h5, if_neg h5]; exact ⟨rfl, rfl⟩)
    have hd : decide ((5000 : Int) < (s.size : Int)) = true := by simp; omega
    clear h5
    go_enter Tryz.func5, Tryz.ntmps5
    go_wp2
    go_ret2
    exact ⟨_, ret_vR HV.out.1.symm, by rw [HV.out.2]; exact World.ownsRow_nil _ _ _ _, Up.refl _⟩
  case pos =>
    have HV := Lib.hid (show rvC s = 0 ∧ rvL s = recR (spL 10 s).dropLast [] 0 by unfold rvC rvL; rw [if_pos h5, if_pos h5]; exact ⟨rfl, rfl⟩)
    have hd : decide ((5000 : Int) < (s.size : Int)) = false := by simp; omega
    have HC := l01Split_any s 10 w (by omega)
    simp only [show ((10 : UInt8).toNat : Int) = 10 from rfl] at HC
    have HCC := Lib.hid HC
    have hll := spL_len 10 s
    have hln := spL_ne 10 s
    clear HC
    go_enter Tryz.func5, Tryz.ntmps5
    go_wp2_with fail
    refine HCC.out.mono ?_
    rintro e w1 ⟨v, rfl, ol, u1⟩
    have HI := Lib.hid (show ∀ k, k < (spL 10 s).length → ∃ x, (spL 10 s)[k]? = some x ∧ x.size ≤ 5000 from fun k hk => ⟨_, List.getElem?_eq_getElem hk, Nat.le_trans (spL_size (List.getElem_mem hk)) h5⟩)
    obtain ⟨Ls, hLs⟩ : ∃ x, x = spL 10 s := ⟨_, rfl⟩
    rw [← hLs] at ol hll hln HI
    have HLS := Lib.hid hLs
    clear hLs
    obtain ⟨AL, cL, rfl, -, -, hAL, -⟩ := own_form ol
    obtain ⟨gL, rfl, -, hgL⟩ := hAL (by omega)
    have HRL := Lib.hid (Rd.own strC_len ol)
    clear ol hAL HCC
    go_wp2
    have hown0 := World.ownsRow_lit (base := w1.heap.size) (e := 43) (size := 4) w1 #[] 0 (Nat.le_refl _) (by simp [maxLen]) rfl
    have hup0 := (Up.refl w1).allocs (.cells #[] 43)
    obtain ⟨v0, hv0⟩ : ∃ v, v = Value.slice (some ⟨w1.heap.size, 0, none⟩) 0 0 := ⟨_, rfl⟩
    rw [← hv0] at hown0 ⊢
    generalize w1.alloc (.cells #[] 43) = w2 at *
    have HV0 := Lib.hid hv0
    clear hv0
    go_loopw [5, 6, 7] (fun o ck i wr => ∃ (k m : Nat) (out : List Dec), k + 1 ≤ Ls.length ∧ i = .int .i64 k ∧ ck = .int .i64 m ∧ RvI s k out m ∧ out.length ≤ k ∧ (∃ C cc, o = .slice C out.length cc ∧ out.length ≤ cc ∧ cc ≤ maxLen) ∧ wr.ownsRow w1.heap.size 43 4 o out.length (out.flatMap Dec.cells) ∧ (∀ d ∈ out, decB d = true) ∧ Up w1 wr) (fun _ _ i _ => Ls.length - (intOf i).toNat)
    case atStart => exact ⟨0, 0, [], hln, rfl, rfl, ⟨by rw [HV.out.2]; rfl, by decide⟩, Nat.zero_le _, ⟨_, _, HV0.out, Nat.le_refl _, by simp [maxLen]⟩, hown0, by simp, hup0⟩
    case round =>
      obtain ⟨k, m, out, hk, rfl, rfl, hrv, hok, ⟨C, cc, rfl, hcc, hccm⟩, hown, hdec, hup⟩ := hrel
      have HR := Lib.hid hrv
      have HDC := Lib.hid hdec
      have hm := hrv.2
      have U := u1.trans hup
      clear hrv hdec
      by_cases hk2 : k + 1 < Ls.length
      case neg =>
        have HE := Lib.hid (rv_end HR.out (by rw [← HLS.out]; omega))
        have hd1 : decide ((k : Int) + 1 < (Ls.length : Int)) = false := by simp; omega
        clear hk2
        go_wp2
        go_ret2
        exact ⟨_, ret_vR HV.out.1.symm, by rw [HE.out]; exact own_base hown u1.size, U⟩
      case pos =>
      have hd1 : decide ((k : Int) + 1 < (Ls.length : Int)) = true := by simp; omega
      by_cases h80 : out.length < 80
      case neg =>
        have HE := Lib.hid (rv_80 HR.out h80)
        have hd2 : decide ((out.length : Int) < 80) = false := by simp; omega
        clear h80
        go_wp2
        go_ret2
        exact ⟨_, ret_vR HV.out.1.symm, by rw [HE.out]; exact own_base hown u1.size, U⟩
      case pos =>
      have hd2 : decide ((out.length : Int) < 80) = true := by simp; omega
      obtain ⟨line, hline, hlz⟩ := HI.out k (by omega)
      have hcl : wr.cell? ⟨gL, 0 + k, none⟩ = some (.string line) := by
        obtain ⟨b, off, z, e, -, -, hz, q⟩ := (HRL.out.up hup (Nat.le_refl _)).txt (k := k) (by omega)
        cases e
        rw [hline] at hz; cases hz; exact q
      rw [Nat.zero_add] at hcl
      rw [HLS.out] at hline hk2
      have HLI := Lib.hid hline
      have HK2 := Lib.hid hk2
      clear hline
      rw [← HLS.out] at hk2
      have hkL : k < Ls.length := by omega
      have HC2 := l01Split_any line 32 wr (by omega)
      simp only [show ((32 : UInt8).toNat : Int) = 32 from rfl] at HC2
      have HSP := Lib.hid HC2
      have hwl := spL_len 32 line
      have hwn := spL_ne 32 line
      clear HC2
      go_wp2_with fail
      refine HSP.out.mono ?_
      rintro e w3 ⟨v, rfl, ow, u3⟩
      obtain ⟨A2, c2, rfl, -, -, hA2, -⟩ := own_form ow
      obtain ⟨g2, rfl, hg2a, hg2⟩ := hA2 (by omega)
      have hrd := Rd.own strC_len ow
      clear ow hA2 HSP
      have cl3 := u3.cell hcl
      have hown3 := own_up hown u3
      have U3 := hup.trans u3
      by_cases hw4 : (spL 32 line).length < 4
      case pos =>
        have HE := Lib.hid (rv_stop HR.out HK2.out HLI.out (okS_w (.inl hw4)))
        have e1 : decide (((spL 32 line).length : Int) < 4) = true := by simp; omega
        clear hw4
        go_wp2
        go_ret2
        exact ⟨_, ret_vR HV.out.1.symm, by rw [HE.out]; exact own_base hown3 u1.size, u1.trans U3⟩
      case neg =>
      have e1 : decide (((spL 32 line).length : Int) < 4) = false := by simp; omega
      by_cases hw5 : 5 < (spL 32 line).length
      case pos =>
        have HE := Lib.hid (rv_stop HR.out HK2.out HLI.out (okS_w (.inr hw5)))
        have e2 : decide ((5 : Int) < ((spL 32 line).length : Int)) = true := by simp; omega
        clear hw4
        go_wp2
        go_ret2
        exact ⟨_, ret_vR HV.out.1.symm, by rw [HE.out]; exact own_base hown3 u1.size, u1.trans U3⟩
      case neg =>
      have e2 : decide ((5 : Int) < ((spL 32 line).length : Int)) = false := by simp; omega
      obtain ⟨b0, o0, s0, e0, -, -, g0, q0⟩ := hrd.txt (k := 0) (by omega)
      cases e0
      obtain ⟨b0, o0, s1, e0, -, -, g1, q1⟩ := hrd.txt (k := 1) (by omega)
      cases e0
      obtain ⟨b0, o0, s2, e0, -, -, g2', q2⟩ := hrd.txt (k := 2) (by omega)
      cases e0
      obtain ⟨b0, o0, s3, e0, -, -, g3, q3⟩ := hrd.txt (k := 3) (by omega)
      cases e0
      have hs0 := spL_size (List.mem_of_getElem? g0)
      have hs2 := spL_size (List.mem_of_getElem? g2')
      have hs3 := spL_size (List.mem_of_getElem? g3)
      have H45 := Lib.hid (And.intro (show 4 ≤ (spL 32 line).length by omega) (show (spL 32 line).length ≤ 5 by omega))
      have HDS := Lib.hid (dS_at g0 g1 g2')
      have HG3 := Lib.hid (show (spL 32 line).getD 3 zB = s3 by rw [List.getD_eq_getElem?_getD, g3]; rfl)
      obtain ⟨nw, hnw⟩ : ∃ n, n = (spL 32 line).length := ⟨_, rfl⟩
      rw [← hnw] at hwl hwn hw4 hw5 e1 e2 HDS ⊢
      have i0' : 0 < nw := by omega
      have i1' : 1 < nw := by omega
      have i2' : 2 < nw := by omega
      have i3' : (3 : Int) < (nw : Int) := by omega
      have j1' : (1 : Int) < (nw : Int) := by omega
      have j2' : (2 : Int) < (nw : Int) := by omega
      clear hrd g0 g1 g2' g3 hnw
      have hdr : Up w3 w3.drew := (Up.refl _).drew
      have ubx := Up.alloc w3 (.cells #[.string ⟨#[]⟩, .int .i64 0, .int .i64 0, .string ⟨#[]⟩] 43)
      have DN := Lib.hid (show DB (w3.alloc (.cells #[.string ⟨#[]⟩, .int .i64 0, .int .i64 0, .string ⟨#[]⟩] 43)).drew w3.heap.size dZ from (DB.new w3 dZ).up (Up.refl _).drew)
      have HSZ := Lib.hid (show (w3.alloc (.cells #[.string ⟨#[]⟩, .int .i64 0, .int .i64 0, .string ⟨#[]⟩] 43)).drew.heap.size = w3.heap.size + 1 by simp)
      go_wp2_with fail
      go_cut [9] (fun v9 wx => ∃ (wy : World) (g : Nat), wy = wx ∧ v9 = .pointer (some ⟨g, 0, none⟩) ∧ DB wx g ⟨s0, kdX s1, 0, s2⟩ ∧ w3.heap.size ≤ g ∧ Up w3 wx)
      case first =>
        have x0 := ubx.cell q0
        have x1 := ubx.cell q1
        have x2 := ubx.cell q2
        go_region_held3 (fun w' => Up w3 w' ∧ w'.cell? ⟨g2, 0, none⟩ = some (.string s0) ∧ w'.cell? ⟨g2, 1, none⟩ = some (.string s1) ∧ w'.cell? ⟨g2, 2, none⟩ = some (.string s2))
          ((refine up_keep3 ?_ q0 q1 q2; first | assumption | exact Up.refl _ | exact hdr | exact ubx | exact ubx.drew | exact Up.allocs (by assumption) _ | exact Up.setCell (Up.setCell (Up.setCell (Up.setCell (by assumption) (Nat.le_refl _) _) (Nat.le_refl _) _) (Nat.le_refl _) _) (Nat.le_refl _) _))
          (first
          | (go_at_call 20
             refine (l26Words_any w3.drew).mono ?_
             rintro e wb ⟨rfl, v0', v1, v2, vu⟩
             have hSb : Up w3 wb := Up.trans hdr vu
             have k0 := hSb.cell q0
             have k1 := hSb.cell q1
             have k2 := hSb.cell q2
             have HRD := Lib.hid (words_rd v0' v1 v2)
             have HRA := Lib.hid (HRD.out.up (Up.alloc wb (.cells #[.string ⟨#[]⟩, .int .i64 0, .int .i64 0, .string ⟨#[]⟩] 43)) (block_lt_of_cell v0')))
          | (go_at_call 20
             refine (l26Words_any (w3.alloc (.cells #[.string ⟨#[]⟩, .int .i64 0, .int .i64 0, .string ⟨#[]⟩] 43)).drew).mono ?_
             rintro e wb ⟨rfl, v0', v1, v2, vu⟩
             have hSb : Up w3 wb := Up.trans ubx.drew vu
             have k0 := hSb.cell q0
             have k1 := hSb.cell q1
             have k2 := hSb.cell q2
             rw [HSZ.out] at v0' v1 v2
             have HRD := Lib.hid (words_rd v0' v1 v2)
             obtain ⟨y0, y1, y2, y3, z0, z1, z2, z3⟩ := DN.out.up vu)
          | (go_at_call 19
             refine (l01Text_any _ [wdB 0, wdB 1, wdB 2] 3 _ _ s1 _ HRD.out (by decide)).mono ?_
             rintro e wc ⟨rfl, rfl⟩)
          | (go_at_call 19
             refine (l01Text_any _ [wdB 0, wdB 1, wdB 2] 3 _ _ s1 _ HRA.out (by decide)).mono ?_
             rintro e wc ⟨rfl, rfl⟩))
        all_goals (try go_wp2_with fail)
        all_goals
          go_meet
          rw [ixL_kd]
          first
            | exact ⟨_, _, rfl, rfl, DB.new wb ⟨s0, kdX s1, 0, s2⟩, hSb.size, hSb.allocs _⟩
            | exact ⟨_, _, rfl, rfl, ⟨by go_simp, by go_simp, by go_simp, by go_simp, by go_simp, by go_simp, by go_simp, by go_simp⟩, Nat.le_refl _, (((hSb.setCell (Nat.le_refl _) _).setCell (Nat.le_refl _) _).setCell (Nat.le_refl _) _).setCell (Nat.le_refl _) _⟩
      case rest =>
        obtain ⟨wy, g, hwy, rfl, hDB, hg, hu4⟩ := hcut
        subst hwy
        have p3 := hu4.cell q3
        have HDB := Lib.hid hDB
        have HU4 := Lib.hid hu4
        obtain ⟨d0, d1, d2, d3, f0, f1, f2, f3⟩ := hDB
        clear q0 q1 q2 q3 DN HSZ ubx hdr
        by_cases h5w : nw = 5
        case' pos =>
          have h5b : ((nw : Int) == 5) = true := by simp; omega
          have HD9 := Lib.hid (fun wx => l01Digits_any s3 wx (show s3.size ≤ 100000000 by omega))
          have HD := Lib.hid (HDS.out (dgV s3 : Int) (by rw [if_pos h5w, HG3.out]))
          clear h5w
          go_wp2_with fail
          refine (HD9.out _).mono ?_
          rintro e w5 ⟨rfl, u5⟩
          obtain ⟨d0, d1, d2, d3, f0, f1, f2, f3⟩ := HDB.out.up u5
          go_wp2_with fail
          obtain ⟨W, hW⟩ : ∃ x, x = w5.setCell ⟨g, 2, none⟩ (.int .i64 (dgV s3 : Int)) := ⟨_, rfl⟩
          have DW : DB W g (dS line) := by rw [HD.out, hW]; exact ⟨by go_simp, by go_simp, by go_simp, by go_simp, by go_simp, by go_simp, by go_simp, by go_simp⟩
          have UW : Up w3 W := by rw [hW]; exact (HU4.out.trans u5).setCell hg _
          rw [← hW]
          clear hW d0 d1 d2 d3 f0 f1 f2 f3 u5 HD9
        case' neg =>
          have h5b : ((nw : Int) == 5) = false := by simp; omega
          have HD := Lib.hid (HDS.out 0 (by rw [if_neg h5w]))
          clear h5w
          go_wp2_with fail
          obtain ⟨W, hW⟩ : ∃ x : World, x = wy := ⟨_, rfl⟩
          have DW : DB W g (dS line) := by rw [HD.out, hW]; exact HDB.out
          have UW : Up w3 W := by rw [hW]; exact HU4.out
          rw [← hW]
          clear hW d0 d1 d2 d3 f0 f1 f2 f3
        all_goals
          have hdd : (dS line).ok := by rw [HD.out]; exact ⟨by show s0.size ≤ maxLen; unfold maxLen; omega, by show s2.size ≤ maxLen; unfold maxLen; omega⟩
          have hownW := own_up hown3 UW
          have HRO := Lib.hid (Rd.own dec_len' hownW)
          have QL := cell_regrown (UW.cell cl3)
          have HDW := Lib.hid DW
          obtain ⟨d0, d1, d2, d3, f0, f1, f2, f3⟩ := DW
          have Q0 := cell_regrown d0
          have Q1 := cell_regrown d1
          have Q2 := cell_regrown d2
          have Q3 := cell_regrown d3
          have hC := fun wx => l26Could_any (dS line) hdd wx
          have hM := fun (wx : World) (hu : Up W wx) => l26May_any C out cc w1.heap.size W.heap.size (dS line) wx (HRO.out.up hu (Nat.le_refl _)) hu.size (by unfold maxLen; omega)
          have UF := U3.trans UW
          clear d0 d1 d2 d3 f0 f1 f2 f3 HD HDS HG3 HDB HU4 p3
          by_cases hb1 : decB (dS line) = true
          case neg =>
            have hb1' : decB (dS line) = false := by simpa using hb1
            rw [hb1'] at hC
            have HE := Lib.hid (rv_stop HR.out HK2.out HLI.out (okS_d hb1'))
            have cC : ∀ dd os, Calls Tryz.prog 22 #[(dS line).val] (grow (redrawn W dd) os) fun e w'' => e = .returned (.bool false) ∧ ∃ p : Regrown, w'' = grow (redrawn W p.d) p.os := fun dd os => Calls.regrown_of (hC _)
            have HC := Lib.hid hC
            have HM := Lib.hid hM
            clear hC hM hb1 hb1'
            generalize dS line = d at *
            go_wp2_with fail
            refine wp_region_quiet_below (by kernel_rfl) (by kernel_rfl) ?_
            repeat (first | go_big_quiet_step ((go_at_call 22; exact cC _ _)) | quiet_step ((go_at_call 22; exact cC _ _)))
            refine wpQuiet_nil ?_
            intro w7 hw7
            obtain ⟨⟨dq, osq⟩, hw7⟩ := hw7
            have hu7 : Up W w7 := by rw [hw7]; exact below_regrown _ _ _
            clear hw7 Q0 Q1 Q2 Q3 QL
            clear cC
            go_wp2
            go_ret2
            exact ⟨_, ret_vR HV.out.1.symm, by rw [HE.out]; exact own_base (own_up hownW hu7) u1.size, u1.trans (UF.trans hu7)⟩
          case pos =>
          have ho := ok_of hb1
          have HO := Lib.hid ho
          rw [hb1] at hC
          have cC : ∀ dd os, Calls Tryz.prog 22 #[(dS line).val] (grow (redrawn W dd) os) fun e w'' => e = .returned (.bool true) ∧ ∃ p : Regrown, w'' = grow (redrawn W p.d) p.os := fun dd os => Calls.regrown_of (hC _)
          by_cases hb2 : mayB out (dS line) = true
          case neg =>
            have hb2' : mayB out (dS line) = false := by simpa using hb2
            rw [hb2'] at hM
            have HE := Lib.hid (rv_stop HR.out HK2.out HLI.out (okS_m hb2'))
            have cM : ∀ dd os, Calls Tryz.prog 23 #[.slice C out.length cc, (dS line).val] (grow (redrawn W dd) os) fun e w'' => e = .returned (.bool false) ∧ ∃ p : Regrown, w'' = grow (redrawn W p.d) p.os := fun dd os => Calls.regrown_of (hM _ (below_regrown _ _ _))
            have HC := Lib.hid hC
            have HM := Lib.hid hM
            clear hC hM hb1 hb2 hb2' ho HO
            generalize dS line = d at *
            go_wp2_with fail
            refine wp_region_quiet_below (by kernel_rfl) (by kernel_rfl) ?_
            repeat (first | go_big_quiet_step (first | (go_at_call 22; exact cC _ _) | (go_at_call 23; exact cM _ _)) | quiet_step (first | (go_at_call 22; exact cC _ _) | (go_at_call 23; exact cM _ _)))
            refine wpQuiet_nil ?_
            intro w7 hw7
            obtain ⟨⟨dq, osq⟩, hw7⟩ := hw7
            have hu7 : Up W w7 := by rw [hw7]; exact below_regrown _ _ _
            clear hw7 Q0 Q1 Q2 Q3 QL
            clear cC cM
            go_wp2
            go_ret2
            exact ⟨_, ret_vR HV.out.1.symm, by rw [HE.out]; exact own_base (own_up hownW hu7) u1.size, u1.trans (UF.trans hu7)⟩
          case pos =>
          rw [hb2] at hM
          have cM : ∀ dd os, Calls Tryz.prog 23 #[.slice C out.length cc, (dS line).val] (grow (redrawn W dd) os) fun e w'' => e = .returned (.bool true) ∧ ∃ p : Regrown, w'' = grow (redrawn W p.d) p.os := fun dd os => Calls.regrown_of (hM _ (below_regrown _ _ _))
          have HK := Lib.hid (show ∀ wx, Calls Tryz.prog 25 #[.int .i64 (m : Int), (dS line).val] wx fun e w' => e = .returned (.int .i64 (ckD m (dS line) : Int)) ∧ Up wx w' from fun wx => l26Check_any m (dS line) _ _ wx hm HO.out)
          have hml : ckD m (dS line) < 99989 := ckN_lt _ _ _ _
          have HL := Lib.hid (show ∀ wx, Calls Tryz.prog 24 #[(dS line).val, .int .i64 (ckD m (dS line) : Int)] wx fun e w' => e = .returned (.string (lnD (ckD m (dS line)) (dS line))) ∧ Up wx w' from fun wx => l26Line_any (ckD m (dS line)) (dS line) _ _ wx hml HO.out)
          have cK : ∀ dd os, Calls Tryz.prog 25 #[.int .i64 (m : Int), (dS line).val] (grow (redrawn W dd) os) fun e w'' => e = .returned (.int .i64 (ckD m (dS line) : Int)) ∧ ∃ p : Regrown, w'' = grow (redrawn W p.d) p.os := fun dd os => Calls.regrown_of (HK.out _)
          have cL : ∀ dd os, Calls Tryz.prog 24 #[(dS line).val, .int .i64 (ckD m (dS line) : Int)] (grow (redrawn W dd) os) fun e w'' => e = .returned (.string (lnD (ckD m (dS line)) (dS line))) ∧ ∃ p : Regrown, w'' = grow (redrawn W p.d) p.os := fun dd os => Calls.regrown_of (HL.out _)
          have HEN := Lib.hid (show ((lnD (ckD m (dS line)) (dS line)).toList == line.toList) = false → rvL s = out from fun h => rv_stop HR.out HK2.out HLI.out (okS_l h))
          have HEY := Lib.hid (show ((lnD (ckD m (dS line)) (dS line)).toList == line.toList) = true → RvI s (k + 1) (out ++ [dS line]) (ckD m (dS line)) from fun h => rv_go HR.out HK2.out HLI.out h80 (okS_y H45.out.1 H45.out.2 hb1 hb2 h))
          have HB1 := Lib.hid hb1
          have HC := Lib.hid hC
          have HM := Lib.hid hM
          clear hC hM hb1 hb2 ho HO
          generalize lnD (ckD m (dS line)) (dS line) = ln at *
          generalize ckD m (dS line) = m' at *
          generalize dS line = d at *
          by_cases hq : (ln.toList == line.toList) = true
          case neg =>
            have hq' : (ln.toList == line.toList) = false := by simpa using hq
            have HE := Lib.hid (HEN.out hq')
            clear hq
            go_wp2_with fail
            refine wp_region_quiet_below (by kernel_rfl) (by kernel_rfl) ?_
            repeat (first | go_big_quiet_step (first | (go_at_call 22; exact cC _ _) | (go_at_call 23; exact cM _ _) | (go_at_call 25; exact cK _ _) | (go_at_call 24; exact cL _ _)) | quiet_step (first | (go_at_call 22; exact cC _ _) | (go_at_call 23; exact cM _ _) | (go_at_call 25; exact cK _ _) | (go_at_call 24; exact cL _ _)))
            refine wpQuiet_nil ?_
            intro w7 hw7
            obtain ⟨⟨dq, osq⟩, hw7⟩ := hw7
            have hu7 : Up W w7 := by rw [hw7]; exact below_regrown _ _ _
            clear hw7 Q0 Q1 Q2 Q3 QL
            clear cC cM cK cL
            go_wp2
            go_ret2
            exact ⟨_, ret_vR HV.out.1.symm, by rw [HE.out]; exact own_base (own_up hownW hu7) u1.size, u1.trans (UF.trans hu7)⟩
          case pos =>
            have HE := Lib.hid (HEY.out hq)
            go_wp2_with fail
            refine wp_region_quiet_below (by kernel_rfl) (by kernel_rfl) ?_
            repeat (first | go_big_quiet_step (first | (go_at_call 22; exact cC _ _) | (go_at_call 23; exact cM _ _) | (go_at_call 25; exact cK _ _) | (go_at_call 24; exact cL _ _)) | quiet_step (first | (go_at_call 22; exact cC _ _) | (go_at_call 23; exact cM _ _) | (go_at_call 25; exact cK _ _) | (go_at_call 24; exact cL _ _)))
            refine wpQuiet_nil ?_
            intro w7 hw7
            obtain ⟨⟨dq, osq⟩, hw7⟩ := hw7
            have hu7 : Up W w7 := by rw [hw7]; exact below_regrown _ _ _
            clear hw7 Q0 Q1 Q2 Q3 QL
            clear cC cM cK cL hq
            have D7 := HDW.out.up hu7
            obtain ⟨d0, d1, d2, d3, f0, f1, f2, f3⟩ := D7
            go_wp2_with fail
            refine (HK.out _).mono ?_
            rintro e w8 ⟨rfl, u8⟩
            have U8 := (UF.trans hu7).trans u8
            have own8 := own_up (own_up hownW hu7) u8
            have D8 := (HDW.out.up hu7).up u8
            obtain ⟨d0, d1, d2, d3, f0, f1, f2, f3⟩ := D8
            have ub9 := Up.alloc w8 (.cells #[.string d.deed, .int .i64 d.kind, .int .i64 d.day, .string d.by_] 43)
            have hnews := (Dx.new w8 d).news
            have own9 := own_up own8 ub9
            have n1 : out.length + 1 ≤ maxLen := by unfold maxLen; omega
            have n2 : (out.length + 1) * 48 ≤ 140737488355328 := by omega
            have n3 : w1.heap.size ≤ (w8.alloc (.cells #[.string d.deed, .int .i64 d.kind, .int .i64 d.day, .string d.by_] 43)).heap.size := (U8.allocs _).size
            go_wp2_with ((at_builtin; refine wpList_append_own _ rfl _ _ 22 rfl w1.heap.size 43 i0 _ 4 48 Tryz.underlying22 hi0 hz0 hz1 hz2 hzm (by decide) _ _ _ rfl own9 ⟨w8.heap.size, 0, none⟩ 1 1 d.cells rfl rfl hnews (dec_one d) n1 n2 n3 ?_))
            intro v' w9 hown' hgrow _
            have hu9 := (U8.allocs _).grown hgrow (fun b hb => (own9.lt b hb).1)
            have ho9 : w9.ownsRow w1.heap.size 43 4 v' (out ++ [d]).length ((out ++ [d]).flatMap Dec.cells) := by simpa using hown'
            obtain ⟨C9, c9, hv9, hl9, hm9, -, -⟩ := own_form ho9
            have HV9 := Lib.hid hv9
            have HDO := Lib.hid (show ∀ x ∈ out ++ [d], decB x = true from fun x hx => by
              rcases List.mem_append.1 hx with h | h
              · exact HDC.out x h
              · rw [List.mem_singleton.1 h]; exact HB1.out)
            clear hown' hgrow own9 hv9
            go_wp2
            go_roundw
            case rel => exact ⟨k + 1, m', out ++ [d], by omega, by go_num, rfl, HE.out, by simp; omega, ⟨C9, c9, HV9.out, hl9, hm9⟩, ho9, HDO.out, hu9⟩
            case measure => simp [intOf]; omega
end Go.Proofs.YtngananoidplmaaGreatDoor
