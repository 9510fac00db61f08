/- RecoverLog by the program. -/
import Derived.Test.YtngananoidplmaaGreatDoorRecS
namespace Go.Proofs.YtngananoidplmaaGreatDoor
open Go.RowKit Go.Sort

theorem spL_yes {c : UInt8} {s : ByteArray} (h : ctF c s = true) : spL c s = ctN c s :: spL c (ctR c s) ∧ (ctR c s).size < s.size := by
  have h0 : 0 ≤ ctI c s := by unfold ctF at h; simpa using h
  obtain ⟨o, ho⟩ := Int.eq_ofNat_of_zero_le h0
  have hlt := ctI_lt c s h0
  obtain ⟨h1, h2⟩ := Lib.indexByte_some ho
  have e1 : ctN c s = s.extract 0 o := by unfold ctN; rw [if_neg (by omega), ho]; rfl
  have e2 : ctR c s = s.extract (o + 1) s.size := by unfold ctR; rw [if_neg (by omega), ho]; rfl
  have l1 : (ctN c s).data.toList = s.data.toList.take o := by rw [e1, Lib.extract_data]; simp
  have l2 : (ctR c s).data.toList = s.data.toList.drop (o + 1) := by
    rw [e2, Lib.extract_data, List.take_of_length_le (by rw [List.length_drop, dl_len]; omega)]
  constructor
  · unfold spL
    rw [seg_some c o s.data.toList [] h1 h2, List.map_cons, l2]
    congr 1
    rw [List.nil_append, ← l1, ofB_data]
  · have := congrArg List.length l2
    rw [dl_len, List.length_drop, dl_len] at this
    omega
theorem spL_no {c : UInt8} {s : ByteArray} (h : ctF c s = false) : spL c s = [s] := by
  have h0 : Lib.indexByte s.data.toList c = -1 := by
    have h1 : ¬ 0 ≤ ctI c s := by unfold ctF at h; simpa using h
    have := Lib.indexByte_ge s.data.toList c
    unfold ctI at h1; omega
  unfold spL
  rw [seg_none c s.data.toList [] (Lib.indexByte_none h0), List.nil_append, List.map_cons, ofB_data]; rfl
theorem ctN_le (c : UInt8) (s : ByteArray) : (ctN c s).size ≤ s.size := by
  rcases h : ctF c s with _ | _
  · unfold ctN
    rw [if_pos (by unfold ctF at h; simpa using h)]; exact Nat.le_refl _
  · have := (spL_yes h).1
    exact spL_size (c := c) (by rw [this]; simp)
/-- the recovered list, as the rest stands at a round -/
def RvJ (s r : ByteArray) (out : List Dec) : Prop := recR (spL 10 r).dropLast out (ckF out 0) = rvL s ∧ logB out = true
theorem rj_no {s r : ByteArray} {out : List Dec} (h : RvJ s r out) (hc : ctF 10 r = false) : rvL s = out := by
  rw [← h.1, spL_no hc]; rfl
theorem ct_empty {r : ByteArray} (h : r.toList = []) : ctF 10 r = false := by
  have : r.data.toList = [] := by rw [← ByteArray.toList_eq]; exact h
  unfold ctF ctI; rw [this]; rfl
theorem drop_cons {a : ByteArray} {l : List ByteArray} (h : 1 ≤ l.length) : (a :: l).dropLast = a :: l.dropLast := by
  rcases l with _ | ⟨b, l⟩
  · simp at h
  · rfl
theorem rj_stop {s r : ByteArray} {out : List Dec} (h : RvJ s r out) (hc : ctF 10 r = true) (ho : ¬ (out.length < 80 ∧ okS out (ckF out 0) (ctN 10 r) = true)) : rvL s = out := by
  rw [← h.1, (spL_yes hc).1, drop_cons (spL_ne _ _)]
  exact recR_no ho
theorem rj_log {s r : ByteArray} {out : List Dec} (h : RvJ s r out) (hc : ctF 10 r = true) (hl : logB (out ++ [dI (ctN 10 r)]) = false) : rvL s = out :=
  rj_stop h hc fun ⟨h1, h2⟩ => by
    obtain ⟨h3, -⟩ := ok_SI h2
    unfold okI at h3
    simp only [Bool.and_eq_true] at h3
    rw [logB_more _ h.2, h3.1, h3.2.1] at hl
    simp at hl; omega
theorem rj_line {s r : ByteArray} {out : List Dec} (h : RvJ s r out) (hc : ctF 10 r = true) (hl : ((lnD (ckD (ckF out 0) (dI (ctN 10 r))) (dI (ctN 10 r)) ++ ⟨#[10]⟩ : ByteArray).toList == (ctN 10 r ++ ⟨#[10]⟩ : ByteArray).toList) = false) : rvL s = out :=
  rj_stop h hc fun ⟨h1, h2⟩ => by
    obtain ⟨h3, -⟩ := ok_SI h2
    unfold okI at h3
    simp only [Bool.and_eq_true, beq_iff_eq] at h3
    have := bytes_inj.1 h3.2.2
    rw [this] at hl; simp at hl
theorem rj_go {s r : ByteArray} {out : List Dec} (h : RvJ s r out) (hc : ctF 10 r = true) (hl : logB (out ++ [dI (ctN 10 r)]) = true) (he : ((lnD (ckD (ckF out 0) (dI (ctN 10 r))) (dI (ctN 10 r)) ++ ⟨#[10]⟩ : ByteArray).toList == (ctN 10 r ++ ⟨#[10]⟩ : ByteArray).toList) = true) :
    RvJ s (ctR 10 r) (out ++ [dI (ctN 10 r)]) := by
  refine ⟨?_, hl⟩
  rw [logB_more _ h.2] at hl
  simp only [Bool.and_eq_true, decide_eq_true_eq] at hl
  have e : lnD (ckD (ckF out 0) (dI (ctN 10 r))) (dI (ctN 10 r)) = ctN 10 r := by
    rw [beq_iff_eq, bytes_inj] at he
    have := congrArg (fun x : ByteArray => x.data.toList) he
    simp only [ByteArray.data_append, Array.toList_append] at this
    exact ba_ext (List.append_cancel_right this)
  have hI : okI out (ckF out 0) (ctN 10 r) = true := by
    unfold okI; rw [hl.1, hl.2.1, e]; simp
  obtain ⟨hS, ed⟩ := ok_IS hI
  rw [← h.1, (spL_yes hc).1, drop_cons (spL_ne _ _), recR_yes hl.2.2 hS, ckF_snoc, ed]

theorem getD_size {l : ByteArray} (k : Nat) : ((spL 32 l).getD k zB).size ≤ l.size := by
  rw [List.getD_eq_getElem?_getD]
  rcases h : (spL 32 l)[k]? with _ | x
  · exact Nat.zero_le _
  · exact spL_size (List.mem_of_getElem? h)
theorem dI_ok {l : ByteArray} (h : l.size ≤ 5000) : (dI l).ok := by
  unfold dI
  split
  · exact ⟨Nat.zero_le _, Nat.zero_le _⟩
  · exact ⟨by have := getD_size (l := l) 0; show ((spL 32 l).getD 0 zB).size ≤ maxLen; unfold maxLen; omega, by have := getD_size (l := l) 2; show ((spL 32 l).getD 2 zB).size ≤ maxLen; unfold maxLen; omega⟩
theorem decB_ok {d : Dec} (h : decB d = true) : d.ok := by
  have ho := ok_of h
  have h1 := ho.deed
  have h2 := ho.by_
  exact ⟨by unfold maxLen; omega, by unfold maxLen; omega⟩
set_option maxRecDepth 100000 in
set_option maxHeartbeats 8000000 in
theorem implRecover_any (s : ByteArray) (w : World) (hs : s.size ≤ 1048576) (he : EnvP w) :
    Calls Tryz.prog 6 #[.string s] w fun e w' => ∃ v, e = .returned (.tuple #[v, .int .i64 (rvC s)]) ∧ w'.ownsRow w.heap.size 43 4 v (rvL s).length ((rvL s).flatMap Dec.cells) ∧ Up w w' := by
  obtain ⟨i0, hi0, hz0, hz1, hz2⟩ := info_parts infoDec
  have hzm : (Value.agg #[.string ByteArray.empty, .int .i64 0, .int .i64 0, .string ByteArray.empty]).cells.size = 4 := rfl
  by_cases h5 : s.size ≤ 5000
  case neg =>
    have HV := Lib.hid (show rvC s = 3 ∧ rvL s = [] by unfold rvC rvL; rw [if_neg h5, if_neg h5]; exact ⟨rfl, rfl⟩)
    have hd : decide ((5000 : Int) < (s.size : Int)) = true := by simp; omega
    clear h5
    go_enter Tryz.func6, Tryz.ntmps6
    go_wp2
    go_ret2
    exact ⟨_, ret_vR HV.out.1.symm, by rw [HV.out.2]; exact World.ownsRow_nil _ _ _ _, Up.refl _⟩
  case pos =>
    have HV := Lib.hid (show rvC s = 0 ∧ rvL s = recR (spL 10 s).dropLast [] 0 by unfold rvC rvL; rw [if_pos h5, if_pos h5]; exact ⟨rfl, rfl⟩)
    have hd : decide ((5000 : Int) < (s.size : Int)) = false := by simp; omega
    go_enter Tryz.func6, Tryz.ntmps6
    go_wp2
    have hown0 := World.ownsRow_lit (base := w.heap.size) (e := 43) (size := 4) w #[] 0 (Nat.le_refl _) (by simp [maxLen]) rfl
    have hup0 := (Up.refl w).allocs (.cells #[] 43)
    obtain ⟨v0, hv0⟩ : ∃ v, v = Value.slice (some ⟨w.heap.size, 0, none⟩) 0 0 := ⟨_, rfl⟩
    rw [← hv0] at hown0 ⊢
    generalize w.alloc (.cells #[] 43) = w2 at *
    have HV0 := Lib.hid hv0
    clear hv0
    go_loopw [4, 5] (fun o rs wr => ∃ (r : ByteArray) (out : List Dec), rs = .string r ∧ r.size ≤ 5000 ∧ RvJ s r out ∧ out.length ≤ 80 ∧ (∃ C cc, o = .slice C out.length cc ∧ out.length ≤ cc ∧ cc ≤ maxLen) ∧ wr.ownsRow w.heap.size 43 4 o out.length (out.flatMap Dec.cells) ∧ Up w wr) (fun _ rs _ => match rs with | .string r => r.size | _ => 0)
    case atStart => exact ⟨s, [], rfl, h5, ⟨by rw [HV.out.2]; rfl, by rfl⟩, Nat.zero_le _, ⟨_, _, HV0.out, Nat.le_refl _, by simp [maxLen]⟩, hown0, hup0⟩
    case round =>
      obtain ⟨r, out, rfl, hr5, hrv, h80, ⟨C, cc, rfl, hcc, hccm⟩, hown, hup⟩ := hrel
      have HR := Lib.hid hrv
      clear hrv
      by_cases hre : r.toList = []
      case pos =>
        have HE := Lib.hid (rj_no HR.out (ct_empty hre))
        have hb : r.toList.isEmpty = true := by rw [hre]; rfl
        go_wp2
        go_ret2
        exact ⟨_, ret_vR HV.out.1.symm, by rw [HE.out]; exact hown, hup⟩
      case neg =>
        have hb : r.toList.isEmpty = false := by simpa using hre
        have hct := cut_any r 10 wr (by omega)
        have hnz := ctN_le 10 r
        have hls : (lsL (out ++ [dI (ctN 10 r)]) 0).length = out.length + 1 := by rw [lsL_len]; simp
        have HOK := Lib.hid (show ∀ d ∈ out ++ [dI (ctN 10 r)], d.ok from fun d hd => by
          rcases List.mem_append.1 hd with h | h
          · exact decB_ok (logB_dec HR.out.2 d h)
          · rw [List.mem_singleton.1 h]; exact dI_ok (by omega))
        have HRO := Lib.hid (Rd.own dec_len' hown)
        have h81 : (out ++ [dI (ctN 10 r)]).length = out.length + 1 := by simp
        have H81 := Lib.hid h81
        clear h81
        obtain ⟨o1, ho1⟩ : ∃ x, x = out ++ [dI (ctN 10 r)] := ⟨_, rfl⟩
        rw [← ho1] at hls HOK H81
        have HO1 := Lib.hid ho1
        by_cases hF : ctF 10 r = true
        case' pos =>
          rw [hF] at hct
          have hx1 := rj_log HR.out hF
          have HX2 := Lib.hid (rj_line HR.out hF)
          have hx3 := rj_go HR.out hF
          rw [← ho1] at hx1 hx3
          have HX1 := Lib.hid hx1
          have HX3 := Lib.hid hx3
          clear hx1 hx3
          have HLA := Lib.hid (show (lsL o1 0)[out.length]? = some (lnD (ckD (ckF out 0) (dI (ctN 10 r))) (dI (ctN 10 r)) ++ ⟨#[10]⟩) from by rw [ho1]; exact lsL_last _ _ _)
          have HSZ := Lib.hid (spL_yes hF).2
          have HLN := Lib.hid (fun (A : Option Addr) (c lo hi : Nat) (wx : World) (hr : RdD wx lo hi A o1) (hhi : hi ≤ wx.heap.size) (hlog : logB o1 = true) (ht : TabU wx) => linesOf_any A o1 c lo hi wx hr hhi hlog ht)
          generalize lnD (ckD (ckF out 0) (dI (ctN 10 r))) (dI (ctN 10 r)) ++ ⟨#[10]⟩ = X at *
          generalize ctR 10 r = nx at *
        case' neg =>
          have hF' : ctF 10 r = false := by simpa using hF
          rw [hF'] at hct
          have HX0 := Lib.hid (rj_no HR.out hF')
          generalize ctR 10 r = nx at *
          clear hF hF'
        all_goals
          have HCT := Lib.hid hct
          have HLS := Lib.hid hls
          clear hct hls HR ho1
          have HRD := Lib.hid (fun wx (he : EnvP wx) => readDecision_any (ctN 10 r) wx (by omega) he)
          go_wp2_with fail
          refine HCT.out.mono ?_
          rintro e w3 ⟨rfl, u3⟩
          go_wp2_with fail
          refine (cloneD_any C out cc _ _ w3 (HRO.out.up u3 (Nat.le_refl _)) u3.size (by omega)).mono ?_
          rintro e w4 ⟨v1, rfl, own1, u4⟩
          have U4 := hup.trans (u3.trans u4)
          go_wp2_with fail
          refine (HRD.out w4 (he.up U4)).mono ?_
          rintro e w5 ⟨rfl, u5⟩
          have U5 := U4.trans u5
          have hb3 : w.heap.size ≤ w3.heap.size := (hup.trans u3).size
          generalize ctN 10 r = ln at *
          generalize dI ln = d at *
          have ub9 := Up.alloc w5 (.cells #[.string d.deed, .int .i64 d.kind, .int .i64 d.day, .string d.by_] 43)
          have hnews := (Dx.new w5 d).news
          have own9 := own_up (own_up own1 u5) ub9
          have n1 : out.length + 1 ≤ maxLen := by unfold maxLen; omega
          have n2 : (out.length + 1) * 48 ≤ 140737488355328 := by omega
          have n3 : w3.heap.size ≤ (w5.alloc (.cells #[.string d.deed, .int .i64 d.kind, .int .i64 d.day, .string d.by_] 43)).heap.size := (((Up.refl w3).trans (u4.trans u5)).allocs _).size
          go_wp2_with ((at_builtin; refine wpList_append_own _ rfl _ _ 22 rfl w3.heap.size 43 i0 _ 4 48 Tryz.underlying22 hi0 hz0 hz1 hz2 hzm (by decide) _ _ _ rfl own9 ⟨w5.heap.size, 0, none⟩ 1 1 d.cells rfl rfl hnews (dec_one d) n1 n2 n3 ?_))
          intro v' w9 hown' hgrow _
          have U9 := (U5.allocs (.cells #[.string d.deed, .int .i64 d.kind, .int .i64 d.day, .string d.by_] 43)).grown hgrow (fun b hb => Nat.le_trans hb3 (own9.lt b hb).1)
          have u9 := ((u3.trans (u4.trans u5)).allocs (.cells #[.string d.deed, .int .i64 d.kind, .int .i64 d.day, .string d.by_] 43)).grown hgrow (fun b hb => Nat.le_trans u3.size (own9.lt b hb).1)
          have ho9 : w9.ownsRow w3.heap.size 43 4 v' o1.length (o1.flatMap Dec.cells) := by rw [HO1.out]; simpa using hown'
          obtain ⟨C9, c9, rfl, hl9, hm9, -, -⟩ := own_form ho9
          clear hown' hgrow own9 own1
        · go_wp2
          go_ret2
          exact ⟨_, ret_vR HV.out.1.symm, by rw [HX0.out]; exact own_up hown u9, U9⟩
        · have hrd9 := Rd.own dec_len' ho9
          have h81 := H81.out
          have hI := implIsLog_any C9 o1 c9 _ _ w9 hrd9 (Nat.le_refl _) HOK.out (by omega) hl9 hm9
          by_cases hlog : logB o1 = true
          case neg =>
            have hlog' : logB o1 = false := by simpa using hlog
            rw [hlog'] at hI
            have HI := Lib.hid hI
            have HE := Lib.hid (HX1.out hlog')
            clear hI hlog hlog' h81
            go_wp2_with fail
            refine HI.out.mono ?_
            rintro e w10 ⟨rfl, u10⟩
            go_wp2
            go_ret2
            exact ⟨_, ret_vR HV.out.1.symm, by rw [HE.out]; exact own_up (own_up hown u9) u10, U9.trans u10⟩
          case pos =>
            rw [hlog] at hI
            have HI := Lib.hid hI
            have HLN2 := Lib.hid (fun (wx : World) (hu : Up w9 wx) => HLN.out C9 c9 _ _ wx (hrd9.up hu (Nat.le_refl _)) hu.size hlog (he.1.up (U9.trans hu)))
            have H2 := Lib.hid (HX3.out hlog)
            have h80' : out.length + 1 ≤ 80 := by
              have := logB_len hlog; rw [h81] at this; exact this
            clear hI hlog h81 hrd9
            go_wp2_with fail
            refine HI.out.mono ?_
            rintro e w10 ⟨rfl, u10⟩
            go_wp2_with fail
            refine (HLN2.out w10 u10).mono ?_
            rintro e w11 ⟨vL, rfl, oL, u11⟩
            have hls := HLS.out
            generalize lsL o1 0 = S at *
            obtain ⟨AL, cL, rfl, hcL, hmL, hAL, -⟩ := own_form oL
            obtain ⟨gL, rfl, -, -⟩ := hAL (by omega)
            have hcell : w11.cell? ⟨gL, out.length, none⟩ = some (.string X) := by
              obtain ⟨b, off, z, e, -, -, hz, q⟩ := (Rd.own strC_len oL).txt (k := out.length) (by omega)
              cases e
              rw [HLA.out] at hz; cases hz
              rw [Nat.zero_add] at q; exact q
            have hix : out.length < S.length := by omega
            have hsz : ¬ 9223372036854775807 < ln.size + 1 := by omega
            have U11 := U9.trans (u10.trans u11)
            have u11' := u9.trans (u10.trans u11)
            clear oL hls hAL
            by_cases hq : (X.toList == (ln ++ ⟨#[10]⟩ : ByteArray).toList) = true
            case neg =>
              have hq' : (X.toList == (ln ++ ⟨#[10]⟩ : ByteArray).toList) = false := by simpa using hq
              have HE := Lib.hid (HX2.out hq')
              clear hq
              go_wp2
              go_ret2
              exact ⟨_, ret_vR HV.out.1.symm, by rw [HE.out]; exact own_up hown u11', U11⟩
            case pos =>
              have HE := Lib.hid (H2.out hq)
              have hown2 := own_base (own_up (own_up ho9 u10) u11) hb3
              have hszN := HSZ.out
              go_wp2
              go_roundw
              case rel => exact ⟨nx, o1, rfl, by omega, HE.out, by rw [H81.out]; exact h80', ⟨C9, c9, by first | rfl | rw [H81.out], hl9, hm9⟩, hown2, U11⟩
              case measure => simp; omega
end Go.Proofs.YtngananoidplmaaGreatDoor
