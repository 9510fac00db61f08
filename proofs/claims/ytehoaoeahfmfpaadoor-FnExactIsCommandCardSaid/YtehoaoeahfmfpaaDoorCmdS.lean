/- The reference reads a command. -/
import Derived.Test.YtehoaoeahfmfpaaDoorCmdF
namespace Go.Proofs.YtehoaoeahfmfpaaDoor
open Go.RowKit Go.Sort

theorem info64 : (Tryd.prog.info? 2).map (fun i => (i.zero, i.size, i.bytes)) = some (some (.int .i64 0), 1, 8) := by kernel_rfl
theorem frC_size (c : Nat) (n : Int) : (frC c n).size ≤ 10 := by
  unfold frC; split <;> (try split) <;> decide
theorem seg_pos (c : UInt8) : ∀ (l cur : List UInt8), 1 ≤ (seg c cur l).length
  | [], cur => by simp [seg]
  | b :: r, cur => by
    unfold seg; split
    · simp
    · exact seg_pos c r _
theorem spL_pos (c : UInt8) (s : ByteArray) : 1 ≤ (spL c s).length := by
  unfold spL; rw [List.length_map]; exact seg_pos _ _ _
theorem seg_sizeW (c : UInt8) : ∀ (l cur : List UInt8), ∀ x ∈ seg c cur l, x.length ≤ cur.length + l.length
  | [], cur => by simp [seg]
  | b :: r, cur => by
    rw [seg]; split
    · intro x hx
      rcases List.mem_cons.1 hx with rfl | hx
      · omega
      · have := seg_sizeW c r [] x hx; simp at this ⊢; omega
    · intro x hx
      have := seg_sizeW c r _ x hx; simp at this ⊢; omega
theorem spL_sizeW {c : UInt8} {s x : ByteArray} (h : x ∈ spL c s) : x.size ≤ s.size := by
  unfold spL at h
  obtain ⟨y, hy, rfl⟩ := List.mem_map.1 h
  have := seg_sizeW c _ _ y hy
  simp at this
  show y.toArray.size ≤ _
  simpa using this
theorem prs_at {F ws : List ByteArray} {k : Nat} {f x : ByteArray} (hf : F[k]? = some f) (hx : ws[k + 1]? = some x) :
    prs (F.drop k) (ws.drop (k + 1)) = if f.toList == [78] then nameB x 12 && prs (F.drop (k + 1)) (ws.drop (k + 2))
      else if f.toList == [73] then dgK x && prs (F.drop (k + 1)) (ws.drop (k + 2)) else f.toList == [46, 46, 46] := by
  obtain ⟨h1, h2⟩ := List.getElem?_eq_some_iff.1 hf
  obtain ⟨h3, h4⟩ := List.getElem?_eq_some_iff.1 hx
  rw [List.drop_eq_getElem_cons h1, List.drop_eq_getElem_cons h3, h2, h4, prs]
theorem prs_short {F ws : List ByteArray} {k : Nat} (hk : k < F.length) (hw : ws.length ≤ k + 1) : prs (F.drop k) (ws.drop (k + 1)) = false := by
  rw [List.drop_eq_getElem_cons hk, List.drop_eq_nil_of_le hw, prs]
theorem prs_end {F ws : List ByteArray} (hw : F.length + 1 ≤ ws.length) : prs (F.drop F.length) (ws.drop (F.length + 1)) = ((ws.length : Int) == (F.length : Int) + 1) := by
  rw [List.drop_eq_nil_of_le (Nat.le_refl _), prs, Bool.eq_iff_iff, List.isEmpty_iff, List.drop_eq_nil_iff, beq_iff_eq]; omega
theorem ret_3b {a b : Value} {x y : Bool} (h : x = y) : Ending.returned (.tuple #[a, b, .bool x]) = .returned (.tuple #[a, b, .bool y]) := by rw [h]

set_option maxRecDepth 100000 in
set_option maxHeartbeats 2000000 in
theorem l27Parse_any (s : ByteArray) (w : World) (hs : s.size ≤ 2000000) :
    Calls Tryd.prog 6 #[.string s] w fun e w' => ∃ v1 v2, e = .returned (.tuple #[v1, v2, .bool (prB (spL 32 s))]) ∧ Up w w' := by
  obtain ⟨i0, hi0, hz0, hz1, hz2⟩ := info_parts info64
  have HC := l01Split_any s 32 w (by omega)
  simp only [show ((32 : UInt8).toNat : Int) = 32 from rfl] at HC
  have HCC := Lib.hid HC
  clear HC
  have hlen := spL_len 32 s
  have hpos := spL_pos 32 s
  have HSZ := Lib.hid (show ∀ x ∈ spL 32 s, x.size ≤ 2000000 from fun x hx => Nat.le_trans (spL_sizeW hx) hs)
  have HPB := Lib.hid (show prB (spL 32 s) = prB (spL 32 s) from rfl)
  obtain ⟨ws, hws⟩ : ∃ x, x = spL 32 s := ⟨_, rfl⟩
  rw [← hws] at HCC hlen hpos HSZ ⊢
  clear HPB hws
  go_enter Tryd.func6, Tryd.ntmps6
  go_wp2_with fail
  refine HCC.out.mono ?_
  rintro e w1 ⟨v, rfl, ow, ua⟩
  obtain ⟨A1, c1, rfl, -, -, hA1, -⟩ := own_form ow
  obtain ⟨g1, rfl, hg1a, hg1⟩ := hA1 (by omega)
  have HR1 := Lib.hid (Rd.own strC_len ow)
  clear ow hA1 HCC
  obtain ⟨b0, o0, x0, e0, -, -, hx0, q0⟩ := HR1.out.txt (k := 0) (by omega)
  cases e0
  obtain ⟨F, hF⟩ : ∃ F, F = spL 32 (frC (clW x0) ((ws.length : Int) - 1)) := ⟨_, rfl⟩
  have HFC := l01Split_any (frC (clW x0) ((ws.length : Int) - 1)) 32 w1 (by have := frC_size (clW x0) ((ws.length : Int) - 1); omega)
  simp only [show ((32 : UInt8).toNat : Int) = 32 from rfl] at HFC
  have hFl : F.length ≤ 11 := by
    have := spL_len 32 (frC (clW x0) ((ws.length : Int) - 1)); have := frC_size (clW x0) ((ws.length : Int) - 1); rw [hF]; omega
  have hFp : 1 ≤ F.length := by rw [hF]; exact spL_pos _ _
  have hPB : prB ws = if (F.headD ⟨#[]⟩).toList == [45] then ws.length == 1 else prs F (ws.drop 1) := by
    unfold prB
    obtain ⟨y, r, rfl⟩ := List.exists_cons_of_ne_nil (List.ne_nil_of_length_pos hpos)
    simp at hx0; subst hx0
    rw [hF]; rfl
  rw [← hF] at HFC
  have HPB := Lib.hid hPB
  have HFF := Lib.hid HFC
  have HX0 := Lib.hid hx0
  clear hPB HFC hF hx0
  have wsub : IntKind.i64.wrap ((ws.length : Int) - 1) = (ws.length : Int) - 1 := IntWalk.i64_in _ (by omega)
  go_wp2_with fail
  refine (l27Form_any x0 _ w1).mono ?_
  rintro e w1' ⟨rfl, rfl⟩
  go_wp2_with fail
  refine HFF.out.mono ?_
  rintro e w2 ⟨v, rfl, of2, ub⟩
  obtain ⟨A2, c2, rfl, -, -, hA2, -⟩ := own_form of2
  obtain ⟨g2, rfl, hg2a, hg2⟩ := hA2 (by omega)
  have HR2 := Lib.hid (Rd.own strC_len of2)
  have HRW := Lib.hid (HR1.out.up ub (Nat.le_refl _))
  have U2 := ua.trans ub
  clear of2 hA2 HFF q0
  obtain ⟨b0, o0, f0, e0, -, -, hf0, q0⟩ := HR2.out.txt (k := 0) (by omega)
  cases e0
  have hown0 := World.ownsRow_lit (base := w2.heap.size) (e := 2) (size := 1) w2 #[] 0 (Nat.le_refl _) (by simp [maxLen]) rfl
  have hup0 := (Up.refl w2).allocs (.cells #[] 2)
  have q0' := hup0.cell q0
  have HPF := Lib.hid (show prB ws = if f0.toList == [45] then ws.length == 1 else prs F (ws.drop 1) from by
    rw [HPB.out]; obtain ⟨y, r, rfl⟩ := List.exists_cons_of_ne_nil (List.ne_nil_of_length_pos hFp)
    simp at hf0; subst hf0; rfl)
  have HF0 := Lib.hid hf0
  clear hf0 HPB
  by_cases c45 : (f0.toList == [45]) = true
  · have HE := HPF.out
    rw [if_pos c45] at HE
    have HEE := Lib.hid HE
    clear HE
    go_wp2
    go_ret3
    exact ⟨_, _, ret_3b (by rw [HEE.out, Bool.eq_iff_iff, beq_iff_eq, beq_iff_eq]; omega), U2.allocs _⟩
  replace c45 := Bool.eq_false_iff.2 c45
  have HE := HPF.out
  rw [c45] at HE
  simp only [Bool.false_eq_true, if_false] at HE
  have HEE := Lib.hid HE
  clear HE HPF
  have HO0 := Lib.hid hown0
  have U0 := U2
  have HRF := Lib.hid HR2.out
  have HRV := Lib.hid HRW.out
  clear hown0 HR1 HR2 HRW
  obtain ⟨v0, hv0⟩ : ∃ v, v = Value.slice (some ⟨w2.heap.size, 0, none⟩) 0 0 := ⟨_, rfl⟩
  have HV0 := Lib.hid hv0
  have HN0 := Lib.hid (show (w2.alloc (.cells #[] 2)).heap.size = w2.heap.size + 1 by simp)
  go_wp2_with fail
  rw [← hv0]
  rw [← hv0] at HO0
  clear hv0
  generalize w2.alloc (.cells #[] 2) = w3 at *
  go_loopw [7, 8, 9, 10] (fun nu i n ok wr => ∃ (k : Nat) (nv : List Value), k ≤ F.length ∧ k + 1 ≤ ws.length ∧ i = .int .i64 k ∧ (∃ C cc, nu = .slice C nv.length cc) ∧ wr.ownsRow w2.heap.size 2 1 nu nv.length nv ∧ nv.length ≤ k ∧ prB ws = prs (F.drop k) (ws.drop (k + 1)) ∧ Up w2 wr) (fun _ i _ _ _ => F.length - (intOf i).toNat)
  case atStart => exact ⟨0, [], Nat.zero_le _, hpos, rfl, ⟨_, _, HV0.out⟩, HO0.out, Nat.le_refl _, HEE.out, hup0⟩
  case round =>
    obtain ⟨k, nv, hk, hkw, rfl, ⟨C, cc, rfl⟩, hown, hnv, hpr, hup⟩ := hrel
    have HP := Lib.hid hpr
    have HOW := Lib.hid hown
    clear hpr hown
    by_cases hlt : k < F.length
    · obtain ⟨b0, o0, f, e0, -, -, hf, qf⟩ := (HRF.out.up hup (Nat.le_refl _)).txt hlt
      cases e0
      rw [Nat.zero_add] at qf
      have HF := Lib.hid hf
      clear hf
      by_cases hw : k + 1 < ws.length
      · have d1 : decide ((ws.length : Int) ≤ (k : Int) + 1) = false := by simp; omega
        obtain ⟨b0, o0, x, e0, -, -, hx, qx⟩ := (HRV.out.up hup ub.size).txt hw
        cases e0
        rw [Nat.zero_add] at qx
        have HPA := Lib.hid (prs_at HF.out hx)
        have hxs := HSZ.out x (List.mem_of_getElem? hx)
        clear hx
        have jw : ((k : Int) + 1) < (ws.length : Int) := by omega
        by_cases cN : (f.toList == [78]) = true
        · have h1 := HPA.out
          rw [if_pos cN] at h1
          have H1 := Lib.hid h1
          clear h1
          go_wp2_with fail
          refine (l01Name_any x 12 wr (by unfold maxLen; omega)).mono ?_
          rintro e wr' ⟨rfl, rfl⟩
          by_cases nm : nameB x 12 = true
          · have h2 := H1.out
            rw [nm, Bool.true_and] at h2
            have H2 := Lib.hid h2
            clear h2
            go_wp2
            go_roundw
            case rel => exact ⟨k + 1, nv, by omega, by omega, by go_num, ⟨_, _, rfl⟩, HOW.out, by omega, by rw [HP.out, H2.out], hup⟩
            case measure => simp [intOf]; omega
          · replace nm := Bool.eq_false_iff.2 nm
            have h2 := H1.out
            rw [nm, Bool.false_and] at h2
            have H2 := Lib.hid h2
            clear h2
            go_wp2
            go_ret3
            exact ⟨_, _, ret_3b (by rw [HP.out, H2.out]), U0.trans hup⟩
        replace cN := Bool.eq_false_iff.2 cN
        by_cases cI : (f.toList == [73]) = true
        · have h1 := HPA.out
          rw [cN, cI] at h1
          simp only [Bool.false_eq_true, if_false, if_true] at h1
          have H1 := Lib.hid h1
          clear h1
          go_wp2_with fail
          refine (l01Digits_any x wr (by omega)).mono ?_
          rintro e w4 ⟨rfl, u4⟩
          by_cases nm : dgK x = true
          · have h2 := H1.out
            rw [nm, Bool.true_and] at h2
            have H2 := Lib.hid h2
            have n1 : nv.length + 1 ≤ maxLen := by unfold maxLen; omega
            have n2 : (nv.length + 1) * 8 ≤ 140737488355328 := by omega
            have n3 : w2.heap.size ≤ (w4.alloc (.cells #[.int .i64 (dgV x : Int)] 2)).heap.size := ((hup.trans u4).allocs _).size
            have HO4 := Lib.hid ((own_up HOW.out u4).alloc (.cells #[.int .i64 (dgV x : Int)] 2))
            have U4 := hup.trans u4
            clear h2
            go_wp2_with ((at_builtin; refine wpList_append_own _ rfl _ _ 24 rfl w2.heap.size 2 i0 _ 1 8 Tryd.underlying24 hi0 hz0 hz1 hz2 rfl (by decide) _ _ _ rfl HO4.out ⟨w4.heap.size, 0, none⟩ 1 1 [.int .i64 (dgV x : Int)] rfl rfl (cell_one_new _ _ _) (by simp [Value.oneCell']) n1 n2 n3 ?_))
            intro v' w5 hown' hgrow _
            have hu := (U4.allocs (.cells #[.int .i64 (dgV x : Int)] 2)).grown hgrow (fun k hk => (HO4.out.lt k hk).1)
            obtain ⟨C2, cc2, rfl, -, -, -, -⟩ := own_form hown'
            clear hgrow
            have HO5 := Lib.hid hown'
            clear hown'
            go_wp2
            go_roundw
            case rel => exact ⟨k + 1, nv ++ [.int .i64 (dgV x : Int)], by omega, by omega, by go_num, ⟨C2, cc2, by simp⟩, by simpa using HO5.out, by simp; omega, by rw [HP.out, H2.out], hu⟩
            case measure => simp [intOf]; omega
          · replace nm := Bool.eq_false_iff.2 nm
            have h2 := H1.out
            rw [nm, Bool.false_and] at h2
            have H2 := Lib.hid h2
            clear h2
            go_wp2
            go_ret3
            exact ⟨_, _, ret_3b (by rw [HP.out, H2.out]), (U0.trans hup).trans u4⟩
        replace cI := Bool.eq_false_iff.2 cI
        have h1 := HPA.out
        rw [cN, cI] at h1
        simp only [Bool.false_eq_true, if_false] at h1
        by_cases cD : (f.toList == [46, 46, 46]) = true
        · rw [cD] at h1
          have H1 := Lib.hid h1
          clear h1
          go_wp2
          go_ret3
          exact ⟨_, _, ret_3b (by rw [HP.out, H1.out]), U0.trans hup⟩
        · replace cD := Bool.eq_false_iff.2 cD
          rw [cD] at h1
          have H1 := Lib.hid h1
          clear h1
          go_wp2
          go_ret3
          exact ⟨_, _, ret_3b (by rw [HP.out, H1.out]), U0.trans hup⟩
      · have d1 : decide ((ws.length : Int) ≤ (k : Int) + 1) = true := by simp; omega
        have H1 := Lib.hid (prs_short hlt (show ws.length ≤ k + 1 by omega))
        go_wp2
        go_ret3
        exact ⟨_, _, ret_3b (by rw [HP.out, H1.out]), U0.trans hup⟩
    · obtain rfl : k = F.length := by omega
      have H1 := Lib.hid (prs_end hkw)
      go_wp2
      go_ret3
      exact ⟨_, _, ret_3b (by rw [HP.out, H1.out]), U0.trans hup⟩

set_option maxHeartbeats 400000 in
theorem specCmd_any (s : ByteArray) (w : World) (hs : s.size ≤ 2000000) :
    Calls Tryd.prog 4 #[.string s] w fun e w' => e = .returned (.bool (prB (spL 32 s))) ∧ Up w w' := by
  have H := Lib.hid (l27Parse_any s w hs)
  go_enter Tryd.func4, Tryd.ntmps4
  go_wp2_with fail
  refine H.out.mono ?_
  rintro e w1 ⟨v1, v2, rfl, u1⟩
  go_wp2
  go_ret
  exact ⟨rfl, u1⟩
end Go.Proofs.YtehoaoeahfmfpaaDoor
