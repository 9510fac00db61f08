/- Numbers that are read and texts that are cut, by the program. -/
import Derived.Test.YtehoaoeahfmfpaaDoorNumL
import Derived.Test.YtehoaoeahfmfpaaDoorSplB
import Derived.Test.YtehoaoeahfmfpaaDoorDig
import Derived.Test.YtehoaoeahfmfpaaDoorTxt
namespace Go.Proofs.YtehoaoeahfmfpaaDoor
open Go.RowKit Go.Sort

theorem ofB_data (s : ByteArray) : ofB s.data.toList = s := by simp [ofB]
theorem dcB_list (n : Nat) : (dcB n).data.toList = Lib.decDigits n := by simp [dcB]
/-- what the reference's digits answer -/
def dgB (s : ByteArray) : Bool := decide (1 ≤ s.size ∧ s.size ≤ 9) && dgU s.data.toList
def dgV (s : ByteArray) : Nat := if dgB s then valL 0 s.data.toList else 0
theorem dec_len9 {n : Nat} (h : n < 1000000000) : (Lib.decDigits n).length ≤ 9 := by
  have := dcB_len 8 n (by omega)
  rw [← dcB_list, Array.length_toList]
  exact this
theorem dgV_dec {n : Nat} (h : n < 1000000000) : dgV (dcB n) = n := by
  have h1 := dec_len9 h
  have h2 : 1 ≤ (Lib.decDigits n).length := List.length_pos_iff.2 (dec_ne n)
  have hs : (dcB n).size = (Lib.decDigits n).length := by rw [← dcB_list]; simp
  unfold dgV dgB
  rw [dcB_list, dgU_dec, hs, if_pos (by simp; omega), valL_dec]
theorem dgU_take {l : List UInt8} {k : Nat} {c : UInt8} (h : dgU (l.take k) = true) (hc : l[k]? = some c) (h1 : 48 ≤ c.toNat) (h2 : c.toNat ≤ 57) : dgU (l.take (k + 1)) = true := by
  unfold dgU at h ⊢
  rw [List.take_succ_eq_append_getElem (List.getElem?_eq_some_iff.1 hc).1, List.all_append, h, (List.getElem?_eq_some_iff.1 hc).2]
  simp [h1, h2]
theorem valL_take {l : List UInt8} {k : Nat} {c : UInt8} (hc : l[k]? = some c) : valL 0 (l.take (k + 1)) = valL 0 (l.take k) * 10 + (c.toNat - 48) := by
  unfold valL
  rw [List.take_succ_eq_append_getElem (List.getElem?_eq_some_iff.1 hc).1, List.foldl_append, (List.getElem?_eq_some_iff.1 hc).2]
  rfl
theorem valL_lt : ∀ (k : Nat) (l : List UInt8), k ≤ l.length → dgU (l.take k) = true → valL 0 (l.take k) < 10 ^ k
  | 0, l, _, _ => by simp [valL]
  | k + 1, l, hk, h => by
    have hc := List.getElem?_eq_getElem (show k < l.length by omega)
    have h1 : dgU (l.take k) = true ∧ 48 ≤ (l[k]).toNat ∧ (l[k]).toNat ≤ 57 := by
      unfold dgU at h ⊢
      rw [List.take_succ_eq_append_getElem (by omega), List.all_append, Bool.and_eq_true] at h
      refine ⟨h.1, ?_⟩
      have := h.2
      simp at this; exact this
    rw [valL_take hc, Nat.pow_succ]
    have := valL_lt k l (by omega) h1.1
    omega
theorem dgU_no {l : List UInt8} {k : Nat} {c : UInt8} (hc : l[k]? = some c) (h : c.toNat < 48 ∨ 57 < c.toNat) : dgU l = false := by
  unfold dgU
  rw [List.all_eq_false]
  exact ⟨c, List.mem_of_getElem? hc, by simp; omega⟩
/-- the second answer of the reference's digits -/
def dgK (s : ByteArray) : Bool := dgB s && ((dcB (dgV s)).toList == s.toList)
theorem dg_no {s : ByteArray} (h : dgB s = false) : dgV s = 0 ∧ dgK s = false := by simp [dgV, dgK, h]
theorem ret_ib {a b : Int} {x y : Bool} (h : a = b) (h' : x = y) : Ending.returned (.tuple #[.int .i64 a, .bool x]) = .returned (.tuple #[.int .i64 b, .bool y]) := by rw [h, h']

set_option maxRecDepth 100000 in
set_option maxHeartbeats 2000000 in
theorem l01Digits_any (s : ByteArray) (w : World) (hs : s.size ≤ 100000000) :
    Calls Tryd.prog 15 #[.string s] w fun e w' => e = .returned (.tuple #[.int .i64 (dgV s : Int), .bool (dgK s)]) ∧ Up w w' := by
  have hlen : s.data.toList.length = s.size := by simp
  by_cases hsz : 1 ≤ s.size ∧ s.size ≤ 9
  case neg =>
    have HN := Lib.hid (dg_no (s := s) (by unfold dgB; rw [Bool.and_eq_false_iff]; left; simpa using hsz))
    rcases Nat.lt_or_ge s.size 1 with h1 | h1
    · go_enter Tryd.func15, Tryd.ntmps15
      go_wp2
      go_ret2
      exact ⟨ret_ib (by rw [HN.out.1]; rfl) HN.out.2.symm, Up.refl _⟩
    · have h2 : 9 < s.size := by omega
      have h3 : ¬ s.size < 1 := by omega
      go_enter Tryd.func15, Tryd.ntmps15
      go_wp2
      go_ret2
      exact ⟨ret_ib (by rw [HN.out.1]; rfl) HN.out.2.symm, Up.refl _⟩
  case pos =>
    obtain ⟨h1, h2⟩ := hsz
    have HLN := Lib.hid hlen
    clear hlen
    have d1 : decide ((s.size : Int) < 1) = false := by simp; omega
    have d2 : decide ((9 : Int) < (s.size : Int)) = false := by simp; omega
    go_enter Tryd.func15, Tryd.ntmps15
    go_wp2
    go_loop [4, 5] (fun n i => ∃ k m : Nat, k ≤ s.size ∧ i = .int .i64 k ∧ n = .int .i64 m ∧ m = valL 0 (s.data.toList.take k) ∧ dgU (s.data.toList.take k) = true ∧ m < 1000000000) (fun _ i => s.size - (intOf i).toNat)
    case atStart => exact ⟨0, 0, Nat.zero_le _, rfl, rfl, by simp [valL], by simp [dgU], by decide⟩
    case round =>
      obtain ⟨k, m, hk, rfl, rfl, hm, hd, hml⟩ := hrel
      have HM := Lib.hid hm
      have HD := Lib.hid hd
      clear hm hd
      by_cases hlt : k < s.size
      · have hc : s.data.toList[k]? = some s[k] := by rw [List.getElem?_eq_getElem (by simpa using hlt)]; rfl
        have HC := Lib.hid hc
        have hb := s[k].toNat_lt
        have hm9 : m * 10 < 1000000000 := by
          have := valL_lt k s.data.toList (by rw [HLN.out]; omega) HD.out
          have h9 : 10 ^ k ≤ 10 ^ 8 := Nat.pow_le_pow_right (by decide) (by omega)
          rw [← HM.out] at this
          omega
        clear hc
        by_cases c1 : s[k].toNat < 48
        · have HN := Lib.hid (dg_no (s := s) (by unfold dgB; rw [dgU_no HC.out (.inl c1)]; simp))
          have e1 : decide ((s[k].toNat : Int) < 48) = true := by simp; omega
          go_wp2
          go_ret2
          exact ⟨ret_ib (by rw [HN.out.1]; rfl) HN.out.2.symm, Up.refl _⟩
        · by_cases c2 : 57 < s[k].toNat
          · have HN := Lib.hid (dg_no (s := s) (by unfold dgB; rw [dgU_no HC.out (.inr c2)]; simp))
            have e1 : decide ((s[k].toNat : Int) < 48) = false := by simp; omega
            have e2 : decide ((57 : Int) < (s[k].toNat : Int)) = true := by simp; omega
            go_wp2
            go_ret2
            exact ⟨ret_ib (by rw [HN.out.1]; rfl) HN.out.2.symm, Up.refl _⟩
          · have e1 : decide ((s[k].toNat : Int) < 48) = false := by simp; omega
            have e2 : decide ((57 : Int) < (s[k].toNat : Int)) = false := by simp; omega
            have HV := Lib.hid (valL_take HC.out)
            have HDT := Lib.hid (dgU_take HD.out HC.out (by omega) (by omega))
            have w1 : IntKind.u8.wrap ((s[k].toNat : Int) - 48) = (s[k].toNat : Int) - 48 := IntWalk.u8_in _ (by omega)
            go_wp2
            go_round
            case rel => exact ⟨k + 1, m * 10 + (s[k].toNat - 48), by omega, by go_num, by go_num, by rw [HV.out, HM.out], HDT.out, by omega⟩
            case measure => simp [intOf]; omega
      · obtain rfl : k = s.size := by omega
        have hfull : s.data.toList.take s.size = s.data.toList := List.take_of_length_le (by rw [HLN.out]; exact Nat.le_refl _)
        have hB : dgB s = true := by
          unfold dgB
          have := HD.out
          rw [hfull] at this
          rw [this]; simp; omega
        have hV : dgV s = m := by unfold dgV; rw [if_pos hB, HM.out, hfull]
        have hK : dgK s = ((dcB m).toList == s.toList) := by unfold dgK; rw [hB, hV]; rfl
        have HR := Lib.hid (And.intro hV hK)
        have HDC := Lib.hid (l01Dec_any (m + 1) m (by omega) (by omega) w)
        clear hfull hB hV hK
        go_wp2_with fail
        refine HDC.out.mono ?_
        rintro e w1 ⟨rfl, u1⟩
        go_wp2
        all_goals
          go_ret2
          exact ⟨ret_ib (by rw [HR.out.1]) (by first | rw [HR.out.2] | (rw [HR.out.2]; simp_all)), u1⟩

/-- what the library's variables hold, as far as numbers are read and texts are cut -/
def EnvP (w : World) : Prop := TabU w ∧ (∃ m, w.cell? ⟨0, 0, none⟩ = some (.int .i64 m)) ∧ (∃ tp p, w.cell? ⟨3, 0, none⟩ = some (.iface tp p)) ∧ ∃ tp p, w.cell? ⟨4, 0, none⟩ = some (.iface tp p)
theorem EnvP.up {w w' : World} (h : EnvP w) (hu : Up w w') : EnvP w' := by
  obtain ⟨h0, ⟨m, h1⟩, ⟨t2, p2, h2⟩, ⟨t3, p3, h3⟩⟩ := h
  exact ⟨h0.up hu, ⟨m, hu.cell h1⟩, ⟨t2, p2, hu.cell h2⟩, ⟨t3, p3, hu.cell h3⟩⟩
set_option maxHeartbeats 400000 in
theorem decimalAll_any (n : Nat) (h : n < 9223372036854775808) (w : World) (ht : TabU w) :
    Calls Tryd.prog 28 #[.int .i64 (n : Int)] w fun e w' => e = .returned (.string (dcB n)) ∧ Up w w' := by
  have hF := Tryd.strconv_FormatInt_10 (n : Int) (by omega) (by omega) w ht
  rw [show (⟨(Lib.itoa (n : Int)).toArray⟩ : ByteArray) = dcB n by unfold Lib.itoa dcB; rw [if_neg (by omega), Int.toNat_natCast]] at hF
  have HF := Lib.hid hF
  clear hF h
  go_enter Tryd.func28, Tryd.ntmps28
  go_wp2_with (go_at_call 43; refine HF.out.mono ?_; rintro e w' ⟨rfl, k, os, rfl⟩)
  go_ret
  exact ⟨rfl, up_grow w k os⟩
theorem bytesW_up {w w' : World} {T : TypeId} (h : w' = w ∨ ∃ t, w' = Lib.bytesWorld w T t) : Up w w' := by
  rcases h with rfl | ⟨t, rfl⟩
  · exact Up.refl _
  · exact Lib.bytesWorld_below _ _ _
theorem nu_no {s : ByteArray} (h : nuB s = false) : nuV s = 0 := by simp [nuV, h]
theorem nu_ok {s : ByteArray} {v : Int} (h : Lib.parseIntB 64 s.data.toList = .ok v) : nuB s = (decide (0 ≤ v) && decide (Lib.decDigits v.toNat = s.data.toList)) := by unfold nuB; rw [h]
theorem dec_eq {n : Nat} {s : ByteArray} : ((dcB n).toList == s.toList) = decide (Lib.decDigits n = s.data.toList) := by
  rw [Bool.eq_iff_iff, beq_iff_eq, decide_eq_true_iff, ← dcB_list, ByteArray.toList_eq, ByteArray.toList_eq]
set_option maxRecDepth 100000 in
set_option maxHeartbeats 2000000 in
theorem number_any (s : ByteArray) (w : World) (hs : s.size ≤ 100000000) (he : EnvP w) :
    Calls Tryd.prog 20 #[.string s] w fun e w' => e = .returned (.tuple #[.int .i64 (nuV s : Int), .bool (nuB s)]) ∧ Up w w' := by
  rcases hp : Lib.parseIntB 64 s.data.toList with v | _ | _
  · have HP := Lib.hid (Tryd.strconv_ParseInt_10_at64_ok s (by omega) v hp w)
    have hB := nu_ok hp
    have hb := Lib.parseIntB_bounds hp
    have HT := Lib.hid he.1
    clear hp he
    by_cases h0 : 0 ≤ v
    · obtain ⟨n, rfl⟩ := Int.eq_ofNat_of_zero_le h0
      have hn : n < 9223372036854775808 := by omega
      have hd0 : decide ((n : Int) < 0) = false := by simp
      rw [Int.toNat_natCast, show decide ((0 : Int) ≤ (n : Int)) = true by simp, Bool.true_and, ← dec_eq] at hB
      have HV := Lib.hid (show nuB s = true → nuV s = n from fun h => by
        rw [hB, beq_iff_eq] at h
        exact nuV_dec hn (by rw [← dcB_list]; rw [bytes_inj] at h; rw [h]))
      have HB := Lib.hid hB
      have HN := Lib.hid (show nuB s = false → nuV s = 0 from nu_no)
      clear hB hb
      go_enter Tryd.func20, Tryd.ntmps20
      go_wp2_with fail
      refine HP.out.mono ?_
      rintro e w1 ⟨rfl, hw1⟩
      have u1 := bytesW_up hw1
      clear hw1
      go_wp2_with fail
      refine (decimalAll_any n hn w1 (HT.out.up u1)).mono ?_
      rintro e w2 ⟨rfl, u2⟩
      have U2 := u1.trans u2
      by_cases hq : (dcB n).toList = s.toList
      · have hq1 : ((dcB n).toList == s.toList) = true := by simp [hq]
        have HQ := Lib.hid (show nuB s = true by rw [HB.out, hq]; simp)
        clear hq
        go_wp2
        go_ret2
        exact ⟨ret_ib (by rw [HV.out HQ.out]) HQ.out.symm, U2⟩
      · have hq1 : ((dcB n).toList == s.toList) = false := by simp [hq]
        have HQ := Lib.hid (show nuB s = false by rw [HB.out, beq_eq_false_iff_ne]; exact hq)
        clear hq
        go_wp2
        go_ret2
        exact ⟨ret_ib (by rw [HN.out HQ.out]; rfl) HQ.out.symm, U2⟩
    · have hd0 : decide (v < 0) = true := by simp; omega
      have HQ := Lib.hid (show nuB s = false by rw [hB, show decide (0 ≤ v) = false by simpa using h0]; rfl)
      clear hB h0
      go_enter Tryd.func20, Tryd.ntmps20
      go_wp2_with fail
      refine HP.out.mono ?_
      rintro e w1 ⟨rfl, hw1⟩
      have u1 := bytesW_up hw1
      clear hw1
      go_wp2
      go_ret2
      exact ⟨ret_ib (by rw [nu_no HQ.out]; rfl) HQ.out.symm, u1⟩
  · obtain ⟨-, -, ⟨tp, p, hc⟩, -⟩ := he
    have HP := Lib.hid (Tryd.strconv_ParseInt_10_at64_syntax s (by omega) hp _ w hc (.inr ⟨_, _, rfl⟩))
    have HQ := Lib.hid (show nuB s = false by unfold nuB; rw [hp])
    clear hp hc
    go_enter Tryd.func20, Tryd.ntmps20
    go_wp2_with fail
    refine HP.out.mono ?_
    rintro e w1 ⟨N, rfl, -, -, u1⟩
    go_wp2
    go_ret2
    exact ⟨ret_ib (by rw [nu_no HQ.out]; rfl) HQ.out.symm, u1⟩
  · obtain ⟨-, -, -, ⟨tp, p, hc⟩⟩ := he
    have HP := Lib.hid (Tryd.strconv_ParseInt_10_at64_range s (by omega) hp _ w hc (.inr ⟨_, _, rfl⟩))
    have HQ := Lib.hid (show nuB s = false by unfold nuB; rw [hp])
    clear hp hc
    go_enter Tryd.func20, Tryd.ntmps20
    go_wp2_with fail
    refine HP.out.mono ?_
    rintro e w1 ⟨N, rfl, -, -, u1⟩
    go_wp2
    go_ret2
    exact ⟨ret_ib (by rw [nu_no HQ.out]; rfl) HQ.out.symm, u1⟩
theorem flat_str : ∀ l : List ByteArray, l.flatMap strC = l.map Value.string
  | [] => rfl
  | x :: l => by rw [List.flatMap_cons, flat_str l]; rfl
theorem split_any (s : ByteArray) (c : UInt8) (w : World) (hs : s.size ≤ 100000000) (he : EnvP w) :
    Calls Tryd.prog 7 #[.string s, .string ⟨#[c]⟩] w fun e w' => e = .returned (.slice (some ⟨w.heap.size, 0, none⟩) (spL c s).length (spL c s).length) ∧ w'.ownsRow w.heap.size 9 1 (.slice (some ⟨w.heap.size, 0, none⟩) (spL c s).length (spL c s).length) (spL c s).length ((spL c s).flatMap strC) ∧ Up w w' := by
  obtain ⟨-, ⟨m, hm⟩, -, -⟩ := he
  refine (Tryd.strings_Split s ⟨#[c]⟩ m w (by omega) hm (Nat.le_refl _)).mono ?_
  rintro e w' ⟨rfl, rfl⟩
  rw [splitB_spL, countB_spL]
  refine ⟨rfl, ?_, Up.alloc _ _⟩
  have h := World.ownsRow_lit (base := w.heap.size) (e := 9) (size := 1) w ((spL c s).map Value.string).toArray (spL c s).length (Nat.le_refl _) (by have := spL_len c s; unfold maxLen; omega) (by simp)
  have e2 : (spL c s).flatMap strC = ((spL c s).map Value.string).toArray.toList := by
    rw [flat_str]
  rw [e2]; exact h

end Go.Proofs.YtehoaoeahfmfpaaDoor
