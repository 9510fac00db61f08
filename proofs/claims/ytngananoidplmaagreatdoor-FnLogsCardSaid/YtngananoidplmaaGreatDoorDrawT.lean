/- Drawn logs and texts of logs. -/
import Derived.Test.YtngananoidplmaaGreatDoorRoll
import Derived.Test.YtngananoidplmaaGreatDoorDrawM
import Derived.Test.YtngananoidplmaaGreatDoorLogJ
import Derived.Laws.OwnMore
namespace Go.Proofs.YtngananoidplmaaGreatDoor
open Go.RowKit Go.Sort

set_option maxRecDepth 100000 in
set_option maxHeartbeats 2000000 in
theorem drawLogText_any (A : Option Addr) (L : List UInt8) (c lo hi : Nat) (w : World) (hr : RdY w lo hi A L) (hhi : hi ≤ w.heap.size) (hn : L.length ≤ 2000000) :
    Calls Tryz.prog 11 #[.slice A L.length c] w fun e w' => ∃ (v : Value) (l : List Dec), e = .returned v ∧ OwnL w w' v l ∧ Up w w' := by
  go_enter Tryz.func11, Tryz.ntmps11
  go_wp2_with fail
  refine (l01From_any A L c lo hi w hr hhi hn).mono ?_
  rintro e w1 ⟨rfl, h1, S1, u1⟩
  go_wp2_with fail
  refine (l26Draw_any A L c lo w.heap.size w1 S1 h1 hn).mono ?_
  rintro e w2 ⟨v, l, rfl, o2, hsh, hl, S2, m2⟩
  have H3 := Lib.hid (show OwnL w w2 v l from ⟨own_base o2 u1.size, hsh, hl⟩)
  have u3 := u1.mk m2 (Nat.le_refl _)
  clear S1 S2 m2 o2 hsh hl
  go_wp2
  go_ret
  exact ⟨_, l, rfl, H3.out, u3⟩
theorem ltV_size (l : List Dec) : (ltV l).size ≤ 6400 := by
  by_cases h : logB l = true
  · rw [(lt_0 h).2]
    have h1 := lsL_size (logB_dec h) 0
    have h2 := logB_len h
    show (txL l 0).toArray.size ≤ _
    simp only [List.size_toArray]
    omega
  · rw [(lt_1 (by simpa using h)).2]; exact Nat.zero_le _
theorem zeros_flat : ∀ n : Nat, List.replicate n (Value.int .u8 0) = (List.replicate n (0 : UInt8)).flatMap bytC
  | 0 => rfl
  | n + 1 => by rw [List.replicate_succ, List.replicate_succ, List.flatMap_cons, zeros_flat n]; rfl
set_option maxRecDepth 100000 in
set_option maxHeartbeats 4000000 in
theorem drawRecoverLog_any (A : Option Addr) (L : List UInt8) (c lo hi : Nat) (w : World) (hr : RdY w lo hi A L) (hhi : hi ≤ w.heap.size) (hn : L.length ≤ 2000000) :
    Calls Tryz.prog 14 #[.slice A L.length c] w fun e w' => ∃ s : ByteArray, e = .returned (.string s) ∧ s.size ≤ 10000 ∧ Up w w' := by
  obtain ⟨i0, hi0, hz0, hz1, hz2⟩ := info_parts infoBytS
  go_enter Tryz.func14, Tryz.ntmps14
  go_wp2_with fail
  refine (l01From_any A L c lo hi w hr hhi hn).mono ?_
  rintro e w1 ⟨rfl, h1, S1, u1⟩
  go_wp2_with fail
  refine (l26Draw_any A L c lo w.heap.size w1 S1 h1 hn).mono ?_
  rintro e w2 ⟨v, l, rfl, o2, hsh, hl, S2, m2⟩
  obtain ⟨A2, c2, rfl, hc2, hm2, -, -⟩ := own_form o2
  have u2 := u1.mk m2 (Nat.le_refl _)
  have h2 := Nat.lt_of_lt_of_le h1 m2.size
  have hrd := Rd.own dec_len' o2
  clear S1 m2 o2
  go_wp2_with fail
  refine (specLogText_any A2 l c2 _ _ w2 hrd (Nat.le_refl _) (fun d hd => (hsh d hd).ok) (by omega) hc2 hm2).mono ?_
  rintro e w3 ⟨rfl, u3⟩
  have S3 := S2.up u3 h2
  have h3 := Nat.lt_of_lt_of_le h2 u3.size
  have U3 := u2.trans u3
  have hlt := ltV_size l
  generalize ltV l = t at *
  generalize ltC l = tc at *
  clear S2 hrd hsh
  go_wp2_with fail
  refine (l01Next_any A L c lo w.heap.size 3 w3 S3 h3 hn (by omega)).mono ?_
  rintro e w4 ⟨z4, rfl, hz4, S4, m4⟩
  have h4 := Nat.lt_of_lt_of_le h3 m4.size
  have U4 := U3.mk m4 (Nat.le_refl _)
  clear S3 m4 hz4
  by_cases hzz : z4 = 0
  · have hzb : (z4 == 0) = true := by simpa using hzz
    clear hzz
    go_wp2_with fail
    refine (l01Damage_any A L c lo w.heap.size t w4 S4 h4 hn (by omega)).mono ?_
    rintro e w5 ⟨r, rfl, hrs, S5, m5⟩
    have U5 := U4.mk m5 (Nat.le_refl _)
    clear S4 S5 m5
    go_wp2
    go_ret
    exact ⟨r, rfl, by omega, U5⟩
  · have hzb : (z4 == 0) = false := by simpa using hzz
    clear hzz
    go_wp2_with fail
    refine (l01Next_any A L c lo w.heap.size 60 w4 S4 h4 hn (by omega)).mono ?_
    rintro e w5 ⟨z5, rfl, hz5, S5, m5⟩
    have h5 := Nat.lt_of_lt_of_le h4 m5.size
    have U5 := U4.mk m5 (Nat.le_refl _)
    clear S4 m5 hz5
    by_cases hz6 : z5 = 0
    · have hzb6 : (z5 == 0) = true := by simpa using hz6
      clear hz6
      go_wp2_with fail
      refine (l01Next_any A L c lo w.heap.size 2 w5 S5 h5 hn (by omega)).mono ?_
      rintro e w6 ⟨z6, rfl, hz6, S6, m6⟩
      obtain ⟨hk0, hk1⟩ := hz6.lt (by omega)
      obtain ⟨k, rfl⟩ := Int.eq_ofNat_of_zero_le hk0
      have U6 := U5.mk m6 (Nat.le_refl _)
      clear S5 S6 m6 hz6 hk0
      obtain ⟨nn, hnn⟩ : ∃ n : Nat, n = 5000 + k := ⟨_, rfl⟩
      have hcast : 5000 + (k : Int) = (nn : Int) := by omega
      have hnl : nn ≤ 5001 := by omega
      clear hnn
      go_wp2_with ((refine wpList_make_full _ rfl _ _ 28 rfl w6.heap.size 5 i0 _ 1 Tryz.underlying28 hi0 hz0 hz1 _ _ _ _ nn rfl rfl rfl rfl ?b2 ?b3 ?b4 ?_))
      case b2 => rw [hz2]; omega
      case b3 => unfold maxLen; omega
      case b4 => exact Nat.le_refl _
      intro w7 hown hg
      have hup7 : Up w6 w7 := (Up.refl w6).grown hg (fun k h => by cases h)
      rw [show (madeCells #[Value.int IntKind.u8 0] nn).toList = (List.replicate nn (0 : UInt8)).flatMap bytC by rw [← zeros_flat]; exact toList_madeCells_one _ _] at hown
      have hl7 : (List.replicate nn (0 : UInt8)).length = nn := List.length_replicate
      have hrd7 : RdY w7 w6.heap.size w7.heap.size (some ⟨w6.heap.size, 0, none⟩) (List.replicate nn (0 : UInt8)) := Rd.own bytC_len (by rw [hl7]; exact hown)
      have hcv := run_strOf (P := Tryz.prog) (src := 28) (dst := 9) (e := 5) Tryz.underlying28 Tryz.underlying5 Tryz.underlying9 w7 (cap := nn) hrd7
      have hsz7 : (⟨(List.replicate nn (0 : UInt8)).toArray⟩ : ByteArray).size = nn := by show (List.replicate nn (0 : UInt8)).toArray.size = nn; simp
      rw [hl7] at hcv
      have HS := Lib.hid hsz7
      generalize (⟨(List.replicate nn (0 : UInt8)).toArray⟩ : ByteArray) = rr at *
      clear hown hg hl7 hsz7 hrd7 hcast
      go_wp2
      go_ret
      exact ⟨rr, rfl, by rw [HS.out]; omega, U6.trans hup7⟩
    · have hzb6 : (z5 == 0) = false := by simpa using hz6
      clear hz6 S5
      go_wp2
      go_ret
      exact ⟨t, rfl, by omega, U5⟩
end Go.Proofs.YtngananoidplmaaGreatDoor
