/- The program reads a command. -/
import Derived.Test.YtehoaoeahfmfpaaDoorCmdF
import Derived.Test.YtehoaoeahfmfpaaDoorFuncsT

namespace Go.Proofs.YtehoaoeahfmfpaaDoor
open Go.RowKit Go.Sort

theorem ret_sb {a b : ByteArray} {x y : Bool} (h : a = b) (h' : x = y) : Ending.returned (.tuple #[.string a, .bool x]) = .returned (.tuple #[.string b, .bool y]) := by rw [h, h']
set_option maxRecDepth 100000 in
set_option maxHeartbeats 1000000 in
theorem hasSuffix_any (s : ByteArray) (w : World) (hs : s.size ≤ 1000000) :
    Calls Tryd.prog 33 #[.string s, .string ⟨#[46]⟩] w fun e w' => e = .returned (.bool (sfx s)) ∧ w = w' := by
  by_cases h0 : 1 ≤ s.size
  · obtain ⟨n, hn⟩ : ∃ n, s.size = n + 1 := ⟨s.size - 1, by omega⟩
    have hS : sfx s = ((s.extract n s.size).toList == [46]) := by unfold sfx; rw [hn]; simp
    have hcut : ∀ w : World, (Instr.sliceAt 9 (.string s) (some (.int .i64 ((s.size : Int) - 1))) none none).run Tryd.prog w = .ok (.string (s.extract n s.size)) w := fun w => by
      rw [run_sliceAt_string w _ _ _ _ _ Tryd.underlying9, run_slice_string_l w _ s Tryd.underlying9 .i64 ((s.size : Int) - 1) (by omega) (by omega), show ((s.size : Int) - 1).toNat = n by omega]
    have d1 : decide ((1 : Int) ≤ (s.size : Int)) = true := by simp; omega
    have wsub : IntKind.i64.wrap ((s.size : Int) - 1) = (s.size : Int) - 1 := IntWalk.i64_in _ (by omega)
    have HS := Lib.hid hS
    clear hS hn
    go_enter Tryd.func33, Tryd.ntmps33
    go_wp2
    all_goals (go_ret; exact ⟨ret_bool (by rw [HS.out]; try simp_all), rfl⟩)
  · have hS : sfx s = false := by unfold sfx; simp; omega
    have d1 : decide ((1 : Int) ≤ (s.size : Int)) = false := by simp; omega
    have HS := Lib.hid hS
    clear hS
    go_enter Tryd.func33, Tryd.ntmps33
    go_wp2
    all_goals (go_ret; exact ⟨ret_bool (by rw [HS.out]), rfl⟩)
set_option maxRecDepth 100000 in
set_option maxHeartbeats 1000000 in
theorem cutSuffixL_any (s : ByteArray) (w : World) (hs : s.size ≤ 1000000) :
    Calls Tryd.prog 25 #[.string s, .string ⟨#[46]⟩] w fun e w' => e = .returned (.tuple #[.string (if sfx s then hdS s else s), .bool (sfx s)]) ∧ w = w' := by
  have H := Lib.hid (hasSuffix_any s w hs)
  by_cases h : sfx s = true
  · have h1 : 1 ≤ s.size := by unfold sfx at h; simp at h; exact h.1
    have hcut : ∀ w : World, (Instr.sliceAt 9 (.string s) none (some (.int .i64 ((s.size : Int) - 1))) none).run Tryd.prog w = .ok (.string (hdS s)) w := fun w => by
      rw [run_sliceAt_string w _ _ _ _ _ Tryd.underlying9, run_slice_string_h w _ s Tryd.underlying9 .i64 ((s.size : Int) - 1) (by omega) (by omega), show ((s.size : Int) - 1).toNat = s.size - 1 by omega]; rfl
    have wsub : IntKind.i64.wrap ((s.size : Int) - 1) = (s.size : Int) - 1 := IntWalk.i64_in _ (by omega)
    have HS := Lib.hid h
    go_enter Tryd.func25, Tryd.ntmps25
    go_wp2_with fail
    refine H.out.mono ?_
    rintro e w1 ⟨rfl, rfl⟩
    go_wp2
    all_goals go_ret2
    all_goals first | exact ⟨rfl, rfl⟩ | exact ⟨ret_sb (by rw [HS.out]; rfl) HS.out.symm, rfl⟩
  · replace h := Bool.eq_false_iff.2 h
    have HS := Lib.hid h
    go_enter Tryd.func25, Tryd.ntmps25
    go_wp2_with fail
    refine H.out.mono ?_
    rintro e w1 ⟨rfl, rfl⟩
    go_wp2
    all_goals go_ret2
    all_goals first | exact ⟨rfl, rfl⟩ | exact ⟨ret_sb (by rw [HS.out]; rfl) HS.out.symm, rfl⟩
set_option maxHeartbeats 400000 in
theorem cutSuffix_any (s : ByteArray) (w : World) (hs : s.size ≤ 1000000) :
    Calls Tryd.prog 18 #[.string s, .string ⟨#[46]⟩] w fun e w' => e = .returned (.tuple #[.string (if sfx s then hdS s else s), .bool (sfx s)]) ∧ w = w' := by
  have H := Lib.hid (cutSuffixL_any s w hs)
  go_enter Tryd.func18, Tryd.ntmps18
  go_wp2_with fail
  refine H.out.mono ?_
  rintro e w1 ⟨rfl, rfl⟩
  go_wp2
  all_goals go_ret2
  all_goals first | exact ⟨rfl, rfl⟩ | (simp_all; done)

theorem ftL_len : ∀ {ks : List UInt8} {l : List ByteArray}, l.length ≠ ks.length → ftL ks l = false
  | [], [], h => absurd rfl h
  | [], x :: r, _ => by simp [ftL]
  | k :: ks, [], _ => by simp [ftL]
  | k :: ks, x :: r, h => by rw [ftL, ftL_len (ks := ks) (l := r) (by simpa using h), Bool.and_false]
theorem ftL_at {ks : List UInt8} {l : List ByteArray} {k : Nat} {b : UInt8} {x : ByteArray} (hb : ks[k]? = some b) (hx : l[k]? = some x) :
    ftL (ks.drop k) (l.drop k) = ((if b.toNat == 78 then nameB x 12 else nuB x && decide (x.size ≤ 9)) && ftL (ks.drop (k + 1)) (l.drop (k + 1))) := by
  obtain ⟨h1, h2⟩ := List.getElem?_eq_some_iff.1 hb
  obtain ⟨h3, h4⟩ := List.getElem?_eq_some_iff.1 hx
  rw [List.drop_eq_getElem_cons h1, List.drop_eq_getElem_cons h3, h2, h4, ftL]
theorem ftL_end {ks : List UInt8} {l : List ByteArray} (h : l.length = ks.length) : ftL (ks.drop l.length) (l.drop l.length) = true := by
  rw [List.drop_eq_nil_of_le (Nat.le_refl _), List.drop_eq_nil_of_le (by omega)]; rfl
theorem run_sliceTo {P : Program} {t : TypeId} (ht : P.underlying t = some (.slice (P.elem t))) (hs : ∀ w, (sizeOf (P.elem t)).run P w = .ok 1 w) (A : Option Addr) (n c k : Nat) (hk : k ≤ c) (w : World) :
    (Instr.sliceAt t (.slice A n c) none (some (.int .i64 (k : Int))) none).run P w = .ok (.slice A k c) w := by
  rw [run_sliceAt_slice w t _ _ _ _ ht, run_slice_h w t _ n c ht .i64 (k : Int) (by omega) (by omega), hs]
  rcases A with _ | a <;> simp [Result.andThen, sliced, Addr.add]

set_option maxRecDepth 100000 in
set_option maxHeartbeats 2000000 in
theorem fits_any (A : Option Addr) (l : List ByteArray) (c lo hi : Nat) (s : ByteArray) (w : World) (hr : RdT w lo hi A l) (hhi : hi ≤ w.heap.size) (hn : l.length ≤ 3000000) (hc : l.length ≤ c) (hz : ∀ x ∈ l, x.size ≤ 2000000) (hs : s.size ≤ 1000000) (he : EnvP w) :
    Calls Tryd.prog 11 #[.slice A l.length c, .string s] w fun e w' => e = .returned (.bool (fitB s l)) ∧ Up w w' := by
  have HCS := Lib.hid (cutSuffix_any s w hs)
  have HE := Lib.hid he
  clear he
  by_cases hx : sfx s = true
  · have h1 : 1 ≤ s.size := by unfold sfx at hx; simp at hx; exact hx.1
    have hhd : (hdS s).size = s.size - 1 := by unfold hdS; simp
    have hC := HCS.out
    rw [hx] at hC
    simp only [if_true] at hC
    have HC := Lib.hid hC
    clear hC HCS
    by_cases hle : l.length ≤ (hdS s).size
    · have HF := Lib.hid (show fitB s l = false by unfold fitB; rw [if_pos hx, if_pos hle])
      have d1 : decide ((l.length : Int) ≤ ((hdS s).size : Int)) = true := by simp; omega
      have d2 : decide (l.length ≤ (hdS s).size) = true := decide_eq_true hle
      clear hhd hx
      go_enter Tryd.func11, Tryd.ntmps11
      go_wp2_with fail
      refine HC.out.mono ?_
      rintro e w1 ⟨rfl, rfl⟩
      go_wp2
      go_ret
      exact ⟨ret_bool HF.out.symm, Up.refl _⟩
    · have hF : fitB s l = ftL (hdS s).data.toList (l.take (hdS s).size) := by unfold fitB; rw [if_pos hx, if_neg hle]
      have d1 : decide ((l.length : Int) ≤ ((hdS s).size : Int)) = false := by simp; omega
      have hR := hr.take (hdS s).size
      have hZ : ∀ x ∈ l.take (hdS s).size, x.size ≤ 2000000 := fun x h => hz x (List.mem_of_mem_take h)
      have hL : (l.take (hdS s).size).length = (hdS s).size := by rw [List.length_take]; omega
      obtain ⟨L, hL'⟩ : ∃ L, L = l.take (hdS s).size := ⟨_, rfl⟩
      obtain ⟨S, hS'⟩ : ∃ S, S = hdS s := ⟨_, rfl⟩
      have hSz : S.size ≤ 1000000 := by rw [hS']; omega
      rw [← hL'] at hF hR hL hZ
      rw [← hS'] at hF hL d1 HC
      have d2 : ¬ l.length ≤ S.size := by rw [hS']; exact hle
      have d3 : decide (l.length ≤ S.size) = false := decide_eq_false d2
      have hcut : ∀ wx : World, (Instr.sliceAt 23 (.slice A l.length c) none (some (.int .i64 (S.size : Int))) none).run Tryd.prog wx = .ok (.slice A L.length c) wx := fun wx => by
        rw [hL]; exact run_sliceTo (P := Tryd.prog) (t := 23) Tryd.underlying23 (fun _ => rfl) A l.length c S.size (by rw [hS']; omega) wx
      have dL : ((L.length : Int) != (S.size : Int)) = false := by simp [hL]
      have hLn : L.length ≤ 3000000 := by omega
      have HF := Lib.hid hF
      have HR := Lib.hid hR
      have HL := Lib.hid hL
      have HZ := Lib.hid hZ
      clear hF hR hL hZ hz hr hx hle hhd hL' hS'
      go_enter Tryd.func11, Tryd.ntmps11
      go_wp2_with fail
      refine HC.out.mono ?_
      rintro e w1 ⟨rfl, rfl⟩
      go_wp2
      go_loopw [7, 8, 9, 10, 34] (fun u7 u8 u9 u10 i wr => ∃ k : Nat, k ≤ L.length ∧ i = .int .i64 k ∧ ftL S.data.toList L = ftL (S.data.toList.drop k) (L.drop k) ∧ Up w wr) (fun _ _ _ _ i _ => L.length - (intOf i).toNat)
      case atStart => exact ⟨0, Nat.zero_le _, rfl, rfl, Up.refl _⟩
      case round =>
        obtain ⟨k, hk, rfl, hp, hup⟩ := hrel
        have HP := Lib.hid hp
        clear hp
        by_cases hlt : k < L.length
        · obtain ⟨b0, o0, x, rfl, -, -, hx, qx⟩ := (HR.out.up hup hhi).txt hlt
          have hsk : k < S.size := by have := HL.out; omega
          have hb : S.data.toList[k]? = some S[k] := by rw [List.getElem?_eq_getElem (by simpa using hsk)]; rfl
          have HA := Lib.hid (ftL_at hb hx)
          have hxs := HZ.out x (List.mem_of_getElem? hx)
          have HEW := Lib.hid (HE.out.up hup)
          clear hb hx
          by_cases c78 : ((S[k].toNat : Int) == 78) = true
          · have c78' : (S[k].toNat == 78) = true := by rw [beq_iff_eq] at c78 ⊢; omega
            have h1 := HA.out
            rw [if_pos c78'] at h1
            have H1 := Lib.hid h1
            clear h1 c78'
            go_wp2_with fail
            refine (isSmall_any x 12 wr (by unfold maxLen; omega)).mono ?_
            rintro e w3 ⟨rfl, v3⟩
            by_cases nm : nameB x 12 = true
            · have h2 := H1.out
              rw [nm, Bool.true_and] at h2
              have H2 := Lib.hid h2
              clear h2
              go_wp2
              go_roundw
              case rel => exact ⟨k + 1, by omega, by go_num, by rw [HP.out, H2.out], hup.trans v3⟩
              case measure => simp [intOf]; omega
            · replace nm := Bool.eq_false_iff.2 nm
              have h2 := H1.out
              rw [nm, Bool.false_and] at h2
              have H2 := Lib.hid h2
              clear h2
              go_wp2
              go_ret
              exact ⟨ret_bool (by rw [HF.out, HP.out, H2.out]), hup.trans v3⟩
          · replace c78 := Bool.eq_false_iff.2 c78
            have c78' : (S[k].toNat == 78) = false := by rw [beq_eq_false_iff_ne] at c78 ⊢; omega
            have h1 := HA.out
            rw [c78'] at h1
            simp only [Bool.false_eq_true, if_false] at h1
            have H1 := Lib.hid h1
            clear h1 c78'
            go_wp2_with fail
            refine (number_any x wr (by omega) HEW.out).mono ?_
            rintro e w3 ⟨rfl, v3⟩
            by_cases nm : nuB x = true
            · by_cases n9 : x.size ≤ 9
              · have d9 : decide ((9 : Int) < (x.size : Int)) = false := by simp; omega
                have h2 := H1.out
                rw [nm, decide_eq_true n9, Bool.true_and, Bool.true_and] at h2
                have H2 := Lib.hid h2
                clear h2 n9
                go_wp2
                go_roundw
                case rel => exact ⟨k + 1, by omega, by go_num, by rw [HP.out, H2.out], hup.trans v3⟩
                case measure => simp [intOf]; omega
              · have d9 : decide ((9 : Int) < (x.size : Int)) = true := by simp; omega
                have h2 := H1.out
                rw [nm, decide_eq_false n9, Bool.true_and, Bool.false_and] at h2
                have H2 := Lib.hid h2
                clear h2 n9
                go_wp2
                go_ret
                exact ⟨ret_bool (by rw [HF.out, HP.out, H2.out]), hup.trans v3⟩
            · replace nm := Bool.eq_false_iff.2 nm
              have h2 := H1.out
              rw [nm, Bool.false_and, Bool.false_and] at h2
              have H2 := Lib.hid h2
              clear h2
              go_wp2
              go_ret
              exact ⟨ret_bool (by rw [HF.out, HP.out, H2.out]), hup.trans v3⟩
        · obtain rfl : k = L.length := by omega
          have H2 := Lib.hid (ftL_end (ks := S.data.toList) (l := L) (by simpa using HL.out))
          go_wp2
          go_ret
          exact ⟨ret_bool (by rw [HF.out, HP.out, H2.out]), hup⟩
  · replace hx := Bool.eq_false_iff.2 hx
    have hC := HCS.out
    rw [hx] at hC
    simp only [Bool.false_eq_true, if_false] at hC
    have HC := Lib.hid hC
    clear hC HCS
    have hF : fitB s l = ftL s.data.toList l := by unfold fitB; rw [hx]; rfl
    by_cases hL : l.length = s.size
    · obtain ⟨L, hL'⟩ : ∃ L, L = l := ⟨_, rfl⟩
      obtain ⟨S, hS'⟩ : ∃ S, S = s := ⟨_, rfl⟩
      have hSz : S.size ≤ 1000000 := by rw [hS']; omega
      have dL : ((L.length : Int) != (S.size : Int)) = false := by rw [hL', hS']; simp [hL]
      subst hL'
      subst hS'
      have HF := Lib.hid hF
      have HR := Lib.hid hr
      have HL := Lib.hid hL
      have HZ := Lib.hid hz
      clear hF hL hz hr hx
      go_enter Tryd.func11, Tryd.ntmps11
      go_wp2_with fail
      refine HC.out.mono ?_
      rintro e w1 ⟨rfl, rfl⟩
      go_wp2
      go_loopw [7, 8, 9, 10, 34] (fun u7 u8 u9 u10 i wr => ∃ k : Nat, k ≤ L.length ∧ i = .int .i64 k ∧ ftL S.data.toList L = ftL (S.data.toList.drop k) (L.drop k) ∧ Up w wr) (fun _ _ _ _ i _ => L.length - (intOf i).toNat)
      case atStart => exact ⟨0, Nat.zero_le _, rfl, rfl, Up.refl _⟩
      case round =>
        obtain ⟨k, hk, rfl, hp, hup⟩ := hrel
        have HP := Lib.hid hp
        clear hp
        by_cases hlt : k < L.length
        · obtain ⟨b0, o0, x, rfl, -, -, hx, qx⟩ := (HR.out.up hup hhi).txt hlt
          have hsk : k < S.size := by have := HL.out; omega
          have hb : S.data.toList[k]? = some S[k] := by rw [List.getElem?_eq_getElem (by simpa using hsk)]; rfl
          have HA := Lib.hid (ftL_at hb hx)
          have hxs := HZ.out x (List.mem_of_getElem? hx)
          have HEW := Lib.hid (HE.out.up hup)
          clear hb hx
          by_cases c78 : ((S[k].toNat : Int) == 78) = true
          · have c78' : (S[k].toNat == 78) = true := by rw [beq_iff_eq] at c78 ⊢; omega
            have h1 := HA.out
            rw [if_pos c78'] at h1
            have H1 := Lib.hid h1
            clear h1 c78'
            go_wp2_with fail
            refine (isSmall_any x 12 wr (by unfold maxLen; omega)).mono ?_
            rintro e w3 ⟨rfl, v3⟩
            by_cases nm : nameB x 12 = true
            · have h2 := H1.out
              rw [nm, Bool.true_and] at h2
              have H2 := Lib.hid h2
              clear h2
              go_wp2
              go_roundw
              case rel => exact ⟨k + 1, by omega, by go_num, by rw [HP.out, H2.out], hup.trans v3⟩
              case measure => simp [intOf]; omega
            · replace nm := Bool.eq_false_iff.2 nm
              have h2 := H1.out
              rw [nm, Bool.false_and] at h2
              have H2 := Lib.hid h2
              clear h2
              go_wp2
              go_ret
              exact ⟨ret_bool (by rw [HF.out, HP.out, H2.out]), hup.trans v3⟩
          · replace c78 := Bool.eq_false_iff.2 c78
            have c78' : (S[k].toNat == 78) = false := by rw [beq_eq_false_iff_ne] at c78 ⊢; omega
            have h1 := HA.out
            rw [c78'] at h1
            simp only [Bool.false_eq_true, if_false] at h1
            have H1 := Lib.hid h1
            clear h1 c78'
            go_wp2_with fail
            refine (number_any x wr (by omega) HEW.out).mono ?_
            rintro e w3 ⟨rfl, v3⟩
            by_cases nm : nuB x = true
            · by_cases n9 : x.size ≤ 9
              · have d9 : decide ((9 : Int) < (x.size : Int)) = false := by simp; omega
                have h2 := H1.out
                rw [nm, decide_eq_true n9, Bool.true_and, Bool.true_and] at h2
                have H2 := Lib.hid h2
                clear h2 n9
                go_wp2
                go_roundw
                case rel => exact ⟨k + 1, by omega, by go_num, by rw [HP.out, H2.out], hup.trans v3⟩
                case measure => simp [intOf]; omega
              · have d9 : decide ((9 : Int) < (x.size : Int)) = true := by simp; omega
                have h2 := H1.out
                rw [nm, decide_eq_false n9, Bool.true_and, Bool.false_and] at h2
                have H2 := Lib.hid h2
                clear h2 n9
                go_wp2
                go_ret
                exact ⟨ret_bool (by rw [HF.out, HP.out, H2.out]), hup.trans v3⟩
            · replace nm := Bool.eq_false_iff.2 nm
              have h2 := H1.out
              rw [nm, Bool.false_and, Bool.false_and] at h2
              have H2 := Lib.hid h2
              clear h2
              go_wp2
              go_ret
              exact ⟨ret_bool (by rw [HF.out, HP.out, H2.out]), hup.trans v3⟩
        · obtain rfl : k = L.length := by omega
          have H2 := Lib.hid (ftL_end (ks := S.data.toList) (l := L) (by simpa using HL.out))
          go_wp2
          go_ret
          exact ⟨ret_bool (by rw [HF.out, HP.out, H2.out]), hup⟩
    · have HF := Lib.hid (show fitB s l = false by rw [hF]; exact ftL_len (by simpa using hL))
      have dL : ((l.length : Int) != (s.size : Int)) = true := by simp; omega
      clear hF hL hx
      go_enter Tryd.func11, Tryd.ntmps11
      go_wp2_with fail
      refine HC.out.mono ?_
      rintro e w1 ⟨rfl, rfl⟩
      go_wp2
      go_ret
      exact ⟨ret_bool HF.out.symm, Up.refl _⟩

set_option maxRecDepth 100000 in
set_option maxHeartbeats 1000000 in
theorem fitC_any (g b c : Nat) (ws : List ByteArray) (d : ByteArray) (lo hi : Nat) (w : World) (hr : RdT w lo hi (some ⟨b, 0, none⟩) ws) (hhi : hi ≤ w.heap.size) (h1 : 1 ≤ ws.length) (hn : ws.length ≤ 3000000) (hc : ws.length ≤ c) (hz : ∀ x ∈ ws, x.size ≤ 2000000) (hs : d.size ≤ 1000000) (he : EnvP w) (hg : w.cell? ⟨g, 0, none⟩ = some (.slice (some ⟨b, 0, none⟩) ws.length c)) :
    Calls Tryd.prog 10 #[.string d, .pointer (some ⟨g, 0, none⟩)] w fun e w' => e = .returned (.bool (fitB d (ws.drop 1))) ∧ Up w w' := by
  obtain ⟨A2, hA2, hcut⟩ := run_sliceFrom (P := Tryd.prog) (t := 23) (sz := 1) Tryd.underlying23 (fun _ => rfl) b 0 ws.length c 1 h1 hc
  have hcut' := fun wx => hcut .i64 1 wx rfl
  have hl : ws.length - 1 = (ws.drop 1).length := by simp
  have hR : RdT w lo hi A2 (ws.drop 1) := by
    rcases hA2 with rfl | h
    · exact hr.drop 1
    · rw [List.drop_eq_nil_of_le h]; exact Rd.nil_
  have HF0 := fits_any A2 (ws.drop 1) (c - 1) lo hi d w hR hhi (by rw [← hl]; omega) (by rw [← hl]; omega) (fun x h => hz x (List.mem_of_mem_drop h)) hs he
  rw [hl] at hcut'
  generalize ws.drop 1 = R at *
  have HF := Lib.hid HF0
  clear hcut hl hA2 hR HF0
  go_enter Tryd.func10, Tryd.ntmps10
  go_wp2_with fail
  refine HF.out.mono ?_
  rintro e w1 ⟨rfl, v1⟩
  go_wp2
  go_ret
  exact ⟨rfl, v1⟩
end Go.Proofs.YtehoaoeahfmfpaaDoor
