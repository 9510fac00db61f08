/- CommonAncestor: the reference's and the program's walks. -/
import Derived.Test.YtncmenfdnpmblaaDoorAnc
import Derived.Laws.AppendOwnNone
namespace Go.Proofs.YtncmenfdnpmblaaDoor
open Go.RowKit Go.Sort

theorem beq_sw (x z : Int) : (x == z) = (z == x) := by rw [Bool.eq_iff_iff, beq_iff_eq, beq_iff_eq]; exact eq_comm
theorem has_no {l : List Int} {z : Int} (h : ∀ j x, j < l.length → l[j]? = some x → (x == z) = false) : l.contains z = false := by
  rw [List.contains_eq_any_beq, List.any_eq_false]
  intro x hx
  obtain ⟨j, hj, e⟩ := List.getElem_of_mem hx
  have := h j x hj (by rw [List.getElem?_eq_getElem hj, e])
  rw [← beq_sw]; simp [this]
theorem has_yes {l : List Int} {z x : Int} {j : Nat} (hx : l[j]? = some x) (h : (x == z) = true) : l.contains z = true := by
  rw [List.contains_eq_any_beq, List.any_eq_true]
  exact ⟨x, List.mem_of_getElem? hx, by rw [← beq_sw]; exact h⟩

def hasB (l : List Int) (z : Int) : Bool := l.contains z
set_option maxRecDepth 100000 in
set_option maxHeartbeats 1000000 in
theorem l01Has_any (A : Option Addr) (l : List Int) (c lo hi : Nat) (z : Int) (w : World) (hr : RdI w lo hi A l) (hn : l.length ≤ 2000000) :
    Calls Tryd.prog 49 #[.slice A l.length c, .int .i64 z] w fun e w' => e = .returned (.bool (hasB l z)) ∧ w = w' := by
  go_enter Tryd.func49, Tryd.ntmps49
  go_wp2
  go_loop [5] (fun i => ∃ k : Nat, k ≤ l.length ∧ i = .int .i64 k ∧ (∀ j x, j < k → l[j]? = some x → (x == z) = false)) (fun i => l.length - (intOf i).toNat)
  case atStart => exact ⟨0, Nat.zero_le _, rfl, fun j x h => absurd h (by omega)⟩
  case round =>
    obtain ⟨k, hk, rfl, ha⟩ := hrel
    have HA := Lib.hid ha
    clear ha
    by_cases hlt : k < l.length
    · obtain ⟨b, off, d, rfl, -, -, hd, q0⟩ := hr.int hlt
      have HD := Lib.hid hd
      clear hd
      rcases hp : d == z with _ | _
      · have HP := Lib.hid hp
        go_wp2
        go_round
        case rel => exact ⟨k + 1, by omega, by go_num, fun j x hj hx => by
          rcases Nat.lt_or_ge j k with h | h
          · exact HA.out j x h hx
          · obtain rfl : j = k := by omega
            rw [HD.out] at hx; cases hx; exact HP.out⟩
        case measure => simp [intOf]; omega
      · have HP := Lib.hid (show hasB l z = true from has_yes HD.out hp)
        go_wp2
        go_ret
        exact ⟨ret_bool HP.out.symm, rfl⟩
    · have HN := Lib.hid (show hasB l z = false from has_no (l := l) (z := z) (fun j x hj hx => HA.out j x (by omega) hx))
      go_wp2
      go_ret
      exact ⟨ret_bool HN.out.symm, rfl⟩

theorem arB_8 {P : List PC} (h : arB P = true) : P.length ≤ 8 := by unfold arB at h; simp only [Bool.and_eq_true, decide_eq_true_eq] at h; exact h.2
/-- the first of L that T holds, or none -/
def fsC (L T : List Int) : Int := match L.find? (fun a => T.contains a) with | some a => a | none => -1
theorem fs_no {L T : List Int} {k : Nat} {x : Int} (hx : L[k]? = some x) (h : T.contains x = false) : fsC (L.drop k) T = fsC (L.drop (k + 1)) T := by
  have hk := (List.getElem?_eq_some_iff.1 hx).1
  rw [List.drop_eq_getElem_cons hk, (List.getElem?_eq_some_iff.1 hx).2]
  unfold fsC
  rw [List.find?_cons_of_neg (by rw [h]; simp)]
theorem fs_yes {L T : List Int} {k : Nat} {x : Int} (hx : L[k]? = some x) (h : T.contains x = true) : fsC (L.drop k) T = x := by
  have hk := (List.getElem?_eq_some_iff.1 hx).1
  rw [List.drop_eq_getElem_cons hk, (List.getElem?_eq_some_iff.1 hx).2]
  unfold fsC
  rw [List.find?_cons_of_pos (by rw [h])]
theorem fs_end {L T : List Int} {k : Nat} (h : L.length ≤ k) : fsC (L.drop k) T = -1 := by rw [List.drop_eq_nil_of_le h]; rfl
def caC (P : List PC) (ps : List Int) (i k : Int) : Int := stC true P ps [i, k]
def caV (P : List PC) (ps : List Int) (i k : Int) : Int := if caC P ps i k = 0 then fsC (lnF ps i) (lnF ps k) else 0
theorem ca_no {P : List PC} {ps : List Int} {i k : Int} (h : (caC P ps i k != 0) = true) : caV P ps i k = 0 := by unfold caV; rw [if_neg (by simpa using h)]
theorem ca_yes {P : List PC} {ps : List Int} {i k : Int} (h : caC P ps i k = 0) : caV P ps i k = fsC ((lnF ps i).drop 0) (lnF ps k) := by unfold caV; rw [if_pos h]; rfl
theorem lnF_len (ps : List Int) (i : Int) : (lnF ps i).length = (lnL ps i).length + 1 := rfl
theorem lnF_has (ps : List Int) (k x : Int) : (lnF ps k).contains x = (x == k || (lnL ps k).contains x) := by unfold lnF; rw [List.contains_cons]

set_option maxRecDepth 100000 in
set_option maxHeartbeats 4000000 in
theorem specCommonA_any (A : Option Addr) (l : List Cp) (c : Nat) (B : Option Addr) (ps : List Int) (cb lo hi lo' hi' : Nat) (i k : Int) (w : World) (hr : RdC w lo hi A l) (hhi : hi ≤ w.heap.size) (hf : Fit l c) (hr' : RdI w lo' hi' B ps) (hhi' : hi' ≤ w.heap.size) (hn' : ps.length ≤ 2000000) :
    Calls Tryd.prog 9 #[.slice A l.length c, .slice B ps.length cb, .int .i64 i, .int .i64 k] w fun e w' => e = .returned (.tuple #[.int .i64 (caV (l.map Cp.p) ps i k), .int .i64 (caC (l.map Cp.p) ps i k)]) ∧ Up w w' := by
  have HC := Lib.hid (l23Code_any true A l c B ps cb lo hi lo' hi' i k w hr hhi hf hr' hhi' hn')
  clear hf
  by_cases h0 : caC (l.map Cp.p) ps i k = 0
  · have h0' : (stC true (l.map Cp.p) ps [i, k] != 0) = false := by simpa [caC] using h0
    obtain ⟨his, -, hix⟩ := stC_inv (show stC true (l.map Cp.p) ps [i, k] = 0 from h0)
    obtain ⟨hA, hlen, hpar, hst⟩ := is_inv his
    have hi1 := hix i (by simp)
    have hk1 := hix k (by simp)
    rw [← hlen] at hi1 hk1
    have HE := Lib.hid (ca_yes h0)
    obtain ⟨i, rfl⟩ := Int.eq_ofNat_of_zero_le hi1.1
    obtain ⟨k, rfl⟩ := Int.eq_ofNat_of_zero_le hk1.1
    have hil : i < ps.length := by omega
    have hkl : k < ps.length := by omega
    have hln := stB_at hst hil
    have hlnk := stB_at hst hkl
    have fi := ln_fin (by omega) hln
    have fk := ln_fin (by omega) hlnk
    have HF := Lib.hid (lnF_eq (by omega) hln)
    have HFK := Lib.hid (lnF_eq (by omega) hlnk)
    have H0 := Lib.hid h0
    have HLN := Lib.hid hln
    have HLK := Lib.hid hlnk
    have HP := Lib.hid hpar
    have HB := Lib.hid (show ps.length ≤ 8 by rw [hlen]; exact arB_8 hA)
    clear h0 hix his hA hlen hpar hst hln hlnk
    go_enter Tryd.func9, Tryd.ntmps9
    go_wp2_with fail
    refine HC.out.mono ?_
    rintro e w1 ⟨rfl, hup⟩
    have HL := Lib.hid (l23Line_any B ps cb lo' hi' (ps.length + 1) (i : Int) w1 (hr'.up hup hhi') (Nat.le_trans hhi' hup.size) (by omega) HP.out (by omega) (by omega) HLN.out hn')
    rw [HF.out] at HL
    go_wp2_with fail
    refine HL.out.mono ?_
    rintro e w2 ⟨v1, rfl, ho1, hup2⟩
    have hupb := hup.trans hup2
    have HL2 := Lib.hid (l23Line_any B ps cb lo' hi' (ps.length + 1) (k : Int) w2 (hr'.up hupb hhi') (Nat.le_trans hhi' hupb.size) (by omega) HP.out (by omega) (by omega) HLK.out hn')
    rw [HFK.out] at HL2
    go_wp2_with fail
    refine HL2.out.mono ?_
    rintro e w3 ⟨v2, rfl, ho2, hup3⟩
    have hupc := hupb.trans hup3
    have ho1' := own_up ho1 hup3
    obtain ⟨A1, c1, rfl, -, -, -, -⟩ := own_form ho1'
    obtain ⟨A2, c2, rfl, -, -, -, -⟩ := own_form ho2
    have r1 := Rd.own int_len ho1'
    have r2 := Rd.own int_len ho2
    have l1 := lnF_len ps (i : Int)
    have l2 := lnF_len ps (k : Int)
    have l1' : (lnF ps (i : Int)).length ≤ 2000001 := by omega
    have l2' : (lnF ps (k : Int)).length ≤ 2000000 := by have := HB.out; omega
    clear ho1 ho1' ho2 h0' l1 l2
    go_wp2
    go_loop [13] (fun a => ∃ q : Nat, q ≤ (lnF ps (i : Int)).length ∧ a = .int .i64 q ∧ fsC ((lnF ps (i : Int)).drop 0) (lnF ps (k : Int)) = fsC ((lnF ps (i : Int)).drop q) (lnF ps (k : Int))) (fun a => (lnF ps (i : Int)).length - (intOf a).toNat)
    case atStart => exact ⟨0, Nat.zero_le _, rfl, rfl⟩
    case round =>
      obtain ⟨q, hq, rfl, hfs⟩ := hrel
      have HFS := Lib.hid hfs
      clear hfs
      by_cases hlt : q < (lnF ps (i : Int)).length
      · obtain ⟨b5, o5, x, rfl, -, -, hx, y0⟩ := r1.int hlt
        have HX := Lib.hid hx
        have hh := l01Has_any A2 (lnF ps (k : Int)) c2 _ _ x w3 r2 l2'
        obtain ⟨bb, hbb⟩ : ∃ bb, bb = hasB (lnF ps (k : Int)) x := ⟨_, rfl⟩
        rw [← hbb] at hh
        have HH := Lib.hid hh
        have HB := Lib.hid hbb
        clear hx hh hbb
        cases bb
        · go_wp2_with (go_at_call 49; refine HH.out.mono ?_; rintro e w4 ⟨rfl, rfl⟩)
          go_round
          case rel => exact ⟨q + 1, by omega, by go_num, by rw [HFS.out, fs_no HX.out HB.out.symm]⟩
          case measure => simp [intOf]; omega
        · go_wp2_with (go_at_call 49; refine HH.out.mono ?_; rintro e w4 ⟨rfl, rfl⟩)
          go_ret2
          exact ⟨ret_iI (by rw [HE.out, HFS.out, fs_yes HX.out HB.out.symm]) H0.out.symm, hupc⟩
      · go_wp2
        go_ret2
        exact ⟨ret_iI (by rw [HE.out, HFS.out, fs_end (by omega)]) H0.out.symm, hupc⟩
  · have h0' : (stC true (l.map Cp.p) ps [i, k] != 0) = true := by simpa [caC] using h0
    have H := Lib.hid (ca_no h0')
    clear h0
    go_enter Tryd.func9, Tryd.ntmps9
    go_wp2_with (go_at_call 47; refine HC.out.mono ?_; rintro e w1 ⟨rfl, hup⟩)
    go_ret2
    exact ⟨ret_iI H.out.symm rfl, by assumption⟩

theorem flat_inv' {α : Type} (f : α → List Value) (size : Nat) (hf : ∀ x, (f x).length = size) : ∀ (l : List α) (j : Nat) (u : Value), (l.flatMap f)[j]? = some u → ∃ i x r, l[i]? = some x ∧ (f x)[r]? = some u ∧ j = i * size + r
  | [], j, u, h => by simp at h
  | y :: l, j, u, h => by
    rw [List.flatMap_cons] at h
    rcases Nat.lt_or_ge j (f y).length with hj | hj
    · rw [List.getElem?_append_left hj] at h
      exact ⟨0, y, j, rfl, h, by simp⟩
    · rw [List.getElem?_append_right hj] at h
      obtain ⟨i, x, r, h1, h2, h3⟩ := flat_inv' f size hf l _ u h
      refine ⟨i + 1, x, r, by simpa using h1, h2, ?_⟩
      rw [hf] at hj h3
      rw [Nat.add_mul]; omega
/-- the cells that an append of the whole slice reads -/
theorem Rd.news' {α : Type} {w : World} {lo hi size : Nat} {f : α → List Value} {ad : Addr} {l : List α} (hf : ∀ x, (f x).length = size) (h : Rd w lo hi size f (some ad) l) : ∀ j u, (l.flatMap f)[j]? = some u → w.cell? (ad.add j) = some u := by
  intro j u hu
  obtain ⟨i, x, r, h1, h2, h3⟩ := flat_inv' f size hf l j u hu
  obtain ⟨b, off, e, -, -, h5⟩ := h (by rintro rfl; simp at hu)
  cases e
  rw [Go.WideShapes.add_plain, h3, ← Nat.add_assoc]
  exact h5 i x h1 r u h2
theorem ints_one (l : List Int) : ∀ u ∈ l.flatMap intCells, u.oneCell' = true := by
  intro u hu
  obtain ⟨x, _, hx⟩ := List.mem_flatMap.1 hu
  simp only [intCells, List.mem_cons, List.not_mem_nil, or_false] at hx
  subst hx; rfl

set_option maxRecDepth 100000 in
set_option maxHeartbeats 4000000 in
theorem implCommonA_any (A : Option Addr) (l : List Cp) (c : Nat) (B : Option Addr) (ps : List Int) (cb lo hi lo' hi' : Nat) (i k : Int) (w : World) (hr : RdC w lo hi A l) (hhi : hi ≤ w.heap.size) (hf : Fit l c) (hr' : RdI w lo' hi' B ps) (hhi' : hi' ≤ w.heap.size) (hn' : ps.length ≤ 2000000) :
    Calls Tryd.prog 8 #[.slice A l.length c, .slice B ps.length cb, .int .i64 i, .int .i64 k] w fun e w' => e = .returned (.tuple #[.int .i64 (caV (l.map Cp.p) ps i k), .int .i64 (caC (l.map Cp.p) ps i k)]) ∧ Up w w' := by
  obtain ⟨i0, hi0, hz0, hz1, hz2⟩ := info_parts infoInt
  have hu0 := Up.alloc w (.cells #[.int .i64 i, .int .i64 k] 2)
  have HC := Lib.hid (checkStemma_any A l c B ps cb (some ⟨w.heap.size, 0, none⟩) [i, k] 2 lo hi lo' hi' w.heap.size (w.heap.size + 1) _ (hr.up hu0 hhi) (Nat.le_trans hhi hu0.size) hf (hr'.up hu0 hhi') (Nat.le_trans hhi' hu0.size) hn' (two_rd' w i k) (by simp) (by simp))
  clear hf
  by_cases h0 : caC (l.map Cp.p) ps i k = 0
  · have h0' : (stC true (l.map Cp.p) ps [i, k] != 0) = false := by simpa [caC] using h0
    obtain ⟨his, -, hix⟩ := stC_inv (show stC true (l.map Cp.p) ps [i, k] = 0 from h0)
    obtain ⟨hA, hlen, hpar, hst⟩ := is_inv his
    have hi1 := hix i (by simp)
    have hk1 := hix k (by simp)
    rw [← hlen] at hi1 hk1
    have HE := Lib.hid (ca_yes h0)
    obtain ⟨i, rfl⟩ := Int.eq_ofNat_of_zero_le hi1.1
    obtain ⟨k, rfl⟩ := Int.eq_ofNat_of_zero_le hk1.1
    have hil : i < ps.length := by omega
    have hkl : k < ps.length := by omega
    have hln := stB_at hst hil
    have hlnk := stB_at hst hkl
    have fi := ln_fin (by omega) hln
    have fk := ln_fin (by omega) hlnk
    have H0 := Lib.hid h0
    have HLN := Lib.hid hln
    have HLK := Lib.hid hlnk
    have HP := Lib.hid hpar
    clear h0 hix his hA hlen hpar hst hln hlnk
    go_enter Tryd.func8, Tryd.ntmps8
    go_wp2_with fail
    refine HC.out.mono ?_
    rintro e w1 ⟨rfl, hup1⟩
    have hup := hu0.trans hup1
    have HL := Lib.hid (ancestorsOf_any B ps cb lo' hi' i w1 (hr'.up hup hhi') (Nat.le_trans hhi' hup.size) hn' HP.out hil)
    rw [show lnB ps (i : Int) = true from HLN.out] at HL
    go_wp2_with fail
    refine HL.out.mono ?_
    rintro e w2 ⟨v1, rfl, ho1, hnn, hup2⟩
    obtain ⟨g1, n1, c1, rfl⟩ := hnn rfl
    have hupb := hup.trans hup2
    have HL2 := Lib.hid (ancestorsOf_any B ps cb lo' hi' k w2 (hr'.up hupb hhi') (Nat.le_trans hhi' hupb.size) hn' HP.out hkl)
    rw [show lnB ps (k : Int) = true from HLK.out] at HL2
    go_wp2_with fail
    refine HL2.out.mono ?_
    rintro e w3 ⟨v2, rfl, ho2, -, hup3⟩
    have hupc := hupb.trans hup3
    have ho1' := own_up ho1 hup3
    obtain ⟨A1, c1', hv1, -, -, -, -⟩ := own_form ho1'
    cases hv1
    obtain ⟨A2, c2, rfl, -, -, -, -⟩ := own_form ho2
    have hua := Up.alloc w3 (.cells #[.int .i64 (i : Int)] 2)
    have r2 := (Rd.own int_len ho2).up hua (Nat.le_refl _)
    have r1 := (Rd.own int_len ho1').up hua (Nat.le_refl _)
    have hlit := World.ownsRow_lit (base := w3.heap.size) (e := 2) (size := 1) w3 #[.int .i64 (i : Int)] 1 (Nat.le_refl _) (by simp [maxLen]) rfl
    have hnews := Rd.news' int_len r1
    have n0 : ((lnL ps (i : Int)).flatMap intCells).length = (lnL ps (i : Int)).length * 1 := flat_length _ 1 int_len _
    have m1 : 1 + (lnL ps (i : Int)).length ≤ maxLen := by unfold maxLen; omega
    have m2 : (1 + (lnL ps (i : Int)).length) * 8 ≤ 140737488355328 := by omega
    have m3 : w3.heap.size ≤ (w3.alloc (.cells #[.int .i64 (i : Int)] 2)).heap.size := hua.size
    have HN := Lib.hid hnews
    have HO := Lib.hid (ints_one (lnL ps (i : Int)))
    have HN0 := Lib.hid n0
    have HLIT := Lib.hid hlit
    clear hnews n0 hlit ho1 ho1' ho2 h0' r1
    go_wp2_with ((at_builtin; refine wpList_append_own _ rfl _ _ 25 rfl w3.heap.size 2 i0 _ 1 8 Tryd.underlying25 hi0 hz0 hz1 hz2 rfl (by decide) _ _ _ rfl HLIT.out ⟨g1, 0, none⟩ (lnL ps (i : Int)).length c1 ((lnL ps (i : Int)).flatMap intCells) rfl HN0.out HN.out HO.out m1 m2 m3 ?_))
    intro v' w4 hown' hgrow _
    have hu34 := hua.grown hgrow (fun k hk => (HLIT.out.lt k hk).1)
    have ho3 : w4.ownsRow w3.heap.size 2 1 v' (lnF ps (i : Int)).length ((lnF ps (i : Int)).flatMap intCells) := by
      rw [lnF_len, Nat.add_comm]; exact hown'
    have hg4 := r2.grown hgrow (Nat.le_of_lt (by simp)) (In.own HLIT.out) (.inl (Nat.le_refl _))
    obtain ⟨A3, c3, rfl, -, -, -, -⟩ := own_form ho3
    have r3 := Rd.own int_len ho3
    have hu4 := hupc.trans hu34
    have l3 : (lnF ps (i : Int)).length ≤ 2000001 := by rw [lnF_len]; omega
    clear ho3 hown' hgrow r2
    go_wp2
    go_loop [16, 43] (fun _ a => ∃ q : Nat, q ≤ (lnF ps (i : Int)).length ∧ a = .int .i64 q ∧ fsC ((lnF ps (i : Int)).drop 0) (lnF ps (k : Int)) = fsC ((lnF ps (i : Int)).drop q) (lnF ps (k : Int))) (fun _ a => (lnF ps (i : Int)).length - (intOf a).toNat)
    case atStart => exact ⟨0, Nat.zero_le _, rfl, rfl⟩
    case round =>
      obtain ⟨q, hq, rfl, hfs⟩ := hrel
      have HFS := Lib.hid hfs
      clear hfs
      by_cases hlt : q < (lnF ps (i : Int)).length
      · obtain ⟨b5, o5, x, rfl, -, -, hx, y0⟩ := r3.int hlt
        have HX := Lib.hid hx
        have HHS := Lib.hid (lnF_has ps (k : Int) x)
        have hh := containsI_any A2 (lnL ps (k : Int)) c2 _ _ x w4 hg4 (by omega)
        obtain ⟨bb, hbb⟩ : ∃ bb, bb = (lnL ps (k : Int)).contains x := ⟨_, rfl⟩
        rw [← hbb] at hh HHS
        have HH := Lib.hid hh
        clear hx hh hbb
        rcases hxk : x == (k : Int) with _ | _
        · rw [hxk] at HHS
          cases bb
          · go_wp2_with (go_at_call 46; refine HH.out.mono ?_; rintro e w5 ⟨rfl, rfl⟩)
            go_round
            case rel => exact ⟨q + 1, by omega, by go_num, by rw [HFS.out, fs_no HX.out HHS.out]⟩
            case measure => simp [intOf]; omega
          · go_wp2_with (go_at_call 46; refine HH.out.mono ?_; rintro e w5 ⟨rfl, rfl⟩)
            go_ret2
            exact ⟨ret_iI (by rw [HE.out, HFS.out, fs_yes HX.out HHS.out]) H0.out.symm, hu4⟩
        · rw [hxk] at HHS
          go_wp2
          go_ret2
          exact ⟨ret_iI (by rw [HE.out, HFS.out, fs_yes HX.out (by rw [HHS.out]; rfl)]) H0.out.symm, hu4⟩
      · go_wp2
        go_ret2
        exact ⟨ret_iI (by rw [HE.out, HFS.out, fs_end (by omega)]) H0.out.symm, hu4⟩
  · have h0' : (stC true (l.map Cp.p) ps [i, k] != 0) = true := by simpa [caC] using h0
    have H := Lib.hid (ca_no h0')
    clear h0
    go_enter Tryd.func8, Tryd.ntmps8
    go_wp2_with (go_at_call 44; refine HC.out.mono ?_; rintro e w1 ⟨rfl, hup⟩)
    go_ret2
    exact ⟨ret_iI H.out.symm rfl, hu0.trans (by assumption)⟩
end Go.Proofs.YtncmenfdnpmblaaDoor
