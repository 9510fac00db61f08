/- LearnFormula: the reference's and the program's walks. -/
import Derived.Test.YtehoaoeahfmfpaaGreatDoorLearnO
import Derived.Test.YtehoaoeahfmfpaaGreatDoorFuncsF
import Derived.BigRegion
import Derived.Deep.Cut
import Derived.Deep.DeepCutAuto
namespace Go.Proofs.YtehoaoeahfmfpaaGreatDoor
open Go.RowKit Go.Sort

/-- the first formula with words alike -/
def lfI (ps : List FmP) (W : List ByteArray) : Option Nat := ps.findIdx? fun p => alL p.1 W
def lfR (ps : List FmP) (W : List ByteArray) (n : Int) : List FmP := match lfI ps W with | some i => (match ps[i]? with | some p => ps.set i (p.1, min p.2.1 n, max p.2.2 n) | none => ps) | none => ps ++ [(W, n, n)]
def lfC (ps : List FmP) (W : List ByteArray) (n : Int) : Int := if afP ps = true then (if fmB (W, n, n) = true then (if lfI ps W = none ∧ ps.length = 20 then 3 else 0) else 2) else 1
def lfL (ps : List FmP) (W : List ByteArray) (n : Int) : List FmP := if lfC ps W n = 0 then lfR ps W n else []
section
variable {ps : List FmP} {W : List ByteArray} {n : Int}
theorem lf_1 (h : afP ps = false) : lfC ps W n = 1 ∧ lfL ps W n = [] := by simp [lfC, lfL, h]
theorem lf_2 (h : afP ps = true) (h2 : fmB (W, n, n) = false) : lfC ps W n = 2 ∧ lfL ps W n = [] := by simp [lfC, lfL, h, h2]
theorem lf_3 (h : afP ps = true) (h2 : fmB (W, n, n) = true) (h3 : lfI ps W = none) (h4 : ps.length = 20) : lfC ps W n = 3 ∧ lfL ps W n = [] := by simp [lfC, lfL, h, h2, h3, h4]
theorem lf_0 (h : afP ps = true) (h2 : fmB (W, n, n) = true) (h3 : ¬ (lfI ps W = none ∧ ps.length = 20)) : lfC ps W n = 0 ∧ lfL ps W n = lfR ps W n := by
  have : lfC ps W n = 0 := by unfold lfC; rw [if_pos h, if_pos h2, if_neg h3]
  exact ⟨this, by unfold lfL; rw [if_pos this]⟩
end
theorem lfI_hit {L : List Fm} {W : List ByteArray} {k : Nat} {x : Fm} (hk : L[k]? = some x) (hx : alL x.ws W = true) (hb : ∀ j y, j < k → L[j]? = some y → alL y.ws W = false) : lfI (L.map Fm.p) W = some k := by
  unfold lfI
  rw [List.findIdx?_eq_some_iff_getElem]
  have hkl := (List.getElem?_eq_some_iff.1 hk).1
  refine ⟨by rw [List.length_map]; exact hkl, ?_, fun j hj => ?_⟩
  · rw [List.getElem_map, (List.getElem?_eq_some_iff.1 hk).2]; exact hx
  · rw [List.getElem_map]
    have := hb j _ hj (List.getElem?_eq_getElem (by omega))
    simp only [Fm.p]; rw [this]; decide
theorem lfI_miss {L : List Fm} {W : List ByteArray} (hb : ∀ j y, j < L.length → L[j]? = some y → alL y.ws W = false) : lfI (L.map Fm.p) W = none := by
  unfold lfI
  rw [List.findIdx?_eq_none_iff]
  intro p hp
  obtain ⟨y, hy, rfl⟩ := List.mem_map.1 hp
  obtain ⟨j, hj, e⟩ := List.getElem_of_mem hy
  exact hb j y hj (by rw [List.getElem?_eq_getElem hj, e])
theorem lfR_hit {L : List Fm} {W : List ByteArray} {n : Int} {k : Nat} {x : Fm} (hk : L[k]? = some x) (h : lfI (L.map Fm.p) W = some k) : lfR (L.map Fm.p) W n = (L.set k ⟨x.A, x.c, x.ws, min x.fr n, max x.to_ n⟩).map Fm.p := by
  unfold lfR
  rw [h]
  simp only [List.getElem?_map, hk, Option.map_some, List.map_set]
  rfl
theorem lfR_miss {ps : List FmP} {W : List ByteArray} {n : Int} (h : lfI ps W = none) : lfR ps W n = ps ++ [(W, n, n)] := by unfold lfR; rw [h]
theorem smF_same {L l : List Fm} (h : L.map Fm.p = l.map Fm.p) (hs : SmF l) : SmF L := same_ws (q := fun r => (∀ s ∈ r, s.size < 32) ∧ r.length ≤ 60 ∧ 0 < r.length) h hs
theorem len_same {L l : List Fm} (h : L.map Fm.p = l.map Fm.p) : L.length = l.length := by have := congrArg List.length h; simpa using this
theorem box_fm (w : World) (v : Value) (a b : Int) : (w.alloc (.cells #[v, .int .i64 a, .int .i64 b] 51)).cell? ⟨w.heap.size, 0, none⟩ = some v ∧ (w.alloc (.cells #[v, .int .i64 a, .int .i64 b] 51)).cell? ⟨w.heap.size, 1, none⟩ = some (.int .i64 a) ∧ (w.alloc (.cells #[v, .int .i64 a, .int .i64 b] 51)).cell? ⟨w.heap.size, 2, none⟩ = some (.int .i64 b) := ⟨by go_simp, by go_simp, by go_simp⟩

set_option maxRecDepth 100000 in
set_option maxHeartbeats 8000000 in
theorem specLearn_any (A B : Option Addr) (l : List Fm) (W : List ByteArray) (ca cb lo hi lo' hi' : Nat) (n : Int) (w : World) (hr : RdF w lo hi A l) (hhi : hi ≤ w.heap.size) (hr' : RdT w lo' hi' B W) (hhi' : hi' ≤ w.heap.size) (hok : ∀ x ∈ l, x.ok) (hws : ∀ x ∈ l, x.ws.length ≤ 2000000) (hn : l.length ≤ 2000000) (hP : ∀ x ∈ W, x.size ≤ maxLen) (hn' : W.length ≤ 2000000) (hcz : B = none → cb = 0) :
    Calls Tryz.prog 8 #[.slice A l.length ca, .slice B W.length cb, .int .i64 n] w fun e w' => ∃ v L, e = .returned (.tuple #[v, .int .i64 (lfC (l.map Fm.p) W n)]) ∧ StG w' w.heap.size v L ∧ L.map Fm.p = lfL (l.map Fm.p) W n ∧ Up w w' := by
  obtain ⟨i0, hi0, hz0, hz1, hz2⟩ := info_parts infoStrL
  obtain ⟨i1, hi1, hy0, hy1, hy2⟩ := info_parts infoFm
  have hlit := World.ownsRow_lit (base := w.heap.size) (e := 9) (size := 1) w #[] 0 (Nat.le_refl _) (by simp [maxLen]) rfl
  have hup0 := Up.alloc w (.cells #[] 9)
  have HL := Lib.hid hlit
  have HP := Lib.hid hP
  have HOK := Lib.hid hok
  have HWS := Lib.hid hws
  have HAF := Lib.hid (fun (wx : World) (hu : Up w wx) => specAreFormulas_any A l ca lo hi wx (hr.up hu hhi) (Nat.le_trans hhi hu.size) hok hws hn)
  obtain ⟨af, haf⟩ : ∃ b, b = afP (l.map Fm.p) := ⟨_, rfl⟩
  obtain ⟨fm, hfm⟩ : ∃ b, b = fmB (W, n, n) := ⟨_, rfl⟩
  have HA := Lib.hid haf
  have HFM := Lib.hid hfm
  have HAF2 := Lib.hid (fun (wx : World) (hu : Up w wx) => show Calls Tryz.prog 39 #[.slice A l.length ca] wx fun e w' => e = .returned (.bool af) ∧ Up wx w' from by
    rw [haf, ← afB_p]; exact HAF.out wx hu)
  clear hlit hP hok hws HAF haf hfm
  go_enter Tryz.func8, Tryz.ntmps8
  go_upto_region 1 with fail
  go_cut [8] (fun p wx => ∃ (Y : World) (C1 : Option Addr) (c1 g : Nat), Y = wx ∧ p = .pointer (some ⟨g, 0, none⟩) ∧ Y.ownsRow w.heap.size 9 1 (.slice C1 W.length c1) W.length (W.flatMap strC) ∧ (Y.cell? ⟨g, 0, none⟩ = some (.slice C1 W.length c1) ∧ Y.cell? ⟨g, 1, none⟩ = some (.int .i64 n) ∧ Y.cell? ⟨g, 2, none⟩ = some (.int .i64 n)) ∧ Up w Y)
  case first =>
    rcases B with _ | ad
    · have hW : W = [] := by
        rcases W with _ | ⟨x, W⟩
        · rfl
        · obtain ⟨b, off, e, _⟩ := hr' (by simp); cases e
      subst hW
      obtain rfl : cb = 0 := hcz rfl
      have hb2 := box_fm (w.alloc (.cells #[] 9)) (.slice (some ⟨w.heap.size, 0, none⟩) 0 0) n n
      have ub2 := hup0.allocs (.cells #[.slice (some ⟨w.heap.size, 0, none⟩) 0 0, .int .i64 n, .int .i64 n] 51)
      have ho2 := own_up HL.out (Up.alloc _ (.cells #[.slice (some ⟨w.heap.size, 0, none⟩) 0 0, .int .i64 n, .int .i64 n] 51))
      have HH := Lib.hid (And.intro ho2 (And.intro hb2 ub2))
      clear hb2 ub2 ho2
      go_wp2_with ((at_builtin; refine wpList_append_own_none rfl _ _ 23 rfl w.heap.size 9 i0 1 Tryz.underlying23 hi0 _ 0 [] rfl HL.out rfl ?_))
      go_meet
      exact ⟨_, _, _, _, rfl, rfl, HH.out.1, ⟨by go_simp, by go_simp, by go_simp⟩, HH.out.2.2⟩
    · have hnews := txt_news (hr'.up hup0 hhi')
      have HN := Lib.hid hnews
      have H0 := Lib.hid (show (W.flatMap strC).length = W.length * 1 from flat_length _ 1 strC_len W)
      have HO := Lib.hid (txts_one W)
      have n1 : 0 + W.length ≤ maxLen := by unfold maxLen; omega
      have n2 : (0 + W.length) * 16 ≤ 140737488355328 := by omega
      have n3 : w.heap.size ≤ (w.alloc (.cells #[] 9)).heap.size := hup0.size
      clear hnews
      go_wp2_with ((at_builtin; refine wpList_append_own _ rfl _ _ 23 rfl w.heap.size 9 i0 _ 1 16 Tryz.underlying23 hi0 hz0 hz1 hz2 rfl (by decide) _ _ _ rfl HL.out ad W.length cb (W.flatMap strC) rfl H0.out HN.out HO.out n1 n2 n3 ?_))
      intro v1 w1 hown1 hg1 _
      have u1 := hup0.grown hg1 (fun k hk => (HL.out.lt k hk).1)
      have hw1 : w1.ownsRow w.heap.size 9 1 v1 W.length (W.flatMap strC) := by simpa using hown1
      obtain ⟨C1, c1, rfl, -⟩ := own_form hw1
      have hb2 := box_fm w1 (.slice C1 W.length c1) n n
      have ub2 := u1.allocs (.cells #[.slice C1 W.length c1, .int .i64 n, .int .i64 n] 51)
      have ho2 := own_up hw1 (Up.alloc w1 (.cells #[.slice C1 W.length c1, .int .i64 n, .int .i64 n] 51))
      have HH := Lib.hid (And.intro ho2 (And.intro hb2 ub2))
      clear hb2 ub2 ho2 hown1 hg1 u1 hw1
      go_wp2_with fail
      go_meet
      exact ⟨_, _, _, _, rfl, rfl, HH.out.1, HH.out.2.1, HH.out.2.2⟩
  case rest =>
  obtain ⟨Y, C1, c1, g, hY, rfl, hoY, hbY, uY⟩ := hcut
  subst hY
  have HOY := Lib.hid hoY
  have HBY := Lib.hid hbY
  have ROY : RdT Y w.heap.size Y.heap.size C1 W := Rd.own strC_len hoY
  clear HL hoY hbY hup0
  go_wp2_with fail
  refine (HAF2.out Y uY).mono ?_
  rintro e w3 ⟨rfl, u3⟩
  have U3 := uY.trans u3
  cases af with
  | false =>
    have HE := Lib.hid (lf_1 (W := W) (n := n) HA.out.symm)
    go_wp2
    refine bodyPost_ret (v := .tuple #[.slice none 0 0, .int .i64 1]) (by simp [results, Tryz.results8, go_sem]) rfl ⟨_, [], by rw [HE.out.1], StG.nil_ (World.ownsRow_nil _ _ _ _), by rw [HE.out.2]; rfl, U3⟩
  | true =>
  have hsm := SmF.of HA.out.symm
  have hl20 : l.length ≤ 20 := by have := (afP_small HA.out.symm).1; rwa [List.length_map] at this
  obtain ⟨b0, b1, b2⟩ := HBY.out
  have t0 := u3.cell b0
  have t1 := u3.cell b1
  have t2 := u3.cell b2
  have HQ := Lib.hid (l24Formula_any ⟨C1, c1, W, n, n⟩ _ _ w3 (ROY.up u3 (Nat.le_refl _)) u3.size HP.out hn')
  have HQ2 : Hid (Calls Tryz.prog 41 #[.agg #[.slice C1 W.length c1, .int .i64 n, .int .i64 n]] w3 fun e w' => e = .returned (.bool fm) ∧ Up w3 w') := Lib.hid (by rw [HFM.out]; exact HQ.out)
  have HSM := Lib.hid hsm
  clear HQ b0 b1 b2 hsm
  go_wp2_with fail
  refine HQ2.out.mono ?_
  rintro e w4 ⟨rfl, u4⟩
  have U4 := U3.trans u4
  clear t0 t1 t2 HQ2
  cases fm with
  | false =>
    have HE := Lib.hid (lf_2 HA.out.symm HFM.out.symm)
    go_wp2
    refine bodyPost_ret (v := .tuple #[.slice none 0 0, .int .i64 2]) (by simp [results, Tryz.results8, go_sem]) rfl ⟨_, [], by rw [HE.out.1], StG.nil_ (World.ownsRow_nil _ _ _ _), by rw [HE.out.2]; rfl, U4⟩
  | true =>
  obtain ⟨hW32, hW60, hWpos⟩ := fmB_small HFM.out.symm
  simp only at hW32 hW60 hWpos
  have HOWN := Lib.hid (l24Own_any A l ca lo hi w4 (hr.up U4 hhi) (Nat.le_trans hhi U4.size) HSM.out (by omega))
  go_wp2_with fail
  refine HOWN.out.mono ?_
  rintro e w5 ⟨v5, L, rfl, hst, hmap, u5⟩
  have U5 := U4.trans u5
  have hLl := Lib.hid (len_same hmap)
  have hL20 : L.length ≤ 20 := by have := hLl.out; omega
  obtain ⟨C5, c5, rfl, -⟩ := own_form hst.list
  have hrL := hst.rdf
  have HST := Lib.hid hst
  have HMP := Lib.hid hmap
  have HSL := Lib.hid (smF_same hmap HSM.out)
  have HW32 := Lib.hid hW32
  clear HOWN hst hmap hW32
  go_wp2
  go_loopw [10] (fun i wr => ∃ k : Nat, k ≤ L.length ∧ i = .int .i64 k ∧ (∀ j x, j < k → L[j]? = some x → alL x.ws W = false) ∧ Up w5 wr) (fun i _ => L.length - (intOf i).toNat)
  case atStart => exact ⟨0, Nat.zero_le _, rfl, fun j x h => absurd h (by omega), Up.refl _⟩
  case round =>
    obtain ⟨k, hk, rfl, ha, hup⟩ := hrel
    have HB := Lib.hid ha
    clear ha
    by_cases hlt : k < L.length
    · obtain ⟨b, off, x, rfl, -, -, hx, hrx, q0, q1, q2⟩ := (hrL.up hup (Nat.le_refl _)).at_ hlt
      have hxs := HSL.out x (List.mem_of_getElem? hx)
      have HX := Lib.hid hx
      obtain ⟨qb, hqb⟩ : ∃ q, q = alL x.ws W := ⟨_, rfl⟩
      have hal := l24Alike_any x.A B x.ws W x.c cb _ _ lo' hi' wr hrx hup.size (hr'.up (U5.trans hup) hhi') (Nat.le_trans hhi' (U5.trans hup).size) hxs.1 HW32.out (by omega) hn'
      rw [← hqb] at hal
      have HAL := Lib.hid hal
      have HQB := Lib.hid hqb
      clear hx hal hqb
      go_wp2_with fail
      refine HAL.out.mono ?_
      rintro e w6 ⟨rfl, u6⟩
      have V6 := hup.trans u6
      cases qb with
      | false =>
        go_wp2
        go_roundw
        case rel => exact ⟨k + 1, by omega, by go_num, fun j y hj hy => by
          rcases Nat.lt_or_ge j k with h | h
          · exact HB.out j y h hy
          · obtain rfl : j = k := by omega
            rw [HX.out] at hy; cases hy; exact HQB.out.symm, V6⟩
        case measure => simp [intOf]; omega
      | true =>
        have hhit := lfI_hit HX.out HQB.out.symm HB.out
        rw [HMP.out] at hhit
        have HE := Lib.hid (lf_0 HA.out.symm HFM.out.symm (fun h => by rw [hhit] at h; cases h.1))
        have hR := lfR_hit (n := n) HX.out (by rw [HMP.out]; exact hhit)
        rw [HMP.out] at hR
        have HR := Lib.hid hR
        have st6 := HST.out.up V6
        obtain ⟨A', c', hv, -, -, hAA, -⟩ := own_form st6.list
        simp only [Value.slice.injEq] at hv
        obtain ⟨hv1, -, rfl⟩ := hv
        obtain ⟨g', e', -, -⟩ := hAA (by omega)
        obtain ⟨rfl, rfl⟩ : b = g' ∧ off = 0 := by rw [← hv1] at e'; cases e'; exact ⟨rfl, rfl⟩
        have r1 := u6.cell q1
        have r2 := u6.cell q2
        simp only [Nat.zero_add] at r1 r2
        have z1 := st6.list.frozenAt (k * 3 + 1)
        have z2 := st6.list.frozenAt (k * 3 + 2)
        have hD := StG.dates st6 HX.out (min x.fr n) (max x.to_ n) (.inl rfl)
        have HD := Lib.hid hD
        have HU := Lib.hid (U5.trans V6)
        have HW5 := Lib.hid u5.size
        have HW4 := Lib.hid U4.size
        clear q0 q1 q2 hhit hR st6 hD hAA hv1 e'

        have hbw : w.heap.size ≤ b := by have h1 := (HST.out.list.lt b rfl).1; have h2 := HW4.out; omega
        go_wp2
        refine bodyPost_ret (v := .tuple #[.slice (some ⟨b, 0, none⟩) L.length c5, .int .i64 0]) (by simp [results, Tryz.results8, go_sem]) rfl ⟨_, L.set k ⟨x.A, x.c, x.ws, min x.fr n, max x.to_ n⟩, by rw [HE.out.1], HD.out.base HW4.out, by rw [HE.out.2, HR.out], (HU.out.setCell hbw _).setCell hbw _⟩
    · have hmiss := lfI_miss (L := L) (W := W) (fun j y hj hy => HB.out j y (by omega) hy)
      rw [HMP.out] at hmiss
      have HU := Lib.hid (U5.trans hup)
      have HW4 := Lib.hid U4.size
      by_cases h20 : L.length = 20
      · have hb : ((L.length : Int) == 20) = true := by rw [h20]; rfl
        have HE := Lib.hid (lf_3 HA.out.symm HFM.out.symm hmiss (by rw [List.length_map, ← hLl.out, h20]))
        clear h20 hmiss
        go_wp2
        refine bodyPost_ret (v := .tuple #[.slice none 0 0, .int .i64 3]) (by simp [results, Tryz.results8, go_sem]) rfl ⟨_, [], by rw [HE.out.1], StG.nil_ (World.ownsRow_nil _ _ _ _), by rw [HE.out.2]; rfl, HU.out⟩
      · have hb : ((L.length : Int) == 20) = false := by rw [beq_eq_false_iff_ne]; omega
        have HE := Lib.hid (lf_0 HA.out.symm HFM.out.symm (fun h => h20 (by have := h.2; rw [List.length_map, ← hLl.out] at this; exact this)))
        have HR := Lib.hid (lfR_miss (n := n) hmiss)
        have v3 := u3.trans (u4.trans (u5.trans hup))
        obtain ⟨b0, b1, b2⟩ := HBY.out
        have t0 := v3.cell b0
        have t1 := v3.cell b1
        have t2 := v3.cell b2
        have ub := Up.alloc wr (.cells #[.slice C1 W.length c1, .int .i64 n, .int .i64 n] 51)
        have hSB := (HST.out.up hup).up ub
        have HNS := Lib.hid (fm_news wr (.slice C1 W.length c1) n n)
        have k1 : L.length + 1 ≤ maxLen := by unfold maxLen; omega
        have k2 : (L.length + 1) * 40 ≤ 140737488355328 := by omega
        have m3 : w4.heap.size ≤ (wr.alloc (.cells #[.slice C1 W.length c1, .int .i64 n, .int .i64 n] 51)).heap.size := Nat.le_trans (u5.trans hup).size ub.size
        have HOW := Lib.hid (own_up (own_up HOY.out v3) ub)
        have HYS := Lib.hid (show ∀ b', (Value.slice C1 W.length c1).ownBlock = some b' → b' < w4.heap.size from fun b' hb' => by have h1 := (HOY.out.lt b' hb').2; have h2 := (u3.trans u4).size; omega)
        clear h20 hmiss b0 b1 b2 ROY
        go_wp2_with ((at_builtin; refine wpList_append_lies (P := Tryz.prog) _ rfl _ _ 26 rfl w4.heap.size 51 i1 _ 3 40 Tryz.underlying26 hi1 hy0 hy1 hy2 fm_zero (by decide) _ _ _ rfl hSB.list ⟨wr.heap.size, 0, none⟩ 1 1 [.slice C1 W.length c1, .int .i64 n, .int .i64 n] rfl rfl HNS.out (by simp [Value.oneCell']) (by decide) k1 k2 m3 _ rfl ?_))
        intro g9 cap w9 hown9 hg9 hat hlt9
        have hvb : (Value.slice (some ⟨g9, 0, none⟩) (L.length + 1) cap).ownBlock = (Value.slice C5 L.length c5).ownBlock ∨ (Value.slice (some ⟨g9, 0, none⟩) (L.length + 1) cap).ownBlock = some (wr.alloc (.cells #[.slice C1 W.length c1, .int .i64 n, .int .i64 n] 51)).heap.size := by
          rcases hat with h | h
          · exact .inl h.symm
          · exact .inr (by rw [h]; simp [Value.ownBlock])
        have hlow : ∀ b', (Value.slice C5 L.length c5).ownBlock = some b' ∨ (∃ x ∈ L, x.sl.ownBlock = some b') → ¬ (Fm.sl ⟨C1, c1, W, n, n⟩).ownBlock = some b' := fun b' hb' e => by
          have h1 := HYS.out b' e
          rcases hb' with h | ⟨x, hx, h⟩
          · have := (HST.out.list.lt b' h).1; omega
          · have := ((HST.out.each x hx).lt b' h).1; omega
        have hSN := StG.snoc (y := ⟨C1, c1, W, n, n⟩) (hSB.base HW4.out) (own_base hown9 HW4.out) hg9 hvb HOW.out (Nat.le_refl _) hlow
        have HSN := Lib.hid hSN
        have HUU := Lib.hid ((HU.out.trans ub).grown hg9 (fun b hb => by have h1 := (hSB.list.lt b hb).1; have h2 := HW4.out; omega))
        clear hSN hSB hown9 hg9 hat hvb hlow t0 t1 t2
        go_wp2
        refine bodyPost_ret (v := .tuple #[.slice (some ⟨g9, 0, none⟩) (L.length + 1) cap, .int .i64 0]) (by simp [results, Tryz.results8, go_sem]) rfl ⟨_, L ++ [⟨C1, c1, W, n, n⟩], by rw [HE.out.1], HSN.out, by rw [HE.out.2, HR.out, List.map_append, HMP.out]; rfl, HUU.out⟩

theorem lfI_idx (L : List Fm) (W : List ByteArray) : lfI (L.map Fm.p) W = L.findIdx? fun x => alL x.ws W := by
  unfold lfI; rw [List.findIdx?_map]; rfl
set_option maxHeartbeats 1000000 in
theorem learnClosure_any (x : Fm) (vb : Nat) (B : Option Addr) (W : List ByteArray) (cb lo hi lo' hi' : Nat) (w : World) (hc : w.cell? ⟨vb, 0, none⟩ = some (.slice B W.length cb)) (hr : RdT w lo hi x.A x.ws) (hhi : hi ≤ w.heap.size) (hr' : RdT w lo' hi' B W) (hhi' : hi' ≤ w.heap.size) (hx : ∀ s ∈ x.ws, s.size < 32) (hW : ∀ s ∈ W, s.size < 32) (hn : x.ws.length ≤ 2000000) (hn' : W.length ≤ 2000000) :
    Calls Tryz.prog 49 #[x.val, .pointer (some ⟨vb, 0, none⟩)] w fun e w' => e = .returned (.bool (alL x.ws W)) ∧ Up w w' := by
  have ub := Up.alloc w (.cells #[.slice x.A x.ws.length x.c, .int .i64 x.fr, .int .i64 x.to_] 51)
  have HC := Lib.hid (allAlike_any x.A B x.ws W x.c cb lo hi lo' hi' _ (hr.up ub hhi) (Nat.le_trans hhi ub.size) (hr'.up ub hhi') (Nat.le_trans hhi' ub.size) hx hW hn hn')
  have c1 := ub.cell hc
  go_enter Tryz.func49, Tryz.ntmps49
  go_wp2_with fail
  refine HC.out.mono ?_
  rintro e w1 ⟨rfl, u1⟩
  go_wp2
  go_ret
  exact ⟨rfl, ub.trans u1⟩

set_option maxRecDepth 100000 in
set_option maxHeartbeats 8000000 in
theorem implLearn_any (A B : Option Addr) (l : List Fm) (W : List ByteArray) (ca cb lo hi lo' hi' : Nat) (n : Int) (w : World) (hr : RdF w lo hi A l) (hhi : hi ≤ w.heap.size) (hr' : RdT w lo' hi' B W) (hhi' : hi' ≤ w.heap.size) (hok : ∀ x ∈ l, x.ok) (hws : ∀ x ∈ l, x.ws.length ≤ 2000000) (hn : l.length ≤ 2000000) (hP : ∀ x ∈ W, x.size ≤ maxLen) (hn' : W.length ≤ 2000000) :
    Calls Tryz.prog 11 #[.slice A l.length ca, .slice B W.length cb, .int .i64 n] w fun e w' => ∃ v L, e = .returned (.tuple #[v, .int .i64 (lfC (l.map Fm.p) W n)]) ∧ StG w' w.heap.size v L ∧ L.map Fm.p = lfL (l.map Fm.p) W n ∧ Up w w' := by
  obtain ⟨i1, hi1, hy0, hy1, hy2⟩ := info_parts infoFm
  have HP := Lib.hid hP
  have HAF := Lib.hid (fun (wx : World) (hu : Up w wx) => implAreFormulas_any A l ca lo hi wx (hr.up hu hhi) (Nat.le_trans hhi hu.size) hok hws hn)
  obtain ⟨af, haf⟩ : ∃ b, b = afP (l.map Fm.p) := ⟨_, rfl⟩
  obtain ⟨fm, hfm⟩ : ∃ b, b = fmB (W, n, n) := ⟨_, rfl⟩
  have HA := Lib.hid haf
  have HFM := Lib.hid hfm
  have HAF2 := Lib.hid (fun (wx : World) (hu : Up w wx) => show Calls Tryz.prog 25 #[.slice A l.length ca] wx fun e w' => e = .returned (.bool af) ∧ Up wx w' from by
    rw [haf, ← afB_p]; exact HAF.out wx hu)
  have ub0 := Up.alloc w (.cells #[.slice B W.length cb] 23)
  have gb0 : (w.alloc (.cells #[.slice B W.length cb] 23)).cell? ⟨w.heap.size, 0, none⟩ = some (.slice B W.length cb) := by go_simp
  have HCL := Lib.hid (cloneS_any B W cb lo' hi' _ (hr'.up ub0 hhi') (Nat.le_trans hhi' ub0.size) hn')
  clear hP hok hws HAF haf hfm
  go_enter Tryz.func11, Tryz.ntmps11
  go_wp2_with fail
  refine HCL.out.mono ?_
  rintro e w1 ⟨v1, rfl, ho1, u1⟩
  obtain ⟨C1, c1, rfl, -⟩ := own_form ho1
  have ubx := Up.alloc w1 (.cells #[.slice C1 W.length c1, .int .i64 n, .int .i64 n] 51)
  have hbx := box_fm w1 (.slice C1 W.length c1) n n
  have hoY := own_up (own_base ho1 ub0.size) ubx
  have uY := ub0.trans (u1.trans ubx)
  have gbY := (u1.trans ubx).cell gb0
  clear HCL ho1
  go_wp2_with fail
  obtain ⟨Y, hY⟩ : ∃ z, z = w1.alloc (.cells #[.slice C1 W.length c1, .int .i64 n, .int .i64 n] 51) := ⟨_, rfl⟩
  obtain ⟨g, hg⟩ : ∃ z, z = w1.heap.size := ⟨_, rfl⟩
  rw [← hY] at hoY uY gbY hbx ⊢
  rw [← hg] at hbx ⊢
  clear hY hg ubx u1 ub0 gb0
  have HOY := Lib.hid hoY
  have HBY := Lib.hid hbx
  have HGB := Lib.hid gbY
  have ROY : RdT Y w.heap.size Y.heap.size C1 W := Rd.own strC_len hoY
  clear hoY hbx gbY
  refine (HAF2.out Y uY).mono ?_
  rintro e w3 ⟨rfl, u3⟩
  have U3 := uY.trans u3
  cases af with
  | false =>
    have HE := Lib.hid (lf_1 (W := W) (n := n) HA.out.symm)
    go_wp2
    refine bodyPost_ret (v := .tuple #[.slice none 0 0, .int .i64 1]) (by simp [results, Tryz.results11, go_sem]) rfl ⟨_, [], by rw [HE.out.1], StG.nil_ (World.ownsRow_nil _ _ _ _), by rw [HE.out.2]; rfl, U3⟩
  | true =>
  have hl20 : l.length ≤ 20 := by have := (afP_small HA.out.symm).1; rwa [List.length_map] at this
  have HSM := Lib.hid (SmF.of HA.out.symm)
  obtain ⟨b0, b1, b2⟩ := HBY.out
  have t0 := u3.cell b0
  have t1 := u3.cell b1
  have t2 := u3.cell b2
  have HQ := Lib.hid (isFormula_any ⟨C1, c1, W, n, n⟩ _ _ w3 (ROY.up u3 (Nat.le_refl _)) u3.size HP.out hn')
  have HQ2 : Hid (Calls Tryz.prog 46 #[.agg #[.slice C1 W.length c1, .int .i64 n, .int .i64 n]] w3 fun e w' => e = .returned (.bool fm) ∧ Up w3 w') := Lib.hid (by rw [HFM.out]; exact HQ.out)
  clear HQ b0 b1 b2
  go_wp2_with fail
  refine HQ2.out.mono ?_
  rintro e w4 ⟨rfl, u4⟩
  have U4 := U3.trans u4
  clear t0 t1 t2 HQ2
  cases fm with
  | false =>
    have HE := Lib.hid (lf_2 HA.out.symm HFM.out.symm)
    go_wp2
    refine bodyPost_ret (v := .tuple #[.slice none 0 0, .int .i64 2]) (by simp [results, Tryz.results11, go_sem]) rfl ⟨_, [], by rw [HE.out.1], StG.nil_ (World.ownsRow_nil _ _ _ _), by rw [HE.out.2]; rfl, U4⟩
  | true =>
  obtain ⟨hW32, hW60, hWpos⟩ := fmB_small HFM.out.symm
  simp only at hW32 hW60 hWpos
  have HOWN := Lib.hid (ownFormulas_any A l ca lo hi w4 (hr.up U4 hhi) (Nat.le_trans hhi U4.size) HSM.out (by omega))
  go_wp2_with fail
  refine HOWN.out.mono ?_
  rintro e w5 ⟨v5, L, rfl, hst, hmap, u5⟩
  have U5 := U4.trans u5
  have hLl := Lib.hid (len_same hmap)
  have hL20 : L.length ≤ 20 := by have := hLl.out; omega
  obtain ⟨C5, c5, rfl, -⟩ := own_form hst.list
  have hrL := hst.rdf
  have hg5 := (u3.trans (u4.trans u5)).cell HGB.out
  have hsl := smF_same hmap HSM.out
  have HIX := Lib.hid (indexFuncFm_any C5 L c5 _ _ 49 #[.pointer (some ⟨w.heap.size, 0, none⟩)] (fun x => alL x.ws W) w5 hrL (Nat.le_refl _) (by omega) (fun _ _ => by kernel_rfl)
    (fun x hx wx hu => learnClosure_any x w.heap.size B W cb _ _ lo' hi' wx (hu.cell hg5) ((hrL.2 x hx).up hu (Nat.le_refl _)) hu.size (hr'.up (U5.trans hu) hhi') (Nat.le_trans hhi' (U5.trans hu).size) (hsl x hx).1 hW32 (by have := (hsl x hx).2.1; omega) hn'))
  have HST := Lib.hid hst
  have HMP := Lib.hid hmap
  clear HOWN hst hmap hW32 hg5 hsl
  go_wp2_with fail
  refine HIX.out.mono ?_
  rintro e w6 ⟨rfl, u6⟩
  have V6 := U5.trans u6
  have HU := Lib.hid V6
  have HW4 := Lib.hid U4.size
  have st6 := HST.out.up u6
  have hidx := lfI_idx L W
  rw [HMP.out] at hidx
  unfold idxFFm
  rcases hf : L.findIdx? (fun x => alL x.ws W) with _ | k
  · rw [hf] at hidx
    simp only [hf]
    clear hf
    by_cases h20 : L.length = 20
    · have hb : ((L.length : Int) == 20) = true := by rw [h20]; rfl
      have HE := Lib.hid (lf_3 HA.out.symm HFM.out.symm hidx (by rw [List.length_map, ← hLl.out, h20]))
      clear h20 hidx st6
      go_wp2
      refine bodyPost_ret (v := .tuple #[.slice none 0 0, .int .i64 3]) (by simp [results, Tryz.results11, go_sem]) rfl ⟨_, [], by rw [HE.out.1], StG.nil_ (World.ownsRow_nil _ _ _ _), by rw [HE.out.2]; rfl, HU.out⟩
    · have hb : ((L.length : Int) == 20) = false := by rw [beq_eq_false_iff_ne]; omega
      have HE := Lib.hid (lf_0 HA.out.symm HFM.out.symm (fun h => h20 (by have := h.2; rw [List.length_map, ← hLl.out] at this; exact this)))
      have HR := Lib.hid (lfR_miss (n := n) hidx)
      have v3 := u3.trans (u4.trans (u5.trans u6))
      obtain ⟨b0, b1, b2⟩ := HBY.out
      have t0 := v3.cell b0
      have t1 := v3.cell b1
      have t2 := v3.cell b2
      have ub := Up.alloc w6 (.cells #[.slice C1 W.length c1, .int .i64 n, .int .i64 n] 51)
      have hSB := st6.up ub
      have HNS := Lib.hid (fm_news w6 (.slice C1 W.length c1) n n)
      have k1 : L.length + 1 ≤ maxLen := by unfold maxLen; omega
      have k2 : (L.length + 1) * 40 ≤ 140737488355328 := by omega
      have m3 : w4.heap.size ≤ (w6.alloc (.cells #[.slice C1 W.length c1, .int .i64 n, .int .i64 n] 51)).heap.size := Nat.le_trans (u5.trans u6).size ub.size
      have HOW := Lib.hid (own_up (own_up HOY.out v3) ub)
      have HYS := Lib.hid (show ∀ b', (Value.slice C1 W.length c1).ownBlock = some b' → b' < w4.heap.size from fun b' hb' => by have h1 := (HOY.out.lt b' hb').2; have h2 := (u3.trans u4).size; omega)
      clear h20 hidx b0 b1 b2 ROY st6
      go_wp2_with ((at_builtin; refine wpList_append_lies (P := Tryz.prog) _ rfl _ _ 26 rfl w4.heap.size 51 i1 _ 3 40 Tryz.underlying26 hi1 hy0 hy1 hy2 fm_zero (by decide) _ _ _ rfl hSB.list ⟨w6.heap.size, 0, none⟩ 1 1 [.slice C1 W.length c1, .int .i64 n, .int .i64 n] rfl rfl HNS.out (by simp [Value.oneCell']) (by decide) k1 k2 m3 _ rfl ?_))
      intro g9 cap w9 hown9 hg9 hat hlt9
      have hvb : (Value.slice (some ⟨g9, 0, none⟩) (L.length + 1) cap).ownBlock = (Value.slice C5 L.length c5).ownBlock ∨ (Value.slice (some ⟨g9, 0, none⟩) (L.length + 1) cap).ownBlock = some (w6.alloc (.cells #[.slice C1 W.length c1, .int .i64 n, .int .i64 n] 51)).heap.size := by
        rcases hat with h | h
        · exact .inl h.symm
        · exact .inr (by rw [h]; simp [Value.ownBlock])
      have hlow : ∀ b', (Value.slice C5 L.length c5).ownBlock = some b' ∨ (∃ x ∈ L, x.sl.ownBlock = some b') → ¬ (Fm.sl ⟨C1, c1, W, n, n⟩).ownBlock = some b' := fun b' hb' e => by
        have h1 := HYS.out b' e
        rcases hb' with h | ⟨x, hx, h⟩
        · have := (HST.out.list.lt b' h).1; omega
        · have := ((HST.out.each x hx).lt b' h).1; omega
      have hSN := StG.snoc (y := ⟨C1, c1, W, n, n⟩) (hSB.base HW4.out) (own_base hown9 HW4.out) hg9 hvb HOW.out (Nat.le_refl _) hlow
      have HSN := Lib.hid hSN
      have HUU := Lib.hid ((HU.out.trans ub).grown hg9 (fun b hb => by have h1 := (hSB.list.lt b hb).1; have h2 := HW4.out; omega))
      clear hSN hSB hown9 hg9 hat hvb hlow t0 t1 t2
      go_wp2
      refine bodyPost_ret (v := .tuple #[.slice (some ⟨g9, 0, none⟩) (L.length + 1) cap, .int .i64 0]) (by simp [results, Tryz.results11, go_sem]) rfl ⟨_, L ++ [⟨C1, c1, W, n, n⟩], by rw [HE.out.1], HSN.out, by rw [HE.out.2, HR.out, List.map_append, HMP.out]; rfl, HUU.out⟩
  · rw [hf] at hidx
    simp only [hf]
    obtain ⟨hkl, -, -⟩ := List.findIdx?_eq_some_iff_getElem.1 hf
    have hX := List.getElem?_eq_getElem hkl
    generalize L[k] = x at *
    have HE := Lib.hid (lf_0 HA.out.symm HFM.out.symm (fun h => by rw [hidx] at h; cases h.1))
    have hR := lfR_hit (n := n) hX (by rw [HMP.out]; exact hidx)
    rw [HMP.out] at hR
    have HR := Lib.hid hR
    obtain ⟨b, off, x', rfl, -, -, hx', -, q0, q1, q2⟩ := st6.rdf.at_ hkl
    rw [hX] at hx'
    cases hx'
    obtain ⟨A', c', hv, -, -, hAA, -⟩ := own_form st6.list
    simp only [Value.slice.injEq] at hv
    obtain ⟨hv1, -, rfl⟩ := hv
    obtain ⟨g', e', -, -⟩ := hAA (by omega)
    obtain ⟨rfl, rfl⟩ : b = g' ∧ off = 0 := by rw [← hv1] at e'; cases e'; exact ⟨rfl, rfl⟩
    simp only [Nat.zero_add] at q1 q2
    have z1 := st6.list.frozenAt (k * 3 + 1)
    have z2 := st6.list.frozenAt (k * 3 + 2)
    have hkI : (k : Int) < (L.length : Int) := by omega
    have HD1 := Lib.hid (StG.dates st6 hX (min x.fr n) (max x.to_ n) (.inl rfl))
    have hbw : w.heap.size ≤ b := by have h1 := (HST.out.list.lt b rfl).1; have h2 := HW4.out; omega
    clear q0 hR st6 hAA hv1 e' hidx hf hX
    go_wp2_with fail
    go_region
    have HFIN := Lib.hid (HD1.out.up ((Up.refl _).drew))
    have HUF := Lib.hid (show Up w ((w6.setCell ⟨b, k * 3 + 1, none⟩ (.int .i64 (min x.fr n))).setCell ⟨b, k * 3 + 2, none⟩ (.int .i64 (max x.to_ n))).drew from ((HU.out.setCell hbw _).setCell hbw _).drew)
    clear q1 q2 z1 z2 HD1
    go_wp2
    refine bodyPost_ret (v := .tuple #[.slice (some ⟨b, 0, none⟩) L.length c5, .int .i64 0]) (by simp [results, Tryz.results11, go_sem]) rfl ⟨_, L.set k ⟨x.A, x.c, x.ws, min x.fr n, max x.to_ n⟩, by rw [HE.out.1], HFIN.out.base HW4.out, by rw [HE.out.2, HR.out], HUF.out⟩
theorem wtF_bound : ∀ {L : List Fm}, (∀ y ∈ L, y.ws.length ≤ 60) → wtF L L.length ≤ 62 * L.length
  | [], _ => by simp [wtF]
  | x :: L, h => by
    rw [wtF_cons]
    have h1 := h x (by simp)
    have h2 := wtF_bound (L := L) (fun y hy => h y (by simp [hy]))
    simp only [List.length_cons]; omega
theorem lfL_small (ps : List FmP) (W : List ByteArray) (n : Int) : (lfL ps W n).length ≤ 21 ∧ ∀ p ∈ lfL ps W n, p.1.length ≤ 60 := by
  unfold lfL
  split
  · rename_i hc
    have haf : afP ps = true := by
      rcases h : afP ps with _ | _
      · rw [(lf_1 (W := W) (n := n) h).1] at hc; cases hc
      · rfl
    have hfm : fmB (W, n, n) = true := by
      rcases h : fmB (W, n, n) with _ | _
      · rw [(lf_2 haf h).1] at hc; cases hc
      · rfl
    obtain ⟨h1, h2⟩ := afP_small haf
    have h3 := (fmB_small hfm).2.1
    unfold lfR
    split
    · split
      · rename_i i hi p hp
        refine ⟨by rw [List.length_set]; omega, fun q hq => ?_⟩
        rcases List.mem_or_eq_of_mem_set hq with h | h
        · exact (h2 q h).2.1
        · rw [h]; exact (h2 p (List.mem_of_getElem? hp)).2.1
      · exact ⟨by omega, fun q hq => (h2 q hq).2.1⟩
    · refine ⟨by rw [List.length_append, List.length_singleton]; omega, fun q hq => ?_⟩
      rcases List.mem_append.1 hq with h | h
      · exact (h2 q h).2.1
      · rw [List.mem_singleton.1 h]; exact h3
  · simp
/-- what holds of the formulas that a call learnt -/
theorem lf_list {L : List Fm} {ps : List FmP} {W : List ByteArray} {n : Int} (h : L.map Fm.p = lfL ps W n) : L.length ≤ 21 ∧ (∀ y ∈ L, y.ws.length ≤ 2000000) ∧ wtF L L.length ≤ 1400 := by
  obtain ⟨h1, h2⟩ := lfL_small ps W n
  rw [← h] at h1 h2
  rw [List.length_map] at h1
  have h3 : ∀ y ∈ L, y.ws.length ≤ 60 := fun y hy => h2 y.p (List.mem_map_of_mem hy)
  exact ⟨h1, fun y hy => by have := h3 y hy; omega, by have := wtF_bound h3; omega⟩
end Go.Proofs.YtehoaoeahfmfpaaGreatDoor
