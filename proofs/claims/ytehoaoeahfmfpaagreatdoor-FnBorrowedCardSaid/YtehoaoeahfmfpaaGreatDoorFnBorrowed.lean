/- FnBorrowed's plain laws: a learnt formula is in use on its day; a borrowed passage is found. FnBorrowed, walked. -/
import Derived.Test.YtehoaoeahfmfpaaGreatDoorSpDay
import Derived.Test.YtehoaoeahfmfpaaGreatDoorLearn
import Derived.Test.YtehoaoeahfmfpaaGreatDoorBorrow
import Derived.Test.YtehoaoeahfmfpaaGreatDoorDrawFm
import Derived.Test.YtehoaoeahfmfpaaGreatDoorBig
namespace Go.Proofs.YtehoaoeahfmfpaaGreatDoor
open Go.RowKit Go.Sort

theorem stpS_has {o : List Sp} {s : Sp} {n : Int} (_hs : s.1 ≤ s.2) (ho : ∀ x ∈ o, x.1 ≤ s.1 ∧ x.1 ≤ x.2) (h : hasL o n = true ∨ (s.1 ≤ n ∧ n ≤ s.2)) : hasL (stpS o s) n = true := by
  rcases List.eq_nil_or_concat o with rfl | ⟨o, z, rfl⟩ <;> try rw [List.concat_eq_append] at *
  · rw [stpS_nil]
    rcases h with h | h
    · simp [hasL] at h
    · exact hasL_iff.2 ⟨s, by simp, h⟩
  · rw [stpS_snoc]
    have hz := ho z (by simp)
    split
    · rename_i hc
      rcases h with h | h
      · obtain ⟨x, hx, h1, h2⟩ := hasL_iff.1 h
        rcases List.mem_append.1 hx with hx | hx
        · exact hasL_iff.2 ⟨x, by simp [hx], h1, h2⟩
        · rw [List.mem_singleton.1 hx] at h1 h2
          exact hasL_iff.2 ⟨(z.1, max z.2 s.2), by simp, h1, by simp only []; omega⟩
      · exact hasL_iff.2 ⟨(z.1, max z.2 s.2), by simp, by simp only []; omega, by simp only []; omega⟩
    · rcases h with h | h
      · obtain ⟨x, hx, h1, h2⟩ := hasL_iff.1 h
        exact hasL_iff.2 ⟨x, List.mem_append_left _ hx, h1, h2⟩
      · exact hasL_iff.2 ⟨s, by simp, h⟩
theorem stpS_first {o : List Sp} {s y : Sp} (ho : ∀ x ∈ o, x.1 ≤ y.1 ∧ x.1 ≤ x.2) (hs : s.1 ≤ y.1) (hs2 : s.1 ≤ s.2) : ∀ x ∈ stpS o s, x.1 ≤ y.1 ∧ x.1 ≤ x.2 := by
  rcases List.eq_nil_or_concat o with rfl | ⟨o, z, rfl⟩ <;> try rw [List.concat_eq_append] at *
  · rw [stpS_nil]
    intro x hx; rw [List.mem_singleton.1 hx]; exact ⟨hs, hs2⟩
  · rw [stpS_snoc]
    have hz := ho z (by simp)
    split
    · intro x hx
      rcases List.mem_append.1 hx with hx | hx
      · exact ho x (by simp [hx])
      · rw [List.mem_singleton.1 hx]; simp only []; omega
    · intro x hx
      rcases List.mem_append.1 hx with hx | hx
      · exact ho x hx
      · rw [List.mem_singleton.1 hx]; exact ⟨hs, hs2⟩
theorem foldS_has {n : Int} : ∀ (l o : List Sp), SrtS l → OkS l → (∀ x ∈ o, x.1 ≤ x.2) → (∀ x ∈ o, ∀ y ∈ l, x.1 ≤ y.1) → (hasL o n = true ∨ hasL l n = true) → hasL (l.foldl stpS o) n = true
  | [], o, _, _, _, _, h => by
    rcases h with h | h
    · exact h
    · simp [hasL] at h
  | s :: l, o, hs, ho, h1, h2, h => by
    have hp := List.pairwise_cons.1 hs
    have hss := ho s (by simp)
    refine foldS_has l (stpS o s) hp.2 (fun x hx => ho x (by simp [hx])) ?_ ?_ ?_
    · intro x hx
      exact (stpS_first (y := s) (fun x hx => ⟨h2 x hx s (by simp), h1 x hx⟩) (Int.le_refl _) hss x hx).2
    · intro x hx y hy
      exact (stpS_first (y := y) (fun x hx => ⟨h2 x hx y (by simp [hy]), h1 x hx⟩) (hp.1 y hy) hss x hx).1
    · rcases h with h | h
      · exact .inl (stpS_has hss (fun x hx => ⟨h2 x hx s (by simp), h1 x hx⟩) (.inl h))
      · obtain ⟨t, ht, t1, t2⟩ := hasL_iff.1 h
        rcases List.mem_cons.1 ht with rfl | ht
        · exact .inl (stpS_has hss (fun x hx => ⟨h2 x hx t (by simp), h1 x hx⟩) (.inr ⟨t1, t2⟩))
        · exact .inr (hasL_iff.2 ⟨t, ht, t1, t2⟩)
theorem unL_has {l : List Sp} {n : Int} (ho : OkS l) (h : hasL l n = true) : hasL (unL l) n = true := by
  unfold unL
  refine foldS_has _ _ (srtS_sorted l) (fun s hs => ho s ((srtS_perm l).mem_iff.1 hs)) (by simp) (by simp) (.inr ?_)
  obtain ⟨s, hs, h1⟩ := hasL_iff.1 h
  exact hasL_iff.2 ⟨s, (srtS_perm l).mem_iff.2 hs, h1⟩
theorem alL_tr {a b c : List ByteArray} (h1 : alL a b = true) (h2 : alL b c = true) : alL a c = true := by
  unfold alL at *
  rw [decide_eq_true_eq] at *
  rw [h1, h2]
/-- what is learnt -/
theorem learn_ok {ps : List FmP} {W : List ByteArray} {n : Int} (h : lfC ps W n = 0) : afP ps = true ∧ fmB (W, n, n) = true ∧ afP (lfL ps W n) = true ∧ ps.length ≤ (lfL ps W n).length ∧ ∃ q ∈ lfL ps W n, alL q.1 W = true ∧ q.2.1 ≤ n ∧ n ≤ q.2.2 := by
  have haf : afP ps = true := by
    rcases h1 : afP ps with _ | _
    · rw [(lf_1 (W := W) (n := n) h1).1] at h; cases h
    · rfl
  have hfm : fmB (W, n, n) = true := by
    rcases h1 : fmB (W, n, n) with _ | _
    · rw [(lf_2 haf h1).1] at h; cases h
    · rfl
  have hL : lfL ps W n = lfR ps W n := by unfold lfL; rw [if_pos h]
  rw [hL]
  have hsp := fmB_span hfm
  simp only at hsp
  have hall := afP_fm haf
  have h20 := (afP_small haf).1
  have mk : ∀ qs : List FmP, qs.length ≤ 20 → (∀ q ∈ qs, fmB q = true) → afP qs = true := fun qs hq hf => by
    unfold afP
    rw [Bool.and_eq_true, decide_eq_true_eq]
    refine ⟨hq, ?_⟩
    rw [Bool.not_eq_true', List.any_eq_false]
    intro q hqm; simp [hf q hqm]
  unfold lfR
  rcases hI : lfI ps W with _ | i
  · simp only
    have hne : ¬ ps.length = 20 := fun e => by rw [(lf_3 haf hfm hI e).1] at h; cases h
    refine ⟨haf, hfm, mk _ (by rw [List.length_append, List.length_singleton]; omega) (fun q hq => ?_), by rw [List.length_append]; omega, (W, n, n), by simp, alL_self W, Int.le_refl _, Int.le_refl _⟩
    rcases List.mem_append.1 hq with hq | hq
    · exact hall q hq
    · rw [List.mem_singleton.1 hq]; exact hfm
  · have hi := hI
    unfold lfI at hi
    rw [List.findIdx?_eq_some_iff_getElem] at hi
    obtain ⟨hil, hia, -⟩ := hi
    have hx := List.getElem?_eq_getElem hil
    simp only [hx]
    have hp := hall _ (List.mem_of_getElem? hx)
    have hps := fmB_span hp
    have hq : fmB (ps[i].1, min ps[i].2.1 n, max ps[i].2.2 n) = true := by
      unfold fmB at hp ⊢
      simp only [Bool.and_eq_true, decide_eq_true_eq] at hp ⊢
      refine ⟨hp.1, hp.2.1, ?_⟩
      simp only [spanB, dayB, inB, Bool.and_eq_true, decide_eq_true_eq]
      omega
    refine ⟨haf, hfm, mk _ (by rw [List.length_set]; exact h20) (fun q hqm => ?_), by rw [List.length_set]; exact Nat.le_refl _, (ps[i].1, min ps[i].2.1 n, max ps[i].2.2 n), ?_, hia, by simp only []; omega, by simp only []; omega⟩
    · rcases List.mem_or_eq_of_mem_set hqm with hqm | hqm
      · exact hall q hqm
      · rw [hqm]; exact hq
    · exact List.mem_of_getElem? (List.getElem?_set_self hil)
/-- a formula with words alike is in use on the day that was learnt -/
theorem learn_use {ps : List FmP} {W : List ByteArray} {n : Int} (h : ∀ p ∈ ps, fmB p = true) {q : FmP} (hq : q ∈ ps) (ha : alL q.1 W = true) (h1 : q.2.1 ≤ n) (h2 : n ≤ q.2.2) : hasL (setL ps W) n = true := by
  unfold setL
  refine unL_has (useL_ok h).2 (hasL_iff.2 ⟨q.2, ?_, h1, h2⟩)
  unfold useL
  exact List.mem_map.2 ⟨q, List.mem_filter.2 ⟨hq, ha⟩, rfl⟩
theorem learn_law {ps : List FmP} {W : List ByteArray} {n : Int} (h : lfC ps W n = 0) : sgC W (lfL ps W n) n = 0 ∧ afP (lfL ps W n) = true ∧ ps.length ≤ (lfL ps W n).length ∧ ∀ z ∈ sgL W (lfL ps W n) n, ∃ j : Nat, z = (j : Int) ∧ j < (lfL ps W n).length ∧ (wsAt (lfL ps W n) (j : Int)).length < W.length := by
  obtain ⟨-, hfm, haf, hle, q, hq, hqa, hq1, hq2⟩ := learn_ok h
  generalize lfL ps W n = ls at *
  have hsp := fmB_span hfm
  simp only at hsp
  have hph : phB W = true := by
    unfold fmB at hfm
    simp only [Bool.and_eq_true] at hfm
    exact hfm.2.1
  have hfi : fiB W ls = true := by unfold fiB; rw [haf, hph]; rfl
  have hin : inSp n 0 730499 = true := by unfold inSp; simp; omega
  obtain ⟨e1, e2⟩ := sg_0 (n := n) hfi hin
  refine ⟨e1, haf, hle, fun z hz => ?_⟩
  rw [e2] at hz
  unfold stL at hz
  obtain ⟨hz1, hz2⟩ := List.mem_filter.1 hz
  obtain ⟨j, rfl, hj, hocc⟩ := occ_mem hz1
  refine ⟨j, rfl, hj, ?_⟩
  have hx := List.getElem?_eq_getElem hj
  have hws : wsAt ls (j : Int) = ls[j].1 := by unfold wsAt; rw [Int.toNat_natCast, hx]; rfl
  rw [hws]
  unfold occB fnB at hocc
  rw [hx] at hocc
  simp only [decide_eq_true_eq] at hocc
  have hne : fdL W ls[j].1 ≠ [] := fun e => by rw [e] at hocc; simp at hocc
  have hex : ∃ i, i < W.length ∧ fdB W ls[j].1 i = true := by
    rcases Classical.em (∃ i, i < W.length ∧ fdB W ls[j].1 i = true) with hh | hh
    · exact hh
    · exfalso
      apply hne
      unfold fdL
      rw [pl_nil_iff]
      intro i hi
      rcases hb : fdB W ls[j].1 i with _ | _
      · rfl
      · exact absurd ⟨i, hi, hb⟩ hh
  obtain ⟨i, hi, hb⟩ := hex
  unfold fdB at hb
  rw [Bool.and_eq_true, decide_eq_true_eq] at hb
  obtain ⟨hb1, hb2⟩ := hb
  rcases Nat.lt_or_ge ls[j].1.length W.length with hlt | hge
  · exact hlt
  · exfalso
    have hi0 : i = 0 := by omega
    subst hi0
    rw [List.drop_zero, List.take_of_length_le (by omega)] at hb2
    have hu : useB ls n (j : Int) = true := by
      unfold useB
      rw [hws]
      exact learn_use (afP_fm haf) hq (alL_tr hqa hb2) hq1 hq2
    rw [hu] at hz2
    cases hz2
/-- a borrowed passage is found where it was borrowed -/
theorem borrow_law {P Q : List ByteArray} {n : Int} (h : bpC P Q n = 0) : bpA P Q n = (shA P Q : Int) ∧ bpM P Q n = (shM P Q : Int) ∧ shA P Q + shM P Q ≤ P.length ∧ 0 < shM P Q ∧ n ≤ (shM P Q : Int) ∧ (phB P && phB Q) = true ∧ ffC Q ((P.drop (shA P Q)).take (shM P Q), 0, 0) = 0 ∧ 0 < (ffL Q ((P.drop (shA P Q)).take (shM P Q), 0, 0)).length := by
  have h1 : (phB P && phB Q) = true := by
    rcases hh : (phB P && phB Q) with _ | _
    · rw [(bp_1 (n := n) hh).1] at h; cases h
    · rfl
  have h2 : inB n 1 60 = true := by
    rcases hh : inB n 1 60 with _ | _
    · rw [(bp_2 h1 hh).1] at h; cases h
    · rfl
  have h3 : ¬ (shM P Q : Int) < n := fun hh => by rw [(bp_4 h1 h2 hh).1] at h; cases h
  obtain ⟨-, e1, e2⟩ := bp_0 h1 h2 h3
  have h4 : 1 ≤ n := by simp [inB] at h2; omega
  have hm : 0 < shM P Q := by omega
  obtain ⟨h5, h6⟩ := fd_there hm
  have hP := (Bool.and_eq_true _ _ ▸ h1 : phB P = true ∧ phB Q = true)
  have hlen := sub_len (l := P) h5
  have hfm : fmB ((P.drop (shA P Q)).take (shM P Q), 0, 0) = true := by
    unfold fmB
    simp only [Bool.and_eq_true, decide_eq_true_eq]
    refine ⟨by rw [hlen]; exact hm, ?_, by decide⟩
    have hPP := hP.1
    unfold phB at hPP ⊢
    rw [Bool.and_eq_true, decide_eq_true_eq] at hPP ⊢
    refine ⟨?_, by rw [hlen]; have := hPP.2; omega⟩
    rw [List.all_eq_true] at hPP ⊢
    exact fun x hx => hPP.1 x (sub_mem hx)
  have hff : ffB Q ((P.drop (shA P Q)).take (shM P Q), 0, 0) = true := by unfold ffB; rw [hP.2, hfm]; rfl
  obtain ⟨e3, e4⟩ := ff_0 hff
  refine ⟨e1, e2, h5, hm, by omega, h1, e3, ?_⟩
  rw [e4]
  exact List.length_pos_iff.2 h6
end Go.Proofs.YtehoaoeahfmfpaaGreatDoor

namespace Go.Proofs.YtehoaoeahfmfpaaGreatDoor
open Go.RowKit Go.Sort

theorem OwnFP.open2 {w w' : World} {v vp : Value} {L : List Fm} {l : List ByteArray} (h : OwnFP w w' v L vp l) : ∃ A c B cb, v = .slice A L.length c ∧ vp = .slice B l.length cb ∧ RdF w' w.heap.size w'.heap.size A L ∧ RdT w' w.heap.size w'.heap.size B l ∧ (∀ x ∈ L, x.ok) ∧ (∀ x ∈ L, x.ws.length ≤ 2000000) ∧ L.length ≤ 21 ∧ (∀ s ∈ l, s.size ≤ maxLen) ∧ l.length ≤ 64 ∧ l.length ≤ cb ∧ (B = none → cb = 0) := by
  obtain ⟨hst, hsz, hLn, op, hl, hln⟩ := h
  obtain ⟨A, c, rfl, -⟩ := own_form hst.list
  obtain ⟨B, cb, rfl, hcb, -, hbz⟩ := own_formz op
  exact ⟨A, c, B, cb, rfl, rfl, hst.rdf, Rd.own strC_len op, hsz.oks hst, fun x hx => by have := (hsz x hx).2; omega, hLn, fun s hs => by have := hl s hs; unfold maxLen; omega, hln, hcb, hbz⟩
theorem StG.small {w : World} {B : Nat} {v : Value} {L : List Fm} (h : StG w B v L) (ha : afP (L.map Fm.p) = true) : (∀ x ∈ L, x.ok) ∧ (∀ x ∈ L, x.ws.length ≤ 2000000) ∧ L.length ≤ 20 := by
  obtain ⟨h1, h2⟩ := afP_small ha
  rw [List.length_map] at h1
  have h3 : ∀ x ∈ L, (∀ s ∈ x.ws, s.size < 32) ∧ x.ws.length ≤ 60 ∧ 0 < x.ws.length := fun x hx => h2 x.p (List.mem_map_of_mem hx)
  exact ⟨fun x hx => ⟨fun s hs => by have := (h3 x hx).1 s hs; unfold maxLen; omega, h.oks x hx⟩, fun x hx => by have := (h3 x hx).2.1; omega, h1⟩
theorem len_zeroB (n : Nat) : (n == 0) = ((n : Int) == 0) := by
  rw [Bool.eq_iff_iff]; simp

set_option maxRecDepth 100000 in
set_option maxHeartbeats 8000000 in
theorem fnBorrowed_walk (A0 : Option Addr) (l0 : List UInt8) (c0 : Nat) (w : World) (hr0 : RdY w 0 w.heap.size A0 l0) (_hok0 : True) (hn0 : l0.length ≤ maxLen) :
    Calls Tryz.prog 4 #[.slice A0 l0.length c0] w fun e w' => e = .returned (.bool true) ∧ Up w w' := by
  by_cases hbig : (4096 : Int) < (l0.length : Int)
  · have hb : decide ((4096 : Int) < (l0.length : Int)) = true := by simpa using hbig
    go_enter Tryz.func4, Tryz.ntmps4
    go_wp2_with fail
    refine (big_any A0 l0.length c0 w hn0).mono ?_
    rintro e w' ⟨rfl, rfl⟩
    go_wp2
    go_ret
    exact ⟨rfl, Up.refl _⟩
  · have hb : decide ((4096 : Int) < (l0.length : Int)) = false := by simpa using hbig
    have hl0 : l0.length ≤ 2000000 := by omega
    have hr0' := Lib.hid hr0
    clear hbig
    go_enter Tryz.func4, Tryz.ntmps4
    go_wp2_with fail
    refine (big_any A0 l0.length c0 w hn0).mono ?_
    rintro e w' ⟨rfl, rfl⟩
    go_wp2_with fail
    refine (drawBorrowed_any A0 l0 c0 0 w.heap.size w hr0 (Nat.le_refl _) hl0).mono ?_
    rintro e w1 ⟨va, vb, P, Q, n, rfl, ⟨oa, hP, hPl⟩, ⟨ob, hQ, hQl⟩, ⟨hn1, hn2⟩, u1⟩
    obtain ⟨A, ca, rfl, hca, -, -⟩ := own_formz oa
    obtain ⟨B, cb, rfl, hcb, -, -⟩ := own_formz ob
    have RP : RdT w1 w.heap.size w1.heap.size A P := Rd.own strC_len oa
    have RQ : RdT w1 w.heap.size w1.heap.size B Q := Rd.own strC_len ob
    have hPz : ∀ s ∈ P, s.size ≤ maxLen := fun s hs => by have := hP s hs; unfold maxLen; omega
    have hQz : ∀ s ∈ Q, s.size ≤ maxLen := fun s hs => by have := hQ s hs; unfold maxLen; omega
    have hPn : P.length ≤ 2000000 := by omega
    have hQn : Q.length ≤ 2000000 := by omega
    have HBI := Lib.hid (fun (wx : World) (hu : Up w1 wx) => implBorrowed_any A B P Q ca cb _ _ _ _ n wx (RP.up hu (Nat.le_refl _)) hu.size (RQ.up hu (Nat.le_refl _)) hu.size hPz hQz hPn hQn hca hcb)
    have HBS := Lib.hid (fun (wx : World) (hu : Up w1 wx) => specBorrowed_any A B P Q ca cb _ _ _ _ n wx (RP.up hu (Nat.le_refl _)) hu.size (RQ.up hu (Nat.le_refl _)) hu.size hPz hQz hPn hQn)
    have HSW := Lib.hid (fun (wx : World) (hu : Up w1 wx) => sharedWords_any A B P Q ca cb _ _ _ _ wx (RP.up hu (Nat.le_refl _)) hu.size (RQ.up hu (Nat.le_refl _)) hu.size hPz hQz hPn hQn)
    have HFF := Lib.hid (fun (wx : World) (hu : Up w1 wx) (x : Fm) (l1 h1 : Nat) (hx : RdT wx l1 h1 x.A x.ws) (hh : h1 ≤ wx.heap.size) (hz : ∀ s ∈ x.ws, s.size ≤ maxLen) (hl : x.ws.length ≤ 2000000) => implFindFormula_any B Q cb _ _ _ _ x wx (RQ.up hu (Nat.le_refl _)) hu.size hcb hx hh hQz hz hQn hl)
    have HBL := Lib.hid (fun h => borrow_law (P := P) (Q := Q) (n := n) h)
    have HRP := Lib.hid RP
    have HPZ := Lib.hid hPz
    clear oa ob hr0 RP RQ hPz hQz hP hQ
    go_wp2_with fail
    refine (HBI.out w1 (Up.refl _)).mono ?_
    rintro e w2 ⟨rfl, u2⟩
    go_wp2_with fail
    refine (HBS.out w2 u2).mono ?_
    rintro e w3 ⟨rfl, u3⟩
    have x3 := u2.trans u3
    have U3 := u1.trans x3
    clear HBI HBS u2 u3
    go_wp2_with fail
    refine (drawLearn_any A0 l0 c0 0 w.heap.size w3 (hr0'.out.up U3 (Nat.le_refl _)) U3.size hl0).mono ?_
    rintro e w4 ⟨v, L, vp, W, day, rfl, hK, ⟨hd1, hd2⟩, u4⟩
    obtain ⟨AL, cl, AW, cw, rfl, rfl, RL, RW, hok, hws, hL, hW, hWl, hcw, hcz⟩ := hK.open2
    have hLn : L.length ≤ 2000000 := by omega
    have hWn : W.length ≤ 2000000 := by omega
    have HLI := Lib.hid (fun (wx : World) (hu : Up w4 wx) => implLearn_any AL AW L W cl cw _ _ _ _ day wx (RL.up hu (Nat.le_refl _)) hu.size (RW.up hu (Nat.le_refl _)) hu.size hok hws hLn hW hWn)
    have HLS := Lib.hid (fun (wx : World) (hu : Up w4 wx) => specLearn_any AL AW L W cl cw _ _ _ _ day wx (RL.up hu (Nat.le_refl _)) hu.size (RW.up hu (Nat.le_refl _)) hu.size hok hws hLn hW hWn hcz)
    have HRW := Lib.hid RW
    have HWZ := Lib.hid hW
    clear hK RL RW hok hws hW hcz
    go_wp2_with fail
    refine (HLI.out w4 (Up.refl _)).mono ?_
    rintro e w5 ⟨v5, L5, rfl, T5, hm5, u5⟩
    obtain ⟨A5, c5, rfl, -⟩ := own_form T5.list
    have HM5 := Lib.hid hm5
    go_wp2_with fail
    refine (HLS.out w5 u5).mono ?_
    rintro e w6 ⟨v6, L6, rfl, T6, hm6, u6⟩
    obtain ⟨A6, c6, rfl, -⟩ := own_form T6.list
    have T5a := T5.up u6
    have R5 : RdF w6 w4.heap.size w6.heap.size A5 L5 := T5a.rdf
    have R6 : RdF w6 w5.heap.size w6.heap.size A6 L6 := T6.rdf
    have heq := hm5.trans hm6.symm
    have hll := lf_list hm5
    have HLK := Lib.hid (likeFormulas_any A5 A6 L5 L6 c5 c6 _ _ _ _ w6 R5 (Nat.le_refl _) R6 (Nat.le_refl _) (by omega) hll.2.1 heq)
    have hL5 : L5.length ≤ 21 := hll.1
    have HT5 := Lib.hid T5a
    have x46 := u5.trans u6
    have x16 := x3.trans (u4.trans x46)
    have U6 := u1.trans x16
    clear HLI HLS T5 T5a T6 R5 R6 heq hll hm5 hm6 u5 u6 x3 U3
    go_wp2_with fail
    refine HLK.out.mono ?_
    rintro e w7 ⟨rfl, u7⟩
    have x47 := x46.trans u7
    have x17 := x16.trans u7
    have U7 := U6.trans u7
    clear HLK x46 x16 U6
    go_upto_if 99 with fail
    go_cut [19, 20, 21, 22, 23, 24, 25] (fun _ _ _ _ _ _ _ wx => ∃ Z : World, Z = wx ∧ Up w7 Z)
    case first =>
      by_cases hone : lfC (L.map Fm.p) W day = 0
      · have hob : (lfC (L.map Fm.p) W day == 0) = true := by simpa using hone
        obtain ⟨h1, h2, h3, h4⟩ := learn_law hone
        rw [← HM5.out] at h1 h2 h3 h4
        simp only [List.length_map] at h3 h4
        obtain ⟨k1, k2, k3, k4, k5⟩ := pd_day h1
        obtain ⟨s1, s2, s3⟩ := HT5.out.small h2
        have hL5n : L5.length ≤ 2000000 := by omega
        have R7 : RdF w7 w4.heap.size w6.heap.size A5 L5 := HT5.out.rdf.up u7 (Nat.le_refl _)
        have hsi := fun (wx : World) (hu : Up w7 wx) => implStrangeFormulas_any A5 AW L5 W c5 cw _ _ _ _ day wx (R7.up hu u7.size) (Nat.le_trans u7.size hu.size) (HRW.out.up (x47.trans hu) (Nat.le_refl _)) (x47.trans hu).size s1 s2 hL5n HWZ.out hWn hcw
        have hpi := fun (wx : World) (hu : Up w7 wx) => implPhraseDays_any A5 AW L5 W c5 cw _ _ _ _ wx (R7.up hu u7.size) (Nat.le_trans u7.size hu.size) (HRW.out.up (x47.trans hu) (Nat.le_refl _)) (x47.trans hu).size s1 s2 hL5n HWZ.out hWn hcw
        have hai := fun (wx : World) (hu : Up w7 wx) => implAreFormulas_any A5 L5 c5 _ _ wx (R7.up hu u7.size) (Nat.le_trans u7.size hu.size) s1 s2 hL5n
        simp only [afB_p, h2] at hai
        rw [h1] at hsi
        rw [k1] at hpi
        rw [len_zeroB] at k5
        have HSI := Lib.hid hsi
        have HPI := Lib.hid hpi
        have HAI := Lib.hid hai
        have HDD := Lib.hid (And.intro k2 (And.intro k3 (And.intro k4 k5)))
        have HZ := Lib.hid h4
        have HR7 := Lib.hid R7
        have hsl := sg_len W (L5.map Fm.p) day
        rw [List.length_map] at hsl
        have hdl : decide ((L5.length : Int) < (L.length : Int)) = false := by rw [decide_eq_false_iff_not]; omega
        have hdn : ¬ L5.length < L.length := by omega
        have hdi : decide (L5.length < L.length) = false := by rw [decide_eq_false_iff_not]; omega
        clear h1 h2 h3 h4 k1 k2 k3 k4 k5 s1 s2 hsi hpi hai R7 hone HBL HFF HSW HRP HPZ
        generalize lfC (L.map Fm.p) W day = lc at *
        generalize sgL W (L5.map Fm.p) day = SL at *
        generalize pdS W (L5.map Fm.p) = DL at *
        go_wp2_with fail
        simp only [hob]
        refine (HSI.out w7 (Up.refl _)).mono ?_
        rintro e w8 ⟨e8, rfl, oe8, u8⟩
        obtain ⟨E8, p8, rfl, RE8, -, -, -⟩ := own_open int_len oe8
        clear oe8
        go_wp2_with fail
        refine (HPI.out w8 u8).mono ?_
        rintro e w9 ⟨d9, rfl, od9, u9⟩
        obtain ⟨D9, z9, rfl, RD9, -, -, -⟩ := own_open spC_len od9
        clear od9
        go_wp2_with fail
        refine (HAI.out w9 (u8.trans u9)).mono ?_
        rintro e V ⟨rfl, u10⟩
        have y7 := u8.trans (u9.trans u10)
        have REV := RE8.up (u9.trans u10) (Nat.le_refl _)
        have HEV := (u9.trans u10).size
        have RDV := RD9.up u10 (Nat.le_refl _)
        have HDV := u10.size
        clear RE8 RD9 HSI HPI HAI u8 u9 u10
        go_wp2_with fail
        go_loopw [23] (fun x wr => ∃ q : Nat, q ≤ SL.length ∧ x = .int .i64 q ∧ Up V wr) (fun x _ => SL.length - (intOf x).toNat)
        case atStart => exact ⟨0, Nat.zero_le _, rfl, Up.refl _⟩
        case round =>
          obtain ⟨q, hq, rfl, hup⟩ := hrel
          by_cases hql : q < SL.length
          · obtain ⟨b, off, z, rfl, -, -, hz, q0⟩ := (REV.up hup HEV).int hql
            obtain ⟨j, rfl, hj, hjw⟩ := HZ.out z (List.mem_of_getElem? hz)
            obtain ⟨b', off', x, rfl, -, -, hx, -, m0, m1, m2⟩ := (HR7.out.up (y7.trans hup) u7.size).at_ hj
            rw [wsAt_get hx] at hjw
            have hjI : (j : Int) < (L5.length : Int) := by omega
            have e1 : decide ((j : Int) < 0) = false := by rw [decide_eq_false_iff_not]; omega
            have e2 : decide ((L5.length : Int) ≤ (j : Int)) = false := by rw [decide_eq_false_iff_not]; omega
            have e3 : decide ((W.length : Int) ≤ (x.ws.length : Int)) = false := by rw [decide_eq_false_iff_not]; omega
            clear hz hx
            go_wp2
            go_roundw
            case rel => first | exact ⟨q + 1, by omega, by go_num, hup⟩ | ((repeat refine Exists.intro _ ?_); exact ⟨⟨q + 1, by omega, by go_num, hup⟩, rfl⟩)
            case measure => simp [intOf]; omega
          · obtain ⟨wq, rfl⟩ : ∃ x, x = wr := ⟨_, rfl⟩
            have hday := hasDay_yes D9 DL z9 _ _ day wq (RDV.up hup HDV) (Nat.le_trans HDV hup.size) HDD.out.2.2.1 HDD.out.2.1 HDD.out.1
            rw [HDD.out.2.2.2] at hday
            have HDY := Lib.hid hday
            clear hday
            go_wp2_with fail
            refine HDY.out.mono ?_
            rintro e w11 ⟨rfl, u11⟩
            have y11 := (y7.trans hup).trans u11
            go_wp2_with fail
            go_meet
            exact ⟨_, rfl, y11⟩
      · have hob : (lfC (L.map Fm.p) W day == 0) = false := by simpa using hone
        generalize lfC (L.map Fm.p) W day = lc at *
        clear hone HBL HFF HSW HRP HPZ
        go_wp2_with fail
        go_meet
        exact ⟨_, rfl, Up.refl _⟩
    case rest =>
    obtain ⟨Z, hZ, uZ⟩ := hcut
    subst hZ
    have xZ := x17.trans uZ
    have UZ := U7.trans uZ
    clear HT5 HM5 HRW HWZ x17 U7 uZ x47 u7
    by_cases hbc : bpC P Q n = 0
    · have hbb : (bpC P Q n != 0) = false := by simpa using hbc
      obtain ⟨h1, h2, h3, h4, h5, h6, h7, h8⟩ := HBL.out hbc
      have hsw := fun (wx : World) (hu : Up Z wx) => HSW.out wx (xZ.trans hu)
      simp only [h6, if_true] at hsw
      rw [h1, h2]
      have HX := Lib.hid (And.intro h7 h8)
      have HSW2 := Lib.hid hsw
      clear h1 h2 h6 h7 h8 hsw hbc HBL HSW
      generalize bpC P Q n = bc at *
      generalize shA P Q = at_ at *
      generalize shM P Q = m at *
      obtain ⟨b, off, x, rfl, -, -, -, -⟩ := (HRP.out.up xZ (Nat.le_refl _)).txt (show 0 < P.length by omega)
      obtain ⟨A2, hA2, hcut⟩ := run_sliceMid (P := Tryz.prog) (t := 23) Tryz.underlying23 (fun _ => rfl) b off P.length ca at_ (at_ + m) (by omega) (by omega)
      obtain rfl : A2 = some ⟨b, off + at_, none⟩ := by
        rcases hA2 with e | e
        · exact e
        · omega
      have hcut2 : ∀ wx, (Instr.sliceAt 23 (.slice (some ⟨b, off, none⟩) P.length ca) (some (.int .i64 (at_ : Int))) (some (.int .i64 ((at_ : Int) + (m : Int)))) none).run Tryz.prog wx = .ok (.slice (some ⟨b, off + at_, none⟩) m (ca - at_)) wx := fun wx => by
        have := hcut .i64 .i64 (at_ : Int) ((at_ : Int) + (m : Int)) wx rfl (by omega)
        rwa [show at_ + m - at_ = m by omega] at this
      have hsl := sub_len (l := P) h3
      have hC := HFF.out Z xZ ⟨some ⟨b, off + at_, none⟩, ca - at_, (P.drop at_).take m, 0, 0⟩ _ _ (Rd.sub (HRP.out.up xZ (Nat.le_refl _)) at_ m) xZ.size (fun s hs => HPZ.out s (sub_mem hs)) (by show ((P.drop at_).take m).length ≤ 2000000; omega)
      simp only [Fm.val, Fm.p, hsl] at hC
      rw [HX.out.1] at hC
      have hlen := Lib.hid HX.out.2
      generalize ffL Q (List.take m (List.drop at_ P), 0, 0) = FL at *
      have hFL : decide ((0 : Int) < (FL.length : Int)) = true := by rw [decide_eq_true_iff]; have := hlen.out; omega
      have hge : decide (n ≤ (m : Int)) = true := by rw [decide_eq_true_iff]; exact h5
      have HC := Lib.hid hC
      clear hC hcut hsl HX hA2 HFF
      go_wp2_with fail
      refine HC.out.mono ?_
      rintro e w20 ⟨v20, rfl, o20, u20⟩
      obtain ⟨A20, c20, rfl, -, -, -⟩ := own_formz o20
      clear o20 hcut2
      go_wp2_with fail
      refine (HSW2.out w20 u20).mono ?_
      rintro e w21 ⟨rfl, u21⟩
      go_wp2
      go_ret
      exact ⟨rfl, UZ.trans (u20.trans u21)⟩
    · have hbb : (bpC P Q n != 0) = true := by simpa using hbc
      generalize bpC P Q n = bc at *
      clear hbc HBL HSW HFF
      go_wp2
      go_ret
      exact ⟨rfl, UZ⟩
end Go.Proofs.YtehoaoeahfmfpaaGreatDoor
