/- The days on which a phrase is possible: the reference's and the program's walks. The strange formulas of a phrase on a day: the reference's and the program's walks. StrangeFormulas: the reference's and the program's walks. -/
import Derived.Test.YtehoaoeahfmfpaaGreatDoorSpUse
import Derived.Test.YtehoaoeahfmfpaaGreatDoorSpMetS
import Derived.Test.YtehoaoeahfmfpaaGreatDoorSpMetI
import Derived.Test.YtehoaoeahfmfpaaGreatDoorDel
import Derived.Test.YtehoaoeahfmfpaaGreatDoorSpHas
namespace Go.Proofs.YtehoaoeahfmfpaaGreatDoor
open Go.RowKit Go.Sort

def wsAt (ps : List FmP) (i : Int) : List ByteArray := ((ps[i.toNat]?).map (·.1)).getD []
theorem wsAt_get {l : List Fm} {j : Nat} {x : Fm} (h : l[j]? = some x) : wsAt (l.map Fm.p) (j : Int) = x.ws := by
  unfold wsAt; rw [Int.toNat_natCast, List.getElem?_map, h]; rfl
def stpD (ps : List FmP) (out : List Sp) (i : Int) : List Sp := metL out (setL ps (wsAt ps i))
def pdL (P : List ByteArray) (ps : List FmP) : List Sp := (occL P ps).foldl (stpD ps) [(0, 730499)]
def pdS (P : List ByteArray) (ps : List FmP) : List Sp := if fiB P ps = true then pdL P ps else []
theorem pd_1 {P : List ByteArray} {ps : List FmP} (h : fiB P ps = false) : fiC P ps = 1 ∧ pdS P ps = [] := by simp [fiC, pdS, h]
theorem pd_0 {P : List ByteArray} {ps : List FmP} (h : fiB P ps = true) : fiC P ps = 0 ∧ pdS P ps = pdL P ps := by simp [fiC, pdS, h]
theorem foldD_len (ps : List FmP) : ∀ (l : List Int) (o : List Sp), (l.foldl (stpD ps) o).length ≤ o.length + l.length * ps.length
  | [], o => by simp
  | i :: l, o => by
    have h1 := foldD_len ps l (stpD ps o i)
    have h2 : (stpD ps o i).length ≤ o.length + ps.length := Nat.le_trans (metL_len _ _) (Nat.add_le_add_left (setL_len _ _) _)
    simp only [List.foldl_cons, List.length_cons, Nat.add_mul, Nat.one_mul]
    omega
theorem foldD_succ {ps : List FmP} {l : List Int} {k : Nat} {i : Int} (h : l[k]? = some i) (o : List Sp) : (l.take (k + 1)).foldl (stpD ps) o = stpD ps ((l.take k).foldl (stpD ps) o) i := by
  rw [List.take_succ_eq_append_getElem (List.getElem?_eq_some_iff.1 h).1, (List.getElem?_eq_some_iff.1 h).2, List.foldl_append]; rfl
theorem occ_mem {P : List ByteArray} {ps : List FmP} {z : Int} (h : z ∈ occL P ps) : ∃ j : Nat, z = (j : Int) ∧ j < ps.length ∧ occB P ps j = true := by
  unfold occL pl at h
  obtain ⟨j, hj, rfl⟩ := List.mem_map.1 h
  have := List.mem_filter.1 hj
  exact ⟨j, rfl, by simpa using this.1, this.2⟩
theorem occ_len (P : List ByteArray) (ps : List FmP) : (occL P ps).length ≤ ps.length := pl_len _ _
theorem alL_self (a : List ByteArray) : alL a a = true := by simp [alL]
theorem afP_fm {ps : List FmP} (h : afP ps = true) : ∀ p ∈ ps, fmB p = true := by
  unfold afP at h
  rw [Bool.and_eq_true, Bool.not_eq_true', List.any_eq_false] at h
  intro p hp; simpa using h.2 p hp
theorem afP_fm' {l : List Fm} (h : afP (l.map Fm.p) = true) : ∀ x ∈ l, fmB x.p = true := fun x hx => afP_fm h x.p (List.mem_map_of_mem hx)

set_option maxHeartbeats 1000000 in
theorem l13All_any (w : World) : Calls Tryz.prog 83 #[] w fun e w' => ∃ v, e = .returned v ∧ w'.ownsRow w.heap.size 95 2 v [((0 : Int), (730499 : Int))].length ([((0 : Int), (730499 : Int))].flatMap spC) ∧ Up w w' := by
  have hown := World.ownsRow_lit (base := w.heap.size) (e := 95) (size := 2) w #[.int .i64 0, .int .i64 730499] 1 (Nat.le_refl _) (by simp [maxLen]) rfl
  go_enter Tryz.func83, Tryz.ntmps83
  go_wp2
  go_ret
  exact ⟨_, rfl, hown, (Up.refl w).allocs _⟩

theorem pds_len {P : List ByteArray} {l : List Fm} (_h : l.length ≤ 2000000) : (pdS P (l.map Fm.p)).length ≤ 2000000 := by
  unfold pdS
  by_cases hb : fiB P (l.map Fm.p) = true
  · rw [if_pos hb]
    have ha : afP (l.map Fm.p) = true := by unfold fiB at hb; rw [Bool.and_eq_true] at hb; exact hb.1
    have h1 := foldD_len (l.map Fm.p) (occL P (l.map Fm.p)) [(0, 730499)]
    have h2 := occ_len P (l.map Fm.p)
    have h3 := (afP_small ha).1
    have h4 : (occL P (l.map Fm.p)).length * (l.map Fm.p).length ≤ 20 * 20 := Nat.mul_le_mul (by omega) h3
    unfold pdL
    simp only [List.length_singleton] at h1
    omega
  · rw [if_neg hb]; simp

/-- one formula of a phrase: its words, and the row that reads them -/
theorem occ_at {w : World} {lo hi : Nat} {A : Option Addr} {l : List Fm} {P : List ByteArray} {k : Nat} {z : Int} (hr : RdF w lo hi A l) (hz : (occL P (l.map Fm.p))[k]? = some z) :
    ∃ (j : Nat) (b off : Nat) (d : Fm), z = (j : Int) ∧ j < l.length ∧ A = some ⟨b, off, none⟩ ∧ l[j]? = some d ∧ RdT w lo hi d.A d.ws ∧ w.cell? ⟨b, off + j * 3, none⟩ = some (.slice d.A d.ws.length d.c) := by
  obtain ⟨j, hzj, hj, -⟩ := occ_mem (List.mem_of_getElem? hz)
  rw [List.length_map] at hj
  obtain ⟨b, off, d, e, -, -, hd, hin, q0, -, -⟩ := hr.at_ hj
  exact ⟨j, b, off, d, hzj, hj, e, hd, hin, q0⟩

set_option maxRecDepth 100000 in
set_option maxHeartbeats 4000000 in
theorem phraseDays_any (A B : Option Addr) (l : List Fm) (P : List ByteArray) (ca cb lo hi lo' hi' : Nat) (w : World) (hr : RdF w lo hi A l) (hhi : hi ≤ w.heap.size) (hr' : RdT w lo' hi' B P) (hhi' : hi' ≤ w.heap.size)
    (hP : ∀ x ∈ P, x.size < 32) (hn' : P.length ≤ 2000000) (hcb : P.length ≤ cb) (haf : afP (l.map Fm.p) = true) :
    Calls Tryz.prog 74 #[.slice A l.length ca, .slice B P.length cb] w fun e w' => ∃ v, e = .returned v ∧ w'.ownsRow w.heap.size 95 2 v (pdL P (l.map Fm.p)).length ((pdL P (l.map Fm.p)).flatMap spC) ∧ Up w w' := by
  have hl20 : l.length ≤ 20 := by have := (afP_small haf).1; rwa [List.length_map] at this
  have HF := Lib.hid (afP_fm' haf)
  have hup1 := Up.alloc w (.cells #[.int .i64 0, .int .i64 730499] 95)
  have hown1 := World.ownsRow_lit (base := w.heap.size) (e := 95) (size := 2) w #[.int .i64 0, .int .i64 730499] 1 (Nat.le_refl _) (by simp [maxLen]) rfl
  have HI := Lib.hid (formulasIn_any A B l P ca cb lo hi lo' hi' _ (hr.up hup1 hhi) (Nat.le_trans hhi hup1.size) (hr'.up hup1 hhi') (Nat.le_trans hhi' hup1.size) hP hn' hcb (SmF.of haf) (by omega))
  clear haf hP
  go_enter Tryz.func74, Tryz.ntmps74
  go_wp2_with fail
  generalize w.alloc (.cells #[.int .i64 0, .int .i64 730499] 95) = w1 at *
  refine HI.out.mono ?_
  rintro e w2 ⟨v, rfl, hoi, hup2⟩
  obtain ⟨Ai, ci, rfl, hci, hcim, -, -⟩ := own_form hoi
  have hri := Rd.own int_len hoi
  have hol := occ_len P (l.map Fm.p)
  rw [List.length_map] at hol
  have HFD := Lib.hid (show pdL P (l.map Fm.p) = (occL P (l.map Fm.p)).foldl (stpD (l.map Fm.p)) [(0, 730499)] from rfl)
  obtain ⟨I, hI⟩ : ∃ I, I = occL P (l.map Fm.p) := ⟨_, rfl⟩
  rw [← hI] at hri hol hci HFD hoi ⊢
  have HI2 := Lib.hid hI
  have hup02 := hup1.trans hup2
  have hown2 := own_up hown1 hup2
  clear hI hoi HI
  obtain ⟨v1, hv1⟩ : ∃ v, v = Value.slice (some ⟨w.heap.size, 0, none⟩) 1 1 := ⟨_, rfl⟩
  rw [← hv1] at hown2 ⊢
  clear hv1
  go_wp2
  go_loopw [5, 7, 14] (fun o x i wr => ∃ k : Nat, ∃ O : List Sp, k ≤ I.length ∧ i = .int .i64 k ∧ O = (I.take k).foldl (stpD (l.map Fm.p)) [(0, 730499)] ∧ O.length ≤ 1 + k * 20 ∧ wr.ownsRow w.heap.size 95 2 o O.length (O.flatMap spC) ∧ Up w2 wr) (fun _ _ i _ => I.length - (intOf i).toNat)
  case atStart => exact ⟨0, [(0, 730499)], Nat.zero_le _, rfl, rfl, by simp, hown2, Up.refl _⟩
  case round =>
    obtain ⟨k, O, hk, rfl, hO, hOn, hown, hup⟩ := hrel
    have HO := Lib.hid hO
    clear hO
    obtain ⟨Ao, co, rfl, hco, hcm, -, -⟩ := own_form hown
    have hupw := hup02.trans hup
    by_cases hlt : k < I.length
    · obtain ⟨bi, oi, z, rfl, -, -, hz, p0⟩ := (hri.up hup (Nat.le_refl _)).int hlt
      obtain ⟨j, b, off, d, rfl, hj, rfl, hd, hin, q0⟩ := occ_at (hr.up hupw hhi) (by rw [← HI2.out]; exact hz)
      have hsd := fmB_small (HF.out d (List.mem_of_getElem? hd))
      have hsd2 : d.ws.length ≤ 60 := hsd.2.1
      have HST := Lib.hid (foldD_succ (ps := l.map Fm.p) hz [(0, 730499)])
      have HWS := Lib.hid (wsAt_get hd)
      have HU := Lib.hid (wordsDays_any (some ⟨b, off, none⟩) d.A l d.ws ca d.c lo hi lo hi wr (hr.up hupw hhi) (Nat.le_trans hhi hupw.size) hin (Nat.le_trans hhi hupw.size) hsd.1 (by omega) HF.out (by omega) ⟨d, List.mem_of_getElem? hd, alL_self _⟩)
      have hsl := setL_len (l.map Fm.p) d.ws
      rw [List.length_map] at hsl
      clear hsd hz hd hin
      go_wp2_with fail
      refine HU.out.mono ?_
      rintro e w3 ⟨v3, rfl, ho3, hup3⟩
      obtain ⟨A3, c3, rfl, -, -, -, -⟩ := own_form ho3
      have hown3 := own_up hown hup3
      have hr3 := Rd.own spC_len ho3
      have hro := Rd.own spC_len hown3
      have hmul : k * 20 ≤ 400 := by omega
      have HM := Lib.hid (met_any Ao A3 O (setL (l.map Fm.p) d.ws) co c3 _ _ _ _ w3 hro (Nat.le_refl _) hr3 (Nat.le_refl _) (by omega) (by omega))
      have hml := metL_len O (setL (l.map Fm.p) d.ws)
      clear ho3 hr3 hro hown hown3 HU
      go_wp2_with fail
      refine HM.out.mono ?_
      rintro e w4 ⟨v4, rfl, ho4, hup4⟩
      have ho := own_base ho4 (Nat.le_trans hupw.size hup3.size)
      have hupx := (hup.trans hup3).trans hup4
      clear ho4 HM p0 q0
      go_wp2
      go_roundw
      case rel => exact ⟨k + 1, metL O (setL (l.map Fm.p) d.ws), by omega, by go_num, by rw [HST.out, ← HO.out, stpD, HWS.out], by omega, ho, hupx⟩
      case measure => simp [intOf]; omega
    · obtain rfl : k = I.length := by omega
      have hfin : O = pdL P (l.map Fm.p) := by rw [HFD.out, HO.out, List.take_of_length_le (Nat.le_refl _)]
      subst hfin
      go_wp2
      go_ret
      exact ⟨_, rfl, hown, hupw⟩

set_option maxRecDepth 100000 in
set_option maxHeartbeats 4000000 in
theorem implPhraseDays_any (A B : Option Addr) (l : List Fm) (P : List ByteArray) (ca cb lo hi lo' hi' : Nat) (w : World) (hr : RdF w lo hi A l) (hhi : hi ≤ w.heap.size) (hr' : RdT w lo' hi' B P) (hhi' : hi' ≤ w.heap.size)
    (hok : ∀ x ∈ l, x.ok) (hws : ∀ x ∈ l, x.ws.length ≤ 2000000) (hn : l.length ≤ 2000000) (hP : ∀ s ∈ P, s.size ≤ maxLen) (hn' : P.length ≤ 2000000) (hcb : P.length ≤ cb) :
    Calls Tryz.prog 24 #[.slice A l.length ca, .slice B P.length cb] w fun e w' => ∃ v, e = .returned (.tuple #[v, .int .i64 (fiC P (l.map Fm.p))]) ∧ w'.ownsRow w.heap.size 95 2 v (pdS P (l.map Fm.p)).length ((pdS P (l.map Fm.p)).flatMap spC) ∧ Up w w' := by
  obtain ⟨b1, hb1⟩ : ∃ b, b = afB l := ⟨_, rfl⟩
  obtain ⟨b2, hb2⟩ : ∃ b, b = phB P := ⟨_, rfl⟩
  have C1 := implAreFormulas_any A l ca lo hi w hr hhi hok hws hn
  have C2 := fun (wx : World) (hx : Up w wx) => isPhrase_any B P cb lo' hi' wx (hr'.up hx hhi') (Nat.le_trans hhi' hx.size) hP hn'
  rw [← hb1] at C1
  simp only [← hb2] at C2
  have H1 := Lib.hid C1
  have H2 := Lib.hid C2
  have HB1 := Lib.hid (hb1.trans (afB_p l))
  have HB2 := Lib.hid hb2
  clear C1 C2 hb1 hb2 hok hws hP
  have HE : Hid (fiB P (l.map Fm.p) = (b1 && b2)) := Lib.hid (by unfold fiB; rw [← HB1.out, ← HB2.out])
  cases b1
  · have HF := Lib.hid (pd_1 (HE.out.trans rfl))
    go_enter Tryz.func24, Tryz.ntmps24
    go_wp2_with fail
    refine H1.out.mono ?_
    rintro e w1 ⟨rfl, hu1⟩
    go_wp2
    go_ret2
    exact ⟨_, ret_vk HF.out.1.symm, by rw [HF.out.2]; exact World.ownsRow_nil _ _ _ _, hu1⟩
  · cases b2
    · have HF := Lib.hid (pd_1 (HE.out.trans rfl))
      go_enter Tryz.func24, Tryz.ntmps24
      go_wp2_with fail
      refine H1.out.mono ?_
      rintro e w1 ⟨rfl, hu1⟩
      go_wp2_with fail
      refine (H2.out _ hu1).mono ?_
      rintro e w2 ⟨rfl, hu2⟩
      go_wp2
      go_ret2
      exact ⟨_, ret_vk HF.out.1.symm, by rw [HF.out.2]; exact World.ownsRow_nil _ _ _ _, hu1.trans hu2⟩
    · have HF := Lib.hid (pd_0 (HE.out.trans rfl))
      go_enter Tryz.func24, Tryz.ntmps24
      go_wp2_with fail
      refine H1.out.mono ?_
      rintro e w1 ⟨rfl, hu1⟩
      go_wp2_with fail
      refine (H2.out _ hu1).mono ?_
      rintro e w2 ⟨rfl, hu2⟩
      have hux := hu1.trans hu2
      have HI := Lib.hid (phraseDays_any A B l P ca cb lo hi lo' hi' _ (hr.up hux hhi) (Nat.le_trans hhi hux.size) (hr'.up hux hhi') (Nat.le_trans hhi' hux.size) (phB_small HB2.out.symm).1 hn' hcb HB1.out.symm)
      go_wp2_with fail
      refine HI.out.mono ?_
      rintro e w3 ⟨v, rfl, ho, hu3⟩
      have HO := Lib.hid (own_base ho hux.size)
      clear ho
      go_wp2
      go_ret2
      exact ⟨v, ret_vk HF.out.1.symm, by rw [HF.out.2]; exact HO.out, hux.trans hu3⟩

set_option maxRecDepth 100000 in
set_option maxHeartbeats 4000000 in
theorem specPhraseDays_any (A B : Option Addr) (l : List Fm) (P : List ByteArray) (ca cb lo hi lo' hi' : Nat) (w : World) (hr : RdF w lo hi A l) (hhi : hi ≤ w.heap.size) (hr' : RdT w lo' hi' B P) (hhi' : hi' ≤ w.heap.size)
    (hok : ∀ x ∈ l, x.ok) (hws : ∀ x ∈ l, x.ws.length ≤ 2000000) (hn : l.length ≤ 2000000) (hP : ∀ s ∈ P, s.size ≤ maxLen) (hn' : P.length ≤ 2000000) (hcb : P.length ≤ cb) :
    Calls Tryz.prog 32 #[.slice A l.length ca, .slice B P.length cb] w fun e w' => ∃ v, e = .returned (.tuple #[v, .int .i64 (fiC P (l.map Fm.p))]) ∧ w'.ownsRow w.heap.size 95 2 v (pdS P (l.map Fm.p)).length ((pdS P (l.map Fm.p)).flatMap spC) ∧ Up w w' := by
  obtain ⟨b1, hb1⟩ : ∃ b, b = afB l := ⟨_, rfl⟩
  obtain ⟨b2, hb2⟩ : ∃ b, b = phB P := ⟨_, rfl⟩
  have C1 := specAreFormulas_any A l ca lo hi w hr hhi hok hws hn
  have C2 := fun (wx : World) (hx : Up w wx) => l10Phrase_any B P cb lo' hi' wx (hr'.up hx hhi') hP hn'
  rw [← hb1] at C1
  simp only [← hb2] at C2
  have H1 := Lib.hid C1
  have H2 := Lib.hid C2
  have HB1 := Lib.hid (hb1.trans (afB_p l))
  have HB2 := Lib.hid hb2
  clear C1 C2 hb1 hb2 hok hws hP
  have HE : Hid (fiB P (l.map Fm.p) = (b1 && b2)) := Lib.hid (by unfold fiB; rw [← HB1.out, ← HB2.out])
  cases b1
  · have HF := Lib.hid (pd_1 (HE.out.trans rfl))
    go_enter Tryz.func32, Tryz.ntmps32
    go_wp2_with fail
    refine H1.out.mono ?_
    rintro e w1 ⟨rfl, hu1⟩
    go_wp2
    go_ret2
    exact ⟨_, ret_vk HF.out.1.symm, by rw [HF.out.2]; exact World.ownsRow_nil _ _ _ _, hu1⟩
  · cases b2
    · have HF := Lib.hid (pd_1 (HE.out.trans rfl))
      go_enter Tryz.func32, Tryz.ntmps32
      go_wp2_with fail
      refine H1.out.mono ?_
      rintro e w1 ⟨rfl, hu1⟩
      go_wp2_with fail
      refine (H2.out _ hu1).mono ?_
      rintro e w2 ⟨rfl, rfl⟩
      go_wp2
      go_ret2
      exact ⟨_, ret_vk HF.out.1.symm, by rw [HF.out.2]; exact World.ownsRow_nil _ _ _ _, hu1⟩
    · have HFF := Lib.hid (pd_0 (HE.out.trans rfl))
      have haf := HB1.out.symm
      have hl20 : l.length ≤ 20 := by have := (afP_small haf).1; rwa [List.length_map] at this
      have HF := Lib.hid (afP_fm' haf)
      have HI := Lib.hid (fun (wx : World) (hx : Up w wx) => l24In_any A B l P ca cb lo hi lo' hi' wx (hr.up hx hhi) (Nat.le_trans hhi hx.size) (hr'.up hx hhi') (Nat.le_trans hhi' hx.size) (phB_small HB2.out.symm).1 hn' hcb (SmF.of haf) (by omega))
      have hol := occ_len P (l.map Fm.p)
      rw [List.length_map] at hol
      have HFD := Lib.hid (show pdL P (l.map Fm.p) = (occL P (l.map Fm.p)).foldl (stpD (l.map Fm.p)) [(0, 730499)] from rfl)
      obtain ⟨I, hI⟩ : ∃ I, I = occL P (l.map Fm.p) := ⟨_, rfl⟩
      rw [← hI] at HI hol HFD
      have HI2 := Lib.hid hI
      clear haf hI
      go_enter Tryz.func32, Tryz.ntmps32
      go_wp2_with fail
      refine H1.out.mono ?_
      rintro e w1 ⟨rfl, hu1⟩
      go_wp2_with fail
      refine (H2.out _ hu1).mono ?_
      rintro e wx ⟨rfl, rfl⟩
      go_wp2_with fail
      refine (l13All_any _).mono ?_
      rintro e wy ⟨v1, rfl, hown1, hup1⟩
      have hu2 := hu1.trans hup1
      go_wp2_with fail
      refine (HI.out _ hu2).mono ?_
      rintro e w2 ⟨v, rfl, hoi, hup2⟩
      obtain ⟨Ai, ci, rfl, hci, hcim, -, -⟩ := own_form hoi
      have hri := Rd.own int_len hoi
      have hup02 := hu2.trans hup2
      have hown2 := own_base (own_up hown1 hup2) hu1.size
      clear hoi HI hown1 H1 H2
      go_wp2
      go_loopw [6, 8] (fun o i wr => ∃ k : Nat, ∃ O : List Sp, k ≤ I.length ∧ i = .int .i64 k ∧ O = (I.take k).foldl (stpD (l.map Fm.p)) [(0, 730499)] ∧ O.length ≤ 1 + k * 20 ∧ wr.ownsRow w.heap.size 95 2 o O.length (O.flatMap spC) ∧ Up w2 wr) (fun _ i _ => I.length - (intOf i).toNat)
      case atStart => exact ⟨0, [(0, 730499)], Nat.zero_le _, rfl, rfl, by simp, hown2, Up.refl _⟩
      case round =>
        obtain ⟨k, O, hk, rfl, hO, hOn, hown, hup⟩ := hrel
        have HO := Lib.hid hO
        clear hO
        obtain ⟨Ao, co, rfl, hco, hcm, -, -⟩ := own_form hown
        have hupw := hup02.trans hup
        by_cases hlt : k < I.length
        · obtain ⟨bi, oi, z, rfl, -, -, hz, p0⟩ := (hri.up hup (Nat.le_refl _)).int hlt
          obtain ⟨j, b, off, d, rfl, hj, rfl, hd, hin, q0⟩ := occ_at (hr.up hupw hhi) (by rw [← HI2.out]; exact hz)
          have hsd := fmB_small (HF.out d (List.mem_of_getElem? hd))
          have hsd2 : d.ws.length ≤ 60 := hsd.2.1
          have HST := Lib.hid (foldD_succ (ps := l.map Fm.p) hz [(0, 730499)])
          have HWS := Lib.hid (wsAt_get hd)
          have HU := Lib.hid (specUse_any (some ⟨b, off, none⟩) d.A l d.ws ca d.c lo hi lo hi wr (hr.up hupw hhi) (Nat.le_trans hhi hupw.size) hin (Nat.le_trans hhi hupw.size) hsd.1 (by omega) HF.out (by omega))
          have hsl := setL_len (l.map Fm.p) d.ws
          rw [List.length_map] at hsl
          clear hsd hz hd hin
          go_wp2_with fail
          refine HU.out.mono ?_
          rintro e w3 ⟨v3, rfl, ho3, hup3⟩
          obtain ⟨A3, c3, rfl, -, -, -, -⟩ := own_form ho3
          have hown3 := own_up hown hup3
          have hr3 := Rd.own spC_len ho3
          have hro := Rd.own spC_len hown3
          have HM := Lib.hid (specMeet_any Ao A3 O (setL (l.map Fm.p) d.ws) co c3 _ _ _ _ w3 hro (Nat.le_refl _) hr3 (Nat.le_refl _) (by omega) (by omega))
          have hml := metL_len O (setL (l.map Fm.p) d.ws)
          clear ho3 hr3 hro hown hown3 HU
          go_wp2_with fail
          refine HM.out.mono ?_
          rintro e w4 ⟨v4, rfl, ho4, hup4⟩
          have ho := own_base ho4 (Nat.le_trans hupw.size hup3.size)
          have hupx := (hup.trans hup3).trans hup4
          clear ho4 HM p0 q0
          go_wp2
          go_roundw
          case rel => exact ⟨k + 1, metL O (setL (l.map Fm.p) d.ws), by omega, by go_num, by rw [HST.out, ← HO.out, stpD, HWS.out], by omega, ho, hupx⟩
          case measure => simp [intOf]; omega
        · obtain rfl : k = I.length := by omega
          have hfin : O = pdL P (l.map Fm.p) := by rw [HFD.out, HO.out, List.take_of_length_le (Nat.le_refl _)]
          subst hfin
          go_wp2
          go_ret2
          exact ⟨_, ret_vk HFF.out.1.symm, by rw [HFF.out.2]; exact hown, hupw⟩
end Go.Proofs.YtehoaoeahfmfpaaGreatDoor

namespace Go.Proofs.YtehoaoeahfmfpaaGreatDoor
open Go.RowKit Go.Sort

/-- a formula of a phrase that is in use on a day -/
def useB (ps : List FmP) (n : Int) (i : Int) : Bool := hasL (setL ps (wsAt ps i)) n
def stL (P : List ByteArray) (ps : List FmP) (n : Int) : List Int := (occL P ps).filter fun i => !useB ps n i
def sgC (P : List ByteArray) (ps : List FmP) (n : Int) : Int := if fiB P ps = true then (if inSp n 0 730499 = true then 0 else 2) else 1
def sgL (P : List ByteArray) (ps : List FmP) (n : Int) : List Int := if fiB P ps = true then (if inSp n 0 730499 = true then stL P ps n else []) else []
theorem sg_1 {P : List ByteArray} {ps : List FmP} {n : Int} (h : fiB P ps = false) : sgC P ps n = 1 ∧ sgL P ps n = [] := by simp [sgC, sgL, h]
theorem sg_2 {P : List ByteArray} {ps : List FmP} {n : Int} (h : fiB P ps = true) (h2 : inSp n 0 730499 = false) : sgC P ps n = 2 ∧ sgL P ps n = [] := by simp [sgC, sgL, h, h2]
theorem sg_0 {P : List ByteArray} {ps : List FmP} {n : Int} (h : fiB P ps = true) (h2 : inSp n 0 730499 = true) : sgC P ps n = 0 ∧ sgL P ps n = stL P ps n := by simp [sgC, sgL, h, h2]
theorem sg_len (P : List ByteArray) (ps : List FmP) (n : Int) : (sgL P ps n).length ≤ ps.length := by
  unfold sgL
  split
  · split
    · exact Nat.le_trans (List.length_filter_le _ _) (occ_len P ps)
    · simp
  · simp
set_option maxHeartbeats 1000000 in
theorem specDay_any (n : Int) (w : World) : Calls Tryz.prog 80 #[.int .i64 n] w fun e w' => e = .returned (.bool (inSp n 0 730499)) ∧ Up w w' := by
  have HC := Lib.hid (l01InP_any n 0 730499 w)
  go_enter Tryz.func80, Tryz.ntmps80
  go_wp2_with fail
  refine HC.out.mono ?_
  rintro e w1 ⟨rfl, hu1⟩
  go_wp2
  go_ret
  exact ⟨rfl, hu1⟩
set_option maxHeartbeats 1000000 in
theorem isDayS_any (n : Int) (w : World) : Calls Tryz.prog 68 #[.int .i64 n] w fun e w' => e = .returned (.bool (inSp n 0 730499)) ∧ Up w w' := by
  have HC := Lib.hid (withinP_any n 0 730499 w)
  go_enter Tryz.func68, Tryz.ntmps68
  go_wp2_with fail
  refine HC.out.mono ?_
  rintro e w1 ⟨rfl, hu1⟩
  go_wp2
  go_ret
  exact ⟨rfl, hu1⟩

set_option maxRecDepth 100000 in
set_option maxHeartbeats 4000000 in
theorem l24Strange_any (A B : Option Addr) (l : List Fm) (P : List ByteArray) (ca cb lo hi lo' hi' : Nat) (n : Int) (w : World) (hr : RdF w lo hi A l) (hhi : hi ≤ w.heap.size) (hr' : RdT w lo' hi' B P) (hhi' : hi' ≤ w.heap.size)
    (hP : ∀ x ∈ P, x.size < 32) (hn' : P.length ≤ 2000000) (hcb : P.length ≤ cb) (haf : afP (l.map Fm.p) = true) :
    Calls Tryz.prog 81 #[.slice A l.length ca, .slice B P.length cb, .int .i64 n] w fun e w' => ∃ v, e = .returned v ∧ w'.ownsRow w.heap.size 2 1 v (stL P (l.map Fm.p) n).length ((stL P (l.map Fm.p) n).flatMap intCells) ∧ Up w w' := by
  obtain ⟨i0, hi0, hz0, hz1, hz2⟩ := info_parts infoIntP
  have hl20 : l.length ≤ 20 := by have := (afP_small haf).1; rwa [List.length_map] at this
  have HF := Lib.hid (afP_fm' haf)
  have HI := Lib.hid (l24In_any A B l P ca cb lo hi lo' hi' w hr hhi hr' hhi' hP hn' hcb (SmF.of haf) (by omega))
  have hol := occ_len P (l.map Fm.p)
  rw [List.length_map] at hol
  have HFD := Lib.hid (show stL P (l.map Fm.p) n = (occL P (l.map Fm.p)).filter (fun i => !useB (l.map Fm.p) n i) from rfl)
  obtain ⟨I, hI⟩ : ∃ I, I = occL P (l.map Fm.p) := ⟨_, rfl⟩
  rw [← hI] at HI hol HFD
  have HI2 := Lib.hid hI
  clear haf hI hP
  go_enter Tryz.func81, Tryz.ntmps81
  go_wp2_with fail
  refine HI.out.mono ?_
  rintro e w2 ⟨v, rfl, hoi, hup02⟩
  obtain ⟨Ai, ci, rfl, hci, hcim, -, -⟩ := own_form hoi
  have hri := Rd.own int_len hoi
  clear hoi HI
  go_wp2
  have hown0 := World.ownsRow_lit (base := w2.heap.size) (e := 2) (size := 1) w2 #[] 0 (Nat.le_refl _) (by simp [maxLen]) rfl
  have hupl := (Up.refl w2).allocs (.cells #[] 2)
  obtain ⟨v0, hv0⟩ : ∃ v, v = Value.slice (some ⟨w2.heap.size, 0, none⟩) 0 0 := ⟨_, rfl⟩
  rw [← hv0] at hown0 ⊢
  generalize w2.alloc (.cells #[] 2) = w3 at *
  clear hv0
  go_loopw [8, 9] (fun o i wr => ∃ k : Nat, ∃ O : List Int, k ≤ I.length ∧ i = .int .i64 k ∧ O = (I.take k).filter (fun i => !useB (l.map Fm.p) n i) ∧ O.length ≤ k ∧ wr.ownsRow w2.heap.size 2 1 o O.length (O.flatMap intCells) ∧ Up w2 wr) (fun _ i _ => I.length - (intOf i).toNat)
  case atStart => exact ⟨0, [], Nat.zero_le _, rfl, rfl, Nat.zero_le _, hown0, hupl⟩
  case round =>
    obtain ⟨k, O, hk, rfl, hO, hOn, hown, hup⟩ := hrel
    have HO := Lib.hid hO
    clear hO
    obtain ⟨Ao, co, rfl, hco, hcm, -, -⟩ := own_form hown
    have hupw := hup02.trans hup
    by_cases hlt : k < I.length
    · obtain ⟨bi, oi, z, rfl, -, -, hz, p0⟩ := (hri.up hup (Nat.le_refl _)).int hlt
      obtain ⟨j, b, off, d, rfl, hj, rfl, hd, hin, q0⟩ := occ_at (hr.up hupw hhi) (by rw [← HI2.out]; exact hz)
      have hsd := fmB_small (HF.out d (List.mem_of_getElem? hd))
      have hsd2 : d.ws.length ≤ 60 := hsd.2.1
      have HZ := Lib.hid hz
      have hub : useB (l.map Fm.p) n (j : Int) = hasL (setL (l.map Fm.p) d.ws) n := by unfold useB; rw [wsAt_get hd]
      have HU := Lib.hid (specUse_any (some ⟨b, off, none⟩) d.A l d.ws ca d.c lo hi lo hi wr (hr.up hupw hhi) (Nat.le_trans hhi hupw.size) hin (Nat.le_trans hhi hupw.size) hsd.1 (by omega) HF.out (by omega))
      have hsl := setL_len (l.map Fm.p) d.ws
      rw [List.length_map] at hsl
      obtain ⟨bb, hbb⟩ : ∃ bb, bb = hasL (setL (l.map Fm.p) d.ws) n := ⟨_, rfl⟩
      rw [← hbb] at hub
      have HB := Lib.hid hbb
      have HUB := Lib.hid hub
      clear hsd hz hd hin hbb hub
      go_wp2_with fail
      refine HU.out.mono ?_
      rintro e w4 ⟨v3, rfl, ho3, hup3⟩
      obtain ⟨A3, c3, rfl, -, -, -, -⟩ := own_form ho3
      have hH := specHas_any A3 (setL (l.map Fm.p) d.ws) c3 wr.heap.size w4.heap.size n w4 (Rd.own spC_len ho3) (Nat.le_refl _) (by omega)
      rw [← HB.out] at hH
      have HH := Lib.hid hH
      clear ho3 HU hH
      go_wp2_with fail
      refine HH.out.mono ?_
      rintro e w5 ⟨rfl, hup5⟩
      have hu35 := hup3.trans hup5
      have hown5 := own_up hown hu35
      have hup25 := hup.trans hu35
      have p5 := hu35.cell p0
      clear hown p0 q0
      cases bb
      · have n1 : O.length + 1 ≤ maxLen := by unfold maxLen; omega
        have n2 : (O.length + 1) * 8 ≤ 140737488355328 := by omega
        have n3 : w2.heap.size ≤ (w5.alloc (.cells #[.int .i64 (j : Int)] 2)).heap.size := (hup25.allocs _).size
        go_wp2_with ((at_builtin; refine wpList_append_own _ rfl _ _ 43 rfl w2.heap.size 2 i0 _ 1 8 Tryz.underlying43 hi0 hz0 hz1 hz2 rfl (by decide) _ _ _ rfl (hown5.alloc _) ⟨w5.heap.size, 0, none⟩ 1 1 [.int .i64 (j : Int)] rfl rfl (cell_one_new _ _ _) (by simp [Value.oneCell']) n1 n2 n3 ?_))
        intro v' w6 hown' hgrow _
        have hu := (hup25.allocs (.cells #[.int .i64 (j : Int)] 2)).grown hgrow (fun k hk => (hown5.lt k hk).1)
        clear hgrow hown5
        go_wp2
        go_roundw
        case rel => exact ⟨k + 1, O ++ [(j : Int)], by omega, by go_num, by rw [filt_yes HZ.out HUB.out, HO.out], by simp; omega, by simpa using hown', hu⟩
        case measure => simp [intOf]; omega
      · go_wp2
        go_roundw
        case rel => exact ⟨k + 1, O, by omega, by go_num, by rw [filt_no HZ.out HUB.out]; exact HO.out, by omega, hown5, hup25⟩
        case measure => simp [intOf]; omega
    · obtain rfl : k = I.length := by omega
      have hfin : O = stL P (l.map Fm.p) n := by rw [HFD.out, HO.out, List.take_of_length_le (Nat.le_refl _)]
      subst hfin
      go_wp2
      go_ret
      exact ⟨_, rfl, own_base hown hup02.size, hupw⟩

set_option maxRecDepth 100000 in
set_option maxHeartbeats 4000000 in
theorem strClosure_any (A : Option Addr) (l : List Fm) (ca lo hi vL vN j : Nat) (n : Int) (w : World) (hr : RdF w lo hi A l) (hhi : hi ≤ w.heap.size) (haf : afP (l.map Fm.p) = true) (hj : j < l.length)
    (c1 : w.cell? ⟨vL, 0, none⟩ = some (.slice A l.length ca)) (c2 : w.cell? ⟨vN, 0, none⟩ = some (.int .i64 n)) :
    Calls Tryz.prog 71 #[.int .i64 (j : Int), .pointer (some ⟨vL, 0, none⟩), .pointer (some ⟨vN, 0, none⟩)] w fun e w' => e = .returned (.bool (useB (l.map Fm.p) n (j : Int))) ∧ Up w w' := by
  have hl20 : l.length ≤ 20 := by have := (afP_small haf).1; rwa [List.length_map] at this
  have hF := afP_fm' haf
  obtain ⟨b, off, d, rfl, hlo, hb, hd, hin, q0, -, -⟩ := hr.at_ hj
  have hsd := fmB_small (hF d (List.mem_of_getElem? hd))
  have hsd2 : d.ws.length ≤ 60 := hsd.2.1
  have HUB := Lib.hid (show useB (l.map Fm.p) n (j : Int) = hasL (setL (l.map Fm.p) d.ws) n by unfold useB; rw [wsAt_get hd])
  have HU := Lib.hid (fun (wx : World) (hx : Up w wx) => wordsDays_any (some ⟨b, off, none⟩) d.A l d.ws ca d.c lo hi lo hi wx (hr.up hx hhi) (Nat.le_trans hhi hx.size) (hin.up hx hhi) (Nat.le_trans hhi hx.size) hsd.1 (by omega) hF (by omega) ⟨d, List.mem_of_getElem? hd, alL_self _⟩)
  have hsl := setL_len (l.map Fm.p) d.ws
  rw [List.length_map] at hsl
  have HH := Lib.hid (fun (wx : World) (A3 : Option Addr) (c3 lo3 : Nat) (hx : RdP wx lo3 wx.heap.size A3 (setL (l.map Fm.p) d.ws)) => hasDay_any A3 (setL (l.map Fm.p) d.ws) c3 lo3 wx.heap.size n wx hx (Nat.le_refl _) (by omega))
  clear hsd hin hd haf hF
  have hdw : Up w w.drew := (Up.refl _).drew
  go_enter Tryz.func71, Tryz.ntmps71
  go_wp2_with fail
  go_region_held3 (fun w' => Up w w' ∧ w'.cell? ⟨vL, 0, none⟩ = some (.slice (some ⟨b, off, none⟩) l.length ca) ∧ w'.cell? ⟨vN, 0, none⟩ = some (.int .i64 n) ∧ w'.cell? ⟨b, off + j * 3, none⟩ = some (.slice d.A d.ws.length d.c))
    (first | exact ⟨Up.refl _, c1, c2, q0⟩ | exact ⟨hdw, c1, c2, q0⟩ | exact ⟨by assumption, by assumption, by assumption, by assumption⟩)
    (first
      | (go_at_call 73
         with_reducible refine (HU.out _ (by assumption)).mono ?_
         rintro e wb ⟨v, rfl, hov, ub⟩
         have hSb : Up w wb := Up.trans (by assumption) ub
         obtain ⟨A3, c3, rfl, -, -, -, -⟩ := own_form hov
         have HR3 := Lib.hid (Rd.own spC_len hov)
         have HG := Lib.hid (fun (wx : World) (hx : Up wb wx) => HH.out wx A3 c3 _ ((HR3.out.up hx (Nat.le_refl _)).wide (Nat.le_refl _) hx.size))
         have hZb : Up wb wb := Up.refl _
         have hZbd : Up wb wb.drew := (Up.refl _).drew
         clear hov
         have kb1 := hSb.cell c1
         have kb2 := hSb.cell c2
         have kb3 := hSb.cell q0)
      | (go_at_call 72
         with_reducible refine (HG.out _ (by assumption)).mono ?_
         rintro e wc ⟨rfl, uc⟩
         have hbc : Up wb wc := Up.trans (by assumption) uc
         have hSc : Up w wc := hSb.trans hbc
         have kc1 := hSc.cell c1
         have kc2 := hSc.cell c2
         have kc3 := hSc.cell q0))
  all_goals
    clear HU HH HG kb1 kb2 kb3 kc1 kc2 kc3 c1 c2 q0
    go_wp2
    go_ret
    exact ⟨ret_bool HUB.out.symm, hSc⟩
end Go.Proofs.YtehoaoeahfmfpaaGreatDoor

namespace Go.Proofs.YtehoaoeahfmfpaaGreatDoor
open Go.RowKit Go.Sort

set_option maxRecDepth 100000 in
set_option maxHeartbeats 4000000 in
theorem specStrangeFormulas_any (A B : Option Addr) (l : List Fm) (P : List ByteArray) (ca cb lo hi lo' hi' : Nat) (n : Int) (w : World) (hr : RdF w lo hi A l) (hhi : hi ≤ w.heap.size) (hr' : RdT w lo' hi' B P) (hhi' : hi' ≤ w.heap.size)
    (hok : ∀ x ∈ l, x.ok) (hws : ∀ x ∈ l, x.ws.length ≤ 2000000) (hn : l.length ≤ 2000000) (hP : ∀ s ∈ P, s.size ≤ maxLen) (hn' : P.length ≤ 2000000) (hcb : P.length ≤ cb) :
    Calls Tryz.prog 30 #[.slice A l.length ca, .slice B P.length cb, .int .i64 n] w fun e w' => ∃ v, e = .returned (.tuple #[v, .int .i64 (sgC P (l.map Fm.p) n)]) ∧ w'.ownsRow w.heap.size 2 1 v (sgL P (l.map Fm.p) n).length ((sgL P (l.map Fm.p) n).flatMap intCells) ∧ Up w w' := by
  obtain ⟨b1, hb1⟩ : ∃ b, b = afB l := ⟨_, rfl⟩
  obtain ⟨b2, hb2⟩ : ∃ b, b = phB P := ⟨_, rfl⟩
  obtain ⟨b3, hb3⟩ : ∃ b, b = inSp n 0 730499 := ⟨_, rfl⟩
  have C1 := specAreFormulas_any A l ca lo hi w hr hhi hok hws hn
  have C2 := fun (wx : World) (hx : Up w wx) => l10Phrase_any B P cb lo' hi' wx (hr'.up hx hhi') hP hn'
  have C3 := fun (wx : World) => specDay_any n wx
  rw [← hb1] at C1
  simp only [← hb2] at C2
  simp only [← hb3] at C3
  have H1 := Lib.hid C1
  have H2 := Lib.hid C2
  have H3 := Lib.hid C3
  have HB1 := Lib.hid (hb1.trans (afB_p l))
  have HB2 := Lib.hid hb2
  have HB3 := Lib.hid hb3
  clear C1 C2 C3 hb1 hb2 hb3 hok hws hP
  have HE : Hid (fiB P (l.map Fm.p) = (b1 && b2)) := Lib.hid (by unfold fiB; rw [← HB1.out, ← HB2.out])
  cases b1
  · have HF := Lib.hid (sg_1 (n := n) (HE.out.trans rfl))
    go_enter Tryz.func30, Tryz.ntmps30
    go_wp2_with fail
    refine H1.out.mono ?_
    rintro e w1 ⟨rfl, hu1⟩
    go_wp2
    go_ret2
    exact ⟨_, ret_vk HF.out.1.symm, by rw [HF.out.2]; exact World.ownsRow_nil _ _ _ _, hu1⟩
  · cases b2
    · have HF := Lib.hid (sg_1 (n := n) (HE.out.trans rfl))
      go_enter Tryz.func30, Tryz.ntmps30
      go_wp2_with fail
      refine H1.out.mono ?_
      rintro e w1 ⟨rfl, hu1⟩
      go_wp2_with fail
      refine (H2.out _ hu1).mono ?_
      rintro e w2 ⟨rfl, rfl⟩
      go_wp2
      go_ret2
      exact ⟨_, ret_vk HF.out.1.symm, by rw [HF.out.2]; exact World.ownsRow_nil _ _ _ _, hu1⟩
    · cases b3
      · have HF := Lib.hid (sg_2 (n := n) (HE.out.trans rfl) HB3.out.symm)
        go_enter Tryz.func30, Tryz.ntmps30
        go_wp2_with fail
        refine H1.out.mono ?_
        rintro e w1 ⟨rfl, hu1⟩
        go_wp2_with fail
        refine (H2.out _ hu1).mono ?_
        rintro e wx ⟨rfl, rfl⟩
        go_wp2_with fail
        refine (H3.out _).mono ?_
        rintro e w2 ⟨rfl, hu2⟩
        go_wp2
        go_ret2
        exact ⟨_, ret_vk HF.out.1.symm, by rw [HF.out.2]; exact World.ownsRow_nil _ _ _ _, hu1.trans hu2⟩
      · have HF := Lib.hid (sg_0 (n := n) (HE.out.trans rfl) HB3.out.symm)
        go_enter Tryz.func30, Tryz.ntmps30
        go_wp2_with fail
        refine H1.out.mono ?_
        rintro e w1 ⟨rfl, hu1⟩
        go_wp2_with fail
        refine (H2.out _ hu1).mono ?_
        rintro e wx ⟨rfl, rfl⟩
        go_wp2_with fail
        refine (H3.out _).mono ?_
        rintro e w2 ⟨rfl, hu2⟩
        have hux := hu1.trans hu2
        have HI := Lib.hid (l24Strange_any A B l P ca cb lo hi lo' hi' n _ (hr.up hux hhi) (Nat.le_trans hhi hux.size) (hr'.up hux hhi') (Nat.le_trans hhi' hux.size) (phB_small HB2.out.symm).1 hn' hcb HB1.out.symm)
        go_wp2_with fail
        refine HI.out.mono ?_
        rintro e w3 ⟨v, rfl, ho, hu3⟩
        have HO := Lib.hid (own_base ho hux.size)
        clear ho
        go_wp2
        go_ret2
        exact ⟨v, ret_vk HF.out.1.symm, by rw [HF.out.2]; exact HO.out, hux.trans hu3⟩

set_option maxRecDepth 100000 in
set_option maxHeartbeats 4000000 in
theorem implStrangeFormulas_any (A B : Option Addr) (l : List Fm) (P : List ByteArray) (ca cb lo hi lo' hi' : Nat) (n : Int) (w : World) (hr : RdF w lo hi A l) (hhi : hi ≤ w.heap.size) (hr' : RdT w lo' hi' B P) (hhi' : hi' ≤ w.heap.size)
    (hok : ∀ x ∈ l, x.ok) (hws : ∀ x ∈ l, x.ws.length ≤ 2000000) (hn : l.length ≤ 2000000) (hP : ∀ s ∈ P, s.size ≤ maxLen) (hn' : P.length ≤ 2000000) (hcb : P.length ≤ cb) :
    Calls Tryz.prog 23 #[.slice A l.length ca, .slice B P.length cb, .int .i64 n] w fun e w' => ∃ v, e = .returned (.tuple #[v, .int .i64 (sgC P (l.map Fm.p) n)]) ∧ w'.ownsRow w.heap.size 2 1 v (sgL P (l.map Fm.p) n).length ((sgL P (l.map Fm.p) n).flatMap intCells) ∧ Up w w' := by
  obtain ⟨b1, hb1⟩ : ∃ b, b = afB l := ⟨_, rfl⟩
  obtain ⟨b2, hb2⟩ : ∃ b, b = phB P := ⟨_, rfl⟩
  obtain ⟨b3, hb3⟩ : ∃ b, b = inSp n 0 730499 := ⟨_, rfl⟩
  have hub := (Up.alloc w (.cells #[.slice A l.length ca] 26)).allocs (.cells #[.int .i64 n] 2)
  have k1 : ((w.alloc (.cells #[.slice A l.length ca] 26)).alloc (.cells #[.int .i64 n] 2)).cell? ⟨w.heap.size, 0, none⟩ = some (.slice A l.length ca) := by simp
  have k2 : ((w.alloc (.cells #[.slice A l.length ca] 26)).alloc (.cells #[.int .i64 n] 2)).cell? ⟨w.heap.size + 1, 0, none⟩ = some (.int .i64 n) := by simp
  have C1 := implAreFormulas_any A l ca lo hi _ (hr.up hub hhi) (Nat.le_trans hhi hub.size) hok hws hn
  have C2 := fun (wx : World) (hx : Up w wx) => isPhrase_any B P cb lo' hi' wx (hr'.up hx hhi') (Nat.le_trans hhi' hx.size) hP hn'
  have C3 := fun (wx : World) => isDayS_any n wx
  rw [← hb1] at C1
  simp only [← hb2] at C2
  simp only [← hb3] at C3
  have H1 := Lib.hid C1
  have H2 := Lib.hid C2
  have H3 := Lib.hid C3
  have HB1 := Lib.hid (hb1.trans (afB_p l))
  have HB2 := Lib.hid hb2
  have HB3 := Lib.hid hb3
  clear C1 C2 C3 hb1 hb2 hb3 hok hws hP
  have HE : Hid (fiB P (l.map Fm.p) = (b1 && b2)) := Lib.hid (by unfold fiB; rw [← HB1.out, ← HB2.out])
  cases b1
  · have HF := Lib.hid (sg_1 (n := n) (HE.out.trans rfl))
    go_enter Tryz.func23, Tryz.ntmps23
    go_wp2_with fail
    refine H1.out.mono ?_
    rintro e w1 ⟨rfl, hu1⟩
    go_wp2
    go_ret2
    exact ⟨_, ret_vk HF.out.1.symm, by rw [HF.out.2]; exact World.ownsRow_nil _ _ _ _, hub.trans hu1⟩
  · cases b2
    · have HF := Lib.hid (sg_1 (n := n) (HE.out.trans rfl))
      go_enter Tryz.func23, Tryz.ntmps23
      go_wp2_with fail
      refine H1.out.mono ?_
      rintro e w1 ⟨rfl, hu1⟩
      have hu01 := hub.trans hu1
      go_wp2_with fail
      refine (H2.out _ hu01).mono ?_
      rintro e w2 ⟨rfl, hu2⟩
      go_wp2
      go_ret2
      exact ⟨_, ret_vk HF.out.1.symm, by rw [HF.out.2]; exact World.ownsRow_nil _ _ _ _, hu01.trans hu2⟩
    · cases b3
      · have HF := Lib.hid (sg_2 (n := n) (HE.out.trans rfl) HB3.out.symm)
        go_enter Tryz.func23, Tryz.ntmps23
        go_wp2_with fail
        refine H1.out.mono ?_
        rintro e w1 ⟨rfl, hu1⟩
        have hu01 := hub.trans hu1
        go_wp2_with fail
        refine (H2.out _ hu01).mono ?_
        rintro e w2 ⟨rfl, hu2⟩
        have r2 := (hu1.trans hu2).cell k2
        go_wp2_with fail
        refine (H3.out _).mono ?_
        rintro e w3 ⟨rfl, hu3⟩
        go_wp2
        go_ret2
        exact ⟨_, ret_vk HF.out.1.symm, by rw [HF.out.2]; exact World.ownsRow_nil _ _ _ _, (hu01.trans hu2).trans hu3⟩
      · have HF := Lib.hid (sg_0 (n := n) (HE.out.trans rfl) HB3.out.symm)
        go_enter Tryz.func23, Tryz.ntmps23
        go_wp2_with fail
        refine H1.out.mono ?_
        rintro e w1 ⟨rfl, hu1⟩
        have hu01 := hub.trans hu1
        go_wp2_with fail
        refine (H2.out _ hu01).mono ?_
        rintro e w2 ⟨rfl, hu2⟩
        have r2 := (hu1.trans hu2).cell k2
        go_wp2_with fail
        refine (H3.out _).mono ?_
        rintro e w3 ⟨rfl, hu3⟩
        have hb3 := (hu1.trans hu2).trans hu3
        have hux := hub.trans hb3
        have s1 := hb3.cell k1
        have s2 := hb3.cell k2
        have HI := Lib.hid (formulasIn_any A B l P ca cb lo hi lo' hi' w3 (hr.up hux hhi) (Nat.le_trans hhi hux.size) (hr'.up hux hhi') (Nat.le_trans hhi' hux.size) (phB_small HB2.out.symm).1 hn' hcb (SmF.of HB1.out.symm) hn)
        have hmf : ∀ (fn : Fn) (first cap : Array Value) (w : World), (Instr.makeFunc fn first cap).run Tryz.prog w = .ok (.func fn first cap) w := fun _ _ _ _ => rfl
        go_wp2_with fail
        refine HI.out.mono ?_
        rintro e w4 ⟨v, rfl, ho, hu4⟩
        obtain ⟨Ai, ci, rfl, -, -, -, -⟩ := own_form ho
        have hol := occ_len P (l.map Fm.p)
        rw [List.length_map] at hol
        have HD := Lib.hid (deleteFunc_any Ai (occL P (l.map Fm.p)) ci w3.heap.size 71 #[.pointer (some ⟨w.heap.size, 0, none⟩), .pointer (some ⟨w.heap.size + 1, 0, none⟩)] (useB (l.map Fm.p) n) w3 w4 hu4 ho (Nat.le_refl _) (by omega) (fun _ _ => by kernel_rfl)
          (fun z hz w5 hu5 => by
            obtain ⟨j, rfl, hj, -⟩ := occ_mem hz
            rw [List.length_map] at hj
            exact strClosure_any A l ca lo hi w.heap.size (w.heap.size + 1) j n w5 (hr.up (hux.trans hu5) hhi) (Nat.le_trans hhi (hux.trans hu5).size) HB1.out.symm hj (hu5.cell s1) (hu5.cell s2)))
        clear ho HI k1 k2 r2 s1 s2
        go_wp2_with fail
        refine HD.out.mono ?_
        rintro e w5 ⟨v5, rfl, ho5, hu5⟩
        have HO := Lib.hid (own_base ho5 hux.size)
        clear ho5
        go_wp2
        go_ret2
        exact ⟨v5, ret_vk HF.out.1.symm, by rw [HF.out.2]; exact HO.out, hux.trans hu5⟩
end Go.Proofs.YtehoaoeahfmfpaaGreatDoor
