/- The formulas that occur in a phrase: the reference's and the program's walks. -/
import Derived.Test.YtehoaoeahfmfpaaGreatDoorFindF
import Derived.Test.YtehoaoeahfmfpaaGreatDoorAreFS
import Derived.Deep.RegionHeld3
namespace Go.Proofs.YtehoaoeahfmfpaaGreatDoor
open Go.RowKit Go.Sort

abbrev FmP := List ByteArray × Int × Int
def afP (ps : List FmP) : Bool := decide (ps.length ≤ 20) && !(ps.any fun p => !fmB p)
theorem afB_p (l : List Fm) : afB l = afP (l.map Fm.p) := by simp [afB, afP, List.any_map, Function.comp_def]
theorem afP_small {ps : List FmP} (h : afP ps = true) : ps.length ≤ 20 ∧ ∀ p ∈ ps, (∀ x ∈ p.1, x.size < 32) ∧ p.1.length ≤ 60 ∧ 0 < p.1.length := by
  unfold afP at h
  rw [Bool.and_eq_true, decide_eq_true_eq] at h
  refine ⟨h.1, fun p hp => fmB_small ?_⟩
  have h2 := h.2
  rw [Bool.not_eq_true', List.any_eq_false] at h2
  simpa using h2 p hp
def fnB (P : List ByteArray) (p : FmP) : Bool := decide (0 < (fdL P p.1).length)
def occB (P : List ByteArray) (ps : List FmP) (j : Nat) : Bool := match ps[j]? with | some p => fnB P p | none => false
theorem occB_at {P : List ByteArray} {l : List Fm} {j : Nat} {x : Fm} (h : l[j]? = some x) : occB P (l.map Fm.p) j = decide (0 < (fdL P x.ws).length) := by
  unfold occB; rw [List.getElem?_map, h]; rfl
def occL (P : List ByteArray) (ps : List FmP) : List Int := pl (occB P ps) ps.length
def fiB (P : List ByteArray) (ps : List FmP) : Bool := afP ps && phB P
def fiC (P : List ByteArray) (ps : List FmP) : Int := if fiB P ps = true then 0 else 1
def fiL (P : List ByteArray) (ps : List FmP) : List Int := if fiB P ps = true then occL P ps else []
theorem fi_1 {P : List ByteArray} {ps : List FmP} (h : fiB P ps = false) : fiC P ps = 1 ∧ fiL P ps = [] := by simp [fiC, fiL, h]
theorem fi_0 {P : List ByteArray} {ps : List FmP} (h : fiB P ps = true) : fiC P ps = 0 ∧ fiL P ps = occL P ps := by simp [fiC, fiL, h]
theorem fi_len (P : List ByteArray) (ps : List FmP) : (fiL P ps).length ≤ ps.length := by
  unfold fiL occL; split
  · exact pl_len _ _
  · simp
/-- every formula's words are few and short -/
def SmF (l : List Fm) : Prop := ∀ x ∈ l, (∀ s ∈ x.ws, s.size < 32) ∧ x.ws.length ≤ 60 ∧ 0 < x.ws.length
theorem SmF.of {l : List Fm} (h : afP (l.map Fm.p) = true) : SmF l := fun x hx => (afP_small h).2 x.p (List.mem_map_of_mem hx)

set_option maxRecDepth 100000 in
set_option maxHeartbeats 4000000 in
theorem l24In_any (A B : Option Addr) (l : List Fm) (P : List ByteArray) (ca cb lo hi lo' hi' : Nat) (w : World) (hr : RdF w lo hi A l) (hhi : hi ≤ w.heap.size) (hr' : RdT w lo' hi' B P) (hhi' : hi' ≤ w.heap.size)
    (hP : ∀ x ∈ P, x.size < 32) (hn' : P.length ≤ 2000000) (hcb : P.length ≤ cb) (hs : SmF l) (hn : l.length ≤ 2000000) :
    Calls Tryz.prog 84 #[.slice A l.length ca, .slice B P.length cb] w fun e w' => ∃ v, e = .returned v ∧ w'.ownsRow w.heap.size 2 1 v (occL P (l.map Fm.p)).length ((occL P (l.map Fm.p)).flatMap intCells) ∧ Up w w' := by
  obtain ⟨i0, hi0, hz0, hz1, hz2⟩ := info_parts infoIntP
  have HP := Lib.hid hP
  have HS := Lib.hid hs
  clear hP hs
  have HE := Lib.hid (show occL P (l.map Fm.p) = pl (occB P (l.map Fm.p)) l.length by simp [occL])
  obtain ⟨q, hq⟩ : ∃ q, q = occB P (l.map Fm.p) := ⟨_, rfl⟩
  rw [← hq] at HE
  have HQ := Lib.hid hq
  clear hq
  go_enter Tryz.func84, Tryz.ntmps84
  go_wp2
  have hown0 := World.ownsRow_lit (base := w.heap.size) (e := 2) (size := 1) w #[] 0 (Nat.le_refl _) (by simp [maxLen]) rfl
  have hup0 := (Up.refl w).allocs (.cells #[] 2)
  obtain ⟨v0, hv0⟩ : ∃ v, v = Value.slice (some ⟨w.heap.size, 0, none⟩) 0 0 := ⟨_, rfl⟩
  rw [← hv0] at hown0 ⊢
  generalize w.alloc (.cells #[] 2) = w2 at *
  clear hv0
  go_loopw [5, 6] (fun o i wr => ∃ k : Nat, k ≤ l.length ∧ i = .int .i64 k ∧ wr.ownsRow w.heap.size 2 1 o (pl q k).length ((pl q k).flatMap intCells) ∧ Up w wr) (fun _ i _ => l.length - (intOf i).toNat)
  case atStart => exact ⟨0, Nat.zero_le _, rfl, hown0, hup0⟩
  case round =>
    obtain ⟨k, hk, rfl, hown, hup⟩ := hrel
    have hpl := pl_len q k
    by_cases hlt : k < l.length
    · obtain ⟨b, off, d, rfl, hlo, hb, hd, hin, q0, -, -⟩ := (hr.up hup hhi).at_ hlt
      have HD := Lib.hid hd
      have hsd := HS.out d (List.mem_of_getElem? hd)
      clear hd
      have hQ : q k = decide (0 < (fdL P d.ws).length) := by rw [HQ.out]; exact occB_at HD.out
      have HC := Lib.hid (l24Find_any B d.A P d.ws cb d.c lo' hi' lo hi wr (hr'.up hup hhi') (Nat.le_trans hhi' hup.size) hin (Nat.le_trans hhi hup.size) HP.out hsd.1 hn' (by omega) hsd.2.2 hcb)
      have HQK := Lib.hid hQ
      clear hQ hsd hin
      go_wp2_with fail
      refine HC.out.mono ?_
      rintro e w3 ⟨v, rfl, hov, hup3⟩
      obtain ⟨Av, cv, rfl, -, -, -, -⟩ := own_form hov
      clear hov HC
      have hown3 := own_up hown hup3
      have hupx := hup.trans hup3
      generalize (fdL P d.ws).length = m at *
      by_cases hp : 0 < m
      · have hd1 : decide ((0 : Int) < (m : Int)) = true := by simpa using hp
        have HPP := Lib.hid (show q k = true by rw [HQK.out]; simpa using hp)
        have n1 : (pl q k).length + 1 ≤ maxLen := by unfold maxLen; omega
        have n2 : ((pl q k).length + 1) * 8 ≤ 140737488355328 := by omega
        have n3 : w.heap.size ≤ (w3.alloc (.cells #[.int .i64 (k : Int)] 2)).heap.size := (hupx.allocs _).size
        go_wp2_with ((at_builtin; refine wpList_append_own _ rfl _ _ 43 rfl w.heap.size 2 i0 _ 1 8 Tryz.underlying43 hi0 hz0 hz1 hz2 rfl (by decide) _ _ _ rfl (hown3.alloc _) ⟨w3.heap.size, 0, none⟩ 1 1 [.int .i64 (k : Int)] rfl rfl (cell_one_new _ _ _) (by simp [Value.oneCell']) n1 n2 n3 ?_))
        intro v' w4 hown' hgrow _
        have ho := pl_step HPP.out hown'
        have hu := (hupx.allocs (.cells #[.int .i64 (k : Int)] 2)).grown hgrow (fun k hk => (hown3.lt k hk).1)
        clear hown' hgrow
        go_wp2
        go_roundw
        case rel => exact ⟨k + 1, by omega, by go_num, ho, hu⟩
        case measure => simp [intOf]; omega
      · have hd1 : decide ((0 : Int) < (m : Int)) = false := by simpa using hp
        have HPP := Lib.hid (show q k = false by rw [HQK.out]; simpa using hp)
        go_wp2
        go_roundw
        case rel => exact ⟨k + 1, by omega, by go_num, by rw [pl_no HPP.out]; exact hown3, hupx⟩
        case measure => simp [intOf]; omega
    · obtain rfl : k = l.length := by omega
      go_wp2
      go_ret
      exact ⟨_, rfl, by rw [HE.out]; exact hown, hup⟩

set_option maxRecDepth 100000 in
set_option maxHeartbeats 4000000 in
theorem inClosure_any (A B : Option Addr) (l : List Fm) (P : List ByteArray) (ca cb lo hi lo' hi' vP vL j : Nat) (w : World) (hr : RdF w lo hi A l) (hhi : hi ≤ w.heap.size) (hr' : RdT w lo' hi' B P) (hhi' : hi' ≤ w.heap.size)
    (hP : ∀ x ∈ P, x.size < 32) (hn' : P.length ≤ 2000000) (hcb : P.length ≤ cb) (hs : SmF l) (_hn : l.length ≤ 2000000) (hj : j < l.length)
    (c1 : w.cell? ⟨vP, 0, none⟩ = some (.slice B P.length cb)) (c2 : w.cell? ⟨vL, 0, none⟩ = some (.slice A l.length ca)) :
    Calls Tryz.prog 98 #[.int .i64 (j : Int), .pointer (some ⟨vP, 0, none⟩), .pointer (some ⟨vL, 0, none⟩)] w fun e w' => e = .returned (.bool (occB P (l.map Fm.p) j)) ∧ Up w w' := by
  obtain ⟨b, off, d, rfl, hlo, hb, hd, hin, q0, -, -⟩ := hr.at_ hj
  have hsd := hs d (List.mem_of_getElem? hd)
  have HB := Lib.hid (occB_at (P := P) hd)
  have HC := Lib.hid (fun (wx : World) (hx : Up w wx) => findWords_any B d.A P d.ws cb d.c lo' hi' lo hi wx (hr'.up hx hhi') (Nat.le_trans hhi' hx.size) (hin.up hx hhi) (Nat.le_trans hhi hx.size) hP hsd.1 hn' (by omega) hcb)
  clear hsd hin hd hP hs
  have hdw : Up w w.drew := (Up.refl _).drew
  go_enter Tryz.func98, Tryz.ntmps98
  go_wp2_with fail
  go_region_held3 (fun w' => Up w w' ∧ w'.cell? ⟨vP, 0, none⟩ = some (.slice B P.length cb) ∧ w'.cell? ⟨vL, 0, none⟩ = some (.slice (some ⟨b, off, none⟩) l.length ca) ∧ w'.cell? ⟨b, off + j * 3, none⟩ = some (.slice d.A d.ws.length d.c))
    (first | exact ⟨Up.refl _, c1, c2, q0⟩ | exact ⟨hdw, c1, c2, q0⟩ | exact ⟨by assumption, by assumption, by assumption, by assumption⟩)
    (first
      | (go_at_call 58
         with_reducible refine (HC.out _ (by assumption)).mono ?_
         rintro e wb ⟨v, rfl, hov, ub⟩
         have hSb : Up w wb := Up.trans (by assumption) ub
         obtain ⟨Av, cv, rfl, -, -, -, -⟩ := own_form hov
         clear hov
         have kb1 := hSb.cell c1
         have kb2 := hSb.cell c2
         have kb3 := hSb.cell q0))
  all_goals
    clear HC kb1 kb2 kb3 c1 c2 q0
    go_wp2
    go_ret
    refine ⟨ret_bool ?_, hSb⟩
    rw [HB.out, decide_eq_decide]

set_option maxRecDepth 100000 in
set_option maxHeartbeats 4000000 in
theorem formulasIn_any (A B : Option Addr) (l : List Fm) (P : List ByteArray) (ca cb lo hi lo' hi' : Nat) (w : World) (hr : RdF w lo hi A l) (hhi : hi ≤ w.heap.size) (hr' : RdT w lo' hi' B P) (hhi' : hi' ≤ w.heap.size)
    (hP : ∀ x ∈ P, x.size < 32) (hn' : P.length ≤ 2000000) (hcb : P.length ≤ cb) (hs : SmF l) (hn : l.length ≤ 2000000) :
    Calls Tryz.prog 70 #[.slice A l.length ca, .slice B P.length cb] w fun e w' => ∃ v, e = .returned v ∧ w'.ownsRow w.heap.size 2 1 v (occL P (l.map Fm.p)).length ((occL P (l.map Fm.p)).flatMap intCells) ∧ Up w w' := by
  have hu0 := (Up.alloc w (.cells #[.slice A l.length ca] 26)).allocs (.cells #[.slice B P.length cb] 23)
  have c2 : ((w.alloc (.cells #[.slice A l.length ca] 26)).alloc (.cells #[.slice B P.length cb] 23)).cell? ⟨w.heap.size, 0, none⟩ = some (.slice A l.length ca) := by simp
  have c1 : ((w.alloc (.cells #[.slice A l.length ca] 26)).alloc (.cells #[.slice B P.length cb] 23)).cell? ⟨w.heap.size + 1, 0, none⟩ = some (.slice B P.length cb) := by simp
  have hpw := placesWith_any l.length 98 #[.pointer (some ⟨w.heap.size + 1, 0, none⟩), .pointer (some ⟨w.heap.size, 0, none⟩)] (occB P (l.map Fm.p)) _ (by omega) (fun _ _ => by kernel_rfl) (fun j hj w1 hu =>
    inClosure_any A B l P ca cb lo hi lo' hi' (w.heap.size + 1) w.heap.size j w1 (hr.up (hu0.trans hu) hhi) (Nat.le_trans hhi (hu0.trans hu).size) (hr'.up (hu0.trans hu) hhi') (Nat.le_trans hhi' (hu0.trans hu).size) hP hn' hcb hs hn hj (hu.cell c1) (hu.cell c2))
  have HE := Lib.hid (show occL P (l.map Fm.p) = pl (occB P (l.map Fm.p)) l.length by simp [occL])
  have HPW := Lib.hid hpw
  have hmf : ∀ (fn : Fn) (first cap : Array Value) (w : World), (Instr.makeFunc fn first cap).run Tryz.prog w = .ok (.func fn first cap) w := fun _ _ _ _ => rfl
  clear hpw c1 hP hs
  go_enter Tryz.func70, Tryz.ntmps70
  go_wp2_with fail
  refine HPW.out.mono ?_
  rintro e w3 ⟨v, rfl, ho, hup3⟩
  have HO := Lib.hid (own_base ho hu0.size)
  clear ho
  go_wp2
  go_ret
  exact ⟨v, rfl, by rw [HE.out]; exact HO.out, hu0.trans hup3⟩

set_option maxRecDepth 100000 in
set_option maxHeartbeats 4000000 in
theorem specFormulasIn_any (A B : Option Addr) (l : List Fm) (P : List ByteArray) (ca cb lo hi lo' hi' : Nat) (w : World) (hr : RdF w lo hi A l) (hhi : hi ≤ w.heap.size) (hr' : RdT w lo' hi' B P) (hhi' : hi' ≤ w.heap.size)
    (hok : ∀ x ∈ l, x.ok) (hws : ∀ x ∈ l, x.ws.length ≤ 2000000) (hn : l.length ≤ 2000000) (hP : ∀ s ∈ P, s.size ≤ maxLen) (hn' : P.length ≤ 2000000) (hcb : P.length ≤ cb) :
    Calls Tryz.prog 34 #[.slice A l.length ca, .slice B P.length cb] w fun e w' => ∃ v, e = .returned (.tuple #[v, .int .i64 (fiC P (l.map Fm.p))]) ∧ w'.ownsRow w.heap.size 2 1 v (fiL P (l.map Fm.p)).length ((fiL P (l.map Fm.p)).flatMap intCells) ∧ Up w w' := by
  obtain ⟨b1, hb1⟩ : ∃ b, b = afB l := ⟨_, rfl⟩
  obtain ⟨b2, hb2⟩ : ∃ b, b = phB P := ⟨_, rfl⟩
  have C1 := specAreFormulas_any A l ca lo hi w hr hhi hok hws hn
  have C2 := fun (wx : World) (hx : Up w wx) => l10Phrase_any B P cb lo' hi' wx (hr'.up hx hhi') hP hn'
  rw [← hb1] at C1
  simp only [← hb2] at C2
  have H1 := Lib.hid C1
  have H2 := Lib.hid C2
  have HB1 := Lib.hid (hb1.trans (afB_p l))
  have HB2 := Lib.hid hb2
  clear C1 C2 hb1 hb2 hok hws hP
  have HE : Hid (fiB P (l.map Fm.p) = (b1 && b2)) := Lib.hid (by unfold fiB; rw [← HB1.out, ← HB2.out])
  cases b1
  · have HF := Lib.hid (fi_1 (HE.out.trans rfl))
    go_enter Tryz.func34, Tryz.ntmps34
    go_wp2_with fail
    refine H1.out.mono ?_
    rintro e w1 ⟨rfl, hu1⟩
    go_wp2
    go_ret2
    exact ⟨_, ret_vk HF.out.1.symm, by rw [HF.out.2]; exact World.ownsRow_nil _ _ _ _, hu1⟩
  · cases b2
    · have HF := Lib.hid (fi_1 (HE.out.trans rfl))
      go_enter Tryz.func34, Tryz.ntmps34
      go_wp2_with fail
      refine H1.out.mono ?_
      rintro e w1 ⟨rfl, hu1⟩
      go_wp2_with fail
      refine (H2.out _ hu1).mono ?_
      rintro e w2 ⟨rfl, rfl⟩
      go_wp2
      go_ret2
      exact ⟨_, ret_vk HF.out.1.symm, by rw [HF.out.2]; exact World.ownsRow_nil _ _ _ _, hu1⟩
    · have HF := Lib.hid (fi_0 (HE.out.trans rfl))
      go_enter Tryz.func34, Tryz.ntmps34
      go_wp2_with fail
      refine H1.out.mono ?_
      rintro e w1 ⟨rfl, hu1⟩
      go_wp2_with fail
      refine (H2.out _ hu1).mono ?_
      rintro e w2 ⟨rfl, rfl⟩
      have HI := Lib.hid (l24In_any A B l P ca cb lo hi lo' hi' _ (hr.up hu1 hhi) (Nat.le_trans hhi hu1.size) (hr'.up hu1 hhi') (Nat.le_trans hhi' hu1.size) (phB_small HB2.out.symm).1 hn' hcb (SmF.of HB1.out.symm) hn)
      go_wp2_with fail
      refine HI.out.mono ?_
      rintro e w3 ⟨v, rfl, ho, hu3⟩
      have HO := Lib.hid (own_base ho hu1.size)
      clear ho
      go_wp2
      go_ret2
      exact ⟨v, ret_vk HF.out.1.symm, by rw [HF.out.2]; exact HO.out, hu1.trans hu3⟩

set_option maxRecDepth 100000 in
set_option maxHeartbeats 4000000 in
theorem implFormulasIn_any (A B : Option Addr) (l : List Fm) (P : List ByteArray) (ca cb lo hi lo' hi' : Nat) (w : World) (hr : RdF w lo hi A l) (hhi : hi ≤ w.heap.size) (hr' : RdT w lo' hi' B P) (hhi' : hi' ≤ w.heap.size)
    (hok : ∀ x ∈ l, x.ok) (hws : ∀ x ∈ l, x.ws.length ≤ 2000000) (hn : l.length ≤ 2000000) (hP : ∀ s ∈ P, s.size ≤ maxLen) (hn' : P.length ≤ 2000000) (hcb : P.length ≤ cb) :
    Calls Tryz.prog 33 #[.slice A l.length ca, .slice B P.length cb] w fun e w' => ∃ v, e = .returned (.tuple #[v, .int .i64 (fiC P (l.map Fm.p))]) ∧ w'.ownsRow w.heap.size 2 1 v (fiL P (l.map Fm.p)).length ((fiL P (l.map Fm.p)).flatMap intCells) ∧ Up w w' := by
  obtain ⟨b1, hb1⟩ : ∃ b, b = afB l := ⟨_, rfl⟩
  obtain ⟨b2, hb2⟩ : ∃ b, b = phB P := ⟨_, rfl⟩
  have C1 := implAreFormulas_any A l ca lo hi w hr hhi hok hws hn
  have C2 := fun (wx : World) (hx : Up w wx) => isPhrase_any B P cb lo' hi' wx (hr'.up hx hhi') (Nat.le_trans hhi' hx.size) hP hn'
  rw [← hb1] at C1
  simp only [← hb2] at C2
  have H1 := Lib.hid C1
  have H2 := Lib.hid C2
  have HB1 := Lib.hid (hb1.trans (afB_p l))
  have HB2 := Lib.hid hb2
  clear C1 C2 hb1 hb2 hok hws hP
  have HE : Hid (fiB P (l.map Fm.p) = (b1 && b2)) := Lib.hid (by unfold fiB; rw [← HB1.out, ← HB2.out])
  cases b1
  · have HF := Lib.hid (fi_1 (HE.out.trans rfl))
    go_enter Tryz.func33, Tryz.ntmps33
    go_wp2_with fail
    refine H1.out.mono ?_
    rintro e w1 ⟨rfl, hu1⟩
    go_wp2
    go_ret2
    exact ⟨_, ret_vk HF.out.1.symm, by rw [HF.out.2]; exact World.ownsRow_nil _ _ _ _, hu1⟩
  · cases b2
    · have HF := Lib.hid (fi_1 (HE.out.trans rfl))
      go_enter Tryz.func33, Tryz.ntmps33
      go_wp2_with fail
      refine H1.out.mono ?_
      rintro e w1 ⟨rfl, hu1⟩
      go_wp2_with fail
      refine (H2.out _ hu1).mono ?_
      rintro e w2 ⟨rfl, hu2⟩
      go_wp2
      go_ret2
      exact ⟨_, ret_vk HF.out.1.symm, by rw [HF.out.2]; exact World.ownsRow_nil _ _ _ _, hu1.trans hu2⟩
    · have HF := Lib.hid (fi_0 (HE.out.trans rfl))
      go_enter Tryz.func33, Tryz.ntmps33
      go_wp2_with fail
      refine H1.out.mono ?_
      rintro e w1 ⟨rfl, hu1⟩
      go_wp2_with fail
      refine (H2.out _ hu1).mono ?_
      rintro e w2 ⟨rfl, hu2⟩
      have hux := hu1.trans hu2
      have HI := Lib.hid (formulasIn_any A B l P ca cb lo hi lo' hi' _ (hr.up hux hhi) (Nat.le_trans hhi hux.size) (hr'.up hux hhi') (Nat.le_trans hhi' hux.size) (phB_small HB2.out.symm).1 hn' hcb (SmF.of HB1.out.symm) hn)
      go_wp2_with fail
      refine HI.out.mono ?_
      rintro e w3 ⟨v, rfl, ho, hu3⟩
      have HO := Lib.hid (own_base ho hux.size)
      clear ho
      go_wp2
      go_ret2
      exact ⟨v, ret_vk HF.out.1.symm, by rw [HF.out.2]; exact HO.out, hux.trans hu3⟩
end Go.Proofs.YtehoaoeahfmfpaaGreatDoor
