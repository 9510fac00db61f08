/- FindFormula: the reference's and the program's walks. -/
import Derived.Test.YtehoaoeahfmfpaaGreatDoorFind
import Derived.Test.YtehoaoeahfmfpaaGreatDoorFormI
namespace Go.Proofs.YtehoaoeahfmfpaaGreatDoor
open Go.RowKit Go.Sort

def ffB (P : List ByteArray) (p : List ByteArray × Int × Int) : Bool := phB P && fmB p
def ffC (P : List ByteArray) (p : List ByteArray × Int × Int) : Int := if ffB P p = true then 0 else 1
def ffL (P : List ByteArray) (p : List ByteArray × Int × Int) : List Int := if ffB P p = true then fdL P p.1 else []
theorem ff_1 {P : List ByteArray} {p : List ByteArray × Int × Int} (h : ffB P p = false) : ffC P p = 1 ∧ ffL P p = [] := by simp [ffC, ffL, h]
theorem ff_0 {P : List ByteArray} {p : List ByteArray × Int × Int} (h : ffB P p = true) : ffC P p = 0 ∧ ffL P p = fdL P p.1 := by simp [ffC, ffL, h]
theorem ff_len (P : List ByteArray) (p : List ByteArray × Int × Int) : (ffL P p).length ≤ P.length := by
  unfold ffL fdL; split
  · exact pl_len _ _
  · simp
theorem phB_small {ws : List ByteArray} (h : phB ws = true) : (∀ x ∈ ws, x.size < 32) ∧ ws.length ≤ 60 := by
  unfold phB at h
  rw [Bool.and_eq_true, decide_eq_true_eq] at h
  exact ⟨fun x hx => by have := nameB_size (List.all_eq_true.1 h.1 x hx); omega, h.2⟩
theorem fmB_small {p : List ByteArray × Int × Int} (h : fmB p = true) : (∀ x ∈ p.1, x.size < 32) ∧ p.1.length ≤ 60 ∧ 0 < p.1.length := by
  unfold fmB at h
  simp only [Bool.and_eq_true, decide_eq_true_eq] at h
  have := phB_small h.2.1
  exact ⟨this.1, this.2, by omega⟩
theorem ret_vk {k : IntKind} {v : Value} {a' b' : Int} (h' : a' = b') : Ending.returned (.tuple #[v, .int k a']) = .returned (.tuple #[v, .int k b']) := by rw [h']

set_option maxRecDepth 100000 in
set_option maxHeartbeats 4000000 in
theorem specFindFormula_any (A : Option Addr) (P : List ByteArray) (ca lo hi lo' hi' : Nat) (x : Fm) (w : World) (hr : RdT w lo hi A P) (hhi : hi ≤ w.heap.size) (hc : P.length ≤ ca) (hr' : RdT w lo' hi' x.A x.ws) (hhi' : hi' ≤ w.heap.size)
    (hP : ∀ s ∈ P, s.size ≤ maxLen) (hW : ∀ s ∈ x.ws, s.size ≤ maxLen) (hn : P.length ≤ 2000000) (hn' : x.ws.length ≤ 2000000) :
    Calls Tryz.prog 36 #[.slice A P.length ca, x.val] w fun e w' => ∃ v, e = .returned (.tuple #[v, .int .i64 (ffC P x.p)]) ∧ w'.ownsRow w.heap.size 2 1 v (ffL P x.p).length ((ffL P x.p).flatMap intCells) ∧ Up w w' := by
  obtain ⟨b1, hb1⟩ : ∃ b, b = phB P := ⟨_, rfl⟩
  obtain ⟨b2, hb2⟩ : ∃ b, b = fmB x.p := ⟨_, rfl⟩
  have hub := Up.alloc w (.cells #[.slice x.A x.ws.length x.c, .int .i64 x.fr, .int .i64 x.to_] 51)
  have C1 := l10Phrase_any A P ca lo hi _ (hr.up hub hhi) hP hn
  have C2 := l24Formula_any x lo' hi' _ (hr'.up hub hhi') (Nat.le_trans hhi' hub.size) hW hn'
  rw [← hb1] at C1
  rw [← hb2] at C2
  have H1 := Lib.hid C1
  have H2 := Lib.hid C2
  have HB1 := Lib.hid hb1
  have HB2 := Lib.hid hb2
  clear C1 C2 hb1 hb2 hP hW
  have HE : Hid (ffB P x.p = (b1 && b2)) := Lib.hid (by unfold ffB; rw [HB1.out, HB2.out])
  cases b1
  · have HF := Lib.hid (ff_1 (HE.out.trans rfl))
    go_enter Tryz.func36, Tryz.ntmps36
    go_wp2_with fail
    refine H1.out.mono ?_
    rintro e w1 ⟨rfl, rfl⟩
    go_wp2
    go_ret2
    exact ⟨_, ret_vk HF.out.1.symm, by rw [HF.out.2]; exact World.ownsRow_nil _ _ _ _, hub⟩
  · cases b2
    · have HF := Lib.hid (ff_1 (HE.out.trans rfl))
      go_enter Tryz.func36, Tryz.ntmps36
      go_wp2_with fail
      refine H1.out.mono ?_
      rintro e w1 ⟨rfl, rfl⟩
      go_wp2_with fail
      refine H2.out.mono ?_
      rintro e w2 ⟨rfl, hu2⟩
      go_wp2
      go_ret2
      exact ⟨_, ret_vk HF.out.1.symm, by rw [HF.out.2]; exact World.ownsRow_nil _ _ _ _, hub.trans hu2⟩
    · have HF := Lib.hid (ff_0 (HE.out.trans rfl))
      obtain ⟨p1, p2⟩ := phB_small HB1.out.symm
      obtain ⟨f1, f2, f3⟩ := fmB_small HB2.out.symm
      have P1 := Lib.hid p1
      have F1 := Lib.hid f1
      clear p1 f1
      simp only [Fm.p] at f2 f3
      go_enter Tryz.func36, Tryz.ntmps36
      go_wp2_with fail
      refine H1.out.mono ?_
      rintro e w1 ⟨rfl, rfl⟩
      go_wp2_with fail
      refine H2.out.mono ?_
      rintro e w2 ⟨rfl, hu2⟩
      have hq0 := hu2.cell (a := ⟨w.heap.size, 0, none⟩) (v := .slice x.A x.ws.length x.c) (by go_simp)
      have hupx := hub.trans hu2
      have HFD := Lib.hid (l24Find_any A x.A P x.ws ca x.c lo hi lo' hi' w2 (hr.up hupx hhi) (Nat.le_trans hhi hupx.size) (hr'.up hupx hhi') (Nat.le_trans hhi' hupx.size) P1.out F1.out (by omega) (by omega) f3 hc)
      go_wp2_with fail
      refine HFD.out.mono ?_
      rintro e w3 ⟨v, rfl, ho, hu3⟩
      have HO := Lib.hid (own_base ho hupx.size)
      clear ho
      go_wp2
      go_ret2
      exact ⟨v, ret_vk HF.out.1.symm, by rw [HF.out.2]; exact HO.out, hupx.trans hu3⟩

set_option maxRecDepth 100000 in
set_option maxHeartbeats 4000000 in
theorem implFindFormula_any (A : Option Addr) (P : List ByteArray) (ca lo hi lo' hi' : Nat) (x : Fm) (w : World) (hr : RdT w lo hi A P) (hhi : hi ≤ w.heap.size) (hc : P.length ≤ ca) (hr' : RdT w lo' hi' x.A x.ws) (hhi' : hi' ≤ w.heap.size)
    (hP : ∀ s ∈ P, s.size ≤ maxLen) (hW : ∀ s ∈ x.ws, s.size ≤ maxLen) (hn : P.length ≤ 2000000) (hn' : x.ws.length ≤ 2000000) :
    Calls Tryz.prog 27 #[.slice A P.length ca, x.val] w fun e w' => ∃ v, e = .returned (.tuple #[v, .int .i64 (ffC P x.p)]) ∧ w'.ownsRow w.heap.size 2 1 v (ffL P x.p).length ((ffL P x.p).flatMap intCells) ∧ Up w w' := by
  obtain ⟨b1, hb1⟩ : ∃ b, b = phB P := ⟨_, rfl⟩
  obtain ⟨b2, hb2⟩ : ∃ b, b = fmB x.p := ⟨_, rfl⟩
  have hub := Up.alloc w (.cells #[.slice x.A x.ws.length x.c, .int .i64 x.fr, .int .i64 x.to_] 51)
  have C1 := isPhrase_any A P ca lo hi _ (hr.up hub hhi) (Nat.le_trans hhi hub.size) hP hn
  rw [← hb1] at C1
  have H1 := Lib.hid C1
  have HB1 := Lib.hid hb1
  have HB2 := Lib.hid hb2
  have HW := Lib.hid hW
  clear C1 hb1 hP hW
  have HE : Hid (ffB P x.p = (b1 && b2)) := Lib.hid (by unfold ffB; rw [HB1.out, HB2.out])
  cases b1
  · have HF := Lib.hid (ff_1 (HE.out.trans rfl))
    clear hb2
    go_enter Tryz.func27, Tryz.ntmps27
    go_wp2_with fail
    refine H1.out.mono ?_
    rintro e w1 ⟨rfl, hu1⟩
    go_wp2
    go_ret2
    exact ⟨_, ret_vk HF.out.1.symm, by rw [HF.out.2]; exact World.ownsRow_nil _ _ _ _, hub.trans hu1⟩
  · go_enter Tryz.func27, Tryz.ntmps27
    go_wp2_with fail
    refine H1.out.mono ?_
    rintro e w1 ⟨rfl, hu1⟩
    have hq0 := hu1.cell (a := ⟨w.heap.size, 0, none⟩) (v := .slice x.A x.ws.length x.c) (by go_simp)
    have hq1 := hu1.cell (a := ⟨w.heap.size, 1, none⟩) (v := .int .i64 x.fr) (by go_simp)
    have hq2 := hu1.cell (a := ⟨w.heap.size, 2, none⟩) (v := .int .i64 x.to_) (by go_simp)
    have hup1 := hub.trans hu1
    have C2 := isFormula_any x lo' hi' w1 (hr'.up hup1 hhi') (Nat.le_trans hhi' hup1.size) HW.out hn'
    rw [← hb2] at C2
    have H2 := Lib.hid C2
    clear C2 hb2
    go_wp2_with fail
    refine H2.out.mono ?_
    rintro e w2 ⟨rfl, hu2⟩
    have hupx := hup1.trans hu2
    cases b2
    · have HF := Lib.hid (ff_1 (HE.out.trans rfl))
      go_wp2
      go_ret2
      exact ⟨_, ret_vk HF.out.1.symm, by rw [HF.out.2]; exact World.ownsRow_nil _ _ _ _, hupx⟩
    · have HF := Lib.hid (ff_0 (HE.out.trans rfl))
      obtain ⟨p1, p2⟩ := phB_small HB1.out.symm
      obtain ⟨f1, f2, f3⟩ := fmB_small HB2.out.symm
      have P1 := Lib.hid p1
      have F1 := Lib.hid f1
      clear p1 f1
      simp only [Fm.p] at f2 f3
      have hq3 := hu2.cell hq0
      have HFD := Lib.hid (findWords_any A x.A P x.ws ca x.c lo hi lo' hi' w2 (hr.up hupx hhi) (Nat.le_trans hhi hupx.size) (hr'.up hupx hhi') (Nat.le_trans hhi' hupx.size) P1.out F1.out (by omega) (by omega) hc)
      clear hq0 hq1 hq2
      go_wp2_with fail
      refine HFD.out.mono ?_
      rintro e w3 ⟨v, rfl, ho, hu3⟩
      have HO := Lib.hid (own_base ho hupx.size)
      clear ho
      go_wp2
      go_ret2
      exact ⟨v, ret_vk HF.out.1.symm, by rw [HF.out.2]; exact HO.out, hupx.trans hu3⟩
end Go.Proofs.YtehoaoeahfmfpaaGreatDoor
