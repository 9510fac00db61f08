/- Lists of formulas whose row was grown by append: row and words each in a block of its own. -/
import Derived.Test.YtehoaoeahfmfpaaGreatDoorMarkFS
import Derived.Test.YtehoaoeahfmfpaaGreatDoorSrc
namespace Go.Proofs.YtehoaoeahfmfpaaGreatDoor
open Go.RowKit Go.Sort

structure StG (w : World) (B : Nat) (v : Value) (L : List Fm) : Prop where
  list : w.ownsRow B 51 3 v L.length (L.flatMap Fm.cells)
  each : ∀ y ∈ L, w.ownsRow B 9 1 y.sl y.ws.length (y.ws.flatMap strC)
  far : ∀ y ∈ L, ∀ b, y.sl.ownBlock = some b → v.ownBlock ≠ some b
  dist : DistF L
theorem StG.gr {w w' : World} {B g : Nat} {v : Value} {L : List Fm} (h : StG w B v L) (hg : w.grownBy w' (some g)) (hlt : g < B) : StG w' B v L :=
  ⟨own_gr h.list hg hlt, fun y hy => own_gr (h.each y hy) hg hlt, h.far, h.dist⟩
theorem StG.up {w w' : World} {B : Nat} {v : Value} {L : List Fm} (h : StG w B v L) (hu : Up w w') : StG w' B v L :=
  ⟨own_up h.list hu, fun y hy => own_up (h.each y hy) hu, h.far, h.dist⟩
theorem StG.base {w : World} {B B' : Nat} {v : Value} {L : List Fm} (h : StG w B v L) (hb : B' ≤ B) : StG w B' v L :=
  ⟨own_base h.list hb, fun y hy => own_base (h.each y hy) hb, h.far, h.dist⟩
theorem StG.rdf {w : World} {B : Nat} {A : Option Addr} {c : Nat} {L : List Fm} (h : StG w B (.slice A L.length c) L) : RdF w B w.heap.size A L :=
  ⟨Rd.own fm_len h.list, fun x hx => Rd.own strC_len (h.each x hx)⟩
theorem StG.oks {w : World} {B : Nat} {v : Value} {L : List Fm} (h : StG w B v L) : ∀ x ∈ L, x.ok' := fun x hx => by
  obtain ⟨A, c, e, h1, h2, -⟩ := own_formz (h.each x hx)
  simp only [Fm.sl, Value.slice.injEq] at e
  exact ⟨by rw [e.2.2]; exact h1, by rw [e.2.2]; exact h2⟩
theorem StG.nil_ {w : World} {B : Nat} {v : Value} (h : w.ownsRow B 51 3 v 0 []) : StG w B v [] :=
  ⟨h, by simp, by simp, DistF.nil_⟩
theorem OwnF.stg {w : World} {g0 c : Nat} {A : Option Addr} {L : List Fm} (h : OwnF w g0 A L.length c L) : StG w g0 (.slice A L.length c) L := by
  obtain ⟨g, h1, h2, h3, h4, h5⟩ := h
  exact ⟨own_base h2 h1, fun y hy => own_base (h3 y hy).2 (by omega), fun y hy b hb e => by
    have := (h3 y hy).2.lt b hb
    have := h5 b e
    omega, h4⟩
/-- all blocks of a list lie in a range -/
def BndG (b0 b1 : Nat) (v : Value) (L : List Fm) : Prop := In v b0 b1 ∧ ∀ y ∈ L, In y.sl b0 b1
theorem StG.bnd {w : World} {B : Nat} {v : Value} {L : List Fm} (h : StG w B v L) : BndG B w.heap.size v L := ⟨In.own h.list, fun y hy => In.own (h.each y hy)⟩
theorem Mk.stg {w w' : World} {B : Nat} {v : Value} {L : List Fm} {b0 b1 b0' b1' : Nat} (m : Mk b0 b1 w w') (h : StG w B v L) (hb' : BndG b0' b1' v L) (hd : b1' ≤ b0 ∨ b1 ≤ b0') : StG w' B v L :=
  ⟨m.own h.list hb'.1 hd, fun y hy => m.own (h.each y hy) (hb'.2 y hy) hd, h.far, h.dist⟩
theorem StG.low {w : World} {B : Nat} {v : Value} {L : List Fm} (h : StG w B v L) {B2 : Nat} (hB : w.heap.size ≤ B2) : ∀ b, v.ownBlock = some b ∨ (∃ x ∈ L, x.sl.ownBlock = some b) → b < B2 := by
  rintro b (hb | ⟨x, hx, hb⟩)
  · have := (h.list.lt b hb).2; omega
  · have := ((h.each x hx).lt b hb).2; omega
/-- one formula more -/
theorem StG.snoc {w w' : World} {B B2 : Nat} {v v' : Value} {L : List Fm} {y : Fm} (h : StG w B v L) (hown' : w'.ownsRow B 51 3 v' (L.length + 1) (L.flatMap Fm.cells ++ y.cells)) (hg : w.grownBy w' v.ownBlock)
    (hv : v'.ownBlock = v.ownBlock ∨ v'.ownBlock = some w.heap.size) (hy : w.ownsRow B2 9 1 y.sl y.ws.length (y.ws.flatMap strC)) (hB : B ≤ B2) (hlow : ∀ b, v.ownBlock = some b ∨ (∃ x ∈ L, x.sl.ownBlock = some b) → ¬ y.sl.ownBlock = some b) : StG w' B v' (L ++ [y]) := by
  refine ⟨?_, ?_, ?_, h.dist.snoc ?_⟩
  · rw [List.length_append, List.length_singleton, List.flatMap_append]; simpa using hown'
  · intro x hx
    rcases List.mem_append.1 hx with hx | hx
    · exact own_other (h.each x hx) hg (fun b hb => h.far x hx b hb)
    · rw [List.mem_singleton.1 hx]
      exact own_base (own_other hy hg (fun b hb e => hlow b (.inl e) hb)) hB
  · intro x hx b hb e
    rcases List.mem_append.1 hx with hx | hx
    · rcases hv with hv | hv
      · rw [hv] at e; exact h.far x hx b hb e
      · rw [hv] at e
        have h2 := ((h.each x hx).lt b hb).2
        have h3 : w.heap.size = b := by simpa using e
        omega
    · rw [List.mem_singleton.1 hx] at hb
      rcases hv with hv | hv
      · rw [hv] at e; exact hlow b (.inl e) hb
      · rw [hv] at e
        have h2 := (hy.lt b hb).2
        have h3 : w.heap.size = b := by simpa using e
        omega
  · intro x hx b hb e
    exact hlow b (.inr ⟨x, hx, hb⟩) e
theorem dist_set {L : List Fm} {j : Nat} {y y' : Fm} (h : DistF L) (hj : L[j]? = some y) (hs : y'.sl = y.sl) : DistF (L.set j y') := by
  have hh : ∀ (i : Nat) x, (L.set j y')[i]? = some x → ∃ x', L[i]? = some x' ∧ x.sl = x'.sl := by
    intro i x hx
    have hjl := (List.getElem?_eq_some_iff.1 hj).1
    by_cases e : j = i
    · subst e
      rw [List.getElem?_set_self hjl] at hx
      cases hx
      exact ⟨y, hj, hs⟩
    · rw [List.getElem?_set_ne e] at hx
      exact ⟨x, hx, rfl⟩
  intro i k x z hik hi hk b hb
  obtain ⟨x', hx', ex⟩ := hh i x hi
  obtain ⟨z', hz', ez⟩ := hh k z hk
  rw [ex] at hb
  rw [ez]
  exact h i k x' z' hik hx' hz' b hb
theorem fcells_set : ∀ (L : List Fm) (j : Nat) (y : Fm) (fr to_ : Int), L[j]? = some y → ((L.flatMap Fm.cells).set (j * 3 + 1) (.int .i64 fr)).set (j * 3 + 2) (.int .i64 to_) = (L.set j ⟨y.A, y.c, y.ws, fr, to_⟩).flatMap Fm.cells
  | [], j, y, fr, to_, h => by simp at h
  | x :: L, 0, y, fr, to_, h => by simp at h; subst h; simp [Fm.cells]
  | x :: L, j + 1, y, fr, to_, h => by
    have ih := fcells_set L j y fr to_ (by simpa using h)
    rw [show (j + 1) * 3 + 1 = j * 3 + 1 + 3 by omega, show (j + 1) * 3 + 2 = j * 3 + 2 + 3 by omega, List.set_cons_succ, List.flatMap_cons, List.flatMap_cons, ← ih]
    simp [Fm.cells]
/-- one formula with other bounds -/
theorem StG.dates {w : World} {B gl c : Nat} {L : List Fm} {j : Nat} {y : Fm} (h : StG w B (.slice (some ⟨gl, 0, none⟩) L.length c) L) (hj : L[j]? = some y) (fr to_ : Int) {w' : World}
    (hw : w' = (w.setCell ⟨gl, j * 3 + 1, none⟩ (.int .i64 fr)).setCell ⟨gl, j * 3 + 2, none⟩ (.int .i64 to_) ∨ w' = (w.setCell ⟨gl, j * 3 + 2, none⟩ (.int .i64 to_)).setCell ⟨gl, j * 3 + 1, none⟩ (.int .i64 fr)) :
    StG w' B (.slice (some ⟨gl, 0, none⟩) L.length c) (L.set j ⟨y.A, y.c, y.ws, fr, to_⟩) := by
  have hvl : (Value.slice (some ⟨gl, 0, none⟩) L.length c).ownBlock = some gl := rfl
  have hkey : ∀ (a1 a2 : Nat) (u1 u2 : Value), ((w.setCell ⟨gl, a1, none⟩ u1).setCell ⟨gl, a2, none⟩ u2).ownsRow B 51 3 (.slice (some ⟨gl, 0, none⟩) L.length c) L.length (((L.flatMap Fm.cells).set a1 u1).set a2 u2) :=
    fun a1 a2 u1 u2 => ((h.list.stored a1 u1).1.stored a2 u2).1
  have hoth : ∀ (a1 a2 : Nat) (u1 u2 : Value) (x : Fm), x ∈ L → ((w.setCell ⟨gl, a1, none⟩ u1).setCell ⟨gl, a2, none⟩ u2).ownsRow B 9 1 x.sl x.ws.length (x.ws.flatMap strC) :=
    fun a1 a2 u1 u2 x hx => own_other (own_other (h.each x hx) (grown_setA _ _ _) (fun b hb e => h.far x hx b hb (by rw [hvl]; exact e))) (grown_setA _ _ _) (fun b hb e => h.far x hx b hb (by rw [hvl]; exact e))
  have hmem : ∀ x ∈ L.set j ⟨y.A, y.c, y.ws, fr, to_⟩, ∃ z ∈ L, x.sl = z.sl ∧ x.ws = z.ws := by
    intro x hx
    rcases List.mem_or_eq_of_mem_set hx with e | e
    · exact ⟨x, e, rfl, rfl⟩
    · exact ⟨y, List.mem_of_getElem? hj, by rw [e], by rw [e]⟩
  have hset := fcells_set L j y fr to_ hj
  refine ⟨?_, ?_, ?_, dist_set h.dist hj rfl⟩
  · rw [List.length_set, ← hset]
    rcases hw with rfl | rfl
    · exact hkey _ _ _ _
    · rw [List.set_comm _ _ (by omega)]; exact hkey _ _ _ _
  · intro x hx
    obtain ⟨z, hz, e1, e2⟩ := hmem x hx
    rw [e1, e2]
    rcases hw with rfl | rfl
    · exact hoth _ _ _ _ z hz
    · exact hoth _ _ _ _ z hz
  · intro x hx b hb
    obtain ⟨z, hz, e1, e2⟩ := hmem x hx
    rw [e1] at hb
    exact h.far z hz b hb

set_option maxRecDepth 100000 in
set_option maxHeartbeats 4000000 in
theorem markFormG_any (A : Option Addr) (L : List Fm) (c B b0 b1 : Nat) (k : Int) (w : World) (h : StG w B (.slice A L.length c) L) (hb : BndG b0 b1 (.slice A L.length c) L) (hn : L.length ≤ 2000000) (hws : ∀ y ∈ L, y.ws.length ≤ 2000000) (ht : (wtF L L.length : Int) + k ≤ 80000000) (h0 : 1 ≤ k) :
    Calls Tryz.prog 14 #[.slice A L.length c, .int .i64 k] w fun e w' => e = .returned (.int .i64 (k + wtF L L.length)) ∧ StG w' B (.slice A L.length c) (mkFm k L) ∧ Mk b0 b1 w w' := by
  obtain ⟨hown, hin, hfar, hdis⟩ := h
  go_enter Tryz.func14, Tryz.ntmps14
  go_wp2
  go_loopw [1, 5] (fun q i wr => ∃ j : Nat, ∃ ys, j ≤ L.length ∧ i = .int .i64 j ∧ q = .int .i64 (k + wtF L j) ∧ wr.ownsRow B 51 3 (.slice A L.length c) L.length ys ∧ ys.take (j * 3) = ((mkFm k L).take j).flatMap Fm.cells ∧ (∀ (p : Nat) (y : Fm), L[p]? = some y → ys[p * 3]? = some y.sl) ∧ (∀ (p : Nat) (y : Fm), L[p]? = some y → ∃ zs, wr.ownsRow B 9 1 y.sl y.ws.length zs ∧ (p < j → zs = (mkS (k + wtF L p) y.ws.length).flatMap strC)) ∧ Mk b0 b1 w wr) (fun _ i _ => L.length - (intOf i).toNat)
  case atStart => exact ⟨0, _, Nat.zero_le _, rfl, by simp [wtF], hown, by simp, third_cell L, fun p y hy => ⟨_, hin y (List.mem_of_getElem? hy), fun h => absurd h (by omega)⟩, Mk.refl⟩
  case round =>
    obtain ⟨j, ys, hj, rfl, rfl, hown, htk, hys, hzs, hm⟩ := hrel
    have HYS := Lib.hid hys
    have HZS := Lib.hid hzs
    have HT := Lib.hid htk
    clear hys hzs htk
    by_cases hlt : j < L.length
    · obtain ⟨A', c', hv, -, -, hA, -⟩ := own_form hown
      simp only [Value.slice.injEq] at hv
      obtain ⟨rfl, -, rfl⟩ := hv
      obtain ⟨g', rfl, -, -⟩ := hA (by omega)
      have hle := wtF_le L (L.length - j) j (by omega)
      have HJ := Lib.hid (List.getElem?_eq_getElem hlt)
      have hwt := wtF_succ HJ.out
      generalize L[j] = y at HJ hwt
      have hle2 := wtF_le L (L.length - (j + 1)) (j + 1) (by omega)
      have hyn := hws y (List.mem_of_getElem? HJ.out)
      have r1 := hown.cellAt (j * 3) (by omega)
      rw [HYS.out j y HJ.out] at r1
      obtain ⟨zs, oz, -⟩ := HZS.out j y HJ.out
      have OZ := Lib.hid oz
      clear oz
      go_wp2_with fail
      refine (markStrW_any y.A y.ws.length y.c B zs _ _ OZ.out hyn (by omega) (by omega)).mono ?_
      rintro e w2 ⟨rfl, on, gn⟩
      have o2 := own_other hown gn (fun b hb e => hfar y (List.mem_of_getElem? HJ.out) b e hb)
      have M2 := Lib.hid (hm.step gn (hb.2 y (List.mem_of_getElem? HJ.out)))
      obtain ⟨u1, q1⟩ := own_cell o2 (p := j * 3 + 1) (by omega)
      obtain ⟨u2, q2⟩ := own_cell o2 (p := j * 3 + 2) (by omega)
      have z1 := o2.frozenAt (j * 3 + 1)
      have z2 := o2.frozenAt (j * 3 + 2)
      have s1 := o2.stored (j * 3 + 1) (.int .i64 (k + wtF L j + y.ws.length))
      have s2 := s1.1.stored (j * 3 + 2) (.int .i64 (k + wtF L j + y.ws.length + 1))
      have M3 := Lib.hid ((M2.out.step (v := .slice (some ⟨g', 0, none⟩) L.length c) s1.2 hb.1).step (v := .slice (some ⟨g', 0, none⟩) L.length c) s2.2 hb.1)
      have S2 := Lib.hid s2.1
      have hlen := Lib.hid hown.1
      have HZ2 := Lib.hid (fun (p : Nat) (y' : Fm) (hy' : L[p]? = some y') => show ∃ zs, ((w2.setCell ⟨g', j * 3 + 1, none⟩ (.int .i64 (k + wtF L j + y.ws.length))).setCell ⟨g', j * 3 + 2, none⟩ (.int .i64 (k + wtF L j + y.ws.length + 1))).ownsRow B 9 1 y'.sl y'.ws.length zs ∧ (p < j + 1 → zs = (mkS (k + wtF L p) y'.ws.length).flatMap strC) from by
        have hf : ∀ b, y'.sl.ownBlock = some b → some g' ≠ some b := fun b hb' e => hfar y' (List.mem_of_getElem? hy') b hb' e
        have key : ∀ zs, w2.ownsRow B 9 1 y'.sl y'.ws.length zs → ((w2.setCell ⟨g', j * 3 + 1, none⟩ (.int .i64 (k + wtF L j + y.ws.length))).setCell ⟨g', j * 3 + 2, none⟩ (.int .i64 (k + wtF L j + y.ws.length + 1))).ownsRow B 9 1 y'.sl y'.ws.length zs := fun zs o =>
          own_other (own_other o s1.2 hf) s2.2 hf
        rcases Nat.lt_trichotomy p j with hpj | hpj | hpj
        · obtain ⟨zs', oz', ez⟩ := HZS.out p y' hy'
          exact ⟨zs', key _ (own_other oz' gn (fun b hb e => hdis p j y' y hpj hy' HJ.out b hb e)), fun _ => ez hpj⟩
        · subst hpj
          have e := HJ.out
          rw [e] at hy'
          cases hy'
          exact ⟨_, key _ on, fun _ => rfl⟩
        · obtain ⟨zs', oz', ez⟩ := HZS.out p y' hy'
          exact ⟨zs', key _ (own_other oz' gn (fun b hb e => hdis j p y y' hpj HJ.out hy' b e hb)), fun h => absurd h (by omega)⟩)
      have HYS2 := Lib.hid (fun (p : Nat) (y' : Fm) (hy : L[p]? = some y') => show ((ys.set (j * 3 + 1) (.int .i64 (k + wtF L j + y.ws.length))).set (j * 3 + 2) (.int .i64 (k + wtF L j + y.ws.length + 1)))[p * 3]? = some y'.sl from by
        rw [List.getElem?_set_ne (by omega), List.getElem?_set_ne (by omega)]; exact HYS.out p y' hy)
      clear s1 s2 on gn r1 hown hm
      go_wp2
      go_roundw
      case rel => exact ⟨j + 1, _, by omega, by go_num, by go_num, S2.out, mkFm_take HJ.out hlen.out hlt HT.out (HYS.out j y HJ.out), HYS2.out, HZ2.out, M3.out⟩
      case measure => simp [intOf]; omega
    · have hjl : j = L.length := by omega
      subst hjl
      go_wp2
      go_ret
      have hx := HT.out
      rw [List.take_of_length_le (by rw [hown.1]; omega), List.take_of_length_le (by rw [mkFm_len]; exact Nat.le_refl _)] at hx
      subst hx
      refine ⟨rfl, ⟨by rw [mkFm_len]; exact hown, fun y hy => ?_, fun y hy b hb' => ?_, mkFm_dist hdis⟩, hm⟩
      · obtain ⟨p, hp, e⟩ := List.getElem_of_mem hy
        have hp' : p < L.length := by rwa [mkFm_len] at hp
        have e1 := mkFm_get k L p _ (List.getElem?_eq_getElem hp')
        rw [List.getElem?_eq_getElem hp, e] at e1
        cases e1
        obtain ⟨zs, oz, ez⟩ := HZS.out p _ (List.getElem?_eq_getElem hp')
        have hz := ez hp'
        subst hz
        simp only [Fm.sl, mkS_len]; exact oz
      · obtain ⟨p, hp, e⟩ := List.getElem_of_mem hy
        have hp' : p < L.length := by rwa [mkFm_len] at hp
        have e1 := mkFm_get k L p _ (List.getElem?_eq_getElem hp')
        rw [List.getElem?_eq_getElem hp, e] at e1
        cases e1
        simp only [Fm.sl, mkS_len] at hb'
        exact hfar _ (List.getElem_mem hp') b hb'
end Go.Proofs.YtehoaoeahfmfpaaGreatDoor
