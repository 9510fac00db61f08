/- Lists of formulas whose row was grown by append: row and words each in a block of its own. Own copies of words and formulas: slices.Clone over strings, the reference's l24Own, the program's ownFormulas. -/
import Derived.Test.YtehoaoeahfmfpaaGreatDoorMarkFS
import Derived.Test.YtehoaoeahfmfpaaGreatDoorSrc
import Derived.Test.YtehoaoeahfmfpaaGreatDoorFormsIn
import Derived.Laws.AppendOwnNone
import Derived.Deep.AppendLies
import Derived.Deep.RegionLaw
import Derived.Deep.RegionHeldLaw
namespace Go.Proofs.YtehoaoeahfmfpaaGreatDoor
open Go.RowKit Go.Sort

structure StG (w : World) (B : Nat) (v : Value) (L : List Fm) : Prop where
  list : w.ownsRow B 51 3 v L.length (L.flatMap Fm.cells)
  each : ∀ y ∈ L, w.ownsRow B 9 1 y.sl y.ws.length (y.ws.flatMap strC)
  far : ∀ y ∈ L, ∀ b, y.sl.ownBlock = some b → v.ownBlock ≠ some b
  dist : DistF L
theorem StG.gr {w w' : World} {B g : Nat} {v : Value} {L : List Fm} (h : StG w B v L) (hg : w.grownBy w' (some g)) (hlt : g < B) : StG w' B v L :=
  ⟨own_gr h.list hg hlt, fun y hy => own_gr (h.each y hy) hg hlt, h.far, h.dist⟩
theorem StG.up {w w' : World} {B : Nat} {v : Value} {L : List Fm} (h : StG w B v L) (hu : Up w w') : StG w' B v L :=
  ⟨own_up h.list hu, fun y hy => own_up (h.each y hy) hu, h.far, h.dist⟩
theorem StG.base {w : World} {B B' : Nat} {v : Value} {L : List Fm} (h : StG w B v L) (hb : B' ≤ B) : StG w B' v L :=
  ⟨own_base h.list hb, fun y hy => own_base (h.each y hy) hb, h.far, h.dist⟩
theorem StG.rdf {w : World} {B : Nat} {A : Option Addr} {c : Nat} {L : List Fm} (h : StG w B (.slice A L.length c) L) : RdF w B w.heap.size A L :=
  ⟨Rd.own fm_len h.list, fun x hx => Rd.own strC_len (h.each x hx)⟩
theorem StG.oks {w : World} {B : Nat} {v : Value} {L : List Fm} (h : StG w B v L) : ∀ x ∈ L, x.ok' := fun x hx => by
  obtain ⟨A, c, e, h1, h2, -⟩ := own_formz (h.each x hx)
  simp only [Fm.sl, Value.slice.injEq] at e
  exact ⟨by rw [e.2.2]; exact h1, by rw [e.2.2]; exact h2⟩
theorem StG.nil_ {w : World} {B : Nat} {v : Value} (h : w.ownsRow B 51 3 v 0 []) : StG w B v [] :=
  ⟨h, by simp, by simp, DistF.nil_⟩
theorem OwnF.stg {w : World} {g0 c : Nat} {A : Option Addr} {L : List Fm} (h : OwnF w g0 A L.length c L) : StG w g0 (.slice A L.length c) L := by
  obtain ⟨g, h1, h2, h3, h4, h5⟩ := h
  exact ⟨own_base h2 h1, fun y hy => own_base (h3 y hy).2 (by omega), fun y hy b hb e => by
    have := (h3 y hy).2.lt b hb
    have := h5 b e
    omega, h4⟩
/-- all blocks of a list lie in a range -/
def BndG (b0 b1 : Nat) (v : Value) (L : List Fm) : Prop := In v b0 b1 ∧ ∀ y ∈ L, In y.sl b0 b1
theorem StG.bnd {w : World} {B : Nat} {v : Value} {L : List Fm} (h : StG w B v L) : BndG B w.heap.size v L := ⟨In.own h.list, fun y hy => In.own (h.each y hy)⟩
theorem Mk.stg {w w' : World} {B : Nat} {v : Value} {L : List Fm} {b0 b1 b0' b1' : Nat} (m : Mk b0 b1 w w') (h : StG w B v L) (hb' : BndG b0' b1' v L) (hd : b1' ≤ b0 ∨ b1 ≤ b0') : StG w' B v L :=
  ⟨m.own h.list hb'.1 hd, fun y hy => m.own (h.each y hy) (hb'.2 y hy) hd, h.far, h.dist⟩
theorem StG.low {w : World} {B : Nat} {v : Value} {L : List Fm} (h : StG w B v L) {B2 : Nat} (hB : w.heap.size ≤ B2) : ∀ b, v.ownBlock = some b ∨ (∃ x ∈ L, x.sl.ownBlock = some b) → b < B2 := by
  rintro b (hb | ⟨x, hx, hb⟩)
  · have := (h.list.lt b hb).2; omega
  · have := ((h.each x hx).lt b hb).2; omega
/-- one formula more -/
theorem StG.snoc {w w' : World} {B B2 : Nat} {v v' : Value} {L : List Fm} {y : Fm} (h : StG w B v L) (hown' : w'.ownsRow B 51 3 v' (L.length + 1) (L.flatMap Fm.cells ++ y.cells)) (hg : w.grownBy w' v.ownBlock)
    (hv : v'.ownBlock = v.ownBlock ∨ v'.ownBlock = some w.heap.size) (hy : w.ownsRow B2 9 1 y.sl y.ws.length (y.ws.flatMap strC)) (hB : B ≤ B2) (hlow : ∀ b, v.ownBlock = some b ∨ (∃ x ∈ L, x.sl.ownBlock = some b) → ¬ y.sl.ownBlock = some b) : StG w' B v' (L ++ [y]) := by
  refine ⟨?_, ?_, ?_, h.dist.snoc ?_⟩
  · rw [List.length_append, List.length_singleton, List.flatMap_append]; simpa using hown'
  · intro x hx
    rcases List.mem_append.1 hx with hx | hx
    · exact own_other (h.each x hx) hg (fun b hb => h.far x hx b hb)
    · rw [List.mem_singleton.1 hx]
      exact own_base (own_other hy hg (fun b hb e => hlow b (.inl e) hb)) hB
  · intro x hx b hb e
    rcases List.mem_append.1 hx with hx | hx
    · rcases hv with hv | hv
      · rw [hv] at e; exact h.far x hx b hb e
      · rw [hv] at e
        have h2 := ((h.each x hx).lt b hb).2
        have h3 : w.heap.size = b := by simpa using e
        omega
    · rw [List.mem_singleton.1 hx] at hb
      rcases hv with hv | hv
      · rw [hv] at e; exact hlow b (.inl e) hb
      · rw [hv] at e
        have h2 := (hy.lt b hb).2
        have h3 : w.heap.size = b := by simpa using e
        omega
  · intro x hx b hb e
    exact hlow b (.inr ⟨x, hx, hb⟩) e
theorem dist_set {L : List Fm} {j : Nat} {y y' : Fm} (h : DistF L) (hj : L[j]? = some y) (hs : y'.sl = y.sl) : DistF (L.set j y') := by
  have hh : ∀ (i : Nat) x, (L.set j y')[i]? = some x → ∃ x', L[i]? = some x' ∧ x.sl = x'.sl := by
    intro i x hx
    have hjl := (List.getElem?_eq_some_iff.1 hj).1
    by_cases e : j = i
    · subst e
      rw [List.getElem?_set_self hjl] at hx
      cases hx
      exact ⟨y, hj, hs⟩
    · rw [List.getElem?_set_ne e] at hx
      exact ⟨x, hx, rfl⟩
  intro i k x z hik hi hk b hb
  obtain ⟨x', hx', ex⟩ := hh i x hi
  obtain ⟨z', hz', ez⟩ := hh k z hk
  rw [ex] at hb
  rw [ez]
  exact h i k x' z' hik hx' hz' b hb
theorem fcells_set : ∀ (L : List Fm) (j : Nat) (y : Fm) (fr to_ : Int), L[j]? = some y → ((L.flatMap Fm.cells).set (j * 3 + 1) (.int .i64 fr)).set (j * 3 + 2) (.int .i64 to_) = (L.set j ⟨y.A, y.c, y.ws, fr, to_⟩).flatMap Fm.cells
  | [], j, y, fr, to_, h => by simp at h
  | x :: L, 0, y, fr, to_, h => by simp at h; subst h; simp [Fm.cells]
  | x :: L, j + 1, y, fr, to_, h => by
    have ih := fcells_set L j y fr to_ (by simpa using h)
    rw [show (j + 1) * 3 + 1 = j * 3 + 1 + 3 by omega, show (j + 1) * 3 + 2 = j * 3 + 2 + 3 by omega, List.set_cons_succ, List.flatMap_cons, List.flatMap_cons, ← ih]
    simp [Fm.cells]
/-- one formula with other bounds -/
theorem StG.dates {w : World} {B gl c : Nat} {L : List Fm} {j : Nat} {y : Fm} (h : StG w B (.slice (some ⟨gl, 0, none⟩) L.length c) L) (hj : L[j]? = some y) (fr to_ : Int) {w' : World}
    (hw : w' = (w.setCell ⟨gl, j * 3 + 1, none⟩ (.int .i64 fr)).setCell ⟨gl, j * 3 + 2, none⟩ (.int .i64 to_) ∨ w' = (w.setCell ⟨gl, j * 3 + 2, none⟩ (.int .i64 to_)).setCell ⟨gl, j * 3 + 1, none⟩ (.int .i64 fr)) :
    StG w' B (.slice (some ⟨gl, 0, none⟩) L.length c) (L.set j ⟨y.A, y.c, y.ws, fr, to_⟩) := by
  have hvl : (Value.slice (some ⟨gl, 0, none⟩) L.length c).ownBlock = some gl := rfl
  have hkey : ∀ (a1 a2 : Nat) (u1 u2 : Value), ((w.setCell ⟨gl, a1, none⟩ u1).setCell ⟨gl, a2, none⟩ u2).ownsRow B 51 3 (.slice (some ⟨gl, 0, none⟩) L.length c) L.length (((L.flatMap Fm.cells).set a1 u1).set a2 u2) :=
    fun a1 a2 u1 u2 => ((h.list.stored a1 u1).1.stored a2 u2).1
  have hoth : ∀ (a1 a2 : Nat) (u1 u2 : Value) (x : Fm), x ∈ L → ((w.setCell ⟨gl, a1, none⟩ u1).setCell ⟨gl, a2, none⟩ u2).ownsRow B 9 1 x.sl x.ws.length (x.ws.flatMap strC) :=
    fun a1 a2 u1 u2 x hx => own_other (own_other (h.each x hx) (grown_setA _ _ _) (fun b hb e => h.far x hx b hb (by rw [hvl]; exact e))) (grown_setA _ _ _) (fun b hb e => h.far x hx b hb (by rw [hvl]; exact e))
  have hmem : ∀ x ∈ L.set j ⟨y.A, y.c, y.ws, fr, to_⟩, ∃ z ∈ L, x.sl = z.sl ∧ x.ws = z.ws := by
    intro x hx
    rcases List.mem_or_eq_of_mem_set hx with e | e
    · exact ⟨x, e, rfl, rfl⟩
    · exact ⟨y, List.mem_of_getElem? hj, by rw [e], by rw [e]⟩
  have hset := fcells_set L j y fr to_ hj
  refine ⟨?_, ?_, ?_, dist_set h.dist hj rfl⟩
  · rw [List.length_set, ← hset]
    rcases hw with rfl | rfl
    · exact hkey _ _ _ _
    · rw [List.set_comm _ _ (by omega)]; exact hkey _ _ _ _
  · intro x hx
    obtain ⟨z, hz, e1, e2⟩ := hmem x hx
    rw [e1, e2]
    rcases hw with rfl | rfl
    · exact hoth _ _ _ _ z hz
    · exact hoth _ _ _ _ z hz
  · intro x hx b hb
    obtain ⟨z, hz, e1, e2⟩ := hmem x hx
    rw [e1] at hb
    exact h.far z hz b hb

set_option maxRecDepth 100000 in
set_option maxHeartbeats 4000000 in
theorem markFormG_any (A : Option Addr) (L : List Fm) (c B b0 b1 : Nat) (k : Int) (w : World) (h : StG w B (.slice A L.length c) L) (hb : BndG b0 b1 (.slice A L.length c) L) (hn : L.length ≤ 2000000) (hws : ∀ y ∈ L, y.ws.length ≤ 2000000) (ht : (wtF L L.length : Int) + k ≤ 80000000) (h0 : 1 ≤ k) :
    Calls Tryz.prog 14 #[.slice A L.length c, .int .i64 k] w fun e w' => e = .returned (.int .i64 (k + wtF L L.length)) ∧ StG w' B (.slice A L.length c) (mkFm k L) ∧ Mk b0 b1 w w' := by
  obtain ⟨hown, hin, hfar, hdis⟩ := h
  go_enter Tryz.func14, Tryz.ntmps14
  go_wp2
  go_loopw [1, 5] (fun q i wr => ∃ j : Nat, ∃ ys, j ≤ L.length ∧ i = .int .i64 j ∧ q = .int .i64 (k + wtF L j) ∧ wr.ownsRow B 51 3 (.slice A L.length c) L.length ys ∧ ys.take (j * 3) = ((mkFm k L).take j).flatMap Fm.cells ∧ (∀ (p : Nat) (y : Fm), L[p]? = some y → ys[p * 3]? = some y.sl) ∧ (∀ (p : Nat) (y : Fm), L[p]? = some y → ∃ zs, wr.ownsRow B 9 1 y.sl y.ws.length zs ∧ (p < j → zs = (mkS (k + wtF L p) y.ws.length).flatMap strC)) ∧ Mk b0 b1 w wr) (fun _ i _ => L.length - (intOf i).toNat)
  case atStart => exact ⟨0, _, Nat.zero_le _, rfl, by simp [wtF], hown, by simp, third_cell L, fun p y hy => ⟨_, hin y (List.mem_of_getElem? hy), fun h => absurd h (by omega)⟩, Mk.refl⟩
  case round =>
    obtain ⟨j, ys, hj, rfl, rfl, hown, htk, hys, hzs, hm⟩ := hrel
    have HYS := Lib.hid hys
    have HZS := Lib.hid hzs
    have HT := Lib.hid htk
    clear hys hzs htk
    by_cases hlt : j < L.length
    · obtain ⟨A', c', hv, -, -, hA, -⟩ := own_form hown
      simp only [Value.slice.injEq] at hv
      obtain ⟨rfl, -, rfl⟩ := hv
      obtain ⟨g', rfl, -, -⟩ := hA (by omega)
      have hle := wtF_le L (L.length - j) j (by omega)
      have HJ := Lib.hid (List.getElem?_eq_getElem hlt)
      have hwt := wtF_succ HJ.out
      generalize L[j] = y at HJ hwt
      have hle2 := wtF_le L (L.length - (j + 1)) (j + 1) (by omega)
      have hyn := hws y (List.mem_of_getElem? HJ.out)
      have r1 := hown.cellAt (j * 3) (by omega)
      rw [HYS.out j y HJ.out] at r1
      obtain ⟨zs, oz, -⟩ := HZS.out j y HJ.out
      have OZ := Lib.hid oz
      clear oz
      go_wp2_with fail
      refine (markStrW_any y.A y.ws.length y.c B zs _ _ OZ.out hyn (by omega) (by omega)).mono ?_
      rintro e w2 ⟨rfl, on, gn⟩
      have o2 := own_other hown gn (fun b hb e => hfar y (List.mem_of_getElem? HJ.out) b e hb)
      have M2 := Lib.hid (hm.step gn (hb.2 y (List.mem_of_getElem? HJ.out)))
      obtain ⟨u1, q1⟩ := own_cell o2 (p := j * 3 + 1) (by omega)
      obtain ⟨u2, q2⟩ := own_cell o2 (p := j * 3 + 2) (by omega)
      have z1 := o2.frozenAt (j * 3 + 1)
      have z2 := o2.frozenAt (j * 3 + 2)
      have s1 := o2.stored (j * 3 + 1) (.int .i64 (k + wtF L j + y.ws.length))
      have s2 := s1.1.stored (j * 3 + 2) (.int .i64 (k + wtF L j + y.ws.length + 1))
      have M3 := Lib.hid ((M2.out.step (v := .slice (some ⟨g', 0, none⟩) L.length c) s1.2 hb.1).step (v := .slice (some ⟨g', 0, none⟩) L.length c) s2.2 hb.1)
      have S2 := Lib.hid s2.1
      have hlen := Lib.hid hown.1
      have HZ2 := Lib.hid (fun (p : Nat) (y' : Fm) (hy' : L[p]? = some y') => show ∃ zs, ((w2.setCell ⟨g', j * 3 + 1, none⟩ (.int .i64 (k + wtF L j + y.ws.length))).setCell ⟨g', j * 3 + 2, none⟩ (.int .i64 (k + wtF L j + y.ws.length + 1))).ownsRow B 9 1 y'.sl y'.ws.length zs ∧ (p < j + 1 → zs = (mkS (k + wtF L p) y'.ws.length).flatMap strC) from by
        have hf : ∀ b, y'.sl.ownBlock = some b → some g' ≠ some b := fun b hb' e => hfar y' (List.mem_of_getElem? hy') b hb' e
        have key : ∀ zs, w2.ownsRow B 9 1 y'.sl y'.ws.length zs → ((w2.setCell ⟨g', j * 3 + 1, none⟩ (.int .i64 (k + wtF L j + y.ws.length))).setCell ⟨g', j * 3 + 2, none⟩ (.int .i64 (k + wtF L j + y.ws.length + 1))).ownsRow B 9 1 y'.sl y'.ws.length zs := fun zs o =>
          own_other (own_other o s1.2 hf) s2.2 hf
        rcases Nat.lt_trichotomy p j with hpj | hpj | hpj
        · obtain ⟨zs', oz', ez⟩ := HZS.out p y' hy'
          exact ⟨zs', key _ (own_other oz' gn (fun b hb e => hdis p j y' y hpj hy' HJ.out b hb e)), fun _ => ez hpj⟩
        · subst hpj
          have e := HJ.out
          rw [e] at hy'
          cases hy'
          exact ⟨_, key _ on, fun _ => rfl⟩
        · obtain ⟨zs', oz', ez⟩ := HZS.out p y' hy'
          exact ⟨zs', key _ (own_other oz' gn (fun b hb e => hdis j p y y' hpj HJ.out hy' b e hb)), fun h => absurd h (by omega)⟩)
      have HYS2 := Lib.hid (fun (p : Nat) (y' : Fm) (hy : L[p]? = some y') => show ((ys.set (j * 3 + 1) (.int .i64 (k + wtF L j + y.ws.length))).set (j * 3 + 2) (.int .i64 (k + wtF L j + y.ws.length + 1)))[p * 3]? = some y'.sl from by
        rw [List.getElem?_set_ne (by omega), List.getElem?_set_ne (by omega)]; exact HYS.out p y' hy)
      clear s1 s2 on gn r1 hown hm
      go_wp2
      go_roundw
      case rel => exact ⟨j + 1, _, by omega, by go_num, by go_num, S2.out, mkFm_take HJ.out hlen.out hlt HT.out (HYS.out j y HJ.out), HYS2.out, HZ2.out, M3.out⟩
      case measure => simp [intOf]; omega
    · have hjl : j = L.length := by omega
      subst hjl
      go_wp2
      go_ret
      have hx := HT.out
      rw [List.take_of_length_le (by rw [hown.1]; omega), List.take_of_length_le (by rw [mkFm_len]; exact Nat.le_refl _)] at hx
      subst hx
      refine ⟨rfl, ⟨by rw [mkFm_len]; exact hown, fun y hy => ?_, fun y hy b hb' => ?_, mkFm_dist hdis⟩, hm⟩
      · obtain ⟨p, hp, e⟩ := List.getElem_of_mem hy
        have hp' : p < L.length := by rwa [mkFm_len] at hp
        have e1 := mkFm_get k L p _ (List.getElem?_eq_getElem hp')
        rw [List.getElem?_eq_getElem hp, e] at e1
        cases e1
        obtain ⟨zs, oz, ez⟩ := HZS.out p _ (List.getElem?_eq_getElem hp')
        have hz := ez hp'
        subst hz
        simp only [Fm.sl, mkS_len]; exact oz
      · obtain ⟨p, hp, e⟩ := List.getElem_of_mem hy
        have hp' : p < L.length := by rwa [mkFm_len] at hp
        have e1 := mkFm_get k L p _ (List.getElem?_eq_getElem hp')
        rw [List.getElem?_eq_getElem hp, e] at e1
        cases e1
        simp only [Fm.sl, mkS_len] at hb'
        exact hfar _ (List.getElem_mem hp') b hb'
end Go.Proofs.YtehoaoeahfmfpaaGreatDoor

namespace Go.Proofs.YtehoaoeahfmfpaaGreatDoor
open Go.RowKit Go.Sort

section
variable {P : Program} (w : World)
/-- append onto a slice of the call's own, at a step of a region that draws its order -/
theorem step_append_ownL {ops : Array Oper} {o : Oper} {a : Act} {K : Act → World → Prop} {Q : Exit → Act → World → Prop} {E : Prop} (hgd : o.guard = none) (s x : Operand) (t : TypeId)
    (ho : o.op = .call { callee := .builtin .append, args := #[s, x], argTypes := #[t, t] })
    (base : Nat) (e : TypeId) (i : TypeInfo) (z : Value) (size bytes : Nat) (ht : P.underlying t = some (.slice e)) (hi : P.info? e = some i) (hz : i.zero = some z)
    (hsize : i.size = size) (hby : i.bytes = bytes) (hzs : z.cells.size = size) (hsz : 0 < size)
    (v : Value) (n : Nat) (xs : List Value) (hs : a.eval s = v) (hown : w.ownsRow base e size v n xs)
    (ad : Addr) (m c : Nat) (news : List Value) (hx : a.eval x = .slice (some ad) m c) (hl : news.length = m * size) (hnews : ∀ j u, news[j]? = some u → w.cell? (ad.add j) = some u) (h1 : ∀ u ∈ news, u.oneCell' = true)
    (h63 : n + m ≤ maxLen) (hbytes : (n + m) * bytes ≤ 140737488355328) (hbase : base ≤ w.heap.size)
    (h : ∀ v' w', w'.ownsRow base e size v' (n + m) (xs ++ news) → w.grownBy w' v.ownBlock → K (a.put o.dst v') w') :
    if Region.wanted o (yielded ops a.tmps) = true then Oper.wp P o a w K Q else E := by
  have hw : Region.wanted o (yielded ops a.tmps) = true := by simp [Region.wanted, hgd]
  rw [if_pos hw]
  exact wp_append_own w s x t ho base e i z size bytes ht hi hz hsize hby hzs hsz v n xs hs hown ad m c news hx hl hnews h1 h63 hbytes hbase (fun v' w' h2 h3 _ => h v' w' h2 h3)
end
theorem flat_invT : ∀ (l : List ByteArray) (j : Nat) (u : Value), (l.flatMap strC)[j]? = some u → ∃ x, l[j]? = some x ∧ u = .string x
  | [], j, u, h => by simp at h
  | y :: l, 0, u, h => by simp at h; exact ⟨y, rfl, h.symm⟩
  | y :: l, j + 1, u, h => by
    have h' : (l.flatMap strC)[j]? = some u := by simpa using h
    obtain ⟨x, h1, h2⟩ := flat_invT l j u h'
    exact ⟨x, by simpa using h1, h2⟩
theorem txt_news {w : World} {lo hi : Nat} {ad : Addr} {l : List ByteArray} (h : RdT w lo hi (some ad) l) : ∀ j u, (l.flatMap strC)[j]? = some u → w.cell? (ad.add j) = some u := by
  intro j u hu
  obtain ⟨x, h1, rfl⟩ := flat_invT l j u hu
  obtain ⟨b, off, e, -, -, h5⟩ := h (by rintro rfl; simp at hu)
  cases e
  rw [Go.WideShapes.add_plain]
  have := h5 j x h1 0 _ rfl
  rwa [Nat.mul_one, Nat.add_zero] at this
theorem txts_one (l : List ByteArray) : ∀ u ∈ l.flatMap strC, u.oneCell' = true := by
  intro u hu
  obtain ⟨x, _, hx⟩ := List.mem_flatMap.1 hu
  simp only [strC, List.mem_singleton] at hx
  subst hx; rfl
theorem infoStrL : (Tryz.prog.info? 9).map (fun i => (i.zero, i.size, i.bytes)) = some (some (.string ByteArray.empty), 1, 16) := by kernel_rfl

set_option maxRecDepth 100000 in
set_option maxHeartbeats 2000000 in
theorem cloneS_any (A : Option Addr) (l : List ByteArray) (c lo hi : Nat) (w : World) (hr : RdT w lo hi A l) (hhi : hi ≤ w.heap.size) (hn : l.length ≤ 2000000) :
    Calls Tryz.prog 45 #[.slice A l.length c] w fun e w' => ∃ v, e = .returned v ∧ w'.ownsRow w.heap.size 9 1 v l.length (l.flatMap strC) ∧ Up w w' := by
  obtain ⟨i0, hi0, hz0, hz1, hz2⟩ := info_parts infoStrL
  have h1 : ∀ (wx : World) n c, (binOp .eql 23 (.slice none n c) (.slice none 0 0)).run Tryz.prog wx = .ok (.bool true) wx := fun wx n c => Lib.run_eql_slice_nil wx 23 9 none n c 0 0 Tryz.underlying23
  have h2 : ∀ (wx : World) a n c, (binOp .eql 23 (.slice (some a) n c) (.slice none 0 0)).run Tryz.prog wx = .ok (.bool false) wx := fun wx a n c => Lib.run_eql_slice_nil wx 23 9 (some a) n c 0 0 Tryz.underlying23
  rcases A with _ | ad
  · go_enter Tryz.func45, Tryz.ntmps45
    go_wp2
    go_ret
    have hl : l = [] := by
      rcases l with _ | ⟨x, l⟩
      · rfl
      · obtain ⟨b, off, e, _⟩ := hr (by simp); cases e
    subst hl
    exact ⟨_, rfl, World.ownsRow_nil _ _ _ _, Up.refl _⟩
  · have hlit := World.ownsRow_lit (base := w.heap.size) (e := 9) (size := 1) w #[] 0 (Nat.le_refl _) (by simp [maxLen]) rfl
    have hup0 := Up.alloc w (.cells #[] 9)
    have hnews := txt_news (hr.up hup0 hhi)
    have n0 : (l.flatMap strC).length = l.length * 1 := flat_length _ 1 strC_len l
    have n1 : 0 + l.length ≤ maxLen := by unfold maxLen; omega
    have n2 : (0 + l.length) * 16 ≤ 140737488355328 := by omega
    have n3 : w.heap.size ≤ (w.alloc (.cells #[] 9)).heap.size := hup0.size
    have HN := Lib.hid hnews
    have HO := Lib.hid (txts_one l)
    have H0 := Lib.hid n0
    have HL := Lib.hid hlit
    clear hnews n0 hlit
    go_enter Tryz.func45, Tryz.ntmps45
    go_wp2_with ((at_builtin; refine wpList_append_own _ rfl _ _ 23 rfl w.heap.size 9 i0 _ 1 16 Tryz.underlying23 hi0 hz0 hz1 hz2 rfl (by decide) _ _ _ rfl HL.out ad l.length c (l.flatMap strC) rfl H0.out HN.out HO.out n1 n2 n3 ?_))
    intro v' w4 hown' hgrow _
    have hu := hup0.grown hgrow (fun k hk => (HL.out.lt k hk).1)
    have HW := Lib.hid (show w4.ownsRow w.heap.size 9 1 v' l.length (l.flatMap strC) by simpa using hown')
    clear hown' hgrow
    go_wp2
    go_ret
    exact ⟨v', rfl, HW.out, hu⟩

theorem fm_news (W : World) (v : Value) (fr to_ : Int) : ∀ (j : Nat) u, [v, Value.int .i64 fr, .int .i64 to_][j]? = some u → (W.alloc (.cells #[v, .int .i64 fr, .int .i64 to_] 51)).cell? ((⟨W.heap.size, 0, none⟩ : Addr).add j) = some u := fun j u hu => by
  match j, hu with
  | 0, hu => simp at hu; subst hu; simp [Addr.add]
  | 1, hu => simp at hu; subst hu; simp [Addr.add]
  | 2, hu => simp at hu; subst hu; simp [Addr.add]
theorem fm_zero : (Value.agg #[.slice none 0 0, .int .i64 0, .int .i64 0]).cells.size = 3 := rfl

theorem up_keep3L {w w' : World} {a b c : Addr} {x y z : Value} (h : Up w w') (ha : w.cell? a = some x) (hb : w.cell? b = some y) (hc : w.cell? c = some z) : Up w w' ∧ w'.cell? a = some x ∧ w'.cell? b = some y ∧ w'.cell? c = some z := ⟨h, h.cell ha, h.cell hb, h.cell hc⟩
theorem take_map_succ {α β : Type} {f : α → β} {l : List α} {k : Nat} {d : α} (h : l[k]? = some d) : (l.take (k + 1)).map f = (l.take k).map f ++ [f d] := by
  obtain ⟨hk, e⟩ := List.getElem?_eq_some_iff.1 h
  rw [List.take_succ_eq_append_getElem hk, List.map_append, e]; rfl

set_option maxRecDepth 100000 in
set_option maxHeartbeats 8000000 in
theorem l24Own_any (A : Option Addr) (l : List Fm) (c lo hi : Nat) (w : World) (hr : RdF w lo hi A l) (hhi : hi ≤ w.heap.size) (hs : SmF l) (hn : l.length ≤ 100) :
    Calls Tryz.prog 42 #[.slice A l.length c] w fun e w' => ∃ v L, e = .returned v ∧ StG w' w.heap.size v L ∧ L.map Fm.p = l.map Fm.p ∧ Up w w' := by
  obtain ⟨i0, hi0, hz0, hz1, hz2⟩ := info_parts infoStrL
  obtain ⟨i1, hi1, hy0, hy1, hy2⟩ := info_parts infoFm
  have hlit := World.ownsRow_lit (base := w.heap.size) (e := 51) (size := 3) w #[] 0 (Nat.le_refl _) (by simp [maxLen]) rfl
  have hup0 := Up.alloc w (.cells #[] 51)
  have ST0 : StG (w.alloc (.cells #[] 51)) w.heap.size (.slice (some ⟨w.heap.size, 0, none⟩) 0 0) [] := StG.nil_ hlit
  clear hlit
  go_enter Tryz.func42, Tryz.ntmps42
  go_wp2
  obtain ⟨v0, hv0⟩ : ∃ v, v = Value.slice (some ⟨w.heap.size, 0, none⟩) 0 0 := ⟨_, rfl⟩
  rw [← hv0] at ST0 ⊢
  generalize w.alloc (.cells #[] 51) = w2 at *
  clear hv0
  go_loopw [3, 4] (fun o i wr => ∃ (k : Nat) (L : List Fm), k ≤ l.length ∧ i = .int .i64 k ∧ L.length = k ∧ L.map Fm.p = (l.take k).map Fm.p ∧ StG wr w.heap.size o L ∧ Up w wr) (fun _ i _ => l.length - (intOf i).toNat)
  case atStart => exact ⟨0, [], Nat.zero_le _, rfl, rfl, by simp, ST0, hup0⟩
  case round =>
    clear ST0 hup0
    obtain ⟨k, L, hk, rfl, hL, hmap, hst, hup⟩ := hrel
    have HM := Lib.hid hmap
    have HL := Lib.hid hL
    clear hmap hL
    by_cases hlt : k < l.length
    · obtain ⟨b, off, d, rfl, -, -, hd, hrd, p0, p1, p2⟩ := hr.at_ hlt
      have q0 := hup.cell p0
      have q1 := hup.cell p1
      have q2 := hup.cell p2
      obtain ⟨hsz, h60, hpos⟩ := hs d (List.mem_of_getElem? hd)
      have HD := Lib.hid hd
      clear hd
      obtain ⟨dA, dc, dws, dfr, dto⟩ := d
      simp only at hrd q0 q1 q2 p0 p1 p2 hsz h60 hpos
      obtain ⟨bd, offd, rfl⟩ : ∃ b o, dA = some ⟨b, o, none⟩ := by
        obtain ⟨b, off, e, -⟩ := hrd (by intro e; rw [e] at hpos; simp at hpos)
        exact ⟨b, off, e⟩
      have ua := Up.alloc wr (.cells #[] 9)
      have hlit := World.ownsRow_lit (base := wr.heap.size) (e := 9) (size := 1) wr #[] 0 (Nat.le_refl _) (by simp [maxLen]) rfl
      have hnews := txt_news (hrd.up (hup.trans ua) hhi)
      have HN := Lib.hid hnews
      have HO := Lib.hid (txts_one dws)
      have H0 := Lib.hid (show (dws.flatMap strC).length = dws.length * 1 from flat_length _ 1 strC_len dws)
      have HLIT := Lib.hid hlit
      have n1 : 0 + dws.length ≤ maxLen := by unfold maxLen; omega
      have n2 : (0 + dws.length) * 16 ≤ 140737488355328 := by omega
      have n3 : wr.heap.size ≤ (wr.alloc (.cells #[] 9)).heap.size := ua.size
      have k1 : L.length + 1 ≤ maxLen := by have := HL.out; unfold maxLen; omega
      have k2 : (L.length + 1) * 40 ≤ 140737488355328 := by have := HL.out; omega
      have HST := Lib.hid hst
      have HUP := Lib.hid hup
      clear hnews hlit hst
      go_wp2_with fail
      have hd1 : Up w wr.drew := HUP.out.drew
      have uaw := HUP.out.trans ua
      have uad := uaw.drew
      go_region_held_law (fun w' => Up w w' ∧ w'.cell? ⟨b, off + k * 3, none⟩ = some (.slice (some ⟨bd, offd, none⟩) dws.length dc) ∧ w'.cell? ⟨b, off + k * 3 + 1, none⟩ = some (.int .i64 dfr) ∧ w'.cell? ⟨b, off + k * 3 + 2, none⟩ = some (.int .i64 dto))
        ((refine up_keep3L ?_ p0 p1 p2; first | assumption | exact hd1 | exact uaw | exact uad | exact HUP.out | exact Up.allocs (by assumption) _))
        ((first
        | (refine step_append_ownL _ rfl (.tmp 13) (.tmp 18) 23 rfl wr.heap.size 9 i0 _ 1 16 Tryz.underlying23 hi0 hz0 hz1 hz2 rfl (by decide) (.slice (some ⟨wr.heap.size, 0, none⟩) 0 0) 0 [] (by simp [Act.eval]) HLIT.out ⟨bd, offd, none⟩ dws.length dc (dws.flatMap strC) (by simp [Act.eval]) H0.out HN.out HO.out n1 n2 n3 ?_; intro v1 w1 hown1 hg1; have u1 : Up wr w1 := ua.drew.grown hg1 (fun k hk => (HLIT.out.lt k hk).1); have uw1 := HUP.out.trans u1; have hw1 : w1.ownsRow wr.heap.size 9 1 v1 dws.length (dws.flatMap strC) := (by simpa using hown1); obtain ⟨C1, c1, rfl, -⟩ := own_form hw1; have HOW := Lib.hid hw1; clear hown1 hg1 hw1)
        | (have ub := Up.alloc w1 (.cells #[.slice C1 dws.length c1, .int .i64 dfr, .int .i64 dto] 51); have hSB := (HST.out.up u1).up ub; have m3 : w.heap.size ≤ (w1.alloc (.cells #[.slice C1 dws.length c1, .int .i64 dfr, .int .i64 dto] 51)).heap.size := Nat.le_trans HUP.out.size (Nat.le_trans u1.size ub.size); refine step_append_lies _ rfl (.tmp 12) (.tmp 31) 26 rfl w.heap.size 51 i1 _ 3 40 Tryz.underlying26 hi1 hy0 hy1 hy2 fm_zero (by decide) _ L.length _ (by simp [Act.eval]) hSB.list ⟨w1.heap.size, 0, none⟩ 1 1 [.slice C1 dws.length c1, .int .i64 dfr, .int .i64 dto] (by simp [Act.eval]) rfl (fm_news w1 _ dfr dto) (by simp [Value.oneCell']) (by decide) k1 k2 m3 _ rfl ?_; intro g cap w9 hown9 hg9 hat hlt9; have hUU := (uw1.trans ub).grown hg9 (fun b hb => (hSB.list.lt b hb).1))))
      all_goals
        have hvb : (Value.slice (some ⟨g, 0, none⟩) (L.length + 1) cap).ownBlock = Value.ownBlock u3 ∨ (Value.slice (some ⟨g, 0, none⟩) (L.length + 1) cap).ownBlock = some (w1.alloc (.cells #[.slice C1 dws.length c1, .int .i64 dfr, .int .i64 dto] 51)).heap.size := by
          rcases hat with h | h
          · exact .inl h.symm
          · exact .inr (by rw [h]; simp [Value.ownBlock])
        have hlow : ∀ b, u3.ownBlock = some b ∨ (∃ x ∈ L, x.sl.ownBlock = some b) → ¬ (Fm.sl ⟨C1, c1, dws, dfr, dto⟩).ownBlock = some b := fun b hb e => by
          have h1 := HST.out.low (Nat.le_refl _) b hb
          have h2 := (HOW.out.lt b e).1
          omega
        have hSN := StG.snoc (y := ⟨C1, c1, dws, dfr, dto⟩) hSB hown9 hg9 hvb (own_up HOW.out ub) HUP.out.size hlow
        have HSN := Lib.hid hSN
        clear hSN hSB hown9 hg9 hat q0 q1 q2 p0 p1 p2 HUP
        go_wp2
        go_roundw
        case rel => exact ⟨k + 1, L ++ [⟨C1, c1, dws, dfr, dto⟩], by omega, by go_num, by rw [List.length_append, HL.out]; rfl, by rw [List.map_append, HM.out, take_map_succ HD.out]; rfl, HSN.out, hUU⟩
        case measure => simp [intOf]; omega
    · obtain rfl : k = l.length := by omega
      have hm := HM.out
      rw [List.take_of_length_le (Nat.le_refl _)] at hm
      go_wp2
      go_ret
      exact ⟨_, L, rfl, hst, hm, hup⟩

set_option maxRecDepth 100000 in
set_option maxHeartbeats 8000000 in
theorem ownFormulas_any (A : Option Addr) (l : List Fm) (c lo hi : Nat) (w : World) (hr : RdF w lo hi A l) (hhi : hi ≤ w.heap.size) (hs : SmF l) (hn : l.length ≤ 100) :
    Calls Tryz.prog 47 #[.slice A l.length c] w fun e w' => ∃ v L, e = .returned v ∧ StG w' w.heap.size v L ∧ L.map Fm.p = l.map Fm.p ∧ Up w w' := by
  obtain ⟨i1, hi1, hy0, hy1, hy2⟩ := info_parts infoFm
  have hlit := World.ownsRow_lit (base := w.heap.size) (e := 51) (size := 3) w #[] 0 (Nat.le_refl _) (by simp [maxLen]) rfl
  have hup0 := Up.alloc w (.cells #[] 51)
  have ST0 : StG (w.alloc (.cells #[] 51)) w.heap.size (.slice (some ⟨w.heap.size, 0, none⟩) 0 0) [] := StG.nil_ hlit
  clear hlit
  go_enter Tryz.func47, Tryz.ntmps47
  go_wp2
  obtain ⟨v0, hv0⟩ : ∃ v, v = Value.slice (some ⟨w.heap.size, 0, none⟩) 0 0 := ⟨_, rfl⟩
  rw [← hv0] at ST0 ⊢
  generalize w.alloc (.cells #[] 51) = w2 at *
  clear hv0
  go_loopw [3, 5, 9] (fun o _ i wr => ∃ (k : Nat) (L : List Fm), k ≤ l.length ∧ i = .int .i64 k ∧ L.length = k ∧ L.map Fm.p = (l.take k).map Fm.p ∧ StG wr w.heap.size o L ∧ Up w wr) (fun _ _ i _ => l.length - (intOf i).toNat)
  case atStart => exact ⟨0, [], Nat.zero_le _, rfl, rfl, by simp, ST0, hup0⟩
  case round =>
    clear ST0 hup0
    obtain ⟨k, L, hk, rfl, hL, hmap, hst, hup⟩ := hrel
    have HM := Lib.hid hmap
    have HL := Lib.hid hL
    clear hmap hL
    by_cases hlt : k < l.length
    · obtain ⟨b, off, d, rfl, -, -, hd, hrd, q0, q1, q2⟩ := (hr.up hup hhi).at_ hlt
      obtain ⟨hsz, h60, hpos⟩ := hs d (List.mem_of_getElem? hd)
      have HD := Lib.hid hd
      clear hd
      obtain ⟨dA, dc, dws, dfr, dto⟩ := d
      simp only at hrd q0 q1 q2 hsz h60 hpos
      have ua := Up.alloc wr (.cells #[.slice dA dws.length dc, .int .i64 dfr, .int .i64 dto] 51)
      have HC := Lib.hid (cloneS_any dA dws dc lo hi _ (hrd.up ua (Nat.le_trans hhi hup.size)) (Nat.le_trans (Nat.le_trans hhi hup.size) ua.size) (by omega))
      have f0 : (wr.alloc (.cells #[.slice dA dws.length dc, .int .i64 dfr, .int .i64 dto] 51)).frozen? ⟨wr.heap.size, 0, none⟩ = false := by go_simp
      have g1 : (wr.alloc (.cells #[.slice dA dws.length dc, .int .i64 dfr, .int .i64 dto] 51)).cell? ⟨wr.heap.size, 1, none⟩ = some (.int .i64 dfr) := by go_simp
      have g2 : (wr.alloc (.cells #[.slice dA dws.length dc, .int .i64 dfr, .int .i64 dto] 51)).cell? ⟨wr.heap.size, 2, none⟩ = some (.int .i64 dto) := by go_simp
      have g0 : (wr.alloc (.cells #[.slice dA dws.length dc, .int .i64 dfr, .int .i64 dto] 51)).cell? ⟨wr.heap.size, 0, none⟩ = some (.slice dA dws.length dc) := by go_simp
      have hsz1 : (wr.alloc (.cells #[.slice dA dws.length dc, .int .i64 dfr, .int .i64 dto] 51)).heap.size = wr.heap.size + 1 := by simp
      have HZ1 := Lib.hid hsz1
      clear hsz1
      go_wp2_with fail
      refine HC.out.mono ?_
      rintro e w1 ⟨v1, rfl, hown1, u1⟩
      obtain ⟨C1, c1, rfl, -⟩ := own_form hown1
      have e0 := u1.cell g0
      have e1 := u1.cell g1
      have e2 := u1.cell g2
      have e3 : w1.frozen? ⟨wr.heap.size, 0, none⟩ = false := (Below.frozen u1 (p := ⟨wr.heap.size, 0, none⟩) (block_lt_of_cell g0)).trans f0
      have uw : Up wr (w1.setCell ⟨wr.heap.size, 0, none⟩ (.slice C1 dws.length c1)) := (ua.trans u1).setCell (Nat.le_refl _) _
      have HOW := Lib.hid (show (w1.setCell ⟨wr.heap.size, 0, none⟩ (.slice C1 dws.length c1)).ownsRow (wr.heap.size + 1) 9 1 (.slice C1 dws.length c1) dws.length (dws.flatMap strC) from ownsRow_setCell_below (own_base hown1 (Nat.le_of_eq HZ1.out.symm)) (Nat.lt_succ_self _) _)
      have ub := Up.alloc (w1.setCell ⟨wr.heap.size, 0, none⟩ (.slice C1 dws.length c1)) (.cells #[.slice C1 dws.length c1, .int .i64 dfr, .int .i64 dto] 51)
      have hSB := (hst.up uw).up ub
      have hnews := fm_news (w1.setCell ⟨wr.heap.size, 0, none⟩ (.slice C1 dws.length c1)) (.slice C1 dws.length c1) dfr dto
      have hss : (w1.setCell ⟨wr.heap.size, 0, none⟩ (.slice C1 dws.length c1)).heap.size = w1.heap.size := by simp
      have HSS := Lib.hid hss
      rw [hss] at hnews
      have HNS := Lib.hid hnews
      have k1 : L.length + 1 ≤ maxLen := by have := HL.out; unfold maxLen; omega
      have k2 : (L.length + 1) * 40 ≤ 140737488355328 := by have := HL.out; omega
      have m3 := Nat.le_trans hup.size (uw.trans ub).size
      have hlow : ∀ b, u3.ownBlock = some b ∨ (∃ x ∈ L, x.sl.ownBlock = some b) → ¬ (Fm.sl ⟨C1, c1, dws, dfr, dto⟩).ownBlock = some b := fun b hb e => by
        have h1 := hst.low (Nat.le_refl _) b hb
        have h2 := (HOW.out.lt b e).1
        omega
      have HLW := Lib.hid hlow
      have HST := Lib.hid hst
      clear hown1 hnews hss hlow hst f0 g0 g1 g2
      go_wp2_with ((at_builtin; refine wpList_append_lies (P := Tryz.prog) _ rfl _ _ 26 rfl w.heap.size 51 i1 _ 3 40 Tryz.underlying26 hi1 hy0 hy1 hy2 fm_zero (by decide) _ _ _ rfl hSB.list ⟨w1.heap.size, 0, none⟩ 1 1 [.slice C1 dws.length c1, .int .i64 dfr, .int .i64 dto] rfl rfl HNS.out (by simp [Value.oneCell']) (by decide) k1 k2 m3 _ rfl ?_))
      intro g cap w9 hown9 hg9 hat hlt9
      have hvb : (Value.slice (some ⟨g, 0, none⟩) (L.length + 1) cap).ownBlock = Value.ownBlock u3 ∨ (Value.slice (some ⟨g, 0, none⟩) (L.length + 1) cap).ownBlock = some ((w1.setCell ⟨wr.heap.size, 0, none⟩ (.slice C1 dws.length c1)).alloc (.cells #[.slice C1 dws.length c1, .int .i64 dfr, .int .i64 dto] 51)).heap.size := by
        rcases hat with h | h
        · exact .inl h.symm
        · exact .inr (by rw [h]; simp [Value.ownBlock])
      have hSN := StG.snoc (y := ⟨C1, c1, dws, dfr, dto⟩) hSB hown9 hg9 hvb (own_up HOW.out ub) (Nat.le_trans hup.size (Nat.le_succ _)) HLW.out
      have hUU := (hup.trans (uw.trans ub)).grown hg9 (fun b hb => (hSB.list.lt b hb).1)
      have HSN := Lib.hid hSN
      clear hSN hSB hown9 hg9 hat hvb e0 e1 e2 e3 q0 q1 q2
      go_wp2
      go_roundw
      case rel => exact ⟨k + 1, L ++ [⟨C1, c1, dws, dfr, dto⟩], by omega, by go_num, by rw [List.length_append, HL.out]; rfl, by rw [List.map_append, HM.out, take_map_succ HD.out]; rfl, HSN.out, hUU⟩
      case measure => simp [intOf]; omega
    · obtain rfl : k = l.length := by omega
      have hm := HM.out
      rw [List.take_of_length_le (Nat.le_refl _)] at hm
      go_wp2
      go_ret
      exact ⟨_, L, rfl, hst, hm, hup⟩
end Go.Proofs.YtehoaoeahfmfpaaGreatDoor
