/- Marking lists of formulas that the call itself made: only their own blocks change. -/
import Derived.Test.YtehoaoeahfmfpaaGreatDoorMarkF
import Derived.Test.YtehoaoeahfmfpaaGreatDoorFormA
namespace Go.Proofs.YtehoaoeahfmfpaaGreatDoor
open Go.RowKit Go.Sort

theorem Mk.rdf {w w' : World} {lo hi : Nat} {A : Option Addr} {l : List Fm} {b0 b1 : Nat} (m : Mk b0 b1 w w') (h : RdF w lo hi A l) (hhi : hi ≤ w.heap.size) (hd : hi ≤ b0 ∨ b1 ≤ lo) : RdF w' lo hi A l :=
  ⟨m.rd h.1 hhi hd, fun x hx => m.rd (h.2 x hx) hhi hd⟩
def BndF (b0 b1 : Nat) (A : Option Addr) (c : Nat) (L : List Fm) : Prop := In (.slice A L.length c) b0 b1 ∧ ∀ y ∈ L, In y.sl b0 b1
theorem OwnF.bnd {w : World} {g0 c : Nat} {A : Option Addr} {L : List Fm} (h : OwnF w g0 A L.length c L) : BndF g0 w.heap.size A c L := by
  obtain ⟨g, h1, h2, h3, -, -⟩ := h
  exact ⟨fun b hb => by have := h2.lt b hb; omega, fun y hy b hb => by have := (h3 y hy).2.lt b hb; omega⟩
theorem Mk.ownf {w w' : World} {g0 c : Nat} {A : Option Addr} {L : List Fm} {b0 b1 b0' b1' : Nat} (m : Mk b0 b1 w w') (h : OwnF w g0 A L.length c L) (hb' : BndF b0' b1' A c L) (hd : b1' ≤ b0 ∨ b1 ≤ b0') : OwnF w' g0 A L.length c L := by
  obtain ⟨g, h1, h2, h3, h4, h5⟩ := h
  exact ⟨g, h1, m.own h2 hb'.1 hd, fun y hy => ⟨(h3 y hy).1, m.own (h3 y hy).2 (hb'.2 y hy) hd⟩, h4, h5⟩

def wtF (L : List Fm) (j : Nat) : Nat := ((L.take j).map fun y => y.ws.length + 2).sum
theorem wtF_succ {L : List Fm} {j : Nat} {y : Fm} (h : L[j]? = some y) : wtF L (j + 1) = wtF L j + (y.ws.length + 2) := by
  have hj := (List.getElem?_eq_some_iff.1 h).1
  unfold wtF
  rw [List.take_succ_eq_append_getElem hj, (List.getElem?_eq_some_iff.1 h).2]
  simp
theorem wtF_le (L : List Fm) : ∀ d j, j + d = L.length → wtF L j ≤ wtF L L.length
  | 0, j, h => by rw [show j = L.length by omega]; exact Nat.le_refl _
  | d + 1, j, h => by
    have h1 := wtF_succ (List.getElem?_eq_getElem (show j < L.length by omega))
    have h2 := wtF_le L d (j + 1) (by omega)
    omega
theorem wtF_cons (x : Fm) (L : List Fm) : wtF (x :: L) (x :: L).length = (x.ws.length + 2) + wtF L L.length := by simp [wtF]
theorem wtF_same : ∀ {L l : List Fm}, L.map Fm.p = l.map Fm.p → wtF L L.length = wtF l l.length
  | [], [], _ => rfl
  | [], _ :: _, h => by simp at h
  | _ :: _, [], h => by simp at h
  | x :: L, y :: l, h => by
    simp only [List.map_cons, List.cons.injEq] at h
    have e : x.ws = y.ws := congrArg Prod.fst h.1
    rw [wtF_cons, wtF_cons, wtF_same h.2, e]
theorem szFs_tot : ∀ (l : List Fm) (z : Int), 0 ≤ z → ¬ szFs l z < 0 → (wtF l l.length : Int) ≤ z + 2 * l.length
  | [], z, _, _ => by simp [wtF]; omega
  | d :: l, z, h0, h => by
    simp only [szFs] at h
    by_cases hd : szSL d.ws z < 0
    · rw [if_pos hd] at h; exact absurd (by omega) h
    · rw [if_neg hd] at h
      have h1 := (szSL_le d.ws z h0).1
      have h2 : szSL d.ws z + d.ws.length ≤ z := by
        have := szSL_len h0 hd
        have e : szSL d.ws z = szSs d.ws (z - d.ws.length) := by unfold szSL; rw [if_neg (by omega)]
        have := (szSs_le d.ws (z - d.ws.length) (by omega)).1
        omega
      have h3 := szFs_tot l _ (by omega) h
      rw [wtF_cons]
      simp only [List.length_cons]
      omega
theorem szFL_tot {l : List Fm} {z : Int} (h : ¬ szFL l z < 0) : (wtF l l.length : Int) ≤ 2 * z := by
  by_cases c1 : z < l.length
  · rw [szFL_a c1] at h; exact absurd (by omega) h
  · rw [szFL_b c1] at h
    have := szFs_tot l (z - l.length) (by omega) h
    omega

/-- the formulas that the marks leave -/
def mkFm (k : Int) : List Fm → List Fm
  | [] => []
  | y :: L => ⟨y.A, y.c, mkS k y.ws.length, k + y.ws.length, k + y.ws.length + 1⟩ :: mkFm (k + (y.ws.length + 2 : Nat)) L
theorem mkFm_len : ∀ (k : Int) (L : List Fm), (mkFm k L).length = L.length
  | _, [] => rfl
  | k, y :: L => by simp [mkFm, mkFm_len]
theorem mkFm_get : ∀ (k : Int) (L : List Fm) (j : Nat) (y : Fm), L[j]? = some y → (mkFm k L)[j]? = some ⟨y.A, y.c, mkS (k + wtF L j) y.ws.length, k + wtF L j + y.ws.length, k + wtF L j + y.ws.length + 1⟩
  | _, [], j, y, h => by simp at h
  | k, x :: L, 0, y, h => by simp at h; subst h; simp [mkFm, wtF]
  | k, x :: L, j + 1, y, h => by
    have h' : L[j]? = some y := by simpa using h
    have := mkFm_get (k + (x.ws.length + 2 : Nat)) L j y h'
    have e : k + (x.ws.length + 2 : Nat) + (wtF L j : Int) = k + (wtF (x :: L) (j + 1) : Int) := by simp [wtF]; omega
    rw [e] at this
    simpa [mkFm] using this
theorem mkFm_dist {k : Int} {L : List Fm} (h : DistF L) : DistF (mkFm k L) := by
  intro i j x y hij hi hj b hb
  have hl := mkFm_len k L
  have hi' := (List.getElem?_eq_some_iff.1 hi).1
  have hj' := (List.getElem?_eq_some_iff.1 hj).1
  have e1 := mkFm_get k L i _ (List.getElem?_eq_getElem (by omega))
  have e2 := mkFm_get k L j _ (List.getElem?_eq_getElem (by omega))
  rw [e1] at hi; rw [e2] at hj
  cases hi; cases hj
  simp only [Fm.sl, mkS_len] at hb ⊢
  exact h i j _ _ hij (List.getElem?_eq_getElem (by omega)) (List.getElem?_eq_getElem (by omega)) b hb
theorem third_cell : ∀ (L : List Fm) (p : Nat) (y : Fm), L[p]? = some y → (L.flatMap Fm.cells)[p * 3]? = some y.sl
  | [], p, y, h => by simp at h
  | x :: L, 0, y, h => by simp at h; subst h; rfl
  | x :: L, p + 1, y, h => by
    rw [show (p + 1) * 3 = p * 3 + 3 by omega]
    simpa using third_cell L p y (by simpa using h)
theorem mkFm_take {k : Int} {L : List Fm} {j : Nat} {y : Fm} {ys : List Value} {n : Nat} (hj : L[j]? = some y) (hx : ys.length = n * 3) (hlt : j < n) (ht : ys.take (j * 3) = ((mkFm k L).take j).flatMap Fm.cells) (h0 : ys[j * 3]? = some y.sl) :
    ((ys.set (j * 3 + 1) (.int .i64 (k + wtF L j + y.ws.length))).set (j * 3 + 2) (.int .i64 (k + wtF L j + y.ws.length + 1))).take ((j + 1) * 3) = ((mkFm k L).take (j + 1)).flatMap Fm.cells := by
  rw [show (j + 1) * 3 = j * 3 + 2 + 1 by omega, take_set_succ (by simp; omega), take_set_succ (by omega)]
  rw [List.take_succ_eq_append_getElem (by omega), ht, take_flat_succ _ (mkFm_get k L j y hj)]
  have := (List.getElem?_eq_some_iff.1 h0).2
  rw [this]
  simp [Fm.cells, Fm.sl, mkS_len]

set_option maxRecDepth 100000 in
set_option maxHeartbeats 4000000 in
theorem markFormulaS_any (A : Option Addr) (L : List Fm) (c g0 b0 b1 : Nat) (k : Int) (w : World) (h : OwnF w g0 A L.length c L) (hb : BndF b0 b1 A c L) (hn : L.length ≤ 2000000) (hws : ∀ y ∈ L, y.ws.length ≤ 2000000) (ht : (wtF L L.length : Int) + k ≤ 80000000) (h0 : 1 ≤ k) :
    Calls Tryz.prog 14 #[.slice A L.length c, .int .i64 k] w fun e w' => e = .returned (.int .i64 (k + wtF L L.length)) ∧ OwnF w' g0 A L.length c (mkFm k L) ∧ Mk b0 b1 w w' := by
  obtain ⟨g, hg0, hown, hin, hdis, hbase⟩ := h
  go_enter Tryz.func14, Tryz.ntmps14
  go_wp2
  go_loopw [1, 5] (fun q i wr => ∃ j : Nat, ∃ ys, j ≤ L.length ∧ i = .int .i64 j ∧ q = .int .i64 (k + wtF L j) ∧ wr.ownsRow g 51 3 (.slice A L.length c) L.length ys ∧ ys.take (j * 3) = ((mkFm k L).take j).flatMap Fm.cells ∧ (∀ (p : Nat) (y : Fm), L[p]? = some y → ys[p * 3]? = some y.sl) ∧ (∀ (p : Nat) (y : Fm), L[p]? = some y → ∃ zs, wr.ownsRow (g + 1) 9 1 y.sl y.ws.length zs ∧ (p < j → zs = (mkS (k + wtF L p) y.ws.length).flatMap strC)) ∧ Mk b0 b1 w wr) (fun _ i _ => L.length - (intOf i).toNat)
  case atStart => exact ⟨0, _, Nat.zero_le _, rfl, by simp [wtF], hown, by simp, third_cell L, fun p y hy => ⟨_, (hin y (List.mem_of_getElem? hy)).2, fun h => absurd h (by omega)⟩, Mk.refl⟩
  case round =>
    obtain ⟨j, ys, hj, rfl, rfl, hown, htk, hys, hzs, hm⟩ := hrel
    have HYS := Lib.hid hys
    have HZS := Lib.hid hzs
    have HT := Lib.hid htk
    clear hys hzs htk
    by_cases hlt : j < L.length
    · obtain ⟨A', c', hv, -, -, hA, -⟩ := own_form hown
      simp only [Value.slice.injEq] at hv
      obtain ⟨rfl, -, rfl⟩ := hv
      obtain ⟨g', rfl, -, -⟩ := hA (by omega)
      have hle := wtF_le L (L.length - j) j (by omega)
      have HJ := Lib.hid (List.getElem?_eq_getElem hlt)
      have hwt := wtF_succ HJ.out
      generalize L[j] = y at HJ hwt
      have hle2 := wtF_le L (L.length - (j + 1)) (j + 1) (by omega)
      have hyn := hws y (List.mem_of_getElem? HJ.out)
      have r1 := hown.cellAt (j * 3) (by omega)
      rw [HYS.out j y HJ.out] at r1
      obtain ⟨zs, oz, -⟩ := HZS.out j y HJ.out
      have hin0 : In (.slice (some ⟨g', 0, none⟩) L.length c) g (g + 1) := hbase
      have OZ := Lib.hid oz
      clear oz
      go_wp2_with fail
      refine (markStrW_any y.A y.ws.length y.c (g + 1) zs _ _ OZ.out hyn (by omega) (by omega)).mono ?_
      rintro e w2 ⟨rfl, on, gn⟩
      have o2 := own_grown hown gn (In.own on) hin0 (Or.inl (Nat.le_refl _))
      have M2 := Lib.hid (hm.step gn (hb.2 y (List.mem_of_getElem? HJ.out)))
      obtain ⟨u1, q1⟩ := own_cell o2 (p := j * 3 + 1) (by omega)
      obtain ⟨u2, q2⟩ := own_cell o2 (p := j * 3 + 2) (by omega)
      have z1 := o2.frozenAt (j * 3 + 1)
      have z2 := o2.frozenAt (j * 3 + 2)
      have s1 := o2.stored (j * 3 + 1) (.int .i64 (k + wtF L j + y.ws.length))
      have s2 := s1.1.stored (j * 3 + 2) (.int .i64 (k + wtF L j + y.ws.length + 1))
      have M3 := Lib.hid ((M2.out.step (v := .slice (some ⟨g', 0, none⟩) L.length c) s1.2 hb.1).step (v := .slice (some ⟨g', 0, none⟩) L.length c) s2.2 hb.1)
      have S2 := Lib.hid s2.1
      have hlen := Lib.hid hown.1
      have HZ2 := Lib.hid (fun (p : Nat) (y' : Fm) (hy' : L[p]? = some y') => show ∃ zs, ((w2.setCell ⟨g', j * 3 + 1, none⟩ (.int .i64 (k + wtF L j + y.ws.length))).setCell ⟨g', j * 3 + 2, none⟩ (.int .i64 (k + wtF L j + y.ws.length + 1))).ownsRow (g + 1) 9 1 y'.sl y'.ws.length zs ∧ (p < j + 1 → zs = (mkS (k + wtF L p) y'.ws.length).flatMap strC) from by
        have key : ∀ zs, w2.ownsRow (g + 1) 9 1 y'.sl y'.ws.length zs → ((w2.setCell ⟨g', j * 3 + 1, none⟩ (.int .i64 (k + wtF L j + y.ws.length))).setCell ⟨g', j * 3 + 2, none⟩ (.int .i64 (k + wtF L j + y.ws.length + 1))).ownsRow (g + 1) 9 1 y'.sl y'.ws.length zs := fun zs o => by
          have o3 := own_grown (v := .slice (some ⟨g', 0, none⟩) L.length c) o s1.2 hin0 (In.own o) (Or.inr (Nat.le_refl _))
          exact own_grown (v := .slice (some ⟨g', 0, none⟩) L.length c) o3 s2.2 hin0 (In.own o3) (Or.inr (Nat.le_refl _))
        rcases Nat.lt_trichotomy p j with hpj | hpj | hpj
        · obtain ⟨zs', oz', ez⟩ := HZS.out p y' hy'
          exact ⟨zs', key _ (oz'.kept gn (by
            rcases hv : y'.sl.ownBlock with _ | b
            · exact .inl rfl
            · exact .inr fun e => hdis p j y' y hpj hy' HJ.out b hv e.symm)), fun _ => ez hpj⟩
        · subst hpj
          have e := HJ.out
          rw [e] at hy'
          cases hy'
          exact ⟨_, key _ on, fun _ => rfl⟩
        · obtain ⟨zs', oz', ez⟩ := HZS.out p y' hy'
          exact ⟨zs', key _ (oz'.kept gn (by
            rcases hv : y'.sl.ownBlock with _ | b
            · exact .inl rfl
            · exact .inr fun e => hdis j p y y' hpj HJ.out hy' b e.symm hv)), fun h => absurd h (by omega)⟩)
      have HYS2 := Lib.hid (fun (p : Nat) (y' : Fm) (hy : L[p]? = some y') => show ((ys.set (j * 3 + 1) (.int .i64 (k + wtF L j + y.ws.length))).set (j * 3 + 2) (.int .i64 (k + wtF L j + y.ws.length + 1)))[p * 3]? = some y'.sl from by
        rw [List.getElem?_set_ne (by omega), List.getElem?_set_ne (by omega)]; exact HYS.out p y' hy)
      clear s1 s2 on gn r1 hown hm
      go_wp2
      go_roundw
      case rel => exact ⟨j + 1, _, by omega, by go_num, by go_num, S2.out, mkFm_take HJ.out hlen.out hlt HT.out (HYS.out j y HJ.out), HYS2.out, HZ2.out, M3.out⟩
      case measure => simp [intOf]; omega
    · have hjl : j = L.length := by omega
      subst hjl
      go_wp2
      go_ret
      have hx := HT.out
      rw [List.take_of_length_le (by rw [hown.1]; omega), List.take_of_length_le (by rw [mkFm_len]; exact Nat.le_refl _)] at hx
      subst hx
      refine ⟨rfl, ⟨g, hg0, hown, fun y hy => ?_, mkFm_dist hdis, hbase⟩, hm⟩
      obtain ⟨p, hp, e⟩ := List.getElem_of_mem hy
      have hp' : p < L.length := by rwa [mkFm_len] at hp
      have e1 := mkFm_get k L p _ (List.getElem?_eq_getElem hp')
      rw [List.getElem?_eq_getElem hp, e] at e1
      cases e1
      obtain ⟨zs, oz, ez⟩ := HZS.out p _ (List.getElem?_eq_getElem hp')
      have hz := ez hp'
      subst hz
      have ho := (hin _ (List.getElem_mem hp')).1
      exact ⟨⟨by simp only [mkS_len]; exact ho.1, ho.2⟩, by simp only [Fm.sl, mkS_len]; exact oz⟩

theorem toForS (A : Option Addr) (l : List Fm) (c lo hi : Nat) (w : World) (hr : RdF w lo hi A l) (hhi : hi ≤ w.heap.size) (hn : l.length ≤ 2000000) (hws : ∀ x ∈ l, x.ws.length ≤ 2000000) :
    Calls Tryz.prog 9 #[.slice A l.length c] w fun e w' => ∃ A' c' L, e = .returned (.slice A' L.length c') ∧ L.length = l.length ∧ L.map Fm.p = l.map Fm.p ∧ L.length ≤ c' ∧ c' ≤ maxLen ∧ (∀ x ∈ L, x.ok') ∧ RdF w' w.heap.size w'.heap.size A' L ∧ OwnF w' w.heap.size A' L.length c' L ∧ Up w w' :=
  (toFormulaS_any A l c lo hi w hr hhi hn hws).mono fun e w' ⟨A', c', L, he, h1, h2, h3, h4, h5, h6⟩ => by
    rw [← h1] at he h3 h5
    exact ⟨A', c', L, he, h1, h2, h3, h4, fun x hx => by obtain ⟨g, -, -, h, -, -⟩ := h5; exact (h x hx).1, h5.rd, h5, h6⟩
theorem same_ok {L l : List Fm} (h : L.map Fm.p = l.map Fm.p) (hy : ∀ x ∈ L, x.ok') (hq : ∀ x ∈ l, x.ok) : ∀ x ∈ L, x.ok := fun x hx => by
  have h1 : x.p ∈ l.map Fm.p := by rw [← h]; exact List.mem_map_of_mem hx
  obtain ⟨y, hy2, e⟩ := List.mem_map.1 h1
  simp only [Fm.p, Prod.mk.injEq] at e
  exact ⟨by rw [← e.1]; exact (hq y hy2).1, hy x hx⟩
theorem same_ws {L l : List Fm} (h : L.map Fm.p = l.map Fm.p) {q : List ByteArray → Prop} (hq : ∀ x ∈ l, q x.ws) : ∀ x ∈ L, q x.ws := fun x hx => by
  have h1 : x.p ∈ l.map Fm.p := by rw [← h]; exact List.mem_map_of_mem hx
  obtain ⟨y, hy, e⟩ := List.mem_map.1 h1
  have := hq y hy
  simp only [Fm.p, Prod.mk.injEq] at e
  rw [← e.1]; exact this
end Go.Proofs.YtehoaoeahfmfpaaGreatDoor
