/- Marking copies that the call itself made: only their own blocks change. -/
import Derived.Test.YtcmhgjldkgnblaaDoorIntLaw
namespace Go.Proofs.YtcmhgjldkgnblaaDoor
open Go.RowKit Go.Sort

set_option maxHeartbeats 1000000 in
theorem markIntW_any (A : Option Addr) (n c base : Nat) (xs : List Value) (k : Int) (w : World) (hown : w.ownsRow base 2 1 (.slice A n c) n xs) (hn : n ≤ 2000000) (h0 : 0 ≤ k) (hk : k ≤ 100000000) :
    Calls Tryd.prog 27 #[.slice A n c, .int .i64 k] w fun e w' => e = .returned (.int .i64 (k + n)) ∧ w'.ownsRow base 2 1 (.slice A n c) n ((mkI k n).flatMap intCells) ∧ w.grownBy w' (Value.slice A n c).ownBlock := by
  go_enter Tryd.func27, Tryd.ntmps27
  go_wp2
  go_loopw [1, 5] (fun q i wr => ∃ j : Nat, ∃ ys, j ≤ n ∧ i = .int .i64 j ∧ q = .int .i64 (k + j) ∧ wr.ownsRow base 2 1 (.slice A n c) n ys ∧ ys.take j = ((mkI k n).take j).flatMap intCells ∧ w.grownBy wr (Value.slice A n c).ownBlock) (fun _ i _ => n - (intOf i).toNat)
  case atStart => exact ⟨0, xs, Nat.zero_le _, rfl, by simp, hown, by simp, World.grownBy.refl w _⟩
  case round =>
    obtain ⟨j, ys, hj, rfl, rfl, hown, hys, hg⟩ := hrel
    have HY := Lib.hid hys
    have HG := Lib.hid hg
    clear hys hg
    by_cases hlt : j < n
    · obtain ⟨A', c', hv, -, -, hA, -⟩ := own_form hown
      simp only [Value.slice.injEq] at hv
      obtain ⟨rfl, -, rfl⟩ := hv
      obtain ⟨g, rfl, -, -⟩ := hA (by omega)
      obtain ⟨u0, r0⟩ := own_cell hown (p := j) (by omega)
      have z0 := hown.frozenAt j
      go_wp2
      go_roundw
      case rel => exact ⟨j + 1, _, by omega, by go_num, by go_num, (hown.stored j _).1, by rw [take_set_succ (by rw [hown.1]; omega), HY.out, mkI_take hlt], HG.out.trans (hown.stored j _).2⟩
      case measure => simp [intOf]; omega
    · go_wp2
      go_ret
      have e : j = n := by omega
      subst e
      have hx := HY.out
      rw [List.take_of_length_le (by rw [hown.1]; omega), List.take_of_length_le (by rw [mkI_len]; exact Nat.le_refl _)] at hx
      subst hx
      exact ⟨rfl, hown, HG.out⟩


/-- steps that each change one block of [b0, b1) and make new ones -/
inductive Mk (b0 b1 : Nat) (w : World) : World → Prop
  | refl : Mk b0 b1 w w
  | step {w1 w2 : World} {v : Value} (h : Mk b0 b1 w w1) (hg : w1.grownBy w2 v.ownBlock) (hb : In v b0 b1) : Mk b0 b1 w w2
theorem Mk.size {b0 b1 : Nat} {w w' : World} (h : Mk b0 b1 w w') : w.heap.size ≤ w'.heap.size := by
  induction h with
  | refl => exact Nat.le_refl _
  | step h hg hb ih => exact Nat.le_trans ih hg.size
theorem Mk.rd {α : Type} {w w' : World} {lo hi size : Nat} {f : α → List Value} {A : Option Addr} {l : List α} {b0 b1 : Nat} (m : Mk b0 b1 w w') (h : Rd w lo hi size f A l) (hhi : hi ≤ w.heap.size) (hd : hi ≤ b0 ∨ b1 ≤ lo) : Rd w' lo hi size f A l := by
  induction m with
  | refl => exact h
  | step m hg hb ih => exact Rd.grown ih hg (Nat.le_trans hhi m.size) hb hd
theorem Mk.rdc {w w' : World} {lo hi : Nat} {A : Option Addr} {l : List Cp} {b0 b1 : Nat} (m : Mk b0 b1 w w') (h : RdC w lo hi A l) (hhi : hi ≤ w.heap.size) (hd : hi ≤ b0 ∨ b1 ≤ lo) : RdC w' lo hi A l :=
  ⟨m.rd h.1 hhi hd, fun x hx => m.rd (h.2 x hx) hhi hd⟩
theorem Mk.own {w w' : World} {base : Nat} {e : TypeId} {size : Nat} {v' : Value} {n : Nat} {xs : List Value} {b0 b1 b0' b1' : Nat} (m : Mk b0 b1 w w') (h : w.ownsRow base e size v' n xs) (hb' : In v' b0' b1') (hd : b1' ≤ b0 ∨ b1 ≤ b0') : w'.ownsRow base e size v' n xs := by
  induction m with
  | refl => exact h
  | step m hg hb ih => exact own_grown ih hg hb hb' hd
theorem Up.mk {a w w' : World} {b0 b1 : Nat} (h : Up a w) (m : Mk b0 b1 w w') (hd : a.heap.size ≤ b0) : Up a w' := by
  induction m with
  | refl => exact h
  | step m hg hb ih => exact ih.marked hg hb hd

def wt (L : List Cp) (j : Nat) : Nat := ((L.take j).map fun y => y.rs.length + 1).sum
theorem wt_succ {L : List Cp} {j : Nat} {y : Cp} (h : L[j]? = some y) : wt L (j + 1) = wt L j + (y.rs.length + 1) := by
  have hj := (List.getElem?_eq_some_iff.1 h).1
  unfold wt
  rw [List.take_succ_eq_append_getElem hj, (List.getElem?_eq_some_iff.1 h).2]
  simp
theorem wt_le (L : List Cp) : ∀ d j, j + d = L.length → wt L j ≤ wt L L.length
  | 0, j, h => by rw [show j = L.length by omega]; exact Nat.le_refl _
  | d + 1, j, h => by
    have h1 := wt_succ (List.getElem?_eq_getElem (show j < L.length by omega))
    have h2 := wt_le L d (j + 1) (by omega)
    omega
theorem odd_cell : ∀ (L : List Cp) (p : Nat) (y : Cp), L[p]? = some y → (L.flatMap Cp.cells)[p * 2 + 1]? = some y.sl
  | [], p, y, h => by simp at h
  | x :: L, 0, y, h => by simp at h; subst h; rfl
  | x :: L, p + 1, y, h => by
    rw [show (p + 1) * 2 + 1 = (p * 2 + 1) + 2 by omega]
    simpa using odd_cell L p y (by simpa using h)
def BndC (b0 b1 : Nat) (A : Option Addr) (c : Nat) (L : List Cp) : Prop := In (.slice A L.length c) b0 b1 ∧ ∀ y ∈ L, In y.sl b0 b1
theorem OwnC.bnd {w : World} {g0 c : Nat} {A : Option Addr} {L : List Cp} (h : OwnC w g0 A L.length c L) : BndC g0 w.heap.size A c L := by
  obtain ⟨g, h1, h2, h3, -, -⟩ := h
  exact ⟨fun b hb => by have := h2.lt b hb; omega, fun y hy b hb => by have := (h3 y hy).2.lt b hb; omega⟩

set_option maxHeartbeats 2000000 in
theorem markCopyS_any (A : Option Addr) (L : List Cp) (c g0 b0 b1 : Nat) (k : Int) (w : World) (h : OwnC w g0 A L.length c L) (hb : BndC b0 b1 A c L) (hn : L.length ≤ 2000000) (hrs : ∀ y ∈ L, y.rs.length ≤ 2000000) (ht : (wt L L.length : Int) + k ≤ 90000000) (h0 : 1 ≤ k) :
    Calls Tryd.prog 26 #[.slice A L.length c, .int .i64 k] w fun e w' => ∃ z, e = .returned (.int .i64 z) ∧ k ≤ z ∧ z ≤ 90000000 ∧ Mk b0 b1 w w' := by
  obtain ⟨g, hg0, hown, hin, hdis, hbase⟩ := h
  go_enter Tryd.func26, Tryd.ntmps26
  go_wp2
  go_loopw [1, 5] (fun q i wr => ∃ j : Nat, ∃ ys, j ≤ L.length ∧ i = .int .i64 j ∧ q = .int .i64 (k + wt L j) ∧ wr.ownsRow g 72 2 (.slice A L.length c) L.length ys ∧ (∀ (p : Nat) (y : Cp), L[p]? = some y → ys[p * 2 + 1]? = some y.sl) ∧ (∀ (p : Nat) (y : Cp), L[p]? = some y → ∃ zs, wr.ownsRow (g + 1) 2 1 y.sl y.rs.length zs) ∧ Mk b0 b1 w wr) (fun _ i _ => L.length - (intOf i).toNat)
  case atStart => exact ⟨0, _, Nat.zero_le _, rfl, by simp [wt], hown, odd_cell L, fun p y hy => ⟨_, (hin y (List.mem_of_getElem? hy)).2⟩, Mk.refl⟩
  case round =>
    obtain ⟨j, ys, hj, rfl, rfl, hown, hys, hzs, hm⟩ := hrel
    have HYS := Lib.hid hys
    have HZS := Lib.hid hzs
    clear hys hzs
    by_cases hlt : j < L.length
    · obtain ⟨A', c', hv, -, -, hA, -⟩ := own_form hown
      simp only [Value.slice.injEq] at hv
      obtain ⟨rfl, -, rfl⟩ := hv
      obtain ⟨g', rfl, -, -⟩ := hA (by omega)
      have hle := wt_le L (L.length - j) j (by omega)
      have HJ := Lib.hid (List.getElem?_eq_getElem hlt)
      have hwt := wt_succ HJ.out
      generalize L[j] = y at HJ hwt
      have hle2 := wt_le L (L.length - (j + 1)) (j + 1) (by omega)
      have hyn := hrs y (List.mem_of_getElem? HJ.out)
      go_wp2_with fail
      refine (markText_any _ _ (by omega) (by omega)).mono ?_
      rintro e w1 ⟨rfl, hup1⟩
      have o1 := own_up hown hup1
      have O1 := Lib.hid o1
      clear hown
      obtain ⟨u0, r0⟩ := own_cell o1 (p := j * 2) (by omega)
      have r1 := o1.cellAt (j * 2 + 1) (by omega)
      rw [HYS.out j y HJ.out] at r1
      have z0 := o1.frozenAt (j * 2)
      have s1 := o1.stored (j * 2) (.string (mtext (k + wt L j)))
      have M1 := Lib.hid ((hm.step (v := .slice none 0 0) (World.grownBy.but (a := _) ⟨hup1.os, hup1.tape, hup1.output, hup1.size, fun i hi _ => hup1.block i hi⟩ _) (fun b hb => by simp [Value.ownBlock] at hb)).step (v := .slice (some ⟨g', 0, none⟩) L.length c) s1.2 hb.1)
      have S1 := Lib.hid s1.1
      have G1 := Lib.hid s1.2
      obtain ⟨zs, oz⟩ := HZS.out j y HJ.out
      have oz1 := own_up oz hup1
      have hin0 : In (.slice (some ⟨g', 0, none⟩) L.length c) g (g + 1) := hbase
      have oz2 := own_grown oz1 G1.out hin0 (In.own oz1) (Or.inr (Nat.le_refl _))
      have OZ := Lib.hid oz2
      clear s1 o1 oz oz1 oz2
      go_wp2_with fail
      refine (markIntW_any y.A y.rs.length y.c (g + 1) zs _ _ OZ.out hyn (by omega) (by omega)).mono ?_
      rintro e w2 ⟨rfl, on, gn⟩
      have o2 := own_grown S1.out gn (In.own on) hin0 (Or.inl (Nat.le_refl _))
      have M2 := Lib.hid (M1.out.step gn (hb.2 y (List.mem_of_getElem? HJ.out)))
      have HZ2 : ∀ (p : Nat) (y' : Cp), L[p]? = some y' → ∃ zs, w2.ownsRow (g + 1) 2 1 y'.sl y'.rs.length zs := fun p y' hy' => by
        rcases Nat.lt_trichotomy p j with hpj | hpj | hpj
        · obtain ⟨zs', oz'⟩ := HZS.out p y' hy'
          have o3 := own_up oz' hup1
          exact ⟨zs', (own_grown o3 G1.out hin0 (In.own o3) (Or.inr (Nat.le_refl _))).kept gn (by
            rcases hv : y'.sl.ownBlock with _ | b
            · exact .inl rfl
            · exact .inr fun e => hdis p j y' y hpj hy' HJ.out b hv e.symm)⟩
        · subst hpj
          rw [HJ.out] at hy'
          cases hy'
          exact ⟨_, on⟩
        · obtain ⟨zs', oz'⟩ := HZS.out p y' hy'
          have o3 := own_up oz' hup1
          exact ⟨zs', (own_grown o3 G1.out hin0 (In.own o3) (Or.inr (Nat.le_refl _))).kept gn (by
            rcases hv : y'.sl.ownBlock with _ | b
            · exact .inl rfl
            · exact .inr fun e => hdis j p y y' hpj HJ.out hy' b e.symm hv)⟩
      have HYS2 : ∀ (p : Nat) (y : Cp), L[p]? = some y → (ys.set (j * 2) (.string (mtext (k + wt L j))))[p * 2 + 1]? = some y.sl := fun p y hy => by
        rw [List.getElem?_set_ne (by omega)]; exact HYS.out p y hy
      have HH := Lib.hid (And.intro HYS2 HZ2)
      clear HYS2 HZ2 on gn r1 r0
      go_wp2
      go_roundw
      case rel => exact ⟨j + 1, _, by omega, by go_num, by go_num, o2, HH.out.1, HH.out.2, M2.out⟩
      case measure => simp [intOf]; omega
    · go_wp2
      go_ret
      exact ⟨_, rfl, by omega, by rw [show j = L.length by omega]; omega, hm⟩

theorem RdC.grown {w w' : World} {lo hi : Nat} {A : Option Addr} {l : List Cp} {v : Value} {b0 b1 : Nat} (h : RdC w lo hi A l) (hg : w.grownBy w' v.ownBlock) (hhi : hi ≤ w.heap.size) (hb : In v b0 b1) (hd : hi ≤ b0 ∨ b1 ≤ lo) : RdC w' lo hi A l :=
  ⟨Rd.grown h.1 hg hhi hb hd, fun x hx => Rd.grown (h.2 x hx) hg hhi hb hd⟩
theorem OwnC.grown {w w' : World} {g0 c : Nat} {A : Option Addr} {L : List Cp} {v : Value} {b0 b1 b0' b1' : Nat} (h : OwnC w g0 A L.length c L) (hg : w.grownBy w' v.ownBlock) (hb : In v b0 b1) (hb' : BndC b0' b1' A c L) (hd : b1' ≤ b0 ∨ b1 ≤ b0') : OwnC w' g0 A L.length c L := by
  obtain ⟨g, h1, h2, h3, h4, h5⟩ := h
  exact ⟨g, h1, own_grown h2 hg hb hb'.1 hd, fun y hy => ⟨(h3 y hy).1, own_grown (h3 y hy).2 hg hb (hb'.2 y hy) hd⟩, h4, h5⟩
theorem wt_cons (x : Cp) (L : List Cp) : wt (x :: L) (x :: L).length = (x.rs.length + 1) + wt L L.length := by simp [wt]
theorem wt_tot : ∀ {L l : List Cp}, L.map Cp.p = l.map Cp.p → wt L L.length = cpTot l
  | [], [], _ => rfl
  | [], _ :: _, h => by simp at h
  | _ :: _, [], h => by simp at h
  | x :: L, y :: l, h => by
    simp only [List.map_cons, List.cons.injEq] at h
    have e : x.rs = y.rs := congrArg Prod.snd h.1
    rw [wt_cons, wt_tot h.2, e]
    simp [cpTot]; omega
end Go.Proofs.YtcmhgjldkgnblaaDoor
