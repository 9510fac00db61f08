/- Evidence: what can be read, how much there is, what marks leave, what WithoutDeed answers twice. -/
import Derived.Test.YtblpjjcjnaigiaaGreatDoorWoA
import Derived.Test.YtblpjjcjnaigiaaGreatDoorWoB
import Derived.Test.YtblpjjcjnaigiaaGreatDoorWnH
namespace Go.Proofs.YtblpjjcjnaigiaaGreatDoor
open Go.RowKit Go.Sort

/-- evidence that can be read -/
structure EvR (w : World) (lo hi : Nat) (x : Wd) (s : Sl Dd) (g : Sl Fm) (q : Sl (Sl ByteArray)) : Prop where
  a : RdW w lo hi x
  b : RdDd w lo hi s
  c : SrF w lo hi g
  d : SrPh w lo hi q
theorem EvR.up {w w' : World} {lo hi : Nat} {x : Wd} {s : Sl Dd} {g : Sl Fm} {q : Sl (Sl ByteArray)} (h : EvR w lo hi x s g q) (u : Up w w') : EvR w' lo hi x s g q := ⟨h.a.up u, h.b.up u, h.c.up u, h.d.up u⟩
/-- it says the same -/
structure EvE (x x' : Wd) (s s' : Sl Dd) (g g' : Sl Fm) (q q' : Sl (Sl ByteArray)) : Prop where
  a : x'.p = x.p
  b : s'.l.map Dd.p = s.l.map Dd.p
  c : g'.l.map Fm.p = g.l.map Fm.p
  d : phP q'.l = phP q.l
theorem EvE.symm {x x' : Wd} {s s' : Sl Dd} {g g' : Sl Fm} {q q' : Sl (Sl ByteArray)} (h : EvE x x' s s' g g' q q') : EvE x' x s' s g' g q' q := ⟨h.a.symm, h.b.symm, h.c.symm, h.d.symm⟩
theorem EvE.trans {x x' x2 : Wd} {s s' s2 : Sl Dd} {g g' g2 : Sl Fm} {q q' q2 : Sl (Sl ByteArray)} (h : EvE x x' s s' g g' q q') (k : EvE x' x2 s' s2 g' g2 q' q2) : EvE x x2 s s2 g g2 q q2 := ⟨k.a.trans h.a, k.b.trans h.b, k.c.trans h.c, k.d.trans h.d⟩
theorem rowsEv_parts {w : World} {b : Nat} {x : Wd} {s : Sl Dd} {g : Sl Fm} {q : Sl (Sl ByteArray)} (h : OwA w b (rowsEv x s g q)) : OwA w b (rowsW x) ∧ OwA w b (rowsDd s) ∧ OwA w b (rowsFm g) ∧ OwA w b (rowsPh q) :=
  ⟨h.left, h.right.left, h.right.right.left, h.right.right.right⟩
theorem EvR.own {w w0 : World} {b lo hi : Nat} {x x' : Wd} {s s' : Sl Dd} {g g' : Sl Fm} {q q' : Sl (Sl ByteArray)} (h : OwA w b (rowsEv x' s' g' q')) (e : EvE x x' s s' g g' q q') (k : EvR w0 lo hi x s g q) : EvR w b w.heap.size x' s' g' q' := by
  obtain ⟨h1, h2, h3, h4⟩ := rowsEv_parts h
  exact ⟨h1.rdW e.a k.a, h2.rdDd e.b k.b, h3.rdF e.c k.c, h4.rdPh e.d k.d⟩
/-- texts that are no longer than may be -/
structure EvK (x : Wd) (s : Sl Dd) (g : Sl Fm) (q : Sl (Sl ByteArray)) : Prop where
  rs : ∀ d ∈ x.rs.l, Nm.ok d
  ps : ∀ d ∈ x.ps.l, Nm.ok d
  ts : ∀ d ∈ x.ts.l, Tm.ok d
  pl : ∀ d ∈ x.pl.l, strOk d
  se : ∀ d ∈ x.se.l, Nm.ok d
  ha : ∀ d ∈ x.ha.l, Nm.ok d
  ws : ∀ d ∈ x.ws.l, I3.ok d
  st : ∀ d ∈ x.st.l, I3.ok d
  dd : ∀ d ∈ s.l, d.nm.size ≤ maxLen ∧ (∀ z ∈ d.da.l, Cl.ok z) ∧ (∀ z ∈ d.wi.l, Wi.ok z) ∧ d.pl.size ≤ maxLen ∧ d.se.size ≤ maxLen ∧ d.ha.size ≤ maxLen ∧ ∀ z ∈ d.ci.l, strOk z
  fm : ∀ z ∈ g.l, ∀ t ∈ z.ws, t.size ≤ maxLen
  ph : ∀ p ∈ q.l, ∀ t ∈ p.l, strOk t
theorem EvR.mk' {w : World} {b : Nat} {x : Wd} {s : Sl Dd} {g : Sl Fm} {q : Sl (Sl ByteArray)} (h : OwA w b (rowsEv x s g q)) (m : SmEv x s g q) (k : EvK x s g q) : EvR w b w.heap.size x s g q := by
  obtain ⟨h1, h2, h3, h4⟩ := rowsEv_parts h
  obtain ⟨m1, m2, m3, m4⟩ := m
  refine ⟨?_, ?_, ?_, ?_⟩
  · have f := fun r hr => h1.each r hr
    simp only [rowsW, List.mem_cons, List.not_mem_nil, or_false, forall_eq_or_imp, forall_eq] at f
    obtain ⟨f1, f2, f3, f4, f5, f6, f7, f8⟩ := f
    obtain ⟨n1, ⟨n2, n3⟩, ⟨n4, n5⟩, n6, n7, n8⟩ := m1
    exact ⟨Sr.own Nm.len f1 n1 k.rs, Sr.own Nm.len f2 n2 k.ps, Sr.own Tm.len f3 n3 k.ts, Sr.own strC_len f4 n4 k.pl, Sr.own I3.len f5 n5 k.ws, Sr.own I3.len f6 n6 k.st, Sr.own Nm.len f7 n7 k.se, Sr.own Nm.len f8 n8 k.ha⟩
  · have h0 : w.ownsRow b 77 7 s.val s.l.length (s.l.flatMap Dd.cells) := h2.each (rwDeed s) (by simp [rowsDd])
    refine ⟨Rd.own Dd.len h0, Nat.le_refl _, m2.1, fun d hd => ?_, own_cap h0⟩
    have f := fun r (hr : r ∈ rowsE d) => h2.each r (by simp only [rowsDd, List.mem_cons, List.mem_flatMap]; exact .inr ⟨d, hd, hr⟩)
    simp only [rowsE, List.mem_cons, List.not_mem_nil, or_false, forall_eq_or_imp, forall_eq] at f
    obtain ⟨f1, f2, f3⟩ := f
    obtain ⟨k1, k2, k3, k4, k5, k6, k7⟩ := k.dd d hd
    obtain ⟨n1, n2, n3⟩ := m2.2 d hd
    exact ⟨k1, Sr.own Cl.len f1 n1 k2, Sr.own Wi.len f2 n2 k3, k4, k5, k6, Sr.own strC_len f3 n3 k7⟩
  · have h0 : w.ownsRow b 110 3 g.val g.l.length (g.l.flatMap Fm.cells) := h3.each (rwForm g) (by simp [rowsFm])
    have hw : ∀ z ∈ g.l, w.ownsRow b 9 1 z.sl z.ws.length (z.ws.flatMap strC) := fun z hz => h3.each (rwWords z) (by simp only [rowsFm, List.mem_cons, List.mem_map]; exact .inr ⟨z, hz, rfl⟩)
    exact ⟨⟨Rd.own fm_len h0, fun z hz => Rd.own strC_len (hw z hz)⟩, Nat.le_refl _, m3.1, fun z hz => ⟨k.fm z hz, own_cap (hw z hz)⟩, m3.2, own_cap h0⟩
  · have h0 : w.ownsRow b 29 1 q.val q.l.length (q.l.flatMap phC) := h4.each (rwPhr q) (by simp [rowsPh])
    refine ⟨Rd.own phC_len h0, Nat.le_refl _, m4.1, fun d hd => ?_, own_cap h0⟩
    have h5 : w.ownsRow b 9 1 d.val d.l.length (d.l.flatMap strC) := h4.each (rwStr d) (by simp only [rowsPh, List.mem_cons, List.mem_map]; exact .inr ⟨d, hd, rfl⟩)
    exact Sr.own strC_len h5 (m4.2 d hd) (k.ph d hd)
theorem digs_len : ∀ (f n : Nat), (digs f n).length ≤ f
  | 0, n => by simp [digs]
  | f + 1, n => by
    unfold digs
    split
    · simp
    · have := digs_len f (n / 10); simp; omega
theorem mtext_ok (k : Int) : (mtext k).size ≤ maxLen := by
  have h := digs_len 20 k.toNat
  have h2 : (mtext k).size = 1 + (digs 20 k.toNat).length := by
    show (mtext k).data.size = _
    simp [mtext]; omega
  unfold maxLen; omega
theorem mkNm_ok {k : Int} {n : Nat} : ∀ d ∈ mkNm k n, Nm.ok d := fun d hd => by
  obtain ⟨j, -, rfl⟩ := List.mem_map.1 hd
  exact mtext_ok _
theorem mkTm_ok {k : Int} {n : Nat} : ∀ d ∈ mkTm k n, Tm.ok d := fun d hd => by
  obtain ⟨j, -, rfl⟩ := List.mem_map.1 hd
  exact ⟨mtext_ok _, mtext_ok _⟩
theorem mkS_ok {k : Int} {n : Nat} : ∀ d ∈ mkS k n, strOk d := fun d hd => by
  obtain ⟨j, -, rfl⟩ := List.mem_map.1 hd
  exact mtext_ok _
theorem mkCl_ok {k : Int} {n : Nat} : ∀ d ∈ mkCl k n, Cl.ok d := fun d hd => by
  obtain ⟨j, -, rfl⟩ := List.mem_map.1 hd
  exact mtext_ok _
theorem mkWi_ok {k : Int} {n : Nat} : ∀ d ∈ mkWi k n, Wi.ok d := fun d hd => by
  obtain ⟨j, -, rfl⟩ := List.mem_map.1 hd
  exact ⟨mtext_ok _, mtext_ok _⟩
theorem mL_mem {α : Type} {mk : α → Int → α} {ct : α → Int} : ∀ (l : List α) (k : Int) (y : α), y ∈ mL mk ct l k → ∃ x ∈ l, ∃ k', y = mk x k'
  | [], _, y, h => by simp [mL] at h
  | x :: l, k, y, h => by
    rcases List.mem_cons.1 (by simpa only [mL] using h) with rfl | h
    · exact ⟨x, by simp, k, rfl⟩
    · obtain ⟨z, hz, k', e⟩ := mL_mem l _ y h
      exact ⟨z, by simp [hz], k', e⟩
/-- what marks leave -/
theorem mark_k (x : Wd) (s : Sl Dd) (g : Sl Fm) (q : Sl (Sl ByteArray)) (k1 k2 k3 k4 : Int) : EvK (mWd x k1) (mDl s k2) (mFl g k3) (mPl q k4) := by
  refine ⟨mkNm_ok, mkNm_ok, mkTm_ok, mkS_ok, mkNm_ok, mkNm_ok, fun _ _ => trivial, fun _ _ => trivial, fun d hd => ?_, fun z hz => ?_, fun p hp => ?_⟩
  · obtain ⟨d0, -, k', rfl⟩ := mL_mem _ _ _ hd
    exact ⟨mtext_ok _, mkCl_ok, mkWi_ok, mtext_ok _, mtext_ok _, mtext_ok _, mkS_ok⟩
  · obtain ⟨d0, -, k', rfl⟩ := mL_mem _ _ _ hz
    exact mkS_ok
  · obtain ⟨d0, -, k', rfl⟩ := mL_mem _ _ _ hp
    exact mkS_ok
theorem mark_m {x : Wd} {s : Sl Dd} {g : Sl Fm} {q : Sl (Sl ByteArray)} (m : SmEv x s g q) (k1 k2 k3 k4 : Int) : SmEv (mWd x k1) (mDl s k2) (mFl g k3) (mPl q k4) := by
  obtain ⟨⟨n1, ⟨n2, n3⟩, ⟨n4, n5⟩, n6, n7, n8⟩, m2, m3, m4⟩ := m
  refine ⟨⟨?_, ⟨?_, ?_⟩, ⟨?_, ?_⟩, ?_, ?_, ?_⟩, ⟨?_, fun d hd => ?_⟩, ⟨?_, fun d hd => ?_⟩, ⟨?_, fun d hd => ?_⟩⟩
  · simpa [mWd, mN_len] using n1
  · simpa [mWd, mN_len] using n2
  · simpa [mWd, mT_len] using n3
  · simpa [mWd, mS_len] using n4
  · simpa [mWd, mI_len] using n5
  · simpa [mWd, mI_len] using n6
  · simpa [mWd, mN_len] using n7
  · simpa [mWd, mN_len] using n8
  · simpa [mDl, mL_len] using m2.1
  · obtain ⟨d0, h0, k', rfl⟩ := mL_mem _ _ _ hd
    obtain ⟨a1, a2, a3⟩ := m2.2 d0 h0
    exact ⟨by simpa [mDd, mC_len] using a1, by simpa [mDd, mW_len] using a2, by simpa [mDd, mS_len] using a3⟩
  · simpa [mFl, mL_len] using m3.1
  · obtain ⟨d0, h0, k', rfl⟩ := mL_mem _ _ _ hd
    simpa [mFm, mkS_len] using m3.2 d0 h0
  · simpa [mPl, mL_len] using m4.1
  · obtain ⟨d0, h0, k', rfl⟩ := mL_mem _ _ _ hd
    simpa [mS_len] using m4.2 d0 h0
theorem nW_nn (x : Wd) : 0 ≤ nW x := by unfold nW; omega
theorem nD_nn (d : Dd) : 0 ≤ nD d := by unfold nD; omega
theorem nF_nn (d : Fm) : 0 ≤ nF d := by unfold nF; omega
theorem nP_nn (d : Sl ByteArray) : 0 ≤ nP d := by unfold nP; omega
theorem nDs_nn (l : List Dd) : 0 ≤ nDs l := by have := nL_nn nD_nn l; unfold nDs; omega
theorem nFs_nn (l : List Fm) : 0 ≤ nFs l := by have := nL_nn nF_nn l; unfold nFs; omega
theorem nPs_nn (l : List (Sl ByteArray)) : 0 ≤ nPs l := by have := nL_nn nP_nn l; unfold nPs; omega
theorem ev_sm {x : Wd} {s : Sl Dd} {g : Sl Fm} {q : Sl (Sl ByteArray)} (h : nEv x s g q ≤ 2000000) : SmEv x s g q := by
  have h1 := nW_nn x
  have h2 := nDs_nn s.l
  have h3 := nFs_nn g.l
  have h4 := nPs_nn q.l
  have h5 := nL_nn nD_nn s.l
  have h6 := nL_nn nF_nn g.l
  have h7 := nL_nn nP_nn q.l
  unfold nEv at h
  refine ⟨?_, ⟨?_, fun d hd => ?_⟩, ⟨?_, fun d hd => ?_⟩, ⟨?_, fun d hd => ?_⟩⟩
  · unfold nW at h h1
    refine ⟨?_, ⟨?_, ?_⟩, ⟨?_, ?_⟩, ?_, ?_, ?_⟩ <;> omega
  · unfold nDs at h; omega
  · have := nL_mem nD_nn s.l d hd
    have e : nD d = (d.da.l.length : Int) + d.wi.l.length + d.ci.l.length := rfl
    unfold nDs at h
    refine ⟨?_, ?_, ?_⟩ <;> omega
  · unfold nFs at h; omega
  · have := nL_mem nF_nn g.l d hd
    have e : nF d = (d.ws.length : Int) := rfl
    unfold nFs at h
    omega
  · unfold nPs at h; omega
  · have := nL_mem nP_nn q.l d hd
    have e : nP d = (d.l.length : Int) := rfl
    unfold nPs at h
    omega
theorem cL_le {α : Type} {ct n : α → Int} {a b : Int} (h : ∀ x, ct x ≤ a + b * n x) : ∀ l : List α, cL ct l ≤ a * l.length + b * nL n l
  | [] => by simp [cL, nL]
  | x :: l => by
    have h1 := cL_le h l
    have h2 := h x
    simp only [cL, nL, List.length_cons]
    rw [Int.mul_add, Int.natCast_add, Int.mul_add]
    simp only [Int.natCast_one]
    omega
theorem cEv_le (x : Wd) (s : Sl Dd) (g : Sl Fm) (q : Sl (Sl ByteArray)) : 0 ≤ cEv x s g q ∧ cEv x s g q ≤ 8 * nEv x s g q := by
  have h1 : cW x ≤ 4 * nW x := by unfold cW nW; omega
  have h2 := cL_le (ct := cD) (n := nD) (a := 4) (b := 8) (fun d => by unfold cD nD; omega) s.l
  have h3 := cL_le (ct := cF) (n := nF) (a := 2) (b := 1) (fun d => by unfold cF nF; omega) g.l
  have h4 := cL_le (ct := cP) (n := nP) (a := 0) (b := 1) (fun d => by unfold cP nP; omega) q.l
  have g1 := nW_nn x
  have g2 := nL_nn nD_nn s.l
  have g3 := nL_nn nF_nn g.l
  have g4 := nL_nn nP_nn q.l
  have f1 := cW_nn x
  have f2 := cL_nn cD_nn s.l
  have f3 := cL_nn cF_nn g.l
  have f4 := cL_nn cP_nn q.l
  unfold cEv nEv nDs nFs nPs cDs
  refine ⟨?_, ?_⟩ <;> omega
/-- what a deed says without one that it cites -/
def wdQ (nm : ByteArray) (d : Pd) : Pd := ⟨d.nm, d.da, d.wi, d.pl, d.se, d.ha, d.ci.filter fun z => !(z.toList == nm.toList)⟩
theorem wdN_p {l m : List Dd} (h : m.map Dd.p = l.map Dd.p) (i : Nat) : wdN m i = wdN l i := by
  have := congrArg (fun z : List Pd => z[i]?) h
  simp only [List.getElem?_map] at this
  unfold wdN
  rcases h1 : m[i]? with _ | a <;> rcases h2 : l[i]? with _ | b <;> rw [h1, h2] at this <;> simp at this
  exact this.1
theorem erase_map {α β : Type} {f : α → β} : ∀ (l : List α) (i : Nat), (l.eraseIdx i).map f = (l.map f).eraseIdx i
  | [], _ => by simp
  | x :: l, 0 => rfl
  | x :: l, i + 1 => by simp [erase_map l i]
theorem wd_same {l m : List Dd} (h : m.map Dd.p = l.map Dd.p) (i : Nat) : (m.eraseIdx i).map (wdP (wdN m i)) = (l.eraseIdx i).map (wdP (wdN l i)) := by
  have e : ∀ (z : List Dd) (nm : ByteArray), (z.eraseIdx i).map (wdP nm) = ((z.map Dd.p).eraseIdx i).map (wdQ nm) := fun z nm => by
    rw [← erase_map, List.map_map]; rfl
  rw [e, e, h, wdN_p h]
theorem WR.same {x x' : Wd} {s s' : Sl Dd} {g g' : Sl Fm} {q q' : Sl (Sl ByteArray)} {i c : Int} {y y' : Wd} {t t' : Sl Dd} {h h' : Sl Fm} {r r' : Sl (Sl ByteArray)}
    (a : WR x s g q i c y t h r) (b : WR x' s' g' q' i c y' t' h' r') (e : EvE x x' s s' g g' q q') : EvE y y' t t' h h' r r' := by
  by_cases hc : c = 0
  · obtain ⟨a1, a2, a3, a4⟩ := a.good hc
    obtain ⟨b1, b2, b3, b4⟩ := b.good hc
    refine ⟨by rw [b1, a1, e.a], by rw [b2, a2]; exact wd_same e.b _, by rw [b3, a3, e.c], ?_⟩
    rw [b4, a4]
    show (q'.l.eraseIdx i.toNat).map _ = (q.l.eraseIdx i.toNat).map _
    rw [erase_map, erase_map]
    exact congrArg (fun z : List (List ByteArray) => z.eraseIdx i.toNat) e.d
  · obtain ⟨a1, a2, a3, a4⟩ := a.bad hc
    obtain ⟨b1, b2, b3, b4⟩ := b.bad hc
    exact ⟨by rw [a1, b1], by rw [a2, b2], by rw [a3, b3], by rw [a4, b4]⟩
theorem nL_map {α β : Type} {f : α → Int} {g : β → Int} {p : α → β} (h : ∀ x, f x = g (p x)) : ∀ l : List α, nL f l = nL g (l.map p)
  | [] => rfl
  | x :: l => by simp only [nL, List.map_cons, nL_map h l, h x]
theorem nL_erase {α : Type} {f : α → Int} (h : ∀ x, 0 ≤ f x) : ∀ (l : List α) (i : Nat), nL f (l.eraseIdx i) ≤ nL f l
  | [], _ => by simp
  | x :: l, 0 => by have := h x; simp only [List.eraseIdx_zero, List.tail_cons, nL]; omega
  | x :: l, i + 1 => by have := nL_erase h l i; simp only [List.eraseIdx_cons_succ, nL]; omega
theorem nL_le {α β : Type} {f : α → Int} {g : β → Int} {p : β → α} (h : ∀ x, f (p x) ≤ g x) : ∀ l : List β, nL f (l.map p) ≤ nL g l
  | [] => Int.le_refl _
  | x :: l => by have := nL_le h l; have := h x; simp only [nL, List.map_cons]; omega
def nDp (d : Pd) : Int := (d.da.length : Int) + d.wi.length + d.ci.length
/-- the answer has no more than what was asked about -/
theorem WR.le {x : Wd} {s : Sl Dd} {g : Sl Fm} {q : Sl (Sl ByteArray)} {i c : Int} {y : Wd} {t : Sl Dd} {h : Sl Fm} {r : Sl (Sl ByteArray)} (a : WR x s g q i c y t h r) : nEv y t h r ≤ nEv x s g q := by
  have g1 := nW_nn x
  have g2 := nDs_nn s.l
  have g3 := nFs_nn g.l
  have g4 := nPs_nn q.l
  by_cases hc : c = 0
  · obtain ⟨a1, a2, a3, a4⟩ := a.good hc
    have h1 : nW y = nW x := by
      simp only [Wd.p, Pw.mk.injEq] at a1
      obtain ⟨e1, -, -, e2, e3, e4, e5, e6, e7, e8⟩ := a1
      unfold nW; rw [e1, e2, e3, e4, e5, e6, e7, e8]
    have h2 : nDs t.l ≤ nDs s.l := by
      have l1 : t.l.length ≤ s.l.length := by
        have := congrArg List.length a2
        rw [List.length_map, List.length_map] at this
        have := List.length_eraseIdx_le s.l i.toNat
        omega
      have l2 : nL nD t.l ≤ nL nD s.l := by
        rw [nL_map (f := nD) (g := nDp) (p := Dd.p) (fun _ => rfl) t.l, a2]
        refine Int.le_trans (nL_le (g := nD) (fun d => ?_) _) (nL_erase nD_nn _ _)
        have := List.length_filter_le (fun z : ByteArray => !(z.toList == (wdN s.l i.toNat).toList)) d.ci.l
        unfold nDp nD wdP; simp only []; omega
      unfold nDs; omega
    have h3 : nFs h.l = nFs g.l := by
      have l1 : h.l.length = g.l.length := by simpa using congrArg List.length a3
      unfold nFs
      rw [nL_map (f := nF) (g := fun z : List ByteArray × Int × Int => (z.1.length : Int)) (p := Fm.p) (fun _ => rfl) h.l, nL_map (f := nF) (g := fun z : List ByteArray × Int × Int => (z.1.length : Int)) (p := Fm.p) (fun _ => rfl) g.l, a3, l1]
    have h4 : nPs r.l ≤ nPs q.l := by
      have l1 : r.l.length ≤ q.l.length := by
        have := congrArg List.length a4
        rw [List.length_map, List.length_map] at this
        have := List.length_eraseIdx_le q.l i.toNat
        omega
      have l2 : nL nP r.l ≤ nL nP q.l := by
        rw [nL_map (f := nP) (g := fun z : List ByteArray => (z.length : Int)) (p := fun p : Sl ByteArray => p.l) (fun _ => rfl) r.l]
        have := a4
        unfold phP at this
        rw [this, ← nL_map (f := nP) (g := fun z : List ByteArray => (z.length : Int)) (p := fun p : Sl ByteArray => p.l) (fun _ => rfl)]
        exact nL_erase nP_nn _ _
      unfold nPs; omega
    unfold nEv; omega
  · obtain ⟨a1, a2, a3, a4⟩ := a.bad hc
    have h1 : nW y = 0 := by
      simp only [Wd.p, Pw.mk.injEq] at a1
      obtain ⟨e1, -, -, e2, e3, e4, e5, e6, e7, e8⟩ := a1
      unfold nW; rw [e1, e2, e3, e4, e5, e6, e7, e8]; rfl
    unfold nEv
    rw [h1, a2, a3, a4]
    unfold nEv nDs nFs nPs at *
    simp [nL]; omega
theorem evB_eq {x x' : Wd} {s s' : Sl Dd} {g g' : Sl Fm} {q q' : Sl (Sl ByteArray)} (e : EvE x x' s s' g g' q q') (i : Int) : evC (evB x'.p (s'.l.map Dd.p) g'.l q'.l) s'.l.length i = evC (evB x.p (s.l.map Dd.p) g.l q.l) s.l.length i := by
  have h1 : q'.l.length = q.l.length := by simpa using congrArg List.length e.d
  have h2 : phsB q'.l = phsB q.l := by
    have := congrArg (fun m => m.all fun p => phB p) e.d
    simpa [List.all_map, Function.comp_def] using this
  have h3 : s'.l.length = s.l.length := by simpa using congrArg List.length e.b
  unfold evB
  rw [e.a, e.b, afB_same e.c, h1, h2, h3]
theorem RawDd.sm {w : World} {lo hi : Nat} {s : Sl Dd} (h : RawDd w lo hi s) (k : s.l.length ≤ 2000000 ∧ ∀ d ∈ s.l, SmE d) : RdDd w lo hi s :=
  ⟨h.rd, h.hhi, k.1, fun d hd => (h.each d hd).rd (k.2 d hd), h.cap⟩
theorem EvR.raw {w : World} {lo hi : Nat} {x : Wd} {s : Sl Dd} {g : Sl Fm} {q : Sl (Sl ByteArray)} (h1 : RawW w lo hi x) (h2 : RawDd w lo hi s) (h3 : RawF w lo hi g) (h4 : RawPh w lo hi q) (m : SmEv x s g q) : EvR w lo hi x s g q :=
  ⟨h1.rd m.1, RawDd.sm h2 m.2.1, h3.sr m.2.2.1, h4.sr m.2.2.2⟩
theorem EvR.k {w : World} {lo hi : Nat} {x : Wd} {s : Sl Dd} {g : Sl Fm} {q : Sl (Sl ByteArray)} (h : EvR w lo hi x s g q) : EvK x s g q :=
  ⟨h.a.rs.ok, h.a.ps.ok, h.a.ts.ok, h.a.pl.ok, h.a.se.ok, h.a.ha.ok, h.a.ws.ok, h.a.st.ok, fun d hd => by
    have k := h.b.each d hd
    exact ⟨k.nm, k.da.ok, k.wi.ok, k.pl, k.se, k.ha, k.ci.ok⟩, fun z hz => (h.c.ok z hz).1, fun p hp => (h.d.each p hp).ok⟩
theorem EvE.n {x x' : Wd} {s s' : Sl Dd} {g g' : Sl Fm} {q q' : Sl (Sl ByteArray)} (e : EvE x x' s s' g g' q q') : nEv x' s' g' q' = nEv x s g q := by
  obtain ⟨a1, a2, a3, a4⟩ := e
  have h1 : nW x' = nW x := by
    simp only [Wd.p, Pw.mk.injEq] at a1
    obtain ⟨e1, -, -, e2, e3, e4, e5, e6, e7, e8⟩ := a1
    unfold nW; rw [e1, e2, e3, e4, e5, e6, e7, e8]
  have h2 : nDs s'.l = nDs s.l := by
    have l1 : s'.l.length = s.l.length := by simpa using congrArg List.length a2
    unfold nDs
    rw [nL_map (f := nD) (g := nDp) (p := Dd.p) (fun _ => rfl) s'.l, nL_map (f := nD) (g := nDp) (p := Dd.p) (fun _ => rfl) s.l, a2, l1]
  have h3 : nFs g'.l = nFs g.l := by
    have l1 : g'.l.length = g.l.length := by simpa using congrArg List.length a3
    unfold nFs
    rw [nL_map (f := nF) (g := fun z : List ByteArray × Int × Int => (z.1.length : Int)) (p := Fm.p) (fun _ => rfl) g'.l, nL_map (f := nF) (g := fun z : List ByteArray × Int × Int => (z.1.length : Int)) (p := Fm.p) (fun _ => rfl) g.l, a3, l1]
  have h4 : nPs q'.l = nPs q.l := by
    have l1 : q'.l.length = q.l.length := by simpa using congrArg List.length a4
    unfold nPs
    rw [nL_map (f := nP) (g := fun z : List ByteArray => (z.length : Int)) (p := fun p : Sl ByteArray => p.l) (fun _ => rfl) q'.l, nL_map (f := nP) (g := fun z : List ByteArray => (z.length : Int)) (p := fun p : Sl ByteArray => p.l) (fun _ => rfl) q.l, l1]
    exact congrArg (fun z => (q.l.length : Int) + nL (fun z : List ByteArray => (z.length : Int)) z) a4
  unfold nEv; rw [h1, h2, h3, h4]
theorem EvE.k {x x' : Wd} {s s' : Sl Dd} {g g' : Sl Fm} {q q' : Sl (Sl ByteArray)} (e : EvE x x' s s' g g' q q') (k : EvK x s g q) : EvK x' s' g' q' := by
  obtain ⟨a1, a2, a3, a4⟩ := e
  simp only [Wd.p, Pw.mk.injEq] at a1
  obtain ⟨e1, -, -, e2, e3, e4, e5, e6, e7, e8⟩ := a1
  refine ⟨by rw [e1]; exact k.rs, by rw [e2]; exact k.ps, by rw [e3]; exact k.ts, by rw [e4]; exact k.pl, by rw [e7]; exact k.se, by rw [e8]; exact k.ha, fun _ _ => trivial, fun _ _ => trivial, fun d hd => ?_, fun z hz => ?_, fun p hp => ?_⟩
  · have h2 : d.p ∈ s.l.map Dd.p := by rw [← a2]; exact List.mem_map_of_mem hd
    obtain ⟨z, hz, e⟩ := List.mem_map.1 h2
    simp only [Dd.p, Pd.mk.injEq] at e
    obtain ⟨f1, f2, f3, f4, f5, f6, f7⟩ := e
    have := k.dd z hz
    rw [f1, f2, f3, f4, f5, f6, f7] at this
    exact this
  · have h2 : z.p ∈ g.l.map Fm.p := by rw [← a3]; exact List.mem_map_of_mem hz
    obtain ⟨y, hy, e⟩ := List.mem_map.1 h2
    have f1 : y.ws = z.ws := congrArg (·.1) e
    rw [← f1]; exact k.fm y hy
  · have h2 : p.l ∈ phP q.l := by rw [← a4]; exact List.mem_map_of_mem hp
    obtain ⟨y, hy, e⟩ := List.mem_map.1 h2
    rw [← e]; exact k.ph y hy
theorem WR.k {x : Wd} {s : Sl Dd} {g : Sl Fm} {q : Sl (Sl ByteArray)} {i c : Int} {y : Wd} {t : Sl Dd} {h : Sl Fm} {r : Sl (Sl ByteArray)} (a : WR x s g q i c y t h r) (k : EvK x s g q) : EvK y t h r := by
  by_cases hc : c = 0
  · obtain ⟨a1, a2, a3, a4⟩ := a.good hc
    simp only [Wd.p, Pw.mk.injEq] at a1
    obtain ⟨e1, -, -, e2, e3, e4, e5, e6, e7, e8⟩ := a1
    refine ⟨by rw [e1]; exact k.rs, by rw [e2]; exact k.ps, by rw [e3]; exact k.ts, by rw [e4]; exact k.pl, by rw [e7]; exact k.se, by rw [e8]; exact k.ha, fun _ _ => trivial, fun _ _ => trivial, fun d hd => ?_, fun z hz => ?_, fun p hp => ?_⟩
    · have h2 : d.p ∈ (s.l.eraseIdx i.toNat).map (wdP (wdN s.l i.toNat)) := by rw [← a2]; exact List.mem_map_of_mem hd
      obtain ⟨z, hz, e⟩ := List.mem_map.1 h2
      have hz' := List.mem_of_mem_eraseIdx hz
      simp only [wdP, Dd.p, Pd.mk.injEq] at e
      obtain ⟨f1, f2, f3, f4, f5, f6, f7⟩ := e
      obtain ⟨g1, g2, g3, g4, g5, g6, g7⟩ := k.dd z hz'
      rw [f1] at g1; rw [f2] at g2; rw [f3] at g3; rw [f4] at g4; rw [f5] at g5; rw [f6] at g6
      exact ⟨g1, g2, g3, g4, g5, g6, fun t ht => by rw [← f7] at ht; exact g7 t (List.mem_filter.1 ht).1⟩
    · have h2 : z.p ∈ g.l.map Fm.p := by rw [← a3]; exact List.mem_map_of_mem hz
      obtain ⟨y, hy, e⟩ := List.mem_map.1 h2
      have f1 : y.ws = z.ws := congrArg (·.1) e
      rw [← f1]; exact k.fm y hy
    · have h2 : p.l ∈ phP (q.l.eraseIdx i.toNat) := by rw [← a4]; exact List.mem_map_of_mem hp
      obtain ⟨y, hy, e⟩ := List.mem_map.1 h2
      rw [← e]; exact k.ph y (List.mem_of_mem_eraseIdx hy)
  · obtain ⟨a1, a2, a3, a4⟩ := a.bad hc
    simp only [Wd.p, Pw.mk.injEq] at a1
    obtain ⟨e1, -, -, e2, e3, e4, e5, e6, e7, e8⟩ := a1
    refine ⟨by rw [e1]; simp, by rw [e2]; simp, by rw [e3]; simp, by rw [e4]; simp, by rw [e7]; simp, by rw [e8]; simp, fun _ _ => trivial, fun _ _ => trivial, by rw [a2]; simp, by rw [a3]; simp, by rw [a4]; simp⟩
theorem eqEv_e {x x' : Wd} {s s' : Sl Dd} {g g' : Sl Fm} {q q' : Sl (Sl ByteArray)} {w : World} {lo hi lo' hi' : Nat} (r : EvR w lo hi x s g q) (k : EvR w lo' hi' x' s' g' q') (e : EvE x x' s s' g g' q q') :
    Calls Tryz.prog 8 #[.agg #[.slice x.rs.A x.rs.l.length x.rs.c, .int .i64 x.fr, .int .i64 x.to_, .slice x.ps.A x.ps.l.length x.ps.c, .slice x.ts.A x.ts.l.length x.ts.c, .slice x.pl.A x.pl.l.length x.pl.c, .slice x.ws.A x.ws.l.length x.ws.c, .slice x.st.A x.st.l.length x.st.c, .slice x.se.A x.se.l.length x.se.c, .slice x.ha.A x.ha.l.length x.ha.c, .slice s.A s.l.length s.c, .slice g.A g.l.length g.c, .slice q.A q.l.length q.c], .agg #[.slice x'.rs.A x'.rs.l.length x'.rs.c, .int .i64 x'.fr, .int .i64 x'.to_, .slice x'.ps.A x'.ps.l.length x'.ps.c, .slice x'.ts.A x'.ts.l.length x'.ts.c, .slice x'.pl.A x'.pl.l.length x'.pl.c, .slice x'.ws.A x'.ws.l.length x'.ws.c, .slice x'.st.A x'.st.l.length x'.st.c, .slice x'.se.A x'.se.l.length x'.se.c, .slice x'.ha.A x'.ha.l.length x'.ha.c, .slice s'.A s'.l.length s'.c, .slice g'.A g'.l.length g'.c, .slice q'.A q'.l.length q'.c]] w fun e w' => e = .returned (.bool true) ∧ Up w w' :=
  eqEvidence_p x s g q x' s' g' q' lo hi lo' hi' w r.a r.b r.c r.d k.a k.b k.c k.d e.a e.b e.c e.d
/-- what the walk of the law wants of both -/
def WdPost (w : World) (i c : Int) (x : Wd) (s : Sl Dd) (g : Sl Fm) (q : Sl (Sl ByteArray)) (e : Ending) (w' : World) : Prop :=
  ∃ (y : Wd) (t : Sl Dd) (g' : Sl Fm) (q' : Sl (Sl ByteArray)), e = .returned (.tuple #[.agg #[.slice y.rs.A y.rs.l.length y.rs.c, .int .i64 y.fr, .int .i64 y.to_, .slice y.ps.A y.ps.l.length y.ps.c, .slice y.ts.A y.ts.l.length y.ts.c, .slice y.pl.A y.pl.l.length y.pl.c, .slice y.ws.A y.ws.l.length y.ws.c, .slice y.st.A y.st.l.length y.st.c, .slice y.se.A y.se.l.length y.se.c, .slice y.ha.A y.ha.l.length y.ha.c, .slice t.A t.l.length t.c, .slice g'.A g'.l.length g'.c, .slice q'.A q'.l.length q'.c], .int .i64 c]) ∧ WR x s g q i c y t g' q' ∧ OwA w' w.heap.size (rowsEv y t g' q') ∧ Up w w'
theorem specWD {x xa : Wd} {s sa : Sl Dd} {g ga : Sl Fm} {q qa : Sl (Sl ByteArray)} (i c : Int) (hc : c = evC (evB x.p (s.l.map Dd.p) g.l q.l) s.l.length i) {lo hi : Nat} {w : World} (e : EvE x xa s sa g ga q qa) (r : EvR w lo hi xa sa ga qa) :
    Calls Tryz.prog 5 #[.agg #[.slice xa.rs.A xa.rs.l.length xa.rs.c, .int .i64 xa.fr, .int .i64 xa.to_, .slice xa.ps.A xa.ps.l.length xa.ps.c, .slice xa.ts.A xa.ts.l.length xa.ts.c, .slice xa.pl.A xa.pl.l.length xa.pl.c, .slice xa.ws.A xa.ws.l.length xa.ws.c, .slice xa.st.A xa.st.l.length xa.st.c, .slice xa.se.A xa.se.l.length xa.se.c, .slice xa.ha.A xa.ha.l.length xa.ha.c, .slice sa.A sa.l.length sa.c, .slice ga.A ga.l.length ga.c, .slice qa.A qa.l.length qa.c], .int .i64 i] w (WdPost w i c xa sa ga qa) := by
  rw [hc, ← evB_eq e i]
  exact specWithoutDeed_any xa sa ga qa i lo hi w r.a r.b r.c r.d
theorem implWD {x xa : Wd} {s sa : Sl Dd} {g ga : Sl Fm} {q qa : Sl (Sl ByteArray)} (i c : Int) (hc : c = evC (evB x.p (s.l.map Dd.p) g.l q.l) s.l.length i) {lo hi : Nat} {w : World} (e : EvE x xa s sa g ga q qa) (r : EvR w lo hi xa sa ga qa) :
    Calls Tryz.prog 7 #[.agg #[.slice xa.rs.A xa.rs.l.length xa.rs.c, .int .i64 xa.fr, .int .i64 xa.to_, .slice xa.ps.A xa.ps.l.length xa.ps.c, .slice xa.ts.A xa.ts.l.length xa.ts.c, .slice xa.pl.A xa.pl.l.length xa.pl.c, .slice xa.ws.A xa.ws.l.length xa.ws.c, .slice xa.st.A xa.st.l.length xa.st.c, .slice xa.se.A xa.se.l.length xa.se.c, .slice xa.ha.A xa.ha.l.length xa.ha.c, .slice sa.A sa.l.length sa.c, .slice ga.A ga.l.length ga.c, .slice qa.A qa.l.length qa.c], .int .i64 i] w (WdPost w i c xa sa ga qa) := by
  rw [hc, ← evB_eq e i]
  exact implWithoutDeed_any xa sa ga qa i lo hi w r.a r.b r.c r.d
end Go.Proofs.YtblpjjcjnaigiaaGreatDoor
