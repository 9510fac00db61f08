/- The codes of evidence and an index; the closure of WithoutDeed; how lists of own slices grow. -/
import Derived.Test.YtblpjjcjnaigiaaGreatDoorWnB
import Derived.Test.YtblpjjcjnaigiaaGreatDoorWnE
import Derived.Test.YtblpjjcjnaigiaaGreatDoorVk
namespace Go.Proofs.YtblpjjcjnaigiaaGreatDoor
open Go.RowKit Go.Sort

def evC (b : Bool) (n : Nat) (i : Int) : Int := if b = true then (if inB i 0 ((n : Int) - 1) = true then 0 else 2) else 1
set_option maxRecDepth 20000 in
set_option maxHeartbeats 2000000 in
theorem l25Code_any (x : Wd) (s : Sl Dd) (g : Sl Fm) (q : Sl (Sl ByteArray)) (i : Int) (lo hi : Nat) (w : World) (h : RdW w lo hi x) (h2 : RdDd w lo hi s) (h3 : SrF w lo hi g) (h4 : SrPh w lo hi q) :
    Calls Tryz.prog 15 #[.agg #[.slice x.rs.A x.rs.l.length x.rs.c, .int .i64 x.fr, .int .i64 x.to_, .slice x.ps.A x.ps.l.length x.ps.c, .slice x.ts.A x.ts.l.length x.ts.c, .slice x.pl.A x.pl.l.length x.pl.c, .slice x.ws.A x.ws.l.length x.ws.c, .slice x.st.A x.st.l.length x.st.c, .slice x.se.A x.se.l.length x.se.c, .slice x.ha.A x.ha.l.length x.ha.c, .slice s.A s.l.length s.c, .slice g.A g.l.length g.c, .slice q.A q.l.length q.c], .int .i64 i] w fun e w' => e = .returned (.int .i64 (evC (evB x.p (s.l.map Dd.p) g.l q.l) s.l.length i)) ∧ Up w w' := by
  have hsl := h2.len
  obtain ⟨b, hb⟩ : ∃ z, z = evB x.p (s.l.map Dd.p) g.l q.l := ⟨_, rfl⟩
  obtain ⟨bb, hbb⟩ : ∃ z, z = inB i 0 ((s.l.length : Int) - 1) := ⟨_, rfl⟩
  have c1 := fun wx (u : Up w wx) => specIsEvidence_any x s g q lo hi wx (h.up u) (h2.up u) (h3.up u) (h4.up u)
  have c2 := fun wx => l01In_any i 0 ((s.l.length : Int) - 1) wx
  simp only [← hb] at c1 ⊢
  simp only [← hbb] at c2
  have K1 := Lib.hid c1
  have K2 := Lib.hid c2
  have HB := Lib.hid (show evC b s.l.length i = if b = true then (if bb = true then 0 else 2) else 1 by unfold evC; rw [hbb])
  clear c1 c2 hb hbb h h2 h3 h4
  have hw : IntKind.i64.wrap ((s.l.length : Int) - 1) = (s.l.length : Int) - 1 := IntWalk.i64_in _ (by omega)
  have u := Up.alloc w (.cells #[.slice x.rs.A x.rs.l.length x.rs.c, .int .i64 x.fr, .int .i64 x.to_, .slice x.ps.A x.ps.l.length x.ps.c, .slice x.ts.A x.ts.l.length x.ts.c, .slice x.pl.A x.pl.l.length x.pl.c, .slice x.ws.A x.ws.l.length x.ws.c, .slice x.st.A x.st.l.length x.st.c, .slice x.se.A x.se.l.length x.se.c, .slice x.ha.A x.ha.l.length x.ha.c, .slice s.A s.l.length s.c, .slice g.A g.l.length g.c, .slice q.A q.l.length q.c] 60)
  have hB := Bx.new w #[.slice x.rs.A x.rs.l.length x.rs.c, .int .i64 x.fr, .int .i64 x.to_, .slice x.ps.A x.ps.l.length x.ps.c, .slice x.ts.A x.ts.l.length x.ts.c, .slice x.pl.A x.pl.l.length x.pl.c, .slice x.ws.A x.ws.l.length x.ws.c, .slice x.st.A x.st.l.length x.st.c, .slice x.se.A x.se.l.length x.se.c, .slice x.ha.A x.ha.l.length x.ha.c, .slice s.A s.l.length s.c, .slice g.A g.l.length g.c, .slice q.A q.l.length q.c] 60
  go_enter Tryz.func15, Tryz.ntmps15
  go_wp2_with fail
  generalize w.alloc (.cells #[.slice x.rs.A x.rs.l.length x.rs.c, .int .i64 x.fr, .int .i64 x.to_, .slice x.ps.A x.ps.l.length x.ps.c, .slice x.ts.A x.ts.l.length x.ts.c, .slice x.pl.A x.pl.l.length x.pl.c, .slice x.ws.A x.ws.l.length x.ws.c, .slice x.st.A x.st.l.length x.st.c, .slice x.se.A x.se.l.length x.se.c, .slice x.ha.A x.ha.l.length x.ha.c, .slice s.A s.l.length s.c, .slice g.A g.l.length g.c, .slice q.A q.l.length q.c] 60) = W1 at *
  obtain ⟨x0, x1, x2, x3, x4, x5, x6, x7, x8, x9, x10, x11, x12⟩ := hB.c13
  rcases b with _ | _
  · go_wp2_with first | (go_at_call 50; refine (K1.out _ u).mono ?_; rintro e wn ⟨rfl, v⟩; replace u := u.trans v; replace hB := hB.up v; clear v; obtain ⟨x0, x1, x2, x3, x4, x5, x6, x7, x8, x9, x10, x11, x12⟩ := hB.c13) | (go_at_call 51; refine (K2.out _).mono ?_; rintro e wm ⟨rfl, rfl⟩)
    go_ret
    exact ⟨ret_int (by rw [HB.out]; rfl), u⟩
  rcases bb with _ | _
  · go_wp2_with first | (go_at_call 50; refine (K1.out _ u).mono ?_; rintro e wn ⟨rfl, v⟩; replace u := u.trans v; replace hB := hB.up v; clear v; obtain ⟨x0, x1, x2, x3, x4, x5, x6, x7, x8, x9, x10, x11, x12⟩ := hB.c13) | (go_at_call 51; refine (K2.out _).mono ?_; rintro e wm ⟨rfl, rfl⟩)
    go_ret
    exact ⟨ret_int (by rw [HB.out]; rfl), u⟩
  · go_wp2_with first | (go_at_call 50; refine (K1.out _ u).mono ?_; rintro e wn ⟨rfl, v⟩; replace u := u.trans v; replace hB := hB.up v; clear v; obtain ⟨x0, x1, x2, x3, x4, x5, x6, x7, x8, x9, x10, x11, x12⟩ := hB.c13) | (go_at_call 51; refine (K2.out _).mono ?_; rintro e wm ⟨rfl, rfl⟩)
    go_ret
    exact ⟨ret_int (by rw [HB.out]; rfl), u⟩
set_option maxRecDepth 20000 in
set_option maxHeartbeats 2000000 in
theorem checkEvidence_any (x : Wd) (s : Sl Dd) (g : Sl Fm) (q : Sl (Sl ByteArray)) (i : Int) (lo hi : Nat) (w : World) (h : RdW w lo hi x) (h2 : RdDd w lo hi s) (h3 : SrF w lo hi g) (h4 : SrPh w lo hi q) :
    Calls Tryz.prog 23 #[.agg #[.slice x.rs.A x.rs.l.length x.rs.c, .int .i64 x.fr, .int .i64 x.to_, .slice x.ps.A x.ps.l.length x.ps.c, .slice x.ts.A x.ts.l.length x.ts.c, .slice x.pl.A x.pl.l.length x.pl.c, .slice x.ws.A x.ws.l.length x.ws.c, .slice x.st.A x.st.l.length x.st.c, .slice x.se.A x.se.l.length x.se.c, .slice x.ha.A x.ha.l.length x.ha.c, .slice s.A s.l.length s.c, .slice g.A g.l.length g.c, .slice q.A q.l.length q.c], .int .i64 i] w fun e w' => e = .returned (.int .i64 (evC (evB x.p (s.l.map Dd.p) g.l q.l) s.l.length i)) ∧ Up w w' := by
  have hsl := h2.len
  obtain ⟨b, hb⟩ : ∃ z, z = evB x.p (s.l.map Dd.p) g.l q.l := ⟨_, rfl⟩
  obtain ⟨bb, hbb⟩ : ∃ z, z = inB i 0 ((s.l.length : Int) - 1) := ⟨_, rfl⟩
  have c1 := fun wx (u : Up w wx) => implIsEvidence_any x s g q lo hi wx (h.up u) (h2.up u) (h3.up u) (h4.up u)
  have c2 := fun wx => within_any i 0 ((s.l.length : Int) - 1) wx
  simp only [← hb] at c1 ⊢
  simp only [← hbb] at c2
  have K1 := Lib.hid c1
  have K2 := Lib.hid c2
  have HB := Lib.hid (show evC b s.l.length i = if b = true then (if bb = true then 0 else 2) else 1 by unfold evC; rw [hbb])
  clear c1 c2 hb hbb h h2 h3 h4
  have hw : IntKind.i64.wrap ((s.l.length : Int) - 1) = (s.l.length : Int) - 1 := IntWalk.i64_in _ (by omega)
  have u := Up.alloc w (.cells #[.slice x.rs.A x.rs.l.length x.rs.c, .int .i64 x.fr, .int .i64 x.to_, .slice x.ps.A x.ps.l.length x.ps.c, .slice x.ts.A x.ts.l.length x.ts.c, .slice x.pl.A x.pl.l.length x.pl.c, .slice x.ws.A x.ws.l.length x.ws.c, .slice x.st.A x.st.l.length x.st.c, .slice x.se.A x.se.l.length x.se.c, .slice x.ha.A x.ha.l.length x.ha.c, .slice s.A s.l.length s.c, .slice g.A g.l.length g.c, .slice q.A q.l.length q.c] 60)
  have hB := Bx.new w #[.slice x.rs.A x.rs.l.length x.rs.c, .int .i64 x.fr, .int .i64 x.to_, .slice x.ps.A x.ps.l.length x.ps.c, .slice x.ts.A x.ts.l.length x.ts.c, .slice x.pl.A x.pl.l.length x.pl.c, .slice x.ws.A x.ws.l.length x.ws.c, .slice x.st.A x.st.l.length x.st.c, .slice x.se.A x.se.l.length x.se.c, .slice x.ha.A x.ha.l.length x.ha.c, .slice s.A s.l.length s.c, .slice g.A g.l.length g.c, .slice q.A q.l.length q.c] 60
  go_enter Tryz.func23, Tryz.ntmps23
  go_wp2_with fail
  generalize w.alloc (.cells #[.slice x.rs.A x.rs.l.length x.rs.c, .int .i64 x.fr, .int .i64 x.to_, .slice x.ps.A x.ps.l.length x.ps.c, .slice x.ts.A x.ts.l.length x.ts.c, .slice x.pl.A x.pl.l.length x.pl.c, .slice x.ws.A x.ws.l.length x.ws.c, .slice x.st.A x.st.l.length x.st.c, .slice x.se.A x.se.l.length x.se.c, .slice x.ha.A x.ha.l.length x.ha.c, .slice s.A s.l.length s.c, .slice g.A g.l.length g.c, .slice q.A q.l.length q.c] 60) = W1 at *
  obtain ⟨x0, x1, x2, x3, x4, x5, x6, x7, x8, x9, x10, x11, x12⟩ := hB.c13
  rcases b with _ | _
  · go_wp2_with first | (go_at_call 60; refine (K1.out _ u).mono ?_; rintro e wn ⟨rfl, v⟩; replace u := u.trans v; replace hB := hB.up v; clear v; obtain ⟨x0, x1, x2, x3, x4, x5, x6, x7, x8, x9, x10, x11, x12⟩ := hB.c13) | (go_at_call 61; refine (K2.out _).mono ?_; rintro e wm ⟨rfl, rfl⟩)
    go_ret
    exact ⟨ret_int (by rw [HB.out]; rfl), u⟩
  rcases bb with _ | _
  · go_wp2_with first | (go_at_call 60; refine (K1.out _ u).mono ?_; rintro e wn ⟨rfl, v⟩; replace u := u.trans v; replace hB := hB.up v; clear v; obtain ⟨x0, x1, x2, x3, x4, x5, x6, x7, x8, x9, x10, x11, x12⟩ := hB.c13) | (go_at_call 61; refine (K2.out _).mono ?_; rintro e wm ⟨rfl, rfl⟩)
    go_ret
    exact ⟨ret_int (by rw [HB.out]; rfl), u⟩
  · go_wp2_with first | (go_at_call 60; refine (K1.out _ u).mono ?_; rintro e wn ⟨rfl, v⟩; replace u := u.trans v; replace hB := hB.up v; clear v; obtain ⟨x0, x1, x2, x3, x4, x5, x6, x7, x8, x9, x10, x11, x12⟩ := hB.c13) | (go_at_call 61; refine (K2.out _).mono ?_; rintro e wm ⟨rfl, rfl⟩)
    go_ret
    exact ⟨ret_int (by rw [HB.out]; rfl), u⟩
set_option maxRecDepth 20000 in
set_option maxHeartbeats 2000000 in
theorem wdClosure_any (z : ByteArray) (be bi : Nat) (s : Sl Dd) (k lo hi : Nat) (d : Dd) (w : World) (hd : s.l[k]? = some d) (hr : Rd w lo hi 7 Dd.cells s.A s.l) (h0 : w.cell? ⟨be, 10, none⟩ = some (.slice s.A s.l.length s.c)) (h1 : w.cell? ⟨bi, 0, none⟩ = some (.int .i64 (k : Int))) (_hn : s.l.length ≤ 2000000) :
    Calls Tryz.prog 28 #[.string z, .pointer (some ⟨be, 0, none⟩), .pointer (some ⟨bi, 0, none⟩)] w fun e w' => e = .returned (.bool (z.toList == d.nm.toList)) ∧ Up w w' := by
  obtain ⟨hk, -⟩ := List.getElem?_eq_some_iff.1 hd
  obtain ⟨b, off, d', hA, -, -, hd', q0, -⟩ := hr.dd hk
  rw [hd] at hd'
  obtain rfl := Option.some.inj hd'
  rw [hA] at h0
  clear hd hd' hA hr
  go_enter Tryz.func28, Tryz.ntmps28
  go_wp2
  go_ret
  exact ⟨rfl, Up.refl _⟩
def NB (L : List Rw) (b : Nat) : Prop := ∀ r ∈ L, r.v.ownBlock ≠ some b
theorem NB.perm {L M : List Rw} {b : Nat} (h : NB L b) (p : L.Perm M) : NB M b := fun r hr => h r (p.mem_iff.2 hr)
theorem infoDeedW : (Tryz.prog.info? 77).map (fun i => (i.zero, i.size, i.bytes)) = some (some (.agg #[.string ByteArray.empty, .slice none 0 0, .slice none 0 0, .string ByteArray.empty, .string ByteArray.empty, .string ByteArray.empty, .slice none 0 0]), 7, 136) := by kernel_rfl
theorem infoStrSW : (Tryz.prog.info? 29).map (fun i => (i.zero, i.size, i.bytes)) = some (some (.slice none 0 0), 1, 24) := by kernel_rfl
theorem OwA.snoc {w w1 w2 w' : World} {base bx : Nat} {r r' : Rw} {I R N : List Rw} (h : OwA w base (r :: I ++ R)) (hn : NB (r :: I ++ R) bx) (u : Up w w1) (hb : base ≤ w.heap.size) (hbx : bx < w.heap.size) (hy : OwA w1 w.heap.size N) (u2 : Up w1 w2)
    (hown : r'.own w' base) (hg : w2.grownBy w' r.v.ownBlock) (hat : r'.v.ownBlock = r.v.ownBlock ∨ r'.v.ownBlock = some w2.heap.size) : OwA w' base (r' :: (I ++ N) ++ R) ∧ NB (r' :: (I ++ N) ++ R) bx := by
  have h1 : OwA w2 base (r :: (I ++ R ++ N)) := by
    have := (h.append u hb hy).up u2
    simpa using this
  have h2 := h1.push (r' := r') hown hg hat
  have p : (r' :: (I ++ R ++ N)).Perm (r' :: (I ++ N) ++ R) := by
    have e1 : r' :: (I ++ R ++ N) = (r' :: I) ++ (R ++ N) := by simp
    have e2 : r' :: (I ++ N) ++ R = (r' :: I) ++ (N ++ R) := by simp
    rw [e1, e2]
    exact List.Perm.append_left _ List.perm_append_comm
  refine ⟨h2.perm p, fun x hx e => ?_⟩
  have hx2 := p.mem_iff.2 hx
  rcases List.mem_cons.1 hx2 with rfl | hx3
  · rcases hat with q | q
    · exact hn r (by simp) (by rw [← q]; exact e)
    · rw [q] at e
      have := u.size; have := u2.size
      cases e
      omega
  · rcases List.mem_append.1 hx3 with hx4 | hx4
    · exact hn x (by simp only [List.cons_append, List.mem_cons]; exact .inr hx4) e
    · have := (hy.lt hx4 e).1
      omega
/-- a list of deeds grew by one -/
theorem OwA.ddSnoc {w w1 w2 w' : World} {base bx : Nat} {t : Sl Dd} {y : Dd} {R : List Rw} {b cap : Nat} (h : OwA w base (rowsDd t ++ R)) (hn : NB (rowsDd t ++ R) bx) (u : Up w w1) (hb : base ≤ w.heap.size) (hbx : bx < w.heap.size) (hy : OwA w1 w.heap.size (rowsE y)) (u2 : Up w1 w2)
    (hown : w'.ownsRow base 77 7 (.slice (some ⟨b, 0, none⟩) (t.l.length + 1) cap) (t.l.length + 1) (t.l.flatMap Dd.cells ++ y.cells)) (hg : w2.grownBy w' t.val.ownBlock)
    (hat : t.val.ownBlock = some b ∨ b = w2.heap.size) : OwA w' base (rowsDd ⟨some ⟨b, 0, none⟩, cap, t.l ++ [y]⟩ ++ R) ∧ NB (rowsDd ⟨some ⟨b, 0, none⟩, cap, t.l ++ [y]⟩ ++ R) bx := by
  have := OwA.snoc (r := rwDeed t) (r' := rwDeed ⟨some ⟨b, 0, none⟩, cap, t.l ++ [y]⟩) (I := t.l.flatMap rowsE) (R := R) (N := rowsE y) h hn u hb hbx hy u2 (by
    show w'.ownsRow base 77 7 (.slice (some ⟨b, 0, none⟩) (t.l ++ [y]).length cap) (t.l ++ [y]).length ((t.l ++ [y]).flatMap Dd.cells)
    rw [List.length_append, List.flatMap_append]; simpa using hown) hg (by
    rcases hat with q | q
    · exact .inl q.symm
    · exact .inr (by show some b = _; rw [q]))
  simpa [rowsDd, List.flatMap_append] using this
/-- a list of phrases grew by one -/
theorem OwA.phSnoc {w w1 w2 w' : World} {base bx : Nat} {t : Sl (Sl ByteArray)} {y : Sl ByteArray} {R : List Rw} {b cap : Nat} (h : OwA w base (rowsPh t ++ R)) (hn : NB (rowsPh t ++ R) bx) (u : Up w w1) (hb : base ≤ w.heap.size) (hbx : bx < w.heap.size) (hy : (rwStr y).own w1 w.heap.size) (u2 : Up w1 w2)
    (hown : w'.ownsRow base 29 1 (.slice (some ⟨b, 0, none⟩) (t.l.length + 1) cap) (t.l.length + 1) (t.l.flatMap phC ++ phC y)) (hg : w2.grownBy w' t.val.ownBlock)
    (hat : t.val.ownBlock = some b ∨ b = w2.heap.size) : OwA w' base (rowsPh ⟨some ⟨b, 0, none⟩, cap, t.l ++ [y]⟩ ++ R) ∧ NB (rowsPh ⟨some ⟨b, 0, none⟩, cap, t.l ++ [y]⟩ ++ R) bx := by
  have := OwA.snoc (r := rwPhr t) (r' := rwPhr ⟨some ⟨b, 0, none⟩, cap, t.l ++ [y]⟩) (I := t.l.map rwStr) (R := R) (N := [rwStr y]) h hn u hb hbx (OwA.one hy) u2 (by
    show w'.ownsRow base 29 1 (.slice (some ⟨b, 0, none⟩) (t.l ++ [y]).length cap) (t.l ++ [y]).length ((t.l ++ [y]).flatMap phC)
    rw [List.length_append, List.flatMap_append]; simpa using hown) hg (by
    rcases hat with q | q
    · exact .inl q.symm
    · exact .inr (by show some b = _; rw [q]))
  simpa [rowsPh, List.map_append] using this

end Go.Proofs.YtblpjjcjnaigiaaGreatDoor
