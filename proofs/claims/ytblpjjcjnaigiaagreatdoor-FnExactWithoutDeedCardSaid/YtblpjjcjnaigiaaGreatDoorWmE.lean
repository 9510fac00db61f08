/- Marks on evidence that the call itself made, and whether they are still held. -/
import Derived.Test.YtblpjjcjnaigiaaGreatDoorWmD
namespace Go.Proofs.YtblpjjcjnaigiaaGreatDoor
open Go.RowKit Go.Sort

def rowsEv (x : Wd) (s : Sl Dd) (g : Sl Fm) (q : Sl (Sl ByteArray)) : List Rw := rowsW x ++ (rowsDd s ++ (rowsFm g ++ rowsPh q))
def SmEv (x : Wd) (s : Sl Dd) (g : Sl Fm) (q : Sl (Sl ByteArray)) : Prop := SmW x ∧ SmDd s ∧ SmFm g ∧ SmPh q
def mDl (s : Sl Dd) (k : Int) : Sl Dd := ⟨s.A, s.c, mDs s.l k⟩
def mFl (s : Sl Fm) (k : Int) : Sl Fm := ⟨s.A, s.c, mL mFm cF s.l k⟩
def mPl (s : Sl (Sl ByteArray)) (k : Int) : Sl (Sl ByteArray) := ⟨s.A, s.c, mL mS cP s.l k⟩
def cEv (x : Wd) (s : Sl Dd) (g : Sl Fm) (q : Sl (Sl ByteArray)) : Int := cW x + cDs s.l + cL cF g.l + cL cP q.l
theorem heldDeedS_c (s : Sl Dd) (k : Int) (w : World) (lo hi : Nat) (h : RdDd w lo hi (mDl s k)) (h0 : 1 ≤ k) (hk : k + cDs s.l ≤ 60000000) :
    Calls Tryz.prog 39 #[.slice s.A s.l.length s.c, .int .i64 k] w fun e w' => e = .returned (.int .i64 (k + cDs s.l)) ∧ Up w w' := heldDeedS_any s k w lo hi h h0 hk
set_option maxRecDepth 20000 in
set_option maxHeartbeats 2000000 in
theorem markEvidence_any (x : Wd) (s : Sl Dd) (g : Sl Fm) (q : Sl (Sl ByteArray)) (k : Int) (w : World) (base : Nat) (h : OwA w base (rowsEv x s g q)) (hs : SmEv x s g q) (h0 : 1 ≤ k) (hk : k + cEv x s g q ≤ 60000000) :
    Calls Tryz.prog 9 #[.agg #[.slice x.rs.A x.rs.l.length x.rs.c, .int .i64 x.fr, .int .i64 x.to_, .slice x.ps.A x.ps.l.length x.ps.c, .slice x.ts.A x.ts.l.length x.ts.c, .slice x.pl.A x.pl.l.length x.pl.c, .slice x.ws.A x.ws.l.length x.ws.c, .slice x.st.A x.st.l.length x.st.c, .slice x.se.A x.se.l.length x.se.c, .slice x.ha.A x.ha.l.length x.ha.c, .slice s.A s.l.length s.c, .slice g.A g.l.length g.c, .slice q.A q.l.length q.c], .int .i64 k] w fun e w' => e = .returned (.int .i64 (k + cEv x s g q)) ∧ MkA w w' (rowsEv x s g q) (rowsEv (mWd x (k)) (mDl s (k + cW x)) (mFl g (k + cW x + cDs s.l)) (mPl q (k + cW x + cDs s.l + cL cF g.l))) := by
  unfold cEv at hk ⊢
  obtain ⟨n1, n2, n3, n4⟩ := hs
  have w1 := cW_nn x
  have w2 : 0 ≤ cDs s.l := cL_nn cD_nn s.l
  have w3 := cL_nn cF_nn g.l
  have w4 := cL_nn cP_nn q.l
  have qO : OwA w base (rowsW x ++ (rowsDd s ++ (rowsFm g ++ (rowsPh q)))) := h
  have hnew := qO.new (Nat.le_refl w.heap.size)
  have hB := Bx.new w #[.slice x.rs.A x.rs.l.length x.rs.c, .int .i64 x.fr, .int .i64 x.to_, .slice x.ps.A x.ps.l.length x.ps.c, .slice x.ts.A x.ts.l.length x.ts.c, .slice x.pl.A x.pl.l.length x.pl.c, .slice x.ws.A x.ws.l.length x.ws.c, .slice x.st.A x.st.l.length x.st.c, .slice x.se.A x.se.l.length x.se.c, .slice x.ha.A x.ha.l.length x.ha.c, .slice s.A s.l.length s.c, .slice g.A g.l.length g.c, .slice q.A q.l.length q.c] 60
  have u := Up.alloc w (.cells #[.slice x.rs.A x.rs.l.length x.rs.c, .int .i64 x.fr, .int .i64 x.to_, .slice x.ps.A x.ps.l.length x.ps.c, .slice x.ts.A x.ts.l.length x.ts.c, .slice x.pl.A x.pl.l.length x.pl.c, .slice x.ws.A x.ws.l.length x.ws.c, .slice x.st.A x.st.l.length x.st.c, .slice x.se.A x.se.l.length x.se.c, .slice x.ha.A x.ha.l.length x.ha.c, .slice s.A s.l.length s.c, .slice g.A g.l.length g.c, .slice q.A q.l.length q.c] 60)
  replace qO := qO.up u
  go_enter Tryz.func9, Tryz.ntmps9
  go_wp2_with fail
  generalize w.alloc (.cells #[.slice x.rs.A x.rs.l.length x.rs.c, .int .i64 x.fr, .int .i64 x.to_, .slice x.ps.A x.ps.l.length x.ps.c, .slice x.ts.A x.ts.l.length x.ts.c, .slice x.pl.A x.pl.l.length x.pl.c, .slice x.ws.A x.ws.l.length x.ws.c, .slice x.st.A x.st.l.length x.st.c, .slice x.se.A x.se.l.length x.se.c, .slice x.ha.A x.ha.l.length x.ha.c, .slice s.A s.l.length s.c, .slice g.A g.l.length g.c, .slice q.A q.l.length q.c] 60) = w0 at *
  obtain ⟨x0, x1, x2, x3, x4, x5, x6, x7, x8, x9, x10, x11, x12⟩ := hB.c13
  refine (markWorld_any x (k) _ base qO.left n1 (by omega) (by omega)).mono ?_
  rintro e w1 ⟨rfl, v1⟩
  replace hB := hB.mka v1 (fun r hr => hnew r (List.mem_append_left _ hr))
  replace qO := ((v1.left (rowsDd s ++ (rowsFm g ++ (rowsPh q)))).own qO).right
  obtain ⟨x0, x1, x2, x3, x4, x5, x6, x7, x8, x9, x10, x11, x12⟩ := hB.c13
  go_wp2_with fail
  refine (markDeedS_any s (k + cW x) _ base qO.left n2 (by omega) (by omega)).mono ?_
  rintro e w2 ⟨rfl, v2⟩
  replace hB := hB.mka v2 (fun r hr => hnew r (List.mem_append_right _ (List.mem_append_left _ hr)))
  replace qO := ((v2.left (rowsFm g ++ (rowsPh q))).own qO).right
  obtain ⟨x0, x1, x2, x3, x4, x5, x6, x7, x8, x9, x10, x11, x12⟩ := hB.c13
  go_wp2_with fail
  refine (markFormulaS_any g (k + cW x + cDs s.l) _ base qO.left n3 (by omega) (by omega)).mono ?_
  rintro e w3 ⟨rfl, v3⟩
  replace hB := hB.mka v3 (fun r hr => hnew r (List.mem_append_right _ (List.mem_append_right _ (List.mem_append_left _ hr))))
  replace qO := ((v3.left (rowsPh q)).own qO).right
  obtain ⟨x0, x1, x2, x3, x4, x5, x6, x7, x8, x9, x10, x11, x12⟩ := hB.c13
  go_wp2_with fail
  refine (markStringSS_any q (k + cW x + cDs s.l + cL cF g.l) _ base qO n4 (by omega) (by omega)).mono ?_
  rintro e w4 ⟨rfl, v4⟩
  replace hB := hB.mka v4 (fun r hr => hnew r (List.mem_append_right _ (List.mem_append_right _ (List.mem_append_right _ hr))))
  go_wp2
  go_ret
  exact ⟨ret_int (by omega), (MkA.up u).trans (v1.both (v2.both (v3.both v4)))⟩
set_option maxRecDepth 20000 in
set_option maxHeartbeats 2000000 in
theorem heldEvidence_any (x : Wd) (s : Sl Dd) (g : Sl Fm) (q : Sl (Sl ByteArray)) (k : Int) (w : World) (lo hi : Nat) (h1 : RdW w lo hi (mWd x (k))) (h2 : RdDd w lo hi (mDl s (k + cW x))) (h3 : SrF w lo hi (mFl g (k + cW x + cDs s.l))) (h4 : SrPh w lo hi (mPl q (k + cW x + cDs s.l + cL cF g.l))) (h0 : 1 ≤ k) (hk : k + cEv x s g q ≤ 60000000) :
    Calls Tryz.prog 10 #[.agg #[.slice x.rs.A x.rs.l.length x.rs.c, .int .i64 x.fr, .int .i64 x.to_, .slice x.ps.A x.ps.l.length x.ps.c, .slice x.ts.A x.ts.l.length x.ts.c, .slice x.pl.A x.pl.l.length x.pl.c, .slice x.ws.A x.ws.l.length x.ws.c, .slice x.st.A x.st.l.length x.st.c, .slice x.se.A x.se.l.length x.se.c, .slice x.ha.A x.ha.l.length x.ha.c, .slice s.A s.l.length s.c, .slice g.A g.l.length g.c, .slice q.A q.l.length q.c], .int .i64 k] w fun e w' => e = .returned (.int .i64 (k + cEv x s g q)) ∧ Up w w' := by
  unfold cEv at hk ⊢
  have w1 := cW_nn x
  have w2 : 0 ≤ cDs s.l := cL_nn cD_nn s.l
  have w3 := cL_nn cF_nn g.l
  have w4 := cL_nn cP_nn q.l
  have hB := Bx.new w #[.slice x.rs.A x.rs.l.length x.rs.c, .int .i64 x.fr, .int .i64 x.to_, .slice x.ps.A x.ps.l.length x.ps.c, .slice x.ts.A x.ts.l.length x.ts.c, .slice x.pl.A x.pl.l.length x.pl.c, .slice x.ws.A x.ws.l.length x.ws.c, .slice x.st.A x.st.l.length x.st.c, .slice x.se.A x.se.l.length x.se.c, .slice x.ha.A x.ha.l.length x.ha.c, .slice s.A s.l.length s.c, .slice g.A g.l.length g.c, .slice q.A q.l.length q.c] 60
  have u := Up.alloc w (.cells #[.slice x.rs.A x.rs.l.length x.rs.c, .int .i64 x.fr, .int .i64 x.to_, .slice x.ps.A x.ps.l.length x.ps.c, .slice x.ts.A x.ts.l.length x.ts.c, .slice x.pl.A x.pl.l.length x.pl.c, .slice x.ws.A x.ws.l.length x.ws.c, .slice x.st.A x.st.l.length x.st.c, .slice x.se.A x.se.l.length x.se.c, .slice x.ha.A x.ha.l.length x.ha.c, .slice s.A s.l.length s.c, .slice g.A g.l.length g.c, .slice q.A q.l.length q.c] 60)
  go_enter Tryz.func10, Tryz.ntmps10
  go_wp2_with fail
  generalize w.alloc (.cells #[.slice x.rs.A x.rs.l.length x.rs.c, .int .i64 x.fr, .int .i64 x.to_, .slice x.ps.A x.ps.l.length x.ps.c, .slice x.ts.A x.ts.l.length x.ts.c, .slice x.pl.A x.pl.l.length x.pl.c, .slice x.ws.A x.ws.l.length x.ws.c, .slice x.st.A x.st.l.length x.st.c, .slice x.se.A x.se.l.length x.se.c, .slice x.ha.A x.ha.l.length x.ha.c, .slice s.A s.l.length s.c, .slice g.A g.l.length g.c, .slice q.A q.l.length q.c] 60) = w0 at *
  obtain ⟨x0, x1, x2, x3, x4, x5, x6, x7, x8, x9, x10, x11, x12⟩ := hB.c13
  refine (heldWorld_any x (k) _ lo hi (h1.up u) (by omega) (by omega)).mono ?_
  rintro e w1 ⟨rfl, v⟩
  replace u := u.trans v
  replace hB := hB.up v
  clear v
  have hd0 : decide (k + cW x < 0) = false := by simp; omega
  obtain ⟨x0, x1, x2, x3, x4, x5, x6, x7, x8, x9, x10, x11, x12⟩ := hB.c13
  go_wp2_with fail
  refine (heldDeedS_c s (k + cW x) _ lo hi (h2.up u) (by omega) (by omega)).mono ?_
  rintro e w2 ⟨rfl, v⟩
  replace u := u.trans v
  replace hB := hB.up v
  clear v
  have hd1 : decide (k + cW x + cDs s.l < 0) = false := by simp; omega
  obtain ⟨x0, x1, x2, x3, x4, x5, x6, x7, x8, x9, x10, x11, x12⟩ := hB.c13
  go_wp2_with fail
  refine (heldFormulaS_any g (k + cW x + cDs s.l) _ lo hi (h3.up u) (by omega) (by omega)).mono ?_
  rintro e w3 ⟨rfl, v⟩
  replace u := u.trans v
  replace hB := hB.up v
  clear v
  have hd2 : decide (k + cW x + cDs s.l + cL cF g.l < 0) = false := by simp; omega
  obtain ⟨x0, x1, x2, x3, x4, x5, x6, x7, x8, x9, x10, x11, x12⟩ := hB.c13
  go_wp2_with fail
  refine (heldStringSS_any q (k + cW x + cDs s.l + cL cF g.l) _ lo hi (h4.up u) (by omega) (by omega)).mono ?_
  rintro e w4 ⟨rfl, v⟩
  replace u := u.trans v
  replace hB := hB.up v
  clear v
  have hd3 : decide (k + cW x + cDs s.l + cL cF g.l + cL cP q.l < 0) = false := by simp; omega
  obtain ⟨x0, x1, x2, x3, x4, x5, x6, x7, x8, x9, x10, x11, x12⟩ := hB.c13
  go_wp2
  go_ret
  exact ⟨ret_int (by omega), u⟩
end Go.Proofs.YtblpjjcjnaigiaaGreatDoor
