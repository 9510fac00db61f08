/- The walk of the law FnExactWithoutDeed: whatever the arguments, it returns true and changes nothing that was there. -/
import Derived.Test.YtblpjjcjnaigiaaGreatDoorWoC
import Derived.Deep.RegionHeld3
namespace Go.Proofs.YtblpjjcjnaigiaaGreatDoor
open Go.RowKit Go.Sort

theorem up_lt {w : World} {o : Obj} (_ : Up w (w.alloc o)) : w.heap.size < (w.alloc o).heap.size := by simp
set_option maxRecDepth 100000 in
set_option maxHeartbeats 16000000 in
theorem fnExactWithoutDeed_walk (x : Wd) (s : Sl Dd) (g : Sl Fm) (q : Sl (Sl ByteArray)) (i : Int) (w : World) (h1 : RawW w 0 w.heap.size x) (h2 : RawDd w 0 w.heap.size s) (h3 : RawF w 0 w.heap.size g) (h4 : RawPh w 0 w.heap.size q) (_h5 : True) :
   Calls Tryz.prog 3 #[.agg #[.slice x.rs.A x.rs.l.length x.rs.c, .int .i64 x.fr, .int .i64 x.to_, .slice x.ps.A x.ps.l.length x.ps.c, .slice x.ts.A x.ts.l.length x.ts.c, .slice x.pl.A x.pl.l.length x.pl.c, .slice x.ws.A x.ws.l.length x.ws.c, .slice x.st.A x.st.l.length x.st.c, .slice x.se.A x.se.l.length x.se.c, .slice x.ha.A x.ha.l.length x.ha.c, .slice s.A s.l.length s.c, .slice g.A g.l.length g.c, .slice q.A q.l.length q.c], .int .i64 i] w fun e w' => e = .returned (.bool true) ∧ Up w w' := by
 have u := Up.alloc w (.cells #[.slice x.rs.A x.rs.l.length x.rs.c, .int .i64 x.fr, .int .i64 x.to_, .slice x.ps.A x.ps.l.length x.ps.c, .slice x.ts.A x.ts.l.length x.ts.c, .slice x.pl.A x.pl.l.length x.pl.c, .slice x.ws.A x.ws.l.length x.ws.c, .slice x.st.A x.st.l.length x.st.c, .slice x.se.A x.se.l.length x.se.c, .slice x.ha.A x.ha.l.length x.ha.c, .slice s.A s.l.length s.c, .slice g.A g.l.length g.c, .slice q.A q.l.length q.c] 41)
 have hA := Bx.new w #[.slice x.rs.A x.rs.l.length x.rs.c, .int .i64 x.fr, .int .i64 x.to_, .slice x.ps.A x.ps.l.length x.ps.c, .slice x.ts.A x.ts.l.length x.ts.c, .slice x.pl.A x.pl.l.length x.pl.c, .slice x.ws.A x.ws.l.length x.ws.c, .slice x.st.A x.st.l.length x.st.c, .slice x.se.A x.se.l.length x.se.c, .slice x.ha.A x.ha.l.length x.ha.c, .slice s.A s.l.length s.c, .slice g.A g.l.length g.c, .slice q.A q.l.length q.c] 41
 have hsz : w.heap.size + 1 ≤ _ := up_lt u
 have HS := Lib.hid (fun (wx : World) (u : Up w wx) => szEvidence_any x s g q 0 w.heap.size 1048576 wx (h1.up u) (h2.up u) (h3.up u) (h4.up u) (by omega) (by omega))
 have HR := Lib.hid (fun (m : SmEv x s g q) => EvR.raw h1 h2 h3 h4 m)
 clear h1 h2 h3 h4
 go_enter Tryz.func3, Tryz.ntmps3
 go_wp2_with fail
 generalize w.alloc (.cells #[.slice x.rs.A x.rs.l.length x.rs.c, .int .i64 x.fr, .int .i64 x.to_, .slice x.ps.A x.ps.l.length x.ps.c, .slice x.ts.A x.ts.l.length x.ts.c, .slice x.pl.A x.pl.l.length x.pl.c, .slice x.ws.A x.ws.l.length x.ws.c, .slice x.st.A x.st.l.length x.st.c, .slice x.se.A x.se.l.length x.se.c, .slice x.ha.A x.ha.l.length x.ha.c, .slice s.A s.l.length s.c, .slice g.A g.l.length g.c, .slice q.A q.l.length q.c] 41) = W0 at *
 refine (HS.out _ u).mono ?_
 rintro e w1 ⟨z, rfl, hz, sm, v⟩
 replace u := u.trans v
 replace hA := hA.up v
 replace hsz := Nat.le_trans hsz v.size
 clear v HS
 obtain ⟨x0, x1, x2, x3, x4, x5, x6, x7, x8, x9, x10, x11, x12⟩ := hA.c13
 by_cases c : z < 0
 · have hd : decide (z < 0) = true := by simpa using c
   clear sm
   go_wp2
   go_ret
   exact ⟨rfl, u⟩
 have hd : decide (z < 0) = false := by simpa using c
 have hn : nEv x s g q ≤ 1048576 := by have := sm.resolve_left c; omega
 have HN := Lib.hid hn
 have R := Lib.hid (HR.out (ev_sm (by omega)))
 clear hn sm HR
 have HT := Lib.hid (fun (wx : World) (u : Up w wx) => toEvidence_any x s g q 0 w.heap.size wx (R.out.a.up u) (R.out.b.up u) (R.out.c.up u) (R.out.d.up u))
 obtain ⟨cc, hcc⟩ : ∃ z, z = evC (evB x.p (s.l.map Dd.p) g.l q.l) s.l.length i := ⟨_, rfl⟩
 have HC := Lib.hid hcc
 clear hcc
 have hne : (cc != cc) = false := by simp
 go_wp2_with fail
 refine (HT.out _ u).mono ?_
 rintro e w2 ⟨xa, sa, ga, qa, rfl, e1, e2, e3, e4, oN, v⟩
 have Ea := Lib.hid (show EvE x xa s sa g ga q qa from ⟨e1, e2, e3, e4⟩)
 clear e1 e2 e3 e4
 have Ra := Lib.hid (EvR.own oN Ea.out R.out)
 clear oN
 replace u := u.trans v
 replace hA := hA.up v
 replace hsz := Nat.le_trans hsz v.size
 clear v
 obtain ⟨x0, x1, x2, x3, x4, x5, x6, x7, x8, x9, x10, x11, x12⟩ := hA.c13
 go_wp2_with fail
 refine (specWD i cc HC.out Ea.out Ra.out).mono ?_
 rintro e w3 ⟨y0, t0, f0, p0, rfl, wr, oN, v⟩
 have W0 := Lib.hid wr
 clear wr
 have K0 := Lib.hid (show SmEv y0 t0 f0 p0 ∧ EvK y0 t0 f0 p0 ∧ nEv y0 t0 f0 p0 ≤ 1048576 from ⟨ev_sm (by have := W0.out.le; have := Ea.out.n; have := HN.out; omega), W0.out.k (Ea.out.k R.out.k), by have := W0.out.le; have := Ea.out.n; have := HN.out; omega⟩)
 have oA := oN.base hsz
 clear oN
 replace u := u.trans v
 replace hA := hA.up v
 replace hsz := Nat.le_trans hsz v.size
 have hW := Bx.new w3 #[.slice y0.rs.A y0.rs.l.length y0.rs.c, .int .i64 y0.fr, .int .i64 y0.to_, .slice y0.ps.A y0.ps.l.length y0.ps.c, .slice y0.ts.A y0.ts.l.length y0.ts.c, .slice y0.pl.A y0.pl.l.length y0.pl.c, .slice y0.ws.A y0.ws.l.length y0.ws.c, .slice y0.st.A y0.st.l.length y0.st.c, .slice y0.se.A y0.se.l.length y0.se.c, .slice y0.ha.A y0.ha.l.length y0.ha.c, .slice t0.A t0.l.length t0.c, .slice f0.A f0.l.length f0.c, .slice p0.A p0.l.length p0.c] 60
 have v := Up.alloc w3 (.cells #[.slice y0.rs.A y0.rs.l.length y0.rs.c, .int .i64 y0.fr, .int .i64 y0.to_, .slice y0.ps.A y0.ps.l.length y0.ps.c, .slice y0.ts.A y0.ts.l.length y0.ts.c, .slice y0.pl.A y0.pl.l.length y0.pl.c, .slice y0.ws.A y0.ws.l.length y0.ws.c, .slice y0.st.A y0.st.l.length y0.st.c, .slice y0.se.A y0.se.l.length y0.se.c, .slice y0.ha.A y0.ha.l.length y0.ha.c, .slice t0.A t0.l.length t0.c, .slice f0.A f0.l.length f0.c, .slice p0.A p0.l.length p0.c] 60)
 replace u := u.trans v
 replace hA := hA.up v
 replace hsz := Nat.le_trans hsz v.size
 replace oA := oA.up v
 have szW := up_lt v
 obtain ⟨x0, x1, x2, x3, x4, x5, x6, x7, x8, x9, x10, x11, x12⟩ := hA.c13
 clear v
 go_wp2_with fail
 generalize w3.alloc (.cells #[.slice y0.rs.A y0.rs.l.length y0.rs.c, .int .i64 y0.fr, .int .i64 y0.to_, .slice y0.ps.A y0.ps.l.length y0.ps.c, .slice y0.ts.A y0.ts.l.length y0.ts.c, .slice y0.pl.A y0.pl.l.length y0.pl.c, .slice y0.ws.A y0.ws.l.length y0.ws.c, .slice y0.st.A y0.st.l.length y0.st.c, .slice y0.se.A y0.se.l.length y0.se.c, .slice y0.ha.A y0.ha.l.length y0.ha.c, .slice t0.A t0.l.length t0.c, .slice f0.A f0.l.length f0.c, .slice p0.A p0.l.length p0.c] 60) = W4 at *
 go_wp2_with fail
 refine (HT.out _ u).mono ?_
 rintro e w5 ⟨xb, sb, gb, qb, rfl, e1, e2, e3, e4, oN, v⟩
 have Eb := Lib.hid (show EvE x xb s sb g gb q qb from ⟨e1, e2, e3, e4⟩)
 clear e1 e2 e3 e4
 have nXW := Lib.hid (show NB (rowsEv xb sb gb qb) w3.heap.size from fun r hr e => by have := (oN.lt hr e).1; omega)
 have nXX := Lib.hid (show NB (rowsEv xb sb gb qb) w5.heap.size from oN.new (Nat.le_refl _))
 have oM := oA.append v hsz oN
 clear oN oA
 have oA := oM
 clear oM
 replace u := u.trans v
 replace hA := hA.up v
 replace hsz := Nat.le_trans hsz v.size
 replace hW := hW.up v
 replace szW := Nat.lt_of_lt_of_le szW v.size
 clear v
 have hX := Bx.new w5 #[.slice xb.rs.A xb.rs.l.length xb.rs.c, .int .i64 xb.fr, .int .i64 xb.to_, .slice xb.ps.A xb.ps.l.length xb.ps.c, .slice xb.ts.A xb.ts.l.length xb.ts.c, .slice xb.pl.A xb.pl.l.length xb.pl.c, .slice xb.ws.A xb.ws.l.length xb.ws.c, .slice xb.st.A xb.st.l.length xb.st.c, .slice xb.se.A xb.se.l.length xb.se.c, .slice xb.ha.A xb.ha.l.length xb.ha.c, .slice sb.A sb.l.length sb.c, .slice gb.A gb.l.length gb.c, .slice qb.A qb.l.length qb.c] 60
 have v := Up.alloc w5 (.cells #[.slice xb.rs.A xb.rs.l.length xb.rs.c, .int .i64 xb.fr, .int .i64 xb.to_, .slice xb.ps.A xb.ps.l.length xb.ps.c, .slice xb.ts.A xb.ts.l.length xb.ts.c, .slice xb.pl.A xb.pl.l.length xb.pl.c, .slice xb.ws.A xb.ws.l.length xb.ws.c, .slice xb.st.A xb.st.l.length xb.st.c, .slice xb.se.A xb.se.l.length xb.se.c, .slice xb.ha.A xb.ha.l.length xb.ha.c, .slice sb.A sb.l.length sb.c, .slice gb.A gb.l.length gb.c, .slice qb.A qb.l.length qb.c] 60)
 replace u := u.trans v
 replace hA := hA.up v
 replace hsz := Nat.le_trans hsz v.size
 replace hW := hW.up v
 replace szW := Nat.lt_of_lt_of_le szW v.size
 replace oA := oA.up v
 have szX := up_lt v
 clear v
 go_wp2_with fail
 generalize w5.alloc (.cells #[.slice xb.rs.A xb.rs.l.length xb.rs.c, .int .i64 xb.fr, .int .i64 xb.to_, .slice xb.ps.A xb.ps.l.length xb.ps.c, .slice xb.ts.A xb.ts.l.length xb.ts.c, .slice xb.pl.A xb.pl.l.length xb.pl.c, .slice xb.ws.A xb.ws.l.length xb.ws.c, .slice xb.st.A xb.st.l.length xb.st.c, .slice xb.se.A xb.se.l.length xb.se.c, .slice xb.ha.A xb.ha.l.length xb.ha.c, .slice sb.A sb.l.length sb.c, .slice gb.A gb.l.length gb.c, .slice qb.A qb.l.length qb.c] 60) = W6 at *
 obtain ⟨dd0, dd1, dd2, dd3, dd4, dd5, dd6, dd7, dd8, dd9, dd10, dd11, dd12⟩ := hX.c13
 go_wp2_with fail
 refine (implWD i cc HC.out Eb.out (EvR.own oA.right Eb.out R.out)).mono ?_
 rintro e w7 ⟨y1, t1, f1, p1, rfl, wr, oN, v⟩
 have W1 := Lib.hid wr
 clear wr
 have K1 := Lib.hid (show SmEv y1 t1 f1 p1 ∧ EvK y1 t1 f1 p1 ∧ nEv y1 t1 f1 p1 ≤ 1048576 from ⟨ev_sm (by have := W1.out.le; have := Eb.out.n; have := HN.out; omega), W1.out.k (Eb.out.k R.out.k), by have := W1.out.le; have := Eb.out.n; have := HN.out; omega⟩)
 have nGW := Lib.hid (show NB (rowsEv y1 t1 f1 p1) w3.heap.size from fun r hr e => by have := (oN.lt hr e).1; omega)
 have nGX := Lib.hid (show NB (rowsEv y1 t1 f1 p1) w5.heap.size from fun r hr e => by have := (oN.lt hr e).1; omega)
 have nGG := Lib.hid (show NB (rowsEv y1 t1 f1 p1) w7.heap.size from oN.new (Nat.le_refl _))
 have oM := oA.append v hsz oN
 have nXG := Lib.hid (show NB (rowsEv xb sb gb qb) w7.heap.size from oM.left.right.new (Nat.le_refl _))
 clear oN oA
 have oA := oM
 clear oM
 replace u := u.trans v
 replace hA := hA.up v
 replace hsz := Nat.le_trans hsz v.size
 replace hW := hW.up v
 replace szW := Nat.lt_of_lt_of_le szW v.size
 replace hX := hX.up v
 replace szX := Nat.lt_of_lt_of_le szX v.size
 clear v
 have hG := Bx.new w7 #[.slice y1.rs.A y1.rs.l.length y1.rs.c, .int .i64 y1.fr, .int .i64 y1.to_, .slice y1.ps.A y1.ps.l.length y1.ps.c, .slice y1.ts.A y1.ts.l.length y1.ts.c, .slice y1.pl.A y1.pl.l.length y1.pl.c, .slice y1.ws.A y1.ws.l.length y1.ws.c, .slice y1.st.A y1.st.l.length y1.st.c, .slice y1.se.A y1.se.l.length y1.se.c, .slice y1.ha.A y1.ha.l.length y1.ha.c, .slice t1.A t1.l.length t1.c, .slice f1.A f1.l.length f1.c, .slice p1.A p1.l.length p1.c] 60
 have v := Up.alloc w7 (.cells #[.slice y1.rs.A y1.rs.l.length y1.rs.c, .int .i64 y1.fr, .int .i64 y1.to_, .slice y1.ps.A y1.ps.l.length y1.ps.c, .slice y1.ts.A y1.ts.l.length y1.ts.c, .slice y1.pl.A y1.pl.l.length y1.pl.c, .slice y1.ws.A y1.ws.l.length y1.ws.c, .slice y1.st.A y1.st.l.length y1.st.c, .slice y1.se.A y1.se.l.length y1.se.c, .slice y1.ha.A y1.ha.l.length y1.ha.c, .slice t1.A t1.l.length t1.c, .slice f1.A f1.l.length f1.c, .slice p1.A p1.l.length p1.c] 60)
 replace u := u.trans v
 replace hA := hA.up v
 replace hsz := Nat.le_trans hsz v.size
 replace hW := hW.up v
 replace szW := Nat.lt_of_lt_of_le szW v.size
 replace hX := hX.up v
 replace szX := Nat.lt_of_lt_of_le szX v.size
 replace oA := oA.up v
 obtain ⟨k0, k1, k2, k3, k4, k5, k6, k7, k8, k9, k10, k11, k12⟩ := hW.c13
 clear v
 go_wp2_with fail
 generalize w7.alloc (.cells #[.slice y1.rs.A y1.rs.l.length y1.rs.c, .int .i64 y1.fr, .int .i64 y1.to_, .slice y1.ps.A y1.ps.l.length y1.ps.c, .slice y1.ts.A y1.ts.l.length y1.ts.c, .slice y1.pl.A y1.pl.l.length y1.pl.c, .slice y1.ws.A y1.ws.l.length y1.ws.c, .slice y1.st.A y1.st.l.length y1.st.c, .slice y1.se.A y1.se.l.length y1.se.c, .slice y1.ha.A y1.ha.l.length y1.ha.c, .slice t1.A t1.l.length t1.c, .slice f1.A f1.l.length f1.c, .slice p1.A p1.l.length p1.c] 60) = W8 at *
 have E10 := Lib.hid (W1.out.same W0.out (Eb.out.symm.trans Ea.out))
 obtain ⟨g0, g1, g2, g3, g4, g5, g6, g7, g8, g9, g10, g11, g12⟩ := hG.c13
 try go_wp2_with fail
 refine (eqEv_e (EvR.mk' oA.right K1.out.1 K1.out.2.1) (EvR.mk' oA.left.left K0.out.1 K0.out.2.1) E10.out).mono ?_
 rintro e w9 ⟨rfl, v⟩
 replace u := u.trans v
 replace hA := hA.up v
 replace hsz := Nat.le_trans hsz v.size
 replace hW := hW.up v
 replace szW := Nat.lt_of_lt_of_le szW v.size
 replace hX := hX.up v
 replace szX := Nat.lt_of_lt_of_le szX v.size
 replace oA := oA.up v
 replace hG := hG.up v
 clear v g0 g1 g2 g3 g4 g5 g6 g7 g8 g9 g10 g11 g12 k0 k1 k2 k3 k4 k5 k6 k7 k8 k9 k10 k11 k12
 obtain ⟨x0, x1, x2, x3, x4, x5, x6, x7, x8, x9, x10, x11, x12⟩ := hA.c13
 obtain ⟨dd0, dd1, dd2, dd3, dd4, dd5, dd6, dd7, dd8, dd9, dd10, dd11, dd12⟩ := hX.c13
 go_wp2_with fail
 have hd6 : Up w9 w9.drew := (Up.refl _).drew
 have HT6 := Lib.hid (fun (wx : World) (hx : Up w9 wx) => HT.out wx (u.trans hx))
 have RB := Lib.hid (EvR.own oA.left.right Eb.out R.out)
 go_region_held3 (fun w' => Up w9 w' ∧ w'.cell? ⟨w.heap.size, 0, none⟩ = some (.slice x.rs.A x.rs.l.length x.rs.c) ∧ w'.cell? ⟨w.heap.size, 1, none⟩ = some (.int .i64 x.fr) ∧ w'.cell? ⟨w.heap.size, 2, none⟩ = some (.int .i64 x.to_) ∧ w'.cell? ⟨w.heap.size, 3, none⟩ = some (.slice x.ps.A x.ps.l.length x.ps.c) ∧ w'.cell? ⟨w.heap.size, 4, none⟩ = some (.slice x.ts.A x.ts.l.length x.ts.c) ∧ w'.cell? ⟨w.heap.size, 5, none⟩ = some (.slice x.pl.A x.pl.l.length x.pl.c) ∧ w'.cell? ⟨w.heap.size, 6, none⟩ = some (.slice x.ws.A x.ws.l.length x.ws.c) ∧ w'.cell? ⟨w.heap.size, 7, none⟩ = some (.slice x.st.A x.st.l.length x.st.c) ∧ w'.cell? ⟨w.heap.size, 8, none⟩ = some (.slice x.se.A x.se.l.length x.se.c) ∧ w'.cell? ⟨w.heap.size, 9, none⟩ = some (.slice x.ha.A x.ha.l.length x.ha.c) ∧ w'.cell? ⟨w.heap.size, 10, none⟩ = some (.slice s.A s.l.length s.c) ∧ w'.cell? ⟨w.heap.size, 11, none⟩ = some (.slice g.A g.l.length g.c) ∧ w'.cell? ⟨w.heap.size, 12, none⟩ = some (.slice q.A q.l.length q.c) ∧ w'.cell? ⟨w5.heap.size, 0, none⟩ = some (.slice xb.rs.A xb.rs.l.length xb.rs.c) ∧ w'.cell? ⟨w5.heap.size, 1, none⟩ = some (.int .i64 xb.fr) ∧ w'.cell? ⟨w5.heap.size, 2, none⟩ = some (.int .i64 xb.to_) ∧ w'.cell? ⟨w5.heap.size, 3, none⟩ = some (.slice xb.ps.A xb.ps.l.length xb.ps.c) ∧ w'.cell? ⟨w5.heap.size, 4, none⟩ = some (.slice xb.ts.A xb.ts.l.length xb.ts.c) ∧ w'.cell? ⟨w5.heap.size, 5, none⟩ = some (.slice xb.pl.A xb.pl.l.length xb.pl.c) ∧ w'.cell? ⟨w5.heap.size, 6, none⟩ = some (.slice xb.ws.A xb.ws.l.length xb.ws.c) ∧ w'.cell? ⟨w5.heap.size, 7, none⟩ = some (.slice xb.st.A xb.st.l.length xb.st.c) ∧ w'.cell? ⟨w5.heap.size, 8, none⟩ = some (.slice xb.se.A xb.se.l.length xb.se.c) ∧ w'.cell? ⟨w5.heap.size, 9, none⟩ = some (.slice xb.ha.A xb.ha.l.length xb.ha.c) ∧ w'.cell? ⟨w5.heap.size, 10, none⟩ = some (.slice sb.A sb.l.length sb.c) ∧ w'.cell? ⟨w5.heap.size, 11, none⟩ = some (.slice gb.A gb.l.length gb.c) ∧ w'.cell? ⟨w5.heap.size, 12, none⟩ = some (.slice qb.A qb.l.length qb.c))
   (refine ⟨?_, ?_, ?_, ?_, ?_, ?_, ?_, ?_, ?_, ?_, ?_, ?_, ?_, ?_, ?_, ?_, ?_, ?_, ?_, ?_, ?_, ?_, ?_, ?_, ?_, ?_, ?_⟩ <;> first | assumption | exact Up.refl _)
   (first
     | (go_at_call 6
        with_reducible refine (HT6.out _ (by assumption)).mono ?_
        rintro e wy ⟨xc, sc, gc, qc, rfl, e1, e2, e3, e4, oN, v3⟩
        have hS3 : Up w9 wy := Up.trans (by assumption) v3
        have l0 := hS3.cell x0
        have m0 := hS3.cell dd0
        have l1 := hS3.cell x1
        have m1 := hS3.cell dd1
        have l2 := hS3.cell x2
        have m2 := hS3.cell dd2
        have l3 := hS3.cell x3
        have m3 := hS3.cell dd3
        have l4 := hS3.cell x4
        have m4 := hS3.cell dd4
        have l5 := hS3.cell x5
        have m5 := hS3.cell dd5
        have l6 := hS3.cell x6
        have m6 := hS3.cell dd6
        have l7 := hS3.cell x7
        have m7 := hS3.cell dd7
        have l8 := hS3.cell x8
        have m8 := hS3.cell dd8
        have l9 := hS3.cell x9
        have m9 := hS3.cell dd9
        have l10 := hS3.cell x10
        have m10 := hS3.cell dd10
        have l11 := hS3.cell x11
        have m11 := hS3.cell dd11
        have l12 := hS3.cell x12
        have m12 := hS3.cell dd12
        have EC := Lib.hid (show EvE x xc s sc g gc q qc from ⟨e1, e2, e3, e4⟩)
        have RC := Lib.hid (EvR.own oN EC.out R.out)
        have HQ := Lib.hid (fun (wx : World) (hx : Up wy wx) => eqEv_e (w := wx) ((RB.out.up hS3).up hx) (RC.out.up hx) (Eb.out.symm.trans EC.out))
        have hZ : Up wy wy := Up.refl _
        have hZd : Up wy wy.drew := (Up.refl _).drew
        clear e1 e2 e3 e4 oN)
     | (go_at_call 8
        with_reducible refine (HQ.out _ (by assumption)).mono ?_
        rintro e w10 ⟨rfl, v5⟩
        have hS5 : Up w9 w10 := Up.trans hS3 (Up.trans (by assumption) v5)
        have r0 := hS5.cell x0
        have n0 := hS5.cell dd0
        have r1 := hS5.cell x1
        have n1 := hS5.cell dd1
        have r2 := hS5.cell x2
        have n2 := hS5.cell dd2
        have r3 := hS5.cell x3
        have n3 := hS5.cell dd3
        have r4 := hS5.cell x4
        have n4 := hS5.cell dd4
        have r5 := hS5.cell x5
        have n5 := hS5.cell dd5
        have r6 := hS5.cell x6
        have n6 := hS5.cell dd6
        have r7 := hS5.cell x7
        have n7 := hS5.cell dd7
        have r8 := hS5.cell x8
        have n8 := hS5.cell dd8
        have r9 := hS5.cell x9
        have n9 := hS5.cell dd9
        have r10 := hS5.cell x10
        have n10 := hS5.cell dd10
        have r11 := hS5.cell x11
        have n11 := hS5.cell dd11
        have r12 := hS5.cell x12
        have n12 := hS5.cell dd12
        have hS6 : Up w9 w10 := hS5))
 have v : Up w9 w10 := hS6
 clear HT6 RB HQ RC EC hS3 hS5 hS6 hZ hZd hd6
 clear l0 l1 l2 l3 l4 l5 l6 l7 l8 l9 l10 l11 l12 m0 m1 m2 m3 m4 m5 m6 m7 m8 m9 m10 m11 m12 r0 r1 r2 r3 r4 r5 r6 r7 r8 r9 r10 r11 r12 n0 n1 n2 n3 n4 n5 n6 n7 n8 n9 n10 n11 n12 x0 x1 x2 x3 x4 x5 x6 x7 x8 x9 x10 x11 x12 dd0 dd1 dd2 dd3 dd4 dd5 dd6 dd7 dd8 dd9 dd10 dd11 dd12
 replace u := u.trans v
 replace hA := hA.up v
 replace hsz := Nat.le_trans hsz v.size
 replace hW := hW.up v
 replace szW := Nat.lt_of_lt_of_le szW v.size
 replace hX := hX.up v
 replace szX := Nat.lt_of_lt_of_le szX v.size
 replace oA := oA.up v
 replace hG := hG.up v
 clear v
 have CB := Lib.hid (show 0 ≤ cEv xb sb gb qb ∧ 1 + cEv xb sb gb qb ≤ 60000000 from ⟨(cEv_le xb sb gb qb).1, by have := (cEv_le xb sb gb qb).2; have := Eb.out.n; have := HN.out; omega⟩)
 have CG := Lib.hid (show 0 ≤ cEv y1 t1 f1 p1 ∧ 1 + cEv y1 t1 f1 p1 ≤ 60000000 from ⟨(cEv_le y1 t1 f1 p1).1, by have := (cEv_le y1 t1 f1 p1).2; have := K1.out.2.2; omega⟩)
 have SB := Lib.hid (show SmEv xb sb gb qb from ev_sm (by have := Eb.out.n; have := HN.out; omega))
 obtain ⟨dd0, dd1, dd2, dd3, dd4, dd5, dd6, dd7, dd8, dd9, dd10, dd11, dd12⟩ := hX.c13
 go_wp2_with fail
 refine (markEvidence_any xb sb gb qb 1 _ _ oA.left.right SB.out (by omega) CB.out.2).mono ?_
 rintro e w11 ⟨rfl, m⟩
 have nXA : NB (rowsEv xb sb gb qb) w.heap.size := fun r hr e => by have := (oA.left.right.lt hr e).1; omega
 replace u := u.mka m oA.left.right (by omega)
 replace hA := hA.mka m nXA
 replace hW := hW.mka m nXW.out
 replace hX := hX.mka m nXX.out
 replace hG := hG.mka m nXG.out
 replace hsz := Nat.le_trans hsz m.size
 replace szW := Nat.lt_of_lt_of_le szW m.size
 replace szX := Nat.lt_of_lt_of_le szX m.size
 have oM := (m.frame (rowsEv y0 t0 f0 p0) (rowsEv y1 t1 f1 p1)).own oA
 clear oA m nXA dd0 dd1 dd2 dd3 dd4 dd5 dd6 dd7 dd8 dd9 dd10 dd11 dd12
 have oA := oM
 clear oM
 obtain ⟨kx, hkx⟩ : ∃ z, z = 1 + cEv xb sb gb qb := ⟨_, rfl⟩
 have hk0 : decide (kx < 0) = false := by have := CB.out; simp; omega
 rw [← hkx]
 clear hkx
 obtain ⟨g0, g1, g2, g3, g4, g5, g6, g7, g8, g9, g10, g11, g12⟩ := hG.c13
 obtain ⟨k0, k1, k2, k3, k4, k5, k6, k7, k8, k9, k10, k11, k12⟩ := hW.c13
 go_wp2_with fail
 refine (eqEv_e (EvR.mk' oA.right K1.out.1 K1.out.2.1) (EvR.mk' oA.left.left K0.out.1 K0.out.2.1) E10.out).mono ?_
 rintro e w12 ⟨rfl, v⟩
 replace u := u.trans v
 replace hA := hA.up v
 replace hsz := Nat.le_trans hsz v.size
 replace hW := hW.up v
 replace szW := Nat.lt_of_lt_of_le szW v.size
 replace hX := hX.up v
 replace szX := Nat.lt_of_lt_of_le szX v.size
 replace oA := oA.up v
 replace hG := hG.up v
 clear v g0 g1 g2 g3 g4 g5 g6 g7 g8 g9 g10 g11 g12 k0 k1 k2 k3 k4 k5 k6 k7 k8 k9 k10 k11 k12
 obtain ⟨g0, g1, g2, g3, g4, g5, g6, g7, g8, g9, g10, g11, g12⟩ := hG.c13
 go_wp2_with fail
 refine (markEvidence_any y1 t1 f1 p1 1 _ _ oA.right K1.out.1 (by omega) CG.out.2).mono ?_
 rintro e w13 ⟨rfl, m⟩
 have nGA : NB (rowsEv y1 t1 f1 p1) w.heap.size := fun r hr e => by have := (oA.right.lt hr e).1; omega
 replace u := u.mka m oA.right (by omega)
 replace hA := hA.mka m nGA
 replace hW := hW.mka m nGW.out
 replace hX := hX.mka m nGX.out
 replace hG := hG.mka m nGG.out
 replace hsz := Nat.le_trans hsz m.size
 replace szW := Nat.lt_of_lt_of_le szW m.size
 replace szX := Nat.lt_of_lt_of_le szX m.size
 have oM := (m.right _).own oA
 clear oA m nGA g0 g1 g2 g3 g4 g5 g6 g7 g8 g9 g10 g11 g12
 have oA := oM
 clear oM
 obtain ⟨km, hkm⟩ : ∃ z, z = 1 + cEv y1 t1 f1 p1 := ⟨_, rfl⟩
 have HK := Lib.hid hkm
 have hk1 : decide (km < 0) = false := by have := CG.out; simp; omega
 have hkk : (km != km) = false := by simp
 rw [← hkm]
 clear hkm
 obtain ⟨g0, g1, g2, g3, g4, g5, g6, g7, g8, g9, g10, g11, g12⟩ := hG.c13
 go_wp2_with fail
 have RM := EvR.mk' oA.right (mark_m K1.out.1 _ _ _ _) (mark_k _ _ _ _ _ _ _ _)
 refine (heldEvidence_any y1 t1 f1 p1 1 _ _ _ RM.a RM.b RM.c RM.d (by omega) CG.out.2).mono ?_
 rintro e w14 ⟨rfl, v⟩
 rw [← HK.out]
 clear RM
 replace u := u.trans v
 replace hA := hA.up v
 replace hsz := Nat.le_trans hsz v.size
 replace hW := hW.up v
 replace szW := Nat.lt_of_lt_of_le szW v.size
 replace hX := hX.up v
 replace szX := Nat.lt_of_lt_of_le szX v.size
 replace oA := oA.up v
 replace hG := hG.up v
 clear v g0 g1 g2 g3 g4 g5 g6 g7 g8 g9 g10 g11 g12
 obtain ⟨x0, x1, x2, x3, x4, x5, x6, x7, x8, x9, x10, x11, x12⟩ := hA.c13
 go_wp2_with fail
 refine (HT.out _ u).mono ?_
 rintro e w15 ⟨xd, sd, gd, qd, rfl, e1, e2, e3, e4, oN, v⟩
 have Ed := Lib.hid (show EvE x xd s sd g gd q qd from ⟨e1, e2, e3, e4⟩)
 clear e1 e2 e3 e4
 have Rd' := Lib.hid (EvR.own oN Ed.out R.out)
 clear oN
 replace u := u.trans v
 replace hA := hA.up v
 replace hsz := Nat.le_trans hsz v.size
 replace hW := hW.up v
 replace szW := Nat.lt_of_lt_of_le szW v.size
 replace hX := hX.up v
 replace szX := Nat.lt_of_lt_of_le szX v.size
 replace oA := oA.up v
 replace hG := hG.up v
 clear v
 go_wp2_with fail
 refine (implWD i cc HC.out Ed.out Rd'.out).mono ?_
 rintro e w16 ⟨y2, t2, f2, p2, rfl, wr, oN, v⟩
 have W2 := Lib.hid wr
 clear wr
 have K2 := Lib.hid (show SmEv y2 t2 f2 p2 ∧ EvK y2 t2 f2 p2 ∧ nEv y2 t2 f2 p2 ≤ 1048576 from ⟨ev_sm (by have := W2.out.le; have := Ed.out.n; have := HN.out; omega), W2.out.k (Ed.out.k R.out.k), by have := W2.out.le; have := Ed.out.n; have := HN.out; omega⟩)
 have oM := oA.append v hsz oN
 clear oN oA
 have oA := oM
 clear oM
 replace u := u.trans v
 replace hA := hA.up v
 replace hsz := Nat.le_trans hsz v.size
 replace hW := hW.up v
 replace szW := Nat.lt_of_lt_of_le szW v.size
 replace hX := hX.up v
 replace szX := Nat.lt_of_lt_of_le szX v.size
 replace hG := hG.up v
 clear v
 have hH := Bx.new w16 #[.slice y2.rs.A y2.rs.l.length y2.rs.c, .int .i64 y2.fr, .int .i64 y2.to_, .slice y2.ps.A y2.ps.l.length y2.ps.c, .slice y2.ts.A y2.ts.l.length y2.ts.c, .slice y2.pl.A y2.pl.l.length y2.pl.c, .slice y2.ws.A y2.ws.l.length y2.ws.c, .slice y2.st.A y2.st.l.length y2.st.c, .slice y2.se.A y2.se.l.length y2.se.c, .slice y2.ha.A y2.ha.l.length y2.ha.c, .slice t2.A t2.l.length t2.c, .slice f2.A f2.l.length f2.c, .slice p2.A p2.l.length p2.c] 60
 have v := Up.alloc w16 (.cells #[.slice y2.rs.A y2.rs.l.length y2.rs.c, .int .i64 y2.fr, .int .i64 y2.to_, .slice y2.ps.A y2.ps.l.length y2.ps.c, .slice y2.ts.A y2.ts.l.length y2.ts.c, .slice y2.pl.A y2.pl.l.length y2.pl.c, .slice y2.ws.A y2.ws.l.length y2.ws.c, .slice y2.st.A y2.st.l.length y2.st.c, .slice y2.se.A y2.se.l.length y2.se.c, .slice y2.ha.A y2.ha.l.length y2.ha.c, .slice t2.A t2.l.length t2.c, .slice f2.A f2.l.length f2.c, .slice p2.A p2.l.length p2.c] 60)
 replace u := u.trans v
 replace hA := hA.up v
 replace hsz := Nat.le_trans hsz v.size
 replace hW := hW.up v
 replace szW := Nat.lt_of_lt_of_le szW v.size
 replace hX := hX.up v
 replace szX := Nat.lt_of_lt_of_le szX v.size
 replace hG := hG.up v
 replace oA := oA.up v
 obtain ⟨k0, k1, k2, k3, k4, k5, k6, k7, k8, k9, k10, k11, k12⟩ := hW.c13
 clear v
 go_wp2_with fail
 generalize w16.alloc (.cells #[.slice y2.rs.A y2.rs.l.length y2.rs.c, .int .i64 y2.fr, .int .i64 y2.to_, .slice y2.ps.A y2.ps.l.length y2.ps.c, .slice y2.ts.A y2.ts.l.length y2.ts.c, .slice y2.pl.A y2.pl.l.length y2.pl.c, .slice y2.ws.A y2.ws.l.length y2.ws.c, .slice y2.st.A y2.st.l.length y2.st.c, .slice y2.se.A y2.se.l.length y2.se.c, .slice y2.ha.A y2.ha.l.length y2.ha.c, .slice t2.A t2.l.length t2.c, .slice f2.A f2.l.length f2.c, .slice p2.A p2.l.length p2.c] 60) = W17 at *
 have E20 := Lib.hid (W2.out.same W0.out (Ed.out.symm.trans Ea.out))
 obtain ⟨g0, g1, g2, g3, g4, g5, g6, g7, g8, g9, g10, g11, g12⟩ := hH.c13
 try go_wp2_with fail
 refine (eqEv_e (EvR.mk' oA.right K2.out.1 K2.out.2.1) (EvR.mk' oA.left.left.left K0.out.1 K0.out.2.1) E20.out).mono ?_
 rintro e w18 ⟨rfl, v⟩
 replace u := u.trans v
 replace hA := hA.up v
 replace hsz := Nat.le_trans hsz v.size
 replace hW := hW.up v
 replace szW := Nat.lt_of_lt_of_le szW v.size
 replace hX := hX.up v
 replace szX := Nat.lt_of_lt_of_le szX v.size
 replace hG := hG.up v
 replace oA := oA.up v
 replace hH := hH.up v
 clear v g0 g1 g2 g3 g4 g5 g6 g7 g8 g9 g10 g11 g12 k0 k1 k2 k3 k4 k5 k6 k7 k8 k9 k10 k11 k12
 obtain ⟨g0, g1, g2, g3, g4, g5, g6, g7, g8, g9, g10, g11, g12⟩ := hG.c13
 go_wp2_with fail
 have RM := EvR.mk' oA.left.right (mark_m K1.out.1 _ _ _ _) (mark_k _ _ _ _ _ _ _ _)
 refine (heldEvidence_any y1 t1 f1 p1 1 _ _ _ RM.a RM.b RM.c RM.d (by omega) CG.out.2).mono ?_
 rintro e w19 ⟨rfl, v⟩
 rw [← HK.out]
 clear RM
 replace u := u.trans v
 replace hA := hA.up v
 replace hsz := Nat.le_trans hsz v.size
 replace hW := hW.up v
 replace szW := Nat.lt_of_lt_of_le szW v.size
 replace hX := hX.up v
 replace szX := Nat.lt_of_lt_of_le szX v.size
 replace hG := hG.up v
 replace oA := oA.up v
 replace hH := hH.up v
 clear v g0 g1 g2 g3 g4 g5 g6 g7 g8 g9 g10 g11 g12
 go_wp2
 go_ret
 exact ⟨rfl, u⟩
end Go.Proofs.YtblpjjcjnaigiaaGreatDoor
