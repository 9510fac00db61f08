/- Copies of a deed and of a world that share nothing: the program's and the reference's. -/
import Derived.Test.YtblpjjcjnaigiaaGreatDoorWnA
import Derived.Test.YtblpjjcjnaigiaaGreatDoorWnD
import Derived.Deep.Cut
import Derived.Deep.DeepCutAuto
namespace Go.Proofs.YtblpjjcjnaigiaaGreatDoor
open Go.RowKit Go.Sort

theorem Bx.at1 {w : World} {b : Nat} {cs : List Value} (h : Bx w b cs) (j : Nat) (v : Value) (e : cs[j]? = some v) : w.cell? ⟨b, j, none⟩ = some v := (h j v e).1
theorem ret_d {v : Value} {e : Ending} (h : e = .returned v) : e = .returned v := h
set_option maxRecDepth 20000 in
set_option maxHeartbeats 4000000 in
theorem ownDeed_any (x : Dd) (lo hi : Nat) (w : World) (h : RdE w lo hi x) :
    Calls Tryz.prog 26 #[.agg #[.string x.nm, .slice x.da.A x.da.l.length x.da.c, .slice x.wi.A x.wi.l.length x.wi.c, .string x.pl, .string x.se, .string x.ha, .slice x.ci.A x.ci.l.length x.ci.c]] w fun e w' => ∃ y : Dd, e = .returned y.val ∧ y.p = x.p ∧ OwA w' w.heap.size (rowsE y) ∧ Up w w' := by
  have u : Up w ((w.alloc (.cells #[.string x.nm, .slice x.da.A x.da.l.length x.da.c, .slice x.wi.A x.wi.l.length x.wi.c, .string x.pl, .string x.se, .string x.ha, .slice x.ci.A x.ci.l.length x.ci.c] 77)).alloc (.cells #[.string ⟨#[]⟩, .slice none 0 0, .slice none 0 0, .string ⟨#[]⟩, .string ⟨#[]⟩, .string ⟨#[]⟩, .slice none 0 0] 77)) := ((Up.alloc _ _).allocs _)
  have hA := (Bx.new w #[.string x.nm, .slice x.da.A x.da.l.length x.da.c, .slice x.wi.A x.wi.l.length x.wi.c, .string x.pl, .string x.se, .string x.ha, .slice x.ci.A x.ci.l.length x.ci.c] 77).up (Up.alloc _ (.cells #[.string ⟨#[]⟩, .slice none 0 0, .slice none 0 0, .string ⟨#[]⟩, .string ⟨#[]⟩, .string ⟨#[]⟩, .slice none 0 0] 77))
  have hR : Bx ((w.alloc (.cells #[.string x.nm, .slice x.da.A x.da.l.length x.da.c, .slice x.wi.A x.wi.l.length x.wi.c, .string x.pl, .string x.se, .string x.ha, .slice x.ci.A x.ci.l.length x.ci.c] 77)).alloc (.cells #[.string ⟨#[]⟩, .slice none 0 0, .slice none 0 0, .string ⟨#[]⟩, .string ⟨#[]⟩, .string ⟨#[]⟩, .slice none 0 0] 77)) (w.heap.size + 1) [.string ⟨#[]⟩, .slice none 0 0, .slice none 0 0, .string ⟨#[]⟩, .string ⟨#[]⟩, .string ⟨#[]⟩, .slice none 0 0] := by
    have := Bx.new (w.alloc (.cells #[.string x.nm, .slice x.da.A x.da.l.length x.da.c, .slice x.wi.A x.wi.l.length x.wi.c, .string x.pl, .string x.se, .string x.ha, .slice x.ci.A x.ci.l.length x.ci.c] 77)) #[.string ⟨#[]⟩, .slice none 0 0, .slice none 0 0, .string ⟨#[]⟩, .string ⟨#[]⟩, .string ⟨#[]⟩, .slice none 0 0] 77
    simpa using this
  have hsz : w.heap.size + 2 ≤ ((w.alloc (.cells #[.string x.nm, .slice x.da.A x.da.l.length x.da.c, .slice x.wi.A x.wi.l.length x.wi.c, .string x.pl, .string x.se, .string x.ha, .slice x.ci.A x.ci.l.length x.ci.c] 77)).alloc (.cells #[.string ⟨#[]⟩, .slice none 0 0, .slice none 0 0, .string ⟨#[]⟩, .string ⟨#[]⟩, .string ⟨#[]⟩, .slice none 0 0] 77)).heap.size := by simp
  go_enter Tryz.func26, Tryz.ntmps26
  go_wp2_with fail
  generalize ((w.alloc (.cells #[.string x.nm, .slice x.da.A x.da.l.length x.da.c, .slice x.wi.A x.wi.l.length x.wi.c, .string x.pl, .string x.se, .string x.ha, .slice x.ci.A x.ci.l.length x.ci.c] 77)).alloc (.cells #[.string ⟨#[]⟩, .slice none 0 0, .slice none 0 0, .string ⟨#[]⟩, .string ⟨#[]⟩, .string ⟨#[]⟩, .slice none 0 0] 77)) = W1 at *
  have hr := h.up u
  have cda := Lib.hid (fun wx (v : Up W1 wx) => cloneClause_any x.da lo hi wx ((hr.up v).da))
  have cwi := Lib.hid (fun wx (v : Up W1 wx) => cloneWitness_any x.wi lo hi wx ((hr.up v).wi))
  have cci := Lib.hid (fun wx (v : Up W1 wx) => cloneStr_any x.ci lo hi wx ((hr.up v).ci))
  have hd : Up W1 W1.drew := (Up.refl _).drew
  obtain ⟨a0, a1, a2, a3, a4, a5, a6⟩ := hA.c7
  obtain ⟨fa0, fa1, fa2, fa3, fa4, fa5, fa6⟩ := hA.f7
  have HA := Lib.hid hA
  have HR := Lib.hid hR
  clear hA hR
  go_region_law
      (first
        | (go_simp; go_at_call 68
           refine (cda.out _ hd).mono ?_
           rintro e v1 ⟨t1, rfl, ee1, o1, q1⟩
           have E1 := Lib.hid ee1
           clear ee1
           have d1 := hd.trans q1
           have b1 := d1.cell a1
           have b2 := d1.cell a2
           have b6 := d1.cell a6)
        | (go_simp; go_at_call 69
           refine (cwi.out _ d1).mono ?_
           rintro e v2 ⟨t2, rfl, ee2, o2, q2⟩
           have E2 := Lib.hid ee2
           clear ee2
           have d2 := d1.trans q2
           have k1 := d2.cell a1
           have k2 := d2.cell a2
           have k6 := d2.cell a6)
        | (go_simp; go_at_call 29
           refine (cci.out _ d2).mono ?_
           rintro e v3 ⟨t3, rfl, ee3, o3, q3⟩
           have E3 := Lib.hid ee3
           clear ee3
           have d3 := d2.trans q3
           have m0 := d3.cell a0
           have m1 := d3.cell a1
           have m2 := d3.cell a2
           have m3 := d3.cell a3
           have m4 := d3.cell a4
           have m5 := d3.cell a5
           have m6 := d3.cell a6
           obtain ⟨n0, n1, n2, n3, n4, n5, n6⟩ := (HA.out.up d3).f7))
  all_goals
    have oA : OwA v3 (w.heap.size + 2) (rowsE ⟨x.nm, t1, t2, x.pl, x.se, x.ha, t3⟩) := OwA.base (b := W1.drew.heap.size) (((OwA.one (r := rwClause t1) o1).append q2 q1.size (OwA.one (r := rwWitness t2) o2)).append q3 (Nat.le_trans q1.size q2.size) (OwA.one (r := rwStr t3) o3)) (Nat.le_trans hsz hd.size)
    have hA := (((HA.out.up d3).put 1 (.slice t1.A t1.l.length t1.c)).put 2 (.slice t2.A t2.l.length t2.c)).put 6 (.slice t3.A t3.l.length t3.c)
    have hR := ((((HR.out.up d3).other (b' := w.heap.size) (by omega) 1 (.slice t1.A t1.l.length t1.c)).other (b' := w.heap.size) (by omega) 2 (.slice t2.A t2.l.length t2.c)).other (b' := w.heap.size) (by omega) 6 (.slice t3.A t3.l.length t3.c))
    obtain ⟨x0, x1, x2, x3, x4, x5, x6⟩ := hA.c7
    obtain ⟨z0, z1, z2, z3, z4, z5, z6⟩ := hR.c7
    obtain ⟨g0, g1, g2, g3, g4, g5, g6⟩ := hR.f7
    clear a0 a1 a2 a3 a4 a5 a6 fa0 fa1 fa2 fa3 fa4 fa5 fa6 b1 b2 b6 k1 k2 k6 m0 m1 m2 m3 m4 m5 m6 n0 n1 n2 n3 n4 n5 n6
    go_wp2
    refine bodyPost_ret (v := .agg #[.string x.nm, .slice t1.A t1.l.length t1.c, .slice t2.A t2.l.length t2.c, .string x.pl, .string x.se, .string x.ha, .slice t3.A t3.l.length t3.c]) (by simp [results, Tryz.results26, go_sem, z0, z1, z2, z3, z4, z5, z6]) rfl ?_
    refine ⟨⟨x.nm, t1, t2, x.pl, x.se, x.ha, t3⟩, rfl, by simp only [Dd.p, E1.out, E2.out, E3.out], ?_, ?_⟩
    · refine OwA.base (b := w.heap.size + 2) ?_ (by omega)
      iterate 10 refine OwA.put ?_ (by first | (simp; done) | (simp; omega)) _
      exact oA
    · iterate 10 refine Up.setCell ?_ (by first | (simp; done) | (simp; omega)) _
      exact u.trans d3
set_option maxRecDepth 20000 in
set_option maxHeartbeats 8000000 in
theorem ownWorld_any (x : Wd) (lo hi : Nat) (w : World) (h : RdW w lo hi x) :
    Calls Tryz.prog 24 #[.agg #[.slice x.rs.A x.rs.l.length x.rs.c, .int .i64 x.fr, .int .i64 x.to_, .slice x.ps.A x.ps.l.length x.ps.c, .slice x.ts.A x.ts.l.length x.ts.c, .slice x.pl.A x.pl.l.length x.pl.c, .slice x.ws.A x.ws.l.length x.ws.c, .slice x.st.A x.st.l.length x.st.c, .slice x.se.A x.se.l.length x.se.c, .slice x.ha.A x.ha.l.length x.ha.c]] w fun e w' => ∃ y : Wd, e = .returned y.val ∧ y.p = x.p ∧ OwA w' w.heap.size (rowsW y) ∧ Up w w' := by
  have u : Up w ((w.alloc (.cells #[.slice x.rs.A x.rs.l.length x.rs.c, .int .i64 x.fr, .int .i64 x.to_, .slice x.ps.A x.ps.l.length x.ps.c, .slice x.ts.A x.ts.l.length x.ts.c, .slice x.pl.A x.pl.l.length x.pl.c, .slice x.ws.A x.ws.l.length x.ws.c, .slice x.st.A x.st.l.length x.st.c, .slice x.se.A x.se.l.length x.se.c, .slice x.ha.A x.ha.l.length x.ha.c] 56)).alloc (.cells #[.slice none 0 0, .int .i64 0, .int .i64 0, .slice none 0 0, .slice none 0 0, .slice none 0 0, .slice none 0 0, .slice none 0 0, .slice none 0 0, .slice none 0 0] 56)) := ((Up.alloc _ _).allocs _)
  have hA := (Bx.new w #[.slice x.rs.A x.rs.l.length x.rs.c, .int .i64 x.fr, .int .i64 x.to_, .slice x.ps.A x.ps.l.length x.ps.c, .slice x.ts.A x.ts.l.length x.ts.c, .slice x.pl.A x.pl.l.length x.pl.c, .slice x.ws.A x.ws.l.length x.ws.c, .slice x.st.A x.st.l.length x.st.c, .slice x.se.A x.se.l.length x.se.c, .slice x.ha.A x.ha.l.length x.ha.c] 56).up (Up.alloc _ (.cells #[.slice none 0 0, .int .i64 0, .int .i64 0, .slice none 0 0, .slice none 0 0, .slice none 0 0, .slice none 0 0, .slice none 0 0, .slice none 0 0, .slice none 0 0] 56))
  have hR : Bx ((w.alloc (.cells #[.slice x.rs.A x.rs.l.length x.rs.c, .int .i64 x.fr, .int .i64 x.to_, .slice x.ps.A x.ps.l.length x.ps.c, .slice x.ts.A x.ts.l.length x.ts.c, .slice x.pl.A x.pl.l.length x.pl.c, .slice x.ws.A x.ws.l.length x.ws.c, .slice x.st.A x.st.l.length x.st.c, .slice x.se.A x.se.l.length x.se.c, .slice x.ha.A x.ha.l.length x.ha.c] 56)).alloc (.cells #[.slice none 0 0, .int .i64 0, .int .i64 0, .slice none 0 0, .slice none 0 0, .slice none 0 0, .slice none 0 0, .slice none 0 0, .slice none 0 0, .slice none 0 0] 56)) (w.heap.size + 1) [.slice none 0 0, .int .i64 0, .int .i64 0, .slice none 0 0, .slice none 0 0, .slice none 0 0, .slice none 0 0, .slice none 0 0, .slice none 0 0, .slice none 0 0] := by
    have := Bx.new (w.alloc (.cells #[.slice x.rs.A x.rs.l.length x.rs.c, .int .i64 x.fr, .int .i64 x.to_, .slice x.ps.A x.ps.l.length x.ps.c, .slice x.ts.A x.ts.l.length x.ts.c, .slice x.pl.A x.pl.l.length x.pl.c, .slice x.ws.A x.ws.l.length x.ws.c, .slice x.st.A x.st.l.length x.st.c, .slice x.se.A x.se.l.length x.se.c, .slice x.ha.A x.ha.l.length x.ha.c] 56)) #[.slice none 0 0, .int .i64 0, .int .i64 0, .slice none 0 0, .slice none 0 0, .slice none 0 0, .slice none 0 0, .slice none 0 0, .slice none 0 0, .slice none 0 0] 56
    simpa using this
  have hsz : w.heap.size + 2 ≤ ((w.alloc (.cells #[.slice x.rs.A x.rs.l.length x.rs.c, .int .i64 x.fr, .int .i64 x.to_, .slice x.ps.A x.ps.l.length x.ps.c, .slice x.ts.A x.ts.l.length x.ts.c, .slice x.pl.A x.pl.l.length x.pl.c, .slice x.ws.A x.ws.l.length x.ws.c, .slice x.st.A x.st.l.length x.st.c, .slice x.se.A x.se.l.length x.se.c, .slice x.ha.A x.ha.l.length x.ha.c] 56)).alloc (.cells #[.slice none 0 0, .int .i64 0, .int .i64 0, .slice none 0 0, .slice none 0 0, .slice none 0 0, .slice none 0 0, .slice none 0 0, .slice none 0 0, .slice none 0 0] 56)).heap.size := by simp
  have oA : OwA ((w.alloc (.cells #[.slice x.rs.A x.rs.l.length x.rs.c, .int .i64 x.fr, .int .i64 x.to_, .slice x.ps.A x.ps.l.length x.ps.c, .slice x.ts.A x.ts.l.length x.ts.c, .slice x.pl.A x.pl.l.length x.pl.c, .slice x.ws.A x.ws.l.length x.ws.c, .slice x.st.A x.st.l.length x.st.c, .slice x.se.A x.se.l.length x.se.c, .slice x.ha.A x.ha.l.length x.ha.c] 56)).alloc (.cells #[.slice none 0 0, .int .i64 0, .int .i64 0, .slice none 0 0, .slice none 0 0, .slice none 0 0, .slice none 0 0, .slice none 0 0, .slice none 0 0, .slice none 0 0] 56)) (w.heap.size + 2) [] := OwA.nil_ _ _
  go_enter Tryz.func24, Tryz.ntmps24
  go_wp2_with fail
  generalize ((w.alloc (.cells #[.slice x.rs.A x.rs.l.length x.rs.c, .int .i64 x.fr, .int .i64 x.to_, .slice x.ps.A x.ps.l.length x.ps.c, .slice x.ts.A x.ts.l.length x.ts.c, .slice x.pl.A x.pl.l.length x.pl.c, .slice x.ws.A x.ws.l.length x.ws.c, .slice x.st.A x.st.l.length x.st.c, .slice x.se.A x.se.l.length x.se.c, .slice x.ha.A x.ha.l.length x.ha.c] 56)).alloc (.cells #[.slice none 0 0, .int .i64 0, .int .i64 0, .slice none 0 0, .slice none 0 0, .slice none 0 0, .slice none 0 0, .slice none 0 0, .slice none 0 0, .slice none 0 0] 56)) = W0 at *
  obtain ⟨a0, a1, a2, a3, a4, a5, a6, a7, a8, a9⟩ := hA.c10
  obtain ⟨fa0, fa1, fa2, fa3, fa4, fa5, fa6, fa7, fa8, fa9⟩ := hA.f10
  refine (cloneReign_any x.rs lo hi _ (h.up u).rs).mono ?_
  rintro e V0 ⟨rs, rfl, ee, o1, q1⟩
  have E_rs := Lib.hid ee
  clear ee
  clear a0 fa0 a1 fa1 a2 fa2 a3 fa3 a4 fa4 a5 fa5 a6 fa6 a7 fa7 a8 fa8 a9 fa9
  replace oA := oA.append q1 hsz (OwA.one (r := rwReign rs) o1)
  replace hA := hA.up q1
  replace hR := hR.up q1
  replace u := u.trans q1
  replace hsz := Nat.le_trans hsz q1.size
  obtain ⟨a0, a1, a2, a3, a4, a5, a6, a7, a8, a9⟩ := hA.c10
  obtain ⟨fa0, fa1, fa2, fa3, fa4, fa5, fa6, fa7, fa8, fa9⟩ := hA.f10
  replace hA := hA.put 0 (.slice rs.A rs.l.length rs.c)
  replace hR := hR.other (b' := w.heap.size) (by omega) 0 (.slice rs.A rs.l.length rs.c)
  replace oA := oA.put (p := ⟨w.heap.size, 0, none⟩) (show w.heap.size < w.heap.size + 2 by omega) (.slice rs.A rs.l.length rs.c)
  replace u := u.setCell (p := ⟨w.heap.size, 0, none⟩) (show w.heap.size ≤ w.heap.size by omega) (.slice rs.A rs.l.length rs.c)
  replace hsz : w.heap.size + 2 ≤ (V0.setCell ⟨w.heap.size, 0, none⟩ (.slice rs.A rs.l.length rs.c)).heap.size := by simpa using hsz
  go_upto_region 2 with (fail)
  generalize (V0.setCell ⟨w.heap.size, 0, none⟩ (.slice rs.A rs.l.length rs.c)) = W1 at *
  clear a0 fa0 a1 fa1 a2 fa2 a3 fa3 a4 fa4 a5 fa5 a6 fa6 a7 fa7 a8 fa8 a9 fa9 q1 o1
  have hr := h.up u
  have cps := Lib.hid (fun wx (v : Up W1 wx) => clonePerson_any x.ps lo hi wx (hr.up v).ps)
  have cts := Lib.hid (fun wx (v : Up W1 wx) => cloneTerm_any x.ts lo hi wx (hr.up v).ts)
  have hd : Up W1 W1.drew := (Up.refl _).drew
  obtain ⟨a0, a1, a2, a3, a4, a5, a6, a7, a8, a9⟩ := hA.c10
  obtain ⟨fa0, fa1, fa2, fa3, fa4, fa5, fa6, fa7, fa8, fa9⟩ := hA.f10
  have HA := Lib.hid hA
  have HR := Lib.hid hR
  have OA := Lib.hid oA
  have U := Lib.hid u
  have HSZ := Lib.hid hsz
  clear hA hR oA u hsz hr
  go_cut [18] (fun _ wx => ∃ (Z : World) (ps : Sl Nm) (ts : Sl Tm), Z = wx ∧ ps.l = x.ps.l ∧ ts.l = x.ts.l ∧ OwA Z (w.heap.size + 2) [rwReign rs, rwPerson ps, rwTerm ts] ∧ Bx Z w.heap.size [.slice rs.A rs.l.length rs.c, .int .i64 x.fr, .int .i64 x.to_, .slice ps.A ps.l.length ps.c, .slice ts.A ts.l.length ts.c, .slice x.pl.A x.pl.l.length x.pl.c, .slice x.ws.A x.ws.l.length x.ws.c, .slice x.st.A x.st.l.length x.st.c, .slice x.se.A x.se.l.length x.se.c, .slice x.ha.A x.ha.l.length x.ha.c] ∧ Bx Z (w.heap.size + 1) [.slice none 0 0, .int .i64 0, .int .i64 0, .slice none 0 0, .slice none 0 0, .slice none 0 0, .slice none 0 0, .slice none 0 0, .slice none 0 0, .slice none 0 0] ∧ Up w Z ∧ w.heap.size + 2 ≤ Z.heap.size)
  case first =>
    go_region_law
      (first
        | (go_simp; go_at_call 63
           refine (cps.out _ hd).mono ?_
           rintro e v1 ⟨ps, rfl, ee1, o1, q1⟩
           have E1 := Lib.hid ee1
           clear ee1
           have d1 := hd.trans q1
           obtain ⟨k0_0, k0_1, k0_2, k0_3, k0_4, k0_5, k0_6, k0_7, k0_8, k0_9⟩ := (HA.out.up d1).c10
           obtain ⟨n0_0, n0_1, n0_2, n0_3, n0_4, n0_5, n0_6, n0_7, n0_8, n0_9⟩ := (HA.out.up d1).f10)
        | (go_simp; go_at_call 64
           refine (cts.out _ d1).mono ?_
           rintro e v2 ⟨ts, rfl, ee2, o2, q2⟩
           have E2 := Lib.hid ee2
           clear ee2
           have d2 := d1.trans q2
           obtain ⟨k1_0, k1_1, k1_2, k1_3, k1_4, k1_5, k1_6, k1_7, k1_8, k1_9⟩ := (HA.out.up d2).c10
           obtain ⟨n1_0, n1_1, n1_2, n1_3, n1_4, n1_5, n1_6, n1_7, n1_8, n1_9⟩ := (HA.out.up d2).f10))
    all_goals
      have oA := OA.out.append (hd.trans ((Up.refl _).trans ((q1.trans q2)))) HSZ.out (OwA.base ((OwA.one (r := rwPerson ps) o1).append q2 q1.size (OwA.one (r := rwTerm ts) o2)) hd.size)
      have hA := HA.out.up d2
      have hR := HR.out.up d2
      have u := U.out.trans d2
      have hsz := Nat.le_trans HSZ.out d2.size
      replace hA := hA.put 3 (.slice ps.A ps.l.length ps.c)
      replace hR := hR.other (b' := w.heap.size) (by omega) 3 (.slice ps.A ps.l.length ps.c)
      replace oA := oA.put (p := ⟨w.heap.size, 3, none⟩) (show w.heap.size < w.heap.size + 2 by omega) (.slice ps.A ps.l.length ps.c)
      replace u := u.setCell (p := ⟨w.heap.size, 3, none⟩) (show w.heap.size ≤ w.heap.size by omega) (.slice ps.A ps.l.length ps.c)
      replace hA := hA.put 4 (.slice ts.A ts.l.length ts.c)
      replace hR := hR.other (b' := w.heap.size) (by omega) 4 (.slice ts.A ts.l.length ts.c)
      replace oA := oA.put (p := ⟨w.heap.size, 4, none⟩) (show w.heap.size < w.heap.size + 2 by omega) (.slice ts.A ts.l.length ts.c)
      replace u := u.setCell (p := ⟨w.heap.size, 4, none⟩) (show w.heap.size ≤ w.heap.size by omega) (.slice ts.A ts.l.length ts.c)
      replace hsz : w.heap.size + 2 ≤ ((v2.setCell ⟨w.heap.size, 3, none⟩ (.slice ps.A ps.l.length ps.c)).setCell ⟨w.heap.size, 4, none⟩ (.slice ts.A ts.l.length ts.c)).heap.size := by simpa using hsz
      go_wp2_with fail
      go_meet
      exact ⟨_, ps, ts, rfl, E1.out, E2.out, oA, hA, hR, u, hsz⟩
  obtain ⟨W2, ps, ts, hZ, ee_ps, ee_ts, oA, hA, hR, u, hsz⟩ := hcut
  subst hZ
  have E_ps := Lib.hid ee_ps
  clear ee_ps
  have E_ts := Lib.hid ee_ts
  clear ee_ts
  clear HA HR OA U HSZ hd cps cts a0 fa0 a1 fa1 a2 fa2 a3 fa3 a4 fa4 a5 fa5 a6 fa6 a7 fa7 a8 fa8 a9 fa9
  go_upto_region 3 with (fail)
  have hr := h.up u
  have cpl := Lib.hid (fun wx (v : Up W2 wx) => cloneStr_any x.pl lo hi wx (hr.up v).pl)
  have cws := Lib.hid (fun wx (v : Up W2 wx) => cloneWay_any x.ws lo hi wx (hr.up v).ws)
  have hd : Up W2 W2.drew := (Up.refl _).drew
  obtain ⟨a0, a1, a2, a3, a4, a5, a6, a7, a8, a9⟩ := hA.c10
  obtain ⟨fa0, fa1, fa2, fa3, fa4, fa5, fa6, fa7, fa8, fa9⟩ := hA.f10
  have HA := Lib.hid hA
  have HR := Lib.hid hR
  have OA := Lib.hid oA
  have U := Lib.hid u
  have HSZ := Lib.hid hsz
  clear hA hR oA u hsz hr
  go_cut [28] (fun _ wx => ∃ (Z : World) (pl : Sl ByteArray) (ws : Sl I3), Z = wx ∧ pl.l = x.pl.l ∧ ws.l = x.ws.l ∧ OwA Z (w.heap.size + 2) [rwReign rs, rwPerson ps, rwTerm ts, rwStr pl, rwWay ws] ∧ Bx Z w.heap.size [.slice rs.A rs.l.length rs.c, .int .i64 x.fr, .int .i64 x.to_, .slice ps.A ps.l.length ps.c, .slice ts.A ts.l.length ts.c, .slice pl.A pl.l.length pl.c, .slice ws.A ws.l.length ws.c, .slice x.st.A x.st.l.length x.st.c, .slice x.se.A x.se.l.length x.se.c, .slice x.ha.A x.ha.l.length x.ha.c] ∧ Bx Z (w.heap.size + 1) [.slice none 0 0, .int .i64 0, .int .i64 0, .slice none 0 0, .slice none 0 0, .slice none 0 0, .slice none 0 0, .slice none 0 0, .slice none 0 0, .slice none 0 0] ∧ Up w Z ∧ w.heap.size + 2 ≤ Z.heap.size)
  case first =>
    go_region_law
      (first
        | (go_simp; go_at_call 29
           refine (cpl.out _ hd).mono ?_
           rintro e v1 ⟨pl, rfl, ee1, o1, q1⟩
           have E1 := Lib.hid ee1
           clear ee1
           have d1 := hd.trans q1
           obtain ⟨k0_0, k0_1, k0_2, k0_3, k0_4, k0_5, k0_6, k0_7, k0_8, k0_9⟩ := (HA.out.up d1).c10
           obtain ⟨n0_0, n0_1, n0_2, n0_3, n0_4, n0_5, n0_6, n0_7, n0_8, n0_9⟩ := (HA.out.up d1).f10)
        | (go_simp; go_at_call 65
           refine (cws.out _ d1).mono ?_
           rintro e v2 ⟨ws, rfl, ee2, o2, q2⟩
           have E2 := Lib.hid ee2
           clear ee2
           have d2 := d1.trans q2
           obtain ⟨k1_0, k1_1, k1_2, k1_3, k1_4, k1_5, k1_6, k1_7, k1_8, k1_9⟩ := (HA.out.up d2).c10
           obtain ⟨n1_0, n1_1, n1_2, n1_3, n1_4, n1_5, n1_6, n1_7, n1_8, n1_9⟩ := (HA.out.up d2).f10))
    all_goals
      have oA := OA.out.append (hd.trans ((Up.refl _).trans ((q1.trans q2)))) HSZ.out (OwA.base ((OwA.one (r := rwStr pl) o1).append q2 q1.size (OwA.one (r := rwWay ws) o2)) hd.size)
      have hA := HA.out.up d2
      have hR := HR.out.up d2
      have u := U.out.trans d2
      have hsz := Nat.le_trans HSZ.out d2.size
      replace hA := hA.put 5 (.slice pl.A pl.l.length pl.c)
      replace hR := hR.other (b' := w.heap.size) (by omega) 5 (.slice pl.A pl.l.length pl.c)
      replace oA := oA.put (p := ⟨w.heap.size, 5, none⟩) (show w.heap.size < w.heap.size + 2 by omega) (.slice pl.A pl.l.length pl.c)
      replace u := u.setCell (p := ⟨w.heap.size, 5, none⟩) (show w.heap.size ≤ w.heap.size by omega) (.slice pl.A pl.l.length pl.c)
      replace hA := hA.put 6 (.slice ws.A ws.l.length ws.c)
      replace hR := hR.other (b' := w.heap.size) (by omega) 6 (.slice ws.A ws.l.length ws.c)
      replace oA := oA.put (p := ⟨w.heap.size, 6, none⟩) (show w.heap.size < w.heap.size + 2 by omega) (.slice ws.A ws.l.length ws.c)
      replace u := u.setCell (p := ⟨w.heap.size, 6, none⟩) (show w.heap.size ≤ w.heap.size by omega) (.slice ws.A ws.l.length ws.c)
      replace hsz : w.heap.size + 2 ≤ ((v2.setCell ⟨w.heap.size, 5, none⟩ (.slice pl.A pl.l.length pl.c)).setCell ⟨w.heap.size, 6, none⟩ (.slice ws.A ws.l.length ws.c)).heap.size := by simpa using hsz
      go_wp2_with fail
      go_meet
      exact ⟨_, pl, ws, rfl, E1.out, E2.out, oA, hA, hR, u, hsz⟩
  obtain ⟨W3, pl, ws, hZ, ee_pl, ee_ws, oA, hA, hR, u, hsz⟩ := hcut
  subst hZ
  have E_pl := Lib.hid ee_pl
  clear ee_pl
  have E_ws := Lib.hid ee_ws
  clear ee_ws
  clear HA HR OA U HSZ hd cpl cws a0 fa0 a1 fa1 a2 fa2 a3 fa3 a4 fa4 a5 fa5 a6 fa6 a7 fa7 a8 fa8 a9 fa9
  go_upto_region 4 with (fail)
  have hr := h.up u
  have cst := Lib.hid (fun wx (v : Up W3 wx) => cloneStay_any x.st lo hi wx (hr.up v).st)
  have cse := Lib.hid (fun wx (v : Up W3 wx) => cloneMark_any x.se lo hi wx (hr.up v).se)
  have cha := Lib.hid (fun wx (v : Up W3 wx) => cloneMark_any x.ha lo hi wx (hr.up v).ha)
  have hd : Up W3 W3.drew := (Up.refl _).drew
  obtain ⟨a0, a1, a2, a3, a4, a5, a6, a7, a8, a9⟩ := hA.c10
  obtain ⟨fa0, fa1, fa2, fa3, fa4, fa5, fa6, fa7, fa8, fa9⟩ := hA.f10
  have HA := Lib.hid hA
  have HR := Lib.hid hR
  have OA := Lib.hid oA
  have U := Lib.hid u
  have HSZ := Lib.hid hsz
  clear hA hR oA u hsz hr
  go_cut [40] (fun _ wx => ∃ (Z : World) (st : Sl I3) (se : Sl Nm) (ha : Sl Nm), Z = wx ∧ st.l = x.st.l ∧ se.l = x.se.l ∧ ha.l = x.ha.l ∧ OwA Z (w.heap.size + 2) [rwReign rs, rwPerson ps, rwTerm ts, rwStr pl, rwWay ws, rwStay st, rwMark se, rwMark ha] ∧ Bx Z w.heap.size [.slice rs.A rs.l.length rs.c, .int .i64 x.fr, .int .i64 x.to_, .slice ps.A ps.l.length ps.c, .slice ts.A ts.l.length ts.c, .slice pl.A pl.l.length pl.c, .slice ws.A ws.l.length ws.c, .slice st.A st.l.length st.c, .slice se.A se.l.length se.c, .slice ha.A ha.l.length ha.c] ∧ Bx Z (w.heap.size + 1) [.slice none 0 0, .int .i64 0, .int .i64 0, .slice none 0 0, .slice none 0 0, .slice none 0 0, .slice none 0 0, .slice none 0 0, .slice none 0 0, .slice none 0 0] ∧ Up w Z ∧ w.heap.size + 2 ≤ Z.heap.size)
  case first =>
    go_region_law
      (first
        | (go_simp; go_at_call 66
           refine (cst.out _ hd).mono ?_
           rintro e v1 ⟨st, rfl, ee1, o1, q1⟩
           have E1 := Lib.hid ee1
           clear ee1
           have d1 := hd.trans q1
           obtain ⟨k0_0, k0_1, k0_2, k0_3, k0_4, k0_5, k0_6, k0_7, k0_8, k0_9⟩ := (HA.out.up d1).c10
           obtain ⟨n0_0, n0_1, n0_2, n0_3, n0_4, n0_5, n0_6, n0_7, n0_8, n0_9⟩ := (HA.out.up d1).f10)
        | (go_simp; go_at_call 67
           refine (cse.out _ d1).mono ?_
           rintro e v2 ⟨se, rfl, ee2, o2, q2⟩
           have E2 := Lib.hid ee2
           clear ee2
           have d2 := d1.trans q2
           obtain ⟨k1_0, k1_1, k1_2, k1_3, k1_4, k1_5, k1_6, k1_7, k1_8, k1_9⟩ := (HA.out.up d2).c10
           obtain ⟨n1_0, n1_1, n1_2, n1_3, n1_4, n1_5, n1_6, n1_7, n1_8, n1_9⟩ := (HA.out.up d2).f10)
        | (go_simp; go_at_call 67
           refine (cha.out _ d2).mono ?_
           rintro e v3 ⟨ha, rfl, ee3, o3, q3⟩
           have E3 := Lib.hid ee3
           clear ee3
           have d3 := d2.trans q3
           obtain ⟨k2_0, k2_1, k2_2, k2_3, k2_4, k2_5, k2_6, k2_7, k2_8, k2_9⟩ := (HA.out.up d3).c10
           obtain ⟨n2_0, n2_1, n2_2, n2_3, n2_4, n2_5, n2_6, n2_7, n2_8, n2_9⟩ := (HA.out.up d3).f10))
    all_goals
      have oA := OA.out.append (hd.trans ((Up.refl _).trans (((q1.trans q2).trans q3)))) HSZ.out (OwA.base (((OwA.one (r := rwStay st) o1).append q2 q1.size (OwA.one (r := rwMark se) o2)).append q3 (Nat.le_trans q1.size q2.size) (OwA.one (r := rwMark ha) o3)) hd.size)
      have hA := HA.out.up d3
      have hR := HR.out.up d3
      have u := U.out.trans d3
      have hsz := Nat.le_trans HSZ.out d3.size
      replace hA := hA.put 7 (.slice st.A st.l.length st.c)
      replace hR := hR.other (b' := w.heap.size) (by omega) 7 (.slice st.A st.l.length st.c)
      replace oA := oA.put (p := ⟨w.heap.size, 7, none⟩) (show w.heap.size < w.heap.size + 2 by omega) (.slice st.A st.l.length st.c)
      replace u := u.setCell (p := ⟨w.heap.size, 7, none⟩) (show w.heap.size ≤ w.heap.size by omega) (.slice st.A st.l.length st.c)
      replace hA := hA.put 8 (.slice se.A se.l.length se.c)
      replace hR := hR.other (b' := w.heap.size) (by omega) 8 (.slice se.A se.l.length se.c)
      replace oA := oA.put (p := ⟨w.heap.size, 8, none⟩) (show w.heap.size < w.heap.size + 2 by omega) (.slice se.A se.l.length se.c)
      replace u := u.setCell (p := ⟨w.heap.size, 8, none⟩) (show w.heap.size ≤ w.heap.size by omega) (.slice se.A se.l.length se.c)
      replace hA := hA.put 9 (.slice ha.A ha.l.length ha.c)
      replace hR := hR.other (b' := w.heap.size) (by omega) 9 (.slice ha.A ha.l.length ha.c)
      replace oA := oA.put (p := ⟨w.heap.size, 9, none⟩) (show w.heap.size < w.heap.size + 2 by omega) (.slice ha.A ha.l.length ha.c)
      replace u := u.setCell (p := ⟨w.heap.size, 9, none⟩) (show w.heap.size ≤ w.heap.size by omega) (.slice ha.A ha.l.length ha.c)
      replace hsz : w.heap.size + 2 ≤ (((v3.setCell ⟨w.heap.size, 7, none⟩ (.slice st.A st.l.length st.c)).setCell ⟨w.heap.size, 8, none⟩ (.slice se.A se.l.length se.c)).setCell ⟨w.heap.size, 9, none⟩ (.slice ha.A ha.l.length ha.c)).heap.size := by simpa using hsz
      go_wp2_with fail
      go_meet
      exact ⟨_, st, se, ha, rfl, E1.out, E2.out, E3.out, oA, hA, hR, u, hsz⟩
  obtain ⟨W4, st, se, ha, hZ, ee_st, ee_se, ee_ha, oA, hA, hR, u, hsz⟩ := hcut
  subst hZ
  have E_st := Lib.hid ee_st
  clear ee_st
  have E_se := Lib.hid ee_se
  clear ee_se
  have E_ha := Lib.hid ee_ha
  clear ee_ha
  clear HA HR OA U HSZ hd cst cse cha a0 fa0 a1 fa1 a2 fa2 a3 fa3 a4 fa4 a5 fa5 a6 fa6 a7 fa7 a8 fa8 a9 fa9
  obtain ⟨x0, x1, x2, x3, x4, x5, x6, x7, x8, x9⟩ := hA.c10
  obtain ⟨z0, z1, z2, z3, z4, z5, z6, z7, z8, z9⟩ := hR.c10
  obtain ⟨g0, g1, g2, g3, g4, g5, g6, g7, g8, g9⟩ := hR.f10
  go_wp2
  refine bodyPost_ret (v := .agg #[.slice rs.A rs.l.length rs.c, .int .i64 x.fr, .int .i64 x.to_, .slice ps.A ps.l.length ps.c, .slice ts.A ts.l.length ts.c, .slice pl.A pl.l.length pl.c, .slice ws.A ws.l.length ws.c, .slice st.A st.l.length st.c, .slice se.A se.l.length se.c, .slice ha.A ha.l.length ha.c]) (by simp [results, Tryz.results24, go_sem, z0, z1, z2, z3, z4, z5, z6, z7, z8, z9]) rfl ?_
  refine ⟨⟨rs, x.fr, x.to_, ps, ts, pl, ws, st, se, ha⟩, rfl, by simp only [Wd.p, E_rs.out, E_ps.out, E_ts.out, E_pl.out, E_ws.out, E_st.out, E_se.out, E_ha.out], ?_, ?_⟩
  · refine OwA.base (b := w.heap.size + 2) ?_ (by omega)
    iterate 10 refine OwA.put ?_ (by first | (simp; done) | (simp; omega)) _
    exact oA
  · iterate 10 refine Up.setCell ?_ (by first | (simp; done) | (simp; omega)) _
    exact u
end Go.Proofs.YtblpjjcjnaigiaaGreatDoor
