/- The walk of the law FnExactIsEvidence: whatever the arguments, it returns true and changes nothing that was there. -/
import Derived.Test.YtblndbblcoghpaaGreatDoorVn
import Derived.Deep.RegionHeld3
namespace Go.Proofs.YtblndbblcoghpaaGreatDoor
open Go.RowKit Go.Sort

theorem RawDd.sm {w : World} {lo hi : Nat} {s : Sl Dd} (h : RawDd w lo hi s) (k : s.l.length ≤ 2000000 ∧ ∀ d ∈ s.l, SmE d) : RdDd w lo hi s :=
  ⟨h.rd, h.hhi, k.1, fun d hd => (h.each d hd).rd (k.2 d hd), h.cap⟩
theorem evB_same {x x' : Pw} {ds ds' : List Pd} {fs fs' : List Fm} {q q' : List (Sl ByteArray)} (e1 : x' = x) (e2 : ds' = ds) (e3 : fs'.map Fm.p = fs.map Fm.p) (e4 : phP q' = phP q) : evB x' ds' fs' q' = evB x ds fs q := by
  have h1 : q'.length = q.length := by simpa using congrArg List.length e4
  have h2 : phsB q' = phsB q := by
    have := congrArg (fun m => m.all fun p => phB p) e4
    simpa [List.all_map, Function.comp_def] using this
  unfold evB
  rw [e1, e2, afB_same e3, h1, h2]
set_option maxRecDepth 100000 in
set_option maxHeartbeats 8000000 in
theorem fnExactIsEvidence_walk (x : Wd) (s : Sl Dd) (g : Sl Fm) (q : Sl (Sl ByteArray)) (w : World) (h1 : RawW w 0 w.heap.size x) (h2 : RawDd w 0 w.heap.size s) (h3 : RawF w 0 w.heap.size g) (h4 : RawPh w 0 w.heap.size q) :
    Calls Tryz.prog 4 #[.agg #[.slice x.rs.A x.rs.l.length x.rs.c, .int .i64 x.fr, .int .i64 x.to_, .slice x.ps.A x.ps.l.length x.ps.c, .slice x.ts.A x.ts.l.length x.ts.c, .slice x.pl.A x.pl.l.length x.pl.c, .slice x.ws.A x.ws.l.length x.ws.c, .slice x.st.A x.st.l.length x.st.c, .slice x.se.A x.se.l.length x.se.c, .slice x.ha.A x.ha.l.length x.ha.c, .slice s.A s.l.length s.c, .slice g.A g.l.length g.c, .slice q.A q.l.length q.c]] w fun e w' => e = .returned (.bool true) ∧ Up w w' := by
  have u := Up.alloc w (.cells #[.slice x.rs.A x.rs.l.length x.rs.c, .int .i64 x.fr, .int .i64 x.to_, .slice x.ps.A x.ps.l.length x.ps.c, .slice x.ts.A x.ts.l.length x.ts.c, .slice x.pl.A x.pl.l.length x.pl.c, .slice x.ws.A x.ws.l.length x.ws.c, .slice x.st.A x.st.l.length x.st.c, .slice x.se.A x.se.l.length x.se.c, .slice x.ha.A x.ha.l.length x.ha.c, .slice s.A s.l.length s.c, .slice g.A g.l.length g.c, .slice q.A q.l.length q.c] 67)
  have hA := Bx.new w #[.slice x.rs.A x.rs.l.length x.rs.c, .int .i64 x.fr, .int .i64 x.to_, .slice x.ps.A x.ps.l.length x.ps.c, .slice x.ts.A x.ts.l.length x.ts.c, .slice x.pl.A x.pl.l.length x.pl.c, .slice x.ws.A x.ws.l.length x.ws.c, .slice x.st.A x.st.l.length x.st.c, .slice x.se.A x.se.l.length x.se.c, .slice x.ha.A x.ha.l.length x.ha.c, .slice s.A s.l.length s.c, .slice g.A g.l.length g.c, .slice q.A q.l.length q.c] 67
  have HS := Lib.hid (fun (wx : World) (u : Up w wx) => szEvidence_any x s g q 0 w.heap.size 1048576 wx (h1.up u) (h2.up u) (h3.up u) (h4.up u) (by omega) (by omega))
  have Hh := Lib.hid (show RawW w 0 w.heap.size x ∧ RawDd w 0 w.heap.size s ∧ RawF w 0 w.heap.size g ∧ RawPh w 0 w.heap.size q from ⟨h1, h2, h3, h4⟩)
  clear h1 h2 h3 h4
  go_enter Tryz.func4, Tryz.ntmps4
  go_wp2_with fail
  generalize w.alloc (.cells #[.slice x.rs.A x.rs.l.length x.rs.c, .int .i64 x.fr, .int .i64 x.to_, .slice x.ps.A x.ps.l.length x.ps.c, .slice x.ts.A x.ts.l.length x.ts.c, .slice x.pl.A x.pl.l.length x.pl.c, .slice x.ws.A x.ws.l.length x.ws.c, .slice x.st.A x.st.l.length x.st.c, .slice x.se.A x.se.l.length x.se.c, .slice x.ha.A x.ha.l.length x.ha.c, .slice s.A s.l.length s.c, .slice g.A g.l.length g.c, .slice q.A q.l.length q.c] 67) = W0 at *
  refine (HS.out _ u).mono ?_
  rintro e w1 ⟨z, rfl, hz, sm, v⟩
  replace u := u.trans v
  replace hA := hA.up v
  clear v HS
  obtain ⟨x0, x1, x2, x3, x4, x5, x6, x7, x8, x9, x10, x11, x12⟩ := hA.c13
  by_cases c : z < 0
  · have hd : decide (z < 0) = true := by simpa using c
    clear sm
    go_wp2
    go_ret
    exact ⟨rfl, u⟩
  have hd : decide (z < 0) = false := by simpa using c
  obtain ⟨s1, s2, s3, s4⟩ := sm.resolve_left c
  obtain ⟨h1, h2, h3, h4⟩ := Hh.out
  have R1 := Lib.hid (h1.rd s1)
  have R2 := Lib.hid (RawDd.sm h2 s2)
  have R3 := Lib.hid (h3.sr s3)
  have R4 := Lib.hid (h4.sr s4)
  clear sm Hh s1 s2 s3 s4 h1 h2 h3 h4
  have HT := Lib.hid (fun (wx : World) (u : Up w wx) => toEvidence_any x s g q 0 w.heap.size wx (R1.out.up u) (R2.out.up u) (R3.out.up u) (R4.out.up u))
  obtain ⟨bb, hbb⟩ : ∃ z, z = evB x.p (s.l.map Dd.p) g.l q.l := ⟨_, rfl⟩
  have BB := Lib.hid hbb
  clear hbb
  have hne : (bb != bb) = false := by simp
  go_wp2_with fail
  refine (HT.out _ u).mono ?_
  rintro e w2 ⟨xa, sa, ga, qa, rfl, e1, e2, e3, e4, o1, o2, o3, o4, v⟩
  have A1 := Lib.hid (o1.rd e1 R1.out)
  have Ea1 := Lib.hid e1
  have A2 := Lib.hid (o2.rd e2 R2.out)
  have Ea2 := Lib.hid e2
  have A3 := Lib.hid (o3.rd e3 R3.out)
  have Ea3 := Lib.hid e3
  have A4 := Lib.hid (o4.rd e4 R4.out)
  have Ea4 := Lib.hid e4
  clear e1 e2 e3 e4 o1 o2 o3 o4
  replace u := u.trans v
  replace hA := hA.up v
  clear v
  obtain ⟨x0, x1, x2, x3, x4, x5, x6, x7, x8, x9, x10, x11, x12⟩ := hA.c13
  go_wp2_with fail
  refine (specIsEvidence_any xa sa ga qa _ _ _ A1.out A2.out A3.out A4.out).mono ?_
  rintro e w3 ⟨rfl, v⟩
  rw [show evB xa.p (sa.l.map Dd.p) ga.l qa.l = bb by rw [BB.out]; exact evB_same Ea1.out Ea2.out Ea3.out Ea4.out]
  replace u := u.trans v
  replace hA := hA.up v
  clear v
  obtain ⟨x0, x1, x2, x3, x4, x5, x6, x7, x8, x9, x10, x11, x12⟩ := hA.c13
  go_wp2_with fail
  refine (HT.out _ u).mono ?_
  rintro e w4 ⟨xb, sb, gb, qb, rfl, e1, e2, e3, e4, o1, o2, o3, o4, v⟩
  have B1 := Lib.hid (o1.rd e1 R1.out)
  have Eb1 := Lib.hid e1
  have B2 := Lib.hid (o2.rd e2 R2.out)
  have Eb2 := Lib.hid e2
  have B3 := Lib.hid (o3.rd e3 R3.out)
  have Eb3 := Lib.hid e3
  have B4 := Lib.hid (o4.rd e4 R4.out)
  have Eb4 := Lib.hid e4
  clear e1 e2 e3 e4 o1 o2 o3 o4
  replace u := u.trans v
  replace hA := hA.up v
  clear v
  obtain ⟨x0, x1, x2, x3, x4, x5, x6, x7, x8, x9, x10, x11, x12⟩ := hA.c13
  have hX := Bx.new w4 #[.slice xb.rs.A xb.rs.l.length xb.rs.c, .int .i64 xb.fr, .int .i64 xb.to_, .slice xb.ps.A xb.ps.l.length xb.ps.c, .slice xb.ts.A xb.ts.l.length xb.ts.c, .slice xb.pl.A xb.pl.l.length xb.pl.c, .slice xb.ws.A xb.ws.l.length xb.ws.c, .slice xb.st.A xb.st.l.length xb.st.c, .slice xb.se.A xb.se.l.length xb.se.c, .slice xb.ha.A xb.ha.l.length xb.ha.c, .slice sb.A sb.l.length sb.c, .slice gb.A gb.l.length gb.c, .slice qb.A qb.l.length qb.c] 72
  have v4 := Up.alloc w4 (.cells #[.slice xb.rs.A xb.rs.l.length xb.rs.c, .int .i64 xb.fr, .int .i64 xb.to_, .slice xb.ps.A xb.ps.l.length xb.ps.c, .slice xb.ts.A xb.ts.l.length xb.ts.c, .slice xb.pl.A xb.pl.l.length xb.pl.c, .slice xb.ws.A xb.ws.l.length xb.ws.c, .slice xb.st.A xb.st.l.length xb.st.c, .slice xb.se.A xb.se.l.length xb.se.c, .slice xb.ha.A xb.ha.l.length xb.ha.c, .slice sb.A sb.l.length sb.c, .slice gb.A gb.l.length gb.c, .slice qb.A qb.l.length qb.c] 72)
  replace u := u.trans v4
  replace hA := hA.up v4
  have B1 := Lib.hid (B1.out.up v4)
  have B2 := Lib.hid (B2.out.up v4)
  have B3 := Lib.hid (B3.out.up v4)
  have B4 := Lib.hid (B4.out.up v4)
  clear v4
  go_wp2_with fail
  generalize w4.alloc (.cells #[.slice xb.rs.A xb.rs.l.length xb.rs.c, .int .i64 xb.fr, .int .i64 xb.to_, .slice xb.ps.A xb.ps.l.length xb.ps.c, .slice xb.ts.A xb.ts.l.length xb.ts.c, .slice xb.pl.A xb.pl.l.length xb.pl.c, .slice xb.ws.A xb.ws.l.length xb.ws.c, .slice xb.st.A xb.st.l.length xb.st.c, .slice xb.se.A xb.se.l.length xb.se.c, .slice xb.ha.A xb.ha.l.length xb.ha.c, .slice sb.A sb.l.length sb.c, .slice gb.A gb.l.length gb.c, .slice qb.A qb.l.length qb.c] 72) = W5 at *
  obtain ⟨y0, y1, y2, y3, y4, y5, y6, y7, y8, y9, y10, y11, y12⟩ := hX.c13
  go_wp2_with fail
  refine (implIsEvidence_any xb sb gb qb _ _ _ B1.out B2.out B3.out B4.out).mono ?_
  rintro e w6 ⟨rfl, v⟩
  rw [show evB xb.p (sb.l.map Dd.p) gb.l qb.l = bb by rw [BB.out]; exact evB_same Eb1.out Eb2.out Eb3.out Eb4.out]
  replace u := u.trans v
  replace hA := hA.up v
  replace hX := hX.up v
  have B1 := Lib.hid (B1.out.up v)
  have B2 := Lib.hid (B2.out.up v)
  have B3 := Lib.hid (B3.out.up v)
  have B4 := Lib.hid (B4.out.up v)
  clear v
  obtain ⟨x0, x1, x2, x3, x4, x5, x6, x7, x8, x9, x10, x11, x12⟩ := hA.c13
  obtain ⟨y0, y1, y2, y3, y4, y5, y6, y7, y8, y9, y10, y11, y12⟩ := hX.c13
  go_wp2_with fail
  have hd6 : Up w6 w6.drew := (Up.refl _).drew
  have hz6 : Up w6 w6 := Up.refl _
  have HT6 := Lib.hid (fun (wx : World) (hx : Up w6 wx) => HT.out wx (u.trans hx))
  go_region_held3 (fun w' => Up w6 w' ∧ w'.cell? ⟨w.heap.size, 0, none⟩ = some (.slice x.rs.A x.rs.l.length x.rs.c) ∧ w'.cell? ⟨w.heap.size, 1, none⟩ = some (.int .i64 x.fr) ∧ w'.cell? ⟨w.heap.size, 2, none⟩ = some (.int .i64 x.to_) ∧ w'.cell? ⟨w.heap.size, 3, none⟩ = some (.slice x.ps.A x.ps.l.length x.ps.c) ∧ w'.cell? ⟨w.heap.size, 4, none⟩ = some (.slice x.ts.A x.ts.l.length x.ts.c) ∧ w'.cell? ⟨w.heap.size, 5, none⟩ = some (.slice x.pl.A x.pl.l.length x.pl.c) ∧ w'.cell? ⟨w.heap.size, 6, none⟩ = some (.slice x.ws.A x.ws.l.length x.ws.c) ∧ w'.cell? ⟨w.heap.size, 7, none⟩ = some (.slice x.st.A x.st.l.length x.st.c) ∧ w'.cell? ⟨w.heap.size, 8, none⟩ = some (.slice x.se.A x.se.l.length x.se.c) ∧ w'.cell? ⟨w.heap.size, 9, none⟩ = some (.slice x.ha.A x.ha.l.length x.ha.c) ∧ w'.cell? ⟨w.heap.size, 10, none⟩ = some (.slice s.A s.l.length s.c) ∧ w'.cell? ⟨w.heap.size, 11, none⟩ = some (.slice g.A g.l.length g.c) ∧ w'.cell? ⟨w.heap.size, 12, none⟩ = some (.slice q.A q.l.length q.c) ∧ w'.cell? ⟨w4.heap.size, 0, none⟩ = some (.slice xb.rs.A xb.rs.l.length xb.rs.c) ∧ w'.cell? ⟨w4.heap.size, 1, none⟩ = some (.int .i64 xb.fr) ∧ w'.cell? ⟨w4.heap.size, 2, none⟩ = some (.int .i64 xb.to_) ∧ w'.cell? ⟨w4.heap.size, 3, none⟩ = some (.slice xb.ps.A xb.ps.l.length xb.ps.c) ∧ w'.cell? ⟨w4.heap.size, 4, none⟩ = some (.slice xb.ts.A xb.ts.l.length xb.ts.c) ∧ w'.cell? ⟨w4.heap.size, 5, none⟩ = some (.slice xb.pl.A xb.pl.l.length xb.pl.c) ∧ w'.cell? ⟨w4.heap.size, 6, none⟩ = some (.slice xb.ws.A xb.ws.l.length xb.ws.c) ∧ w'.cell? ⟨w4.heap.size, 7, none⟩ = some (.slice xb.st.A xb.st.l.length xb.st.c) ∧ w'.cell? ⟨w4.heap.size, 8, none⟩ = some (.slice xb.se.A xb.se.l.length xb.se.c) ∧ w'.cell? ⟨w4.heap.size, 9, none⟩ = some (.slice xb.ha.A xb.ha.l.length xb.ha.c) ∧ w'.cell? ⟨w4.heap.size, 10, none⟩ = some (.slice sb.A sb.l.length sb.c) ∧ w'.cell? ⟨w4.heap.size, 11, none⟩ = some (.slice gb.A gb.l.length gb.c) ∧ w'.cell? ⟨w4.heap.size, 12, none⟩ = some (.slice qb.A qb.l.length qb.c))
    (first | exact ⟨Up.refl _, x0, x1, x2, x3, x4, x5, x6, x7, x8, x9, x10, x11, x12, y0, y1, y2, y3, y4, y5, y6, y7, y8, y9, y10, y11, y12⟩ | exact ⟨hd6, x0, x1, x2, x3, x4, x5, x6, x7, x8, x9, x10, x11, x12, y0, y1, y2, y3, y4, y5, y6, y7, y8, y9, y10, y11, y12⟩ | exact ⟨by assumption, by assumption, by assumption, by assumption, by assumption, by assumption, by assumption, by assumption, by assumption, by assumption, by assumption, by assumption, by assumption, by assumption, by assumption, by assumption, by assumption, by assumption, by assumption, by assumption, by assumption, by assumption, by assumption, by assumption, by assumption, by assumption, by assumption⟩)
    (first
      | (go_at_call 12
         with_reducible refine (HT6.out _ (by assumption)).mono ?_
         rintro e wy ⟨xc, sc, gc, qc, rfl, e1, e2, e3, e4, o1, o2, o3, o4, v3⟩
         have hS3 : Up w6 wy := Up.trans (by assumption) v3
         have p0 := hS3.cell x0
         have q0 := hS3.cell y0
         have p1 := hS3.cell x1
         have q1 := hS3.cell y1
         have p2 := hS3.cell x2
         have q2 := hS3.cell y2
         have p3 := hS3.cell x3
         have q3 := hS3.cell y3
         have p4 := hS3.cell x4
         have q4 := hS3.cell y4
         have p5 := hS3.cell x5
         have q5 := hS3.cell y5
         have p6 := hS3.cell x6
         have q6 := hS3.cell y6
         have p7 := hS3.cell x7
         have q7 := hS3.cell y7
         have p8 := hS3.cell x8
         have q8 := hS3.cell y8
         have p9 := hS3.cell x9
         have q9 := hS3.cell y9
         have p10 := hS3.cell x10
         have q10 := hS3.cell y10
         have p11 := hS3.cell x11
         have q11 := hS3.cell y11
         have p12 := hS3.cell x12
         have q12 := hS3.cell y12
         have HQ := Lib.hid (fun (wx : World) (hx : Up wy wx) => eqEvidence_p xb sb gb qb xc sc gc qc _ _ _ _ wx ((B1.out.up hS3).up hx) ((B2.out.up hS3).up hx) ((B3.out.up hS3).up hx) ((B4.out.up hS3).up hx) ((o1.rd e1 R1.out).up hx) ((o2.rd e2 R2.out).up hx) ((o3.rd e3 R3.out).up hx) ((o4.rd e4 R4.out).up hx) (e1.trans Eb1.out.symm) (e2.trans Eb2.out.symm) (e3.trans Eb3.out.symm) (e4.trans Eb4.out.symm))
         have hZ : Up wy wy := Up.refl _
         have hZd : Up wy wy.drew := (Up.refl _).drew
         clear e1 e2 e3 e4 o1 o2 o3 o4)
      | (go_at_call 14
         with_reducible refine (HQ.out _ (by assumption)).mono ?_
         rintro e w5 ⟨rfl, v5⟩
         have hS5 : Up w6 w5 := Up.trans hS3 (Up.trans (by assumption) v5)
         have m0 := hS5.cell x0
         have n0 := hS5.cell y0
         have m1 := hS5.cell x1
         have n1 := hS5.cell y1
         have m2 := hS5.cell x2
         have n2 := hS5.cell y2
         have m3 := hS5.cell x3
         have n3 := hS5.cell y3
         have m4 := hS5.cell x4
         have n4 := hS5.cell y4
         have m5 := hS5.cell x5
         have n5 := hS5.cell y5
         have m6 := hS5.cell x6
         have n6 := hS5.cell y6
         have m7 := hS5.cell x7
         have n7 := hS5.cell y7
         have m8 := hS5.cell x8
         have n8 := hS5.cell y8
         have m9 := hS5.cell x9
         have n9 := hS5.cell y9
         have m10 := hS5.cell x10
         have n10 := hS5.cell y10
         have m11 := hS5.cell x11
         have n11 := hS5.cell y11
         have m12 := hS5.cell x12
         have n12 := hS5.cell y12
         have hS5' : Up w6 w5 := hS5))
  all_goals (go_wp2; go_ret; exact ⟨rfl, u.trans (by assumption)⟩)
end Go.Proofs.YtblndbblcoghpaaGreatDoor
