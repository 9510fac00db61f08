/- WithoutDeed, the program's. -/
import Derived.Test.YtblpjjcjnaigiaaGreatDoorWnG
import Derived.Test.YtblpjjcjnaigiaaGreatDoorWnC
namespace Go.Proofs.YtblpjjcjnaigiaaGreatDoor
open Go.RowKit Go.Sort
theorem owNil2 {w : World} {base : Nat} {L : List Rw} (h : OwA w base L) : OwA w base (rowsDd ⟨none, 0, []⟩ ++ (rowsPh ⟨none, 0, []⟩ ++ L)) := by
  have hn : ∀ r : Rw, r.v = .slice none 0 0 → ∀ x, Ap r x := fun r e x g hg => by rw [e] at hg; cases hg
  refine ⟨fun r hr => ?_, List.pairwise_cons.2 ⟨fun x _ => hn _ rfl x, List.pairwise_cons.2 ⟨fun x _ => hn _ rfl x, h.ap⟩⟩⟩
  have hr' : r ∈ rwDeed ⟨none, 0, []⟩ :: rwPhr ⟨none, 0, []⟩ :: L := hr
  rcases List.mem_cons.1 hr' with rfl | h1
  · exact World.ownsRow_nil _ _ _ _
  · rcases List.mem_cons.1 h1 with rfl | h2
    · exact World.ownsRow_nil _ _ _ _
    · exact h.each r h2
theorem nbNil2 {L : List Rw} {b : Nat} (h : NB L b) : NB (rowsDd ⟨none, 0, []⟩ ++ (rowsPh ⟨none, 0, []⟩ ++ L)) b := fun r hr e => by
  have hr' : r ∈ rwDeed ⟨none, 0, []⟩ :: rwPhr ⟨none, 0, []⟩ :: L := hr
  rcases List.mem_cons.1 hr' with rfl | h1
  · cases e
  · rcases List.mem_cons.1 h1 with rfl | h2
    · cases e
    · exact h r h2 e
theorem upKeepE' {w w' : World} {b : Nat} {y0 y1 y2 y3 y4 y5 y6 y7 y8 y9 y11 : Value} (h : Up w w') (h0 : w.cell? ⟨b, 0, none⟩ = some y0) (h1 : w.cell? ⟨b, 1, none⟩ = some y1) (h2 : w.cell? ⟨b, 2, none⟩ = some y2) (h3 : w.cell? ⟨b, 3, none⟩ = some y3) (h4 : w.cell? ⟨b, 4, none⟩ = some y4) (h5 : w.cell? ⟨b, 5, none⟩ = some y5) (h6 : w.cell? ⟨b, 6, none⟩ = some y6) (h7 : w.cell? ⟨b, 7, none⟩ = some y7) (h8 : w.cell? ⟨b, 8, none⟩ = some y8) (h9 : w.cell? ⟨b, 9, none⟩ = some y9) (h11 : w.cell? ⟨b, 11, none⟩ = some y11) : w'.cell? ⟨b, 0, none⟩ = some y0 ∧ w'.cell? ⟨b, 1, none⟩ = some y1 ∧ w'.cell? ⟨b, 2, none⟩ = some y2 ∧ w'.cell? ⟨b, 3, none⟩ = some y3 ∧ w'.cell? ⟨b, 4, none⟩ = some y4 ∧ w'.cell? ⟨b, 5, none⟩ = some y5 ∧ w'.cell? ⟨b, 6, none⟩ = some y6 ∧ w'.cell? ⟨b, 7, none⟩ = some y7 ∧ w'.cell? ⟨b, 8, none⟩ = some y8 ∧ w'.cell? ⟨b, 9, none⟩ = some y9 ∧ w'.cell? ⟨b, 11, none⟩ = some y11 := ⟨h.cell h0, h.cell h1, h.cell h2, h.cell h3, h.cell h4, h.cell h5, h.cell h6, h.cell h7, h.cell h8, h.cell h9, h.cell h11⟩
set_option maxRecDepth 100000 in
set_option maxHeartbeats 8000000 in
theorem implWithoutDeed_any (x : Wd) (s : Sl Dd) (g : Sl Fm) (q : Sl (Sl ByteArray)) (i : Int) (lo hi : Nat) (w : World) (h : RdW w lo hi x) (h2 : RdDd w lo hi s) (h3 : SrF w lo hi g) (h4 : SrPh w lo hi q) :
    Calls Tryz.prog 7 #[.agg #[.slice x.rs.A x.rs.l.length x.rs.c, .int .i64 x.fr, .int .i64 x.to_, .slice x.ps.A x.ps.l.length x.ps.c, .slice x.ts.A x.ts.l.length x.ts.c, .slice x.pl.A x.pl.l.length x.pl.c, .slice x.ws.A x.ws.l.length x.ws.c, .slice x.st.A x.st.l.length x.st.c, .slice x.se.A x.se.l.length x.se.c, .slice x.ha.A x.ha.l.length x.ha.c, .slice s.A s.l.length s.c, .slice g.A g.l.length g.c, .slice q.A q.l.length q.c], .int .i64 i] w fun e w' => ∃ (y : Wd) (t : Sl Dd) (g' : Sl Fm) (q' : Sl (Sl ByteArray)), e = .returned (.tuple #[.agg #[.slice y.rs.A y.rs.l.length y.rs.c, .int .i64 y.fr, .int .i64 y.to_, .slice y.ps.A y.ps.l.length y.ps.c, .slice y.ts.A y.ts.l.length y.ts.c, .slice y.pl.A y.pl.l.length y.pl.c, .slice y.ws.A y.ws.l.length y.ws.c, .slice y.st.A y.st.l.length y.st.c, .slice y.se.A y.se.l.length y.se.c, .slice y.ha.A y.ha.l.length y.ha.c, .slice t.A t.l.length t.c, .slice g'.A g'.l.length g'.c, .slice q'.A q'.l.length q'.c], .int .i64 (evC (evB x.p (s.l.map Dd.p) g.l q.l) s.l.length i)]) ∧ WR x s g q i (evC (evB x.p (s.l.map Dd.p) g.l q.l) s.l.length i) y t g' q' ∧ OwA w' w.heap.size (rowsEv y t g' q') ∧ Up w w' := by
  have u : Up w (((w.alloc (.cells #[.slice x.rs.A x.rs.l.length x.rs.c, .int .i64 x.fr, .int .i64 x.to_, .slice x.ps.A x.ps.l.length x.ps.c, .slice x.ts.A x.ts.l.length x.ts.c, .slice x.pl.A x.pl.l.length x.pl.c, .slice x.ws.A x.ws.l.length x.ws.c, .slice x.st.A x.st.l.length x.st.c, .slice x.se.A x.se.l.length x.se.c, .slice x.ha.A x.ha.l.length x.ha.c, .slice s.A s.l.length s.c, .slice g.A g.l.length g.c, .slice q.A q.l.length q.c] 60)).alloc (.cells #[.int .i64 i] 2)).alloc (.cells #[.slice none 0 0, .int .i64 0, .int .i64 0, .slice none 0 0, .slice none 0 0, .slice none 0 0, .slice none 0 0, .slice none 0 0, .slice none 0 0, .slice none 0 0, .slice none 0 0, .slice none 0 0, .slice none 0 0] 60)) := ((Up.alloc _ _).allocs _).allocs _
  have hA := ((Bx.new w #[.slice x.rs.A x.rs.l.length x.rs.c, .int .i64 x.fr, .int .i64 x.to_, .slice x.ps.A x.ps.l.length x.ps.c, .slice x.ts.A x.ts.l.length x.ts.c, .slice x.pl.A x.pl.l.length x.pl.c, .slice x.ws.A x.ws.l.length x.ws.c, .slice x.st.A x.st.l.length x.st.c, .slice x.se.A x.se.l.length x.se.c, .slice x.ha.A x.ha.l.length x.ha.c, .slice s.A s.l.length s.c, .slice g.A g.l.length g.c, .slice q.A q.l.length q.c] 60).up (Up.alloc _ (.cells #[.int .i64 i] 2))).up (Up.alloc _ (.cells #[.slice none 0 0, .int .i64 0, .int .i64 0, .slice none 0 0, .slice none 0 0, .slice none 0 0, .slice none 0 0, .slice none 0 0, .slice none 0 0, .slice none 0 0, .slice none 0 0, .slice none 0 0, .slice none 0 0] 60))
  have hI : Bx (((w.alloc (.cells #[.slice x.rs.A x.rs.l.length x.rs.c, .int .i64 x.fr, .int .i64 x.to_, .slice x.ps.A x.ps.l.length x.ps.c, .slice x.ts.A x.ts.l.length x.ts.c, .slice x.pl.A x.pl.l.length x.pl.c, .slice x.ws.A x.ws.l.length x.ws.c, .slice x.st.A x.st.l.length x.st.c, .slice x.se.A x.se.l.length x.se.c, .slice x.ha.A x.ha.l.length x.ha.c, .slice s.A s.l.length s.c, .slice g.A g.l.length g.c, .slice q.A q.l.length q.c] 60)).alloc (.cells #[.int .i64 i] 2)).alloc (.cells #[.slice none 0 0, .int .i64 0, .int .i64 0, .slice none 0 0, .slice none 0 0, .slice none 0 0, .slice none 0 0, .slice none 0 0, .slice none 0 0, .slice none 0 0, .slice none 0 0, .slice none 0 0, .slice none 0 0] 60)) (w.heap.size + 1) [.int .i64 i] := by
    have := (Bx.new (w.alloc (.cells #[.slice x.rs.A x.rs.l.length x.rs.c, .int .i64 x.fr, .int .i64 x.to_, .slice x.ps.A x.ps.l.length x.ps.c, .slice x.ts.A x.ts.l.length x.ts.c, .slice x.pl.A x.pl.l.length x.pl.c, .slice x.ws.A x.ws.l.length x.ws.c, .slice x.st.A x.st.l.length x.st.c, .slice x.se.A x.se.l.length x.se.c, .slice x.ha.A x.ha.l.length x.ha.c, .slice s.A s.l.length s.c, .slice g.A g.l.length g.c, .slice q.A q.l.length q.c] 60)) #[.int .i64 i] 2).up (Up.alloc _ (.cells #[.slice none 0 0, .int .i64 0, .int .i64 0, .slice none 0 0, .slice none 0 0, .slice none 0 0, .slice none 0 0, .slice none 0 0, .slice none 0 0, .slice none 0 0, .slice none 0 0, .slice none 0 0, .slice none 0 0] 60))
    simpa using this
  have hR : Bx (((w.alloc (.cells #[.slice x.rs.A x.rs.l.length x.rs.c, .int .i64 x.fr, .int .i64 x.to_, .slice x.ps.A x.ps.l.length x.ps.c, .slice x.ts.A x.ts.l.length x.ts.c, .slice x.pl.A x.pl.l.length x.pl.c, .slice x.ws.A x.ws.l.length x.ws.c, .slice x.st.A x.st.l.length x.st.c, .slice x.se.A x.se.l.length x.se.c, .slice x.ha.A x.ha.l.length x.ha.c, .slice s.A s.l.length s.c, .slice g.A g.l.length g.c, .slice q.A q.l.length q.c] 60)).alloc (.cells #[.int .i64 i] 2)).alloc (.cells #[.slice none 0 0, .int .i64 0, .int .i64 0, .slice none 0 0, .slice none 0 0, .slice none 0 0, .slice none 0 0, .slice none 0 0, .slice none 0 0, .slice none 0 0, .slice none 0 0, .slice none 0 0, .slice none 0 0] 60)) (w.heap.size + 1 + 1) [.slice none 0 0, .int .i64 0, .int .i64 0, .slice none 0 0, .slice none 0 0, .slice none 0 0, .slice none 0 0, .slice none 0 0, .slice none 0 0, .slice none 0 0, .slice none 0 0, .slice none 0 0, .slice none 0 0] := by
    have := Bx.new ((w.alloc (.cells #[.slice x.rs.A x.rs.l.length x.rs.c, .int .i64 x.fr, .int .i64 x.to_, .slice x.ps.A x.ps.l.length x.ps.c, .slice x.ts.A x.ts.l.length x.ts.c, .slice x.pl.A x.pl.l.length x.pl.c, .slice x.ws.A x.ws.l.length x.ws.c, .slice x.st.A x.st.l.length x.st.c, .slice x.se.A x.se.l.length x.se.c, .slice x.ha.A x.ha.l.length x.ha.c, .slice s.A s.l.length s.c, .slice g.A g.l.length g.c, .slice q.A q.l.length q.c] 60)).alloc (.cells #[.int .i64 i] 2)) #[.slice none 0 0, .int .i64 0, .int .i64 0, .slice none 0 0, .slice none 0 0, .slice none 0 0, .slice none 0 0, .slice none 0 0, .slice none 0 0, .slice none 0 0, .slice none 0 0, .slice none 0 0, .slice none 0 0] 60
    simpa using this
  have hsz : w.heap.size + 3 ≤ (((w.alloc (.cells #[.slice x.rs.A x.rs.l.length x.rs.c, .int .i64 x.fr, .int .i64 x.to_, .slice x.ps.A x.ps.l.length x.ps.c, .slice x.ts.A x.ts.l.length x.ts.c, .slice x.pl.A x.pl.l.length x.pl.c, .slice x.ws.A x.ws.l.length x.ws.c, .slice x.st.A x.st.l.length x.st.c, .slice x.se.A x.se.l.length x.se.c, .slice x.ha.A x.ha.l.length x.ha.c, .slice s.A s.l.length s.c, .slice g.A g.l.length g.c, .slice q.A q.l.length q.c] 60)).alloc (.cells #[.int .i64 i] 2)).alloc (.cells #[.slice none 0 0, .int .i64 0, .int .i64 0, .slice none 0 0, .slice none 0 0, .slice none 0 0, .slice none 0 0, .slice none 0 0, .slice none 0 0, .slice none 0 0, .slice none 0 0, .slice none 0 0, .slice none 0 0] 60)).heap.size := by simp
  obtain ⟨c, hc⟩ : ∃ z, z = evC (evB x.p (s.l.map Dd.p) g.l q.l) s.l.length i := ⟨_, rfl⟩
  have c1 := fun wx (u : Up w wx) => checkEvidence_any x s g q i lo hi wx (h.up u) (h2.up u) (h3.up u) (h4.up u)
  simp only [← hc] at c1 ⊢
  have K1 := Lib.hid c1
  have HC := Lib.hid hc
  clear c1 hc
  go_enter Tryz.func7, Tryz.ntmps7
  go_wp2_with fail
  generalize (((w.alloc (.cells #[.slice x.rs.A x.rs.l.length x.rs.c, .int .i64 x.fr, .int .i64 x.to_, .slice x.ps.A x.ps.l.length x.ps.c, .slice x.ts.A x.ts.l.length x.ts.c, .slice x.pl.A x.pl.l.length x.pl.c, .slice x.ws.A x.ws.l.length x.ws.c, .slice x.st.A x.st.l.length x.st.c, .slice x.se.A x.se.l.length x.se.c, .slice x.ha.A x.ha.l.length x.ha.c, .slice s.A s.l.length s.c, .slice g.A g.l.length g.c, .slice q.A q.l.length q.c] 60)).alloc (.cells #[.int .i64 i] 2)).alloc (.cells #[.slice none 0 0, .int .i64 0, .int .i64 0, .slice none 0 0, .slice none 0 0, .slice none 0 0, .slice none 0 0, .slice none 0 0, .slice none 0 0, .slice none 0 0, .slice none 0 0, .slice none 0 0, .slice none 0 0] 60)) = W1 at *
  obtain ⟨a0, a1, a2, a3, a4, a5, a6, a7, a8, a9, a10, a11, a12⟩ := hA.c13
  have i0 := (hI 0 _ rfl).1
  refine (K1.out _ u).mono ?_
  rintro e W2 ⟨rfl, v⟩
  replace u := u.trans v
  replace hA := hA.up v
  replace hI := hI.up v
  replace hR := hR.up v
  replace hsz := Nat.le_trans hsz v.size
  clear v i0 a0 a1 a2 a3 a4 a5 a6 a7 a8 a9 a10 a11 a12
  by_cases hc0 : c = 0
  rotate_left
  · have e1 : (c != 0) = true := by simpa using hc0
    have e2 : (!(c == 0)) = true := by simpa using hc0
    have e3 : (c == 0) = false := by simpa using hc0
    obtain ⟨z0, z1, z2, z3, z4, z5, z6, z7, z8, z9, z10, z11, z12⟩ := hR.c13
    obtain ⟨f0, f1, f2, f3, f4, f5, f6, f7, f8, f9, f10, f11, f12⟩ := hR.f13
    go_wp2
    refine bodyPost_ret (v := .tuple #[.agg #[.slice none 0 0, .int .i64 0, .int .i64 0, .slice none 0 0, .slice none 0 0, .slice none 0 0, .slice none 0 0, .slice none 0 0, .slice none 0 0, .slice none 0 0, .slice none 0 0, .slice none 0 0, .slice none 0 0], .int .i64 c]) (by simp [results, Tryz.results7, go_sem, z0, z1, z2, z3, z4, z5, z6, z7, z8, z9, z10, z11, z12]) rfl ?_
    refine ⟨⟨⟨none, 0, []⟩, 0, 0, ⟨none, 0, []⟩, ⟨none, 0, []⟩, ⟨none, 0, []⟩, ⟨none, 0, []⟩, ⟨none, 0, []⟩, ⟨none, 0, []⟩, ⟨none, 0, []⟩⟩, ⟨none, 0, []⟩, ⟨none, 0, []⟩, ⟨none, 0, []⟩, rfl, ⟨fun _ => ⟨rfl, rfl, rfl, rfl⟩, fun e => absurd e hc0⟩, owEvNil _ _, ?_⟩
    iterate 13 refine Up.setCell ?_ (by first | (simp; done) | (simp; omega)) _
    exact u
  have hcc := HC.out
  rw [hc0] at hcc
  obtain ⟨hb, hi0, hi1⟩ := evC_zero hcc.symm
  have hql : q.l.length = s.l.length := by have := evB_len hb; rwa [List.length_map] at this
  have HQL := Lib.hid hql
  clear hql hcc K1 HC hb
  subst hc0
  obtain ⟨m, hm⟩ : ∃ m : Nat, i = (m : Int) := ⟨i.toNat, by omega⟩
  subst hm
  have hml : m < s.l.length := by omega
  have hsl := h2.len
  clear hi0 hi1
  go_upto_region 4 with (fail)
  have cw := Lib.hid (fun wx (v : Up W2 wx) => ownWorld_any x lo hi wx ((h.up u).up v))
  have cf := Lib.hid (fun wx (v : Up W2 wx) => ownFormulasW_any g lo hi wx ((h3.up u).up v))
  obtain ⟨a0, a1, a2, a3, a4, a5, a6, a7, a8, a9, a10, a11, a12⟩ := hA.c13
  have HA := Lib.hid hA
  have HI := Lib.hid hI
  have HR := Lib.hid hR
  have U := Lib.hid u
  have HSZ := Lib.hid hsz
  clear hA hI hR
  go_cut [7] (fun p wx => ∃ (Z : World) (bx : Nat) (y : Wd) (g' : Sl Fm), Z = wx ∧ p = .pointer (some ⟨bx, 0, none⟩) ∧ y.p = x.p ∧ g'.l.map Fm.p = g.l.map Fm.p ∧ OwA Z (w.heap.size + 3) (rowsW y ++ rowsFm g') ∧ NB (rowsW y ++ rowsFm g') bx ∧ w.heap.size + 3 ≤ bx ∧ Bx Z bx [.slice y.rs.A y.rs.l.length y.rs.c, .int .i64 y.fr, .int .i64 y.to_, .slice y.ps.A y.ps.l.length y.ps.c, .slice y.ts.A y.ts.l.length y.ts.c, .slice y.pl.A y.pl.l.length y.pl.c, .slice y.ws.A y.ws.l.length y.ws.c, .slice y.st.A y.st.l.length y.st.c, .slice y.se.A y.se.l.length y.se.c, .slice y.ha.A y.ha.l.length y.ha.c, .slice none 0 0, .slice g'.A g'.l.length g'.c, .slice none 0 0] ∧ Bx Z w.heap.size [.slice x.rs.A x.rs.l.length x.rs.c, .int .i64 x.fr, .int .i64 x.to_, .slice x.ps.A x.ps.l.length x.ps.c, .slice x.ts.A x.ts.l.length x.ts.c, .slice x.pl.A x.pl.l.length x.pl.c, .slice x.ws.A x.ws.l.length x.ws.c, .slice x.st.A x.st.l.length x.st.c, .slice x.se.A x.se.l.length x.se.c, .slice x.ha.A x.ha.l.length x.ha.c, .slice s.A s.l.length s.c, .slice g.A g.l.length g.c, .slice q.A q.l.length q.c] ∧ Bx Z (w.heap.size + 1) [.int .i64 (m : Int)] ∧ Bx Z (w.heap.size + 1 + 1) [.slice none 0 0, .int .i64 0, .int .i64 0, .slice none 0 0, .slice none 0 0, .slice none 0 0, .slice none 0 0, .slice none 0 0, .slice none 0 0, .slice none 0 0, .slice none 0 0, .slice none 0 0, .slice none 0 0] ∧ Up w Z)
  case first =>
    refine nameAct (fun a0 ha0 => ?_)
    obtain ⟨I, hI⟩ : ∃ I : Array Bool → Act → World → Prop, I = fun b a Z => ∃ (b0 b1 b2 b3 b4 b5 b6 b7 b8 : Bool) (u7 u17 u18 u19 u20 u21 u22 u23 : Value) (K7 : Nat) (y : Wd) (g' : Sl Fm), b = #[b0, b1, b2, b3, b4, b5, b6, b7, b8] ∧ a = ⟨#[.agg #[.slice x.rs.A x.rs.l.length x.rs.c, .int .i64 x.fr, .int .i64 x.to_, .slice x.ps.A x.ps.l.length x.ps.c, .slice x.ts.A x.ts.l.length x.ts.c, .slice x.pl.A x.pl.l.length x.pl.c, .slice x.ws.A x.ws.l.length x.ws.c, .slice x.st.A x.st.l.length x.st.c, .slice x.se.A x.se.l.length x.se.c, .slice x.ha.A x.ha.l.length x.ha.c, .slice s.A s.l.length s.c, .slice g.A g.l.length g.c, .slice q.A q.l.length q.c], .int .i64 (m : Int), .pointer (some ⟨w.heap.size, 0, none⟩), .pointer (some ⟨w.heap.size + 1, 0, none⟩), .pointer (some ⟨w.heap.size + 1 + 1, 0, none⟩), .int .i64 0, .int .i64 0, u7, undef, undef, .agg #[.slice x.rs.A x.rs.l.length x.rs.c, .int .i64 x.fr, .int .i64 x.to_, .slice x.ps.A x.ps.l.length x.ps.c, .slice x.ts.A x.ts.l.length x.ts.c, .slice x.pl.A x.pl.l.length x.pl.c, .slice x.ws.A x.ws.l.length x.ws.c, .slice x.st.A x.st.l.length x.st.c, .slice x.se.A x.se.l.length x.se.c, .slice x.ha.A x.ha.l.length x.ha.c, .slice s.A s.l.length s.c, .slice g.A g.l.length g.c, .slice q.A q.l.length q.c], .int .i64 (m : Int), .int .i64 0, .int .i64 0, .bool false, undef, undef, u17, u18, u19, u20, u21, u22, u23, undef, undef, undef, undef, undef, undef, undef, undef, undef, undef, undef, undef, undef, undef, undef, undef, undef, undef, undef, undef, undef, undef, undef, undef, undef, undef, undef, undef, undef, undef, undef, undef, undef, undef, undef, undef, undef], []⟩ ∧ Hid (b0 = true → u17 = .pointer (some ⟨w.heap.size, 0, none⟩)) ∧ Hid (b1 = true → u18 = .agg #[.slice x.rs.A x.rs.l.length x.rs.c, .int .i64 x.fr, .int .i64 x.to_, .slice x.ps.A x.ps.l.length x.ps.c, .slice x.ts.A x.ts.l.length x.ts.c, .slice x.pl.A x.pl.l.length x.pl.c, .slice x.ws.A x.ws.l.length x.ws.c, .slice x.st.A x.st.l.length x.st.c, .slice x.se.A x.se.l.length x.se.c, .slice x.ha.A x.ha.l.length x.ha.c]) ∧ Hid (b2 = true → u19 = y.val ∧ y.p = x.p) ∧ Hid (b3 = true → u20 = .pointer (some ⟨w.heap.size, 11, none⟩)) ∧ Hid (b4 = true → u21 = .slice g.A g.l.length g.c) ∧ Hid (b5 = true → u22 = .slice g'.A g'.l.length g'.c ∧ g'.l.map Fm.p = g.l.map Fm.p) ∧ Hid (b6 = true → u23 = .agg #[.slice y.rs.A y.rs.l.length y.rs.c, .int .i64 y.fr, .int .i64 y.to_, .slice y.ps.A y.ps.l.length y.ps.c, .slice y.ts.A y.ts.l.length y.ts.c, .slice y.pl.A y.pl.l.length y.pl.c, .slice y.ws.A y.ws.l.length y.ws.c, .slice y.st.A y.st.l.length y.st.c, .slice y.se.A y.se.l.length y.se.c, .slice y.ha.A y.ha.l.length y.ha.c, .slice none 0 0, .slice g'.A g'.l.length g'.c, .slice none 0 0]) ∧ Hid (b7 = true → u7 = .pointer (some ⟨K7, 0, none⟩) ∧ w.heap.size + 3 ≤ K7 ∧ W2.heap.size ≤ K7 ∧ K7 < Z.heap.size ∧ NB (Rb b2 (rowsW y) ++ Rb b5 (rowsFm g')) K7) ∧ Hid (b7 = true → b8 = false → Bx Z K7 [.slice none 0 0, .int .i64 0, .int .i64 0, .slice none 0 0, .slice none 0 0, .slice none 0 0, .slice none 0 0, .slice none 0 0, .slice none 0 0, .slice none 0 0, .slice none 0 0, .slice none 0 0, .slice none 0 0]) ∧ Hid (b8 = true → b6 = true ∧ b7 = true ∧ Bx Z K7 [.slice y.rs.A y.rs.l.length y.rs.c, .int .i64 y.fr, .int .i64 y.to_, .slice y.ps.A y.ps.l.length y.ps.c, .slice y.ts.A y.ts.l.length y.ts.c, .slice y.pl.A y.pl.l.length y.pl.c, .slice y.ws.A y.ws.l.length y.ws.c, .slice y.st.A y.st.l.length y.st.c, .slice y.se.A y.se.l.length y.se.c, .slice y.ha.A y.ha.l.length y.ha.c, .slice none 0 0, .slice g'.A g'.l.length g'.c, .slice none 0 0]) ∧ Hid (b6 = true → b2 = true ∧ b5 = true) ∧ Hid (OwA Z W2.heap.size (Rb b2 (rowsW y) ++ Rb b5 (rowsFm g'))) ∧ Hid (Up W2 Z) := ⟨_, rfl⟩
    have HH := Lib.hid hI
    clear hI
    refine wp_region_inv (by kernel_rfl) (by kernel_rfl) I ?_ ?_ ?_
    · rw [ha0, HH.out]
      refine ⟨false, false, false, false, false, false, false, false, false, undef, undef, undef, undef, undef, undef, undef, undef, 0, ⟨⟨none, 0, []⟩, 0, 0, ⟨none, 0, []⟩, ⟨none, 0, []⟩, ⟨none, 0, []⟩, ⟨none, 0, []⟩, ⟨none, 0, []⟩, ⟨none, 0, []⟩, ⟨none, 0, []⟩⟩, ⟨none, 0, []⟩, rfl, rfl, Lib.hid ((fun h => absurd h (by simp))), Lib.hid ((fun h => absurd h (by simp))), Lib.hid ((fun h => absurd h (by simp))), Lib.hid ((fun h => absurd h (by simp))), Lib.hid ((fun h => absurd h (by simp))), Lib.hid ((fun h => absurd h (by simp))), Lib.hid ((fun h => absurd h (by simp))), Lib.hid ((fun h => absurd h (by simp))), Lib.hid ((fun h => absurd h (by simp))), Lib.hid ((fun h => absurd h (by simp))), Lib.hid ((fun h => absurd h (by simp))), Lib.hid (OwA.nil_ _ _), Lib.hid ((Up.refl _).drew)⟩
    · intro b a Z k hIb hk
      rw [HH.out] at hIb
      obtain ⟨b0, b1, b2, b3, b4, b5, b6, b7, b8, u7, u17, u18, u19, u20, u21, u22, u23, K7, y, g', rfl, rfl, H0, H1, H2, H3, H4, H5, H6, H9, H9b, H10, H8d, HO, HU⟩ := hIb
      have hk11 : k < 9 := by obtain ⟨-, o, ho, -⟩ := mem_ready.1 hk; exact (Array.getElem?_eq_some_iff.1 ho).1
      have hZ := HU.out.size
      obtain rfl | rfl | rfl | rfl | rfl | rfl | rfl | rfl | rfl := (show k = 0 ∨ k = 1 ∨ k = 2 ∨ k = 3 ∨ k = 4 ∨ k = 5 ∨ k = 6 ∨ k = 7 ∨ k = 8 by omega)
      · have hnot : b0 = false := (mem_ready.1 hk).1
        clear hk
        refine wpOp_plain (o := _) rfl rfl ?_
        go_simp
        rw [HH.out]
        exact ⟨true, b1, b2, b3, b4, b5, b6, b7, b8, u7, .pointer (some ⟨w.heap.size, 0, none⟩), u18, u19, u20, u21, u22, u23, K7, y, g', rfl, rfl, Lib.hid (fun _ => rfl), H1, H2, H3, H4, H5, H6, H9, H9b, H10, H8d, HO, HU⟩
      · have hnot : b1 = false := (mem_ready.1 hk).1
        have d0 : b0 = true := ready_edge hk (o := _) rfl 0 (e := _) rfl rfl
        clear hk
        subst d0
        obtain rfl := H0.out rfl
        obtain ⟨x0, x1, x2, x3, x4, x5, x6, x7, x8, x9, x10, x11, x12⟩ := (HA.out.up HU.out).c13
        refine wpOp_plain (o := _) rfl rfl ?_
        go_simp
        rw [HH.out]
        exact ⟨true, true, b2, b3, b4, b5, b6, b7, b8, u7, _, .agg #[.slice x.rs.A x.rs.l.length x.rs.c, .int .i64 x.fr, .int .i64 x.to_, .slice x.ps.A x.ps.l.length x.ps.c, .slice x.ts.A x.ts.l.length x.ts.c, .slice x.pl.A x.pl.l.length x.pl.c, .slice x.ws.A x.ws.l.length x.ws.c, .slice x.st.A x.st.l.length x.st.c, .slice x.se.A x.se.l.length x.se.c, .slice x.ha.A x.ha.l.length x.ha.c], u19, u20, u21, u22, u23, K7, y, g', rfl, rfl, H0, Lib.hid (fun _ => rfl), H2, H3, H4, H5, H6, H9, H9b, H10, H8d, HO, HU⟩
      · have hnot : b2 = false := (mem_ready.1 hk).1
        have d1 : b1 = true := ready_edge hk (o := _) rfl 0 (e := _) rfl rfl
        clear hk
        subst d1
        obtain rfl := H1.out rfl
        have hb6 : b6 = false := by
          cases b6 with
          | false => rfl
          | true => exact absurd (H8d.out rfl).1 (by rw [hnot]; simp)
        have hb8 : b8 = false := by
          cases b8 with
          | false => rfl
          | true => have := (H10.out rfl).1; rw [hb6] at this; cases this
        subst hb6 hb8 hnot
        refine wpOp_plain (o := _) rfl rfl ?_
        go_simp
        go_at_call 24
        refine (cw.out _ HU.out).mono ?_
        rintro e v1 ⟨y', rfl, ey, oy, UP⟩
        have HO' : OwA _ W2.heap.size _ := OwA.ins (X := []) (Z := Rb b5 (rowsFm g')) (N := rowsW y') (by simpa [Rb] using HO.out) UP hZ oy
        have H9' := fun h => (let ⟨p1, p2, p3, p4, p5⟩ := H9.out h; (⟨p1, p2, p3, Nat.lt_of_lt_of_le p4 UP.size, NB.ins (X := []) (Z := Rb b5 (rowsFm g')) (N := rowsW y') (by simpa [Rb] using p5) p4 oy⟩ : _ ∧ _ ∧ _ ∧ _ ∧ _))
        rw [HH.out]
        exact ⟨b0, true, true, b3, b4, b5, false, b7, false, u7, u17, _, y'.val, u20, u21, u22, u23, K7, y', g', rfl, rfl, H0, H1, Lib.hid (fun _ => ⟨rfl, ey⟩), H3, H4, H5, Lib.hid ((fun h => absurd h (by simp))), Lib.hid ((fun h => let ⟨p1, p2, p3, p4, p5⟩ := H9' h; ⟨p1, p2, p3, p4, by simpa [Rb] using p5⟩)), Lib.hid ((fun h h' => (H9b.out h h').up UP)), Lib.hid ((fun h => absurd h (by simp))), Lib.hid ((fun h => absurd h (by simp))), Lib.hid ((by simpa [Rb] using HO')), Lib.hid ((HU.out.trans UP))⟩
      · have hnot : b3 = false := (mem_ready.1 hk).1
        clear hk
        refine wpOp_plain (o := _) rfl rfl ?_
        go_simp
        rw [HH.out]
        exact ⟨b0, b1, b2, true, b4, b5, b6, b7, b8, u7, u17, u18, u19, .pointer (some ⟨w.heap.size, 11, none⟩), u21, u22, u23, K7, y, g', rfl, rfl, H0, H1, H2, Lib.hid (fun _ => rfl), H4, H5, H6, H9, H9b, H10, H8d, HO, HU⟩
      · have hnot : b4 = false := (mem_ready.1 hk).1
        have d3 : b3 = true := ready_edge hk (o := _) rfl 0 (e := _) rfl rfl
        clear hk
        subst d3
        obtain rfl := H3.out rfl
        obtain ⟨x0, x1, x2, x3, x4, x5, x6, x7, x8, x9, x10, x11, x12⟩ := (HA.out.up HU.out).c13
        refine wpOp_plain (o := _) rfl rfl ?_
        go_simp
        rw [HH.out]
        exact ⟨b0, b1, b2, true, true, b5, b6, b7, b8, u7, u17, u18, u19, _, .slice g.A g.l.length g.c, u22, u23, K7, y, g', rfl, rfl, H0, H1, H2, H3, Lib.hid (fun _ => rfl), H5, H6, H9, H9b, H10, H8d, HO, HU⟩
      · have hnot : b5 = false := (mem_ready.1 hk).1
        have d4 : b4 = true := ready_edge hk (o := _) rfl 0 (e := _) rfl rfl
        have d2 : b2 = true := ready_edge hk (o := _) rfl 1 (e := _) rfl rfl
        clear hk
        subst d4
        subst d2
        obtain rfl := H4.out rfl
        have hb6 : b6 = false := by
          cases b6 with
          | false => rfl
          | true => exact absurd (H8d.out rfl).2 (by rw [hnot]; simp)
        have hb8 : b8 = false := by
          cases b8 with
          | false => rfl
          | true => have := (H10.out rfl).1; rw [hb6] at this; cases this
        subst hb6 hb8 hnot
        refine wpOp_plain (o := _) rfl rfl ?_
        go_simp
        go_at_call 25
        refine (cf.out _ HU.out).mono ?_
        rintro e v1 ⟨g2, rfl, oy, eg, UP⟩
        have HO' : OwA _ W2.heap.size _ := OwA.ins (X := Rb true (rowsW y)) (Z := []) (N := rowsFm g2) (by simpa [Rb] using HO.out) UP hZ oy
        have H9' := fun h => (let ⟨p1, p2, p3, p4, p5⟩ := H9.out h; (⟨p1, p2, p3, Nat.lt_of_lt_of_le p4 UP.size, NB.ins (X := Rb true (rowsW y)) (Z := []) (N := rowsFm g2) (by simpa [Rb] using p5) p4 oy⟩ : _ ∧ _ ∧ _ ∧ _ ∧ _))
        rw [HH.out]
        exact ⟨b0, b1, true, b3, true, true, false, b7, false, u7, u17, u18, u19, u20, _, .slice g2.A g2.l.length g2.c, u23, K7, y, g2, rfl, rfl, H0, H1, H2, H3, H4, Lib.hid (fun _ => ⟨rfl, eg⟩), Lib.hid ((fun h => absurd h (by simp))), Lib.hid ((fun h => let ⟨p1, p2, p3, p4, p5⟩ := H9' h; ⟨p1, p2, p3, p4, by simpa [Rb] using p5⟩)), Lib.hid ((fun h h' => (H9b.out h h').up UP)), Lib.hid ((fun h => absurd h (by simp))), Lib.hid ((fun h => absurd h (by simp))), Lib.hid ((by simpa [Rb] using HO')), Lib.hid ((HU.out.trans UP))⟩
      · have hnot : b6 = false := (mem_ready.1 hk).1
        have d2 : b2 = true := ready_edge hk (o := _) rfl 0 (e := _) rfl rfl
        have d5 : b5 = true := ready_edge hk (o := _) rfl 1 (e := _) rfl rfl
        clear hk
        subst d2
        subst d5
        obtain ⟨rfl, _⟩ := H2.out rfl
        obtain ⟨rfl, _⟩ := H5.out rfl
        refine wpOp_plain (o := _) rfl rfl ?_
        go_simp
        rw [HH.out]
        exact ⟨b0, b1, true, b3, b4, true, true, b7, b8, u7, u17, u18, _, u20, u21, _, .agg #[.slice y.rs.A y.rs.l.length y.rs.c, .int .i64 y.fr, .int .i64 y.to_, .slice y.ps.A y.ps.l.length y.ps.c, .slice y.ts.A y.ts.l.length y.ts.c, .slice y.pl.A y.pl.l.length y.pl.c, .slice y.ws.A y.ws.l.length y.ws.c, .slice y.st.A y.st.l.length y.st.c, .slice y.se.A y.se.l.length y.se.c, .slice y.ha.A y.ha.l.length y.ha.c, .slice none 0 0, .slice g'.A g'.l.length g'.c, .slice none 0 0], K7, y, g', rfl, rfl, H0, H1, H2, H3, H4, H5, Lib.hid (fun _ => rfl), H9, H9b, Lib.hid ((fun h => let ⟨p1, p2, p3⟩ := H10.out h; ⟨rfl, p2, p3⟩)), Lib.hid ((fun _ => ⟨rfl, rfl⟩)), HO, HU⟩
      · have hnot : b7 = false := (mem_ready.1 hk).1
        clear hk
        have UP : Up Z (Z.alloc (.cells #[.slice none 0 0, .int .i64 0, .int .i64 0, .slice none 0 0, .slice none 0 0, .slice none 0 0, .slice none 0 0, .slice none 0 0, .slice none 0 0, .slice none 0 0, .slice none 0 0, .slice none 0 0, .slice none 0 0] 60)) := Up.alloc _ _
        have hb8 : b8 = false := by
          cases b8 with
          | false => rfl
          | true => have := (H10.out rfl).2.1; rw [hnot] at this; cases this
        subst hb8
        have hBx := Bx.new Z #[.slice none 0 0, .int .i64 0, .int .i64 0, .slice none 0 0, .slice none 0 0, .slice none 0 0, .slice none 0 0, .slice none 0 0, .slice none 0 0, .slice none 0 0, .slice none 0 0, .slice none 0 0, .slice none 0 0] 60
        have hNB : NB _ Z.heap.size := HO.out.new (Nat.le_refl _)
        have hs1 : Z.heap.size < (Z.alloc (.cells #[.slice none 0 0, .int .i64 0, .int .i64 0, .slice none 0 0, .slice none 0 0, .slice none 0 0, .slice none 0 0, .slice none 0 0, .slice none 0 0, .slice none 0 0, .slice none 0 0, .slice none 0 0, .slice none 0 0] 60)).heap.size := by simp
        have hs2 := HSZ.out
        refine wpOp_plain (o := _) rfl rfl ?_
        go_simp
        rw [HH.out]
        exact ⟨b0, b1, b2, b3, b4, b5, b6, true, false, .pointer (some ⟨Z.heap.size, 0, none⟩), u17, u18, u19, u20, u21, u22, u23, Z.heap.size, y, g', rfl, rfl, H0, H1, H2, H3, H4, H5, H6, Lib.hid ((fun _ => ⟨rfl, by omega, hZ, hs1, hNB⟩)), Lib.hid ((fun _ _ => hBx)), Lib.hid ((fun h => absurd h (by simp))), H8d, Lib.hid ((HO.out.up UP)), Lib.hid ((HU.out.trans UP))⟩
      · have hnot : b8 = false := (mem_ready.1 hk).1
        have d7 : b7 = true := ready_edge hk (o := _) rfl 0 (e := _) rfl rfl
        have d6 : b6 = true := ready_edge hk (o := _) rfl 1 (e := _) rfl rfl
        clear hk
        subst d7
        subst d6
        obtain rfl := H6.out rfl
        obtain ⟨rfl, p2, p3, p4, p5⟩ := H9.out rfl
        have hBx := H9b.out rfl hnot
        obtain ⟨z0, z1, z2, z3, z4, z5, z6, z7, z8, z9, z10, z11, z12⟩ := hBx.c13
        obtain ⟨f0, f1, f2, f3, f4, f5, f6, f7, f8, f9, f10, f11, f12⟩ := hBx.f13
        have OO := HO.out
        have UU := HU.out
        have hBx := hBx.put 0 (.slice y.rs.A y.rs.l.length y.rs.c)
        have OO := OwA.putNe OO (p := ⟨K7, 0, none⟩) p5 (.slice y.rs.A y.rs.l.length y.rs.c)
        have UU := UU.setCell (p := ⟨K7, 0, none⟩) p3 (.slice y.rs.A y.rs.l.length y.rs.c)
        have hBx := hBx.put 1 (.int .i64 y.fr)
        have OO := OwA.putNe OO (p := ⟨K7, 1, none⟩) p5 (.int .i64 y.fr)
        have UU := UU.setCell (p := ⟨K7, 1, none⟩) p3 (.int .i64 y.fr)
        have hBx := hBx.put 2 (.int .i64 y.to_)
        have OO := OwA.putNe OO (p := ⟨K7, 2, none⟩) p5 (.int .i64 y.to_)
        have UU := UU.setCell (p := ⟨K7, 2, none⟩) p3 (.int .i64 y.to_)
        have hBx := hBx.put 3 (.slice y.ps.A y.ps.l.length y.ps.c)
        have OO := OwA.putNe OO (p := ⟨K7, 3, none⟩) p5 (.slice y.ps.A y.ps.l.length y.ps.c)
        have UU := UU.setCell (p := ⟨K7, 3, none⟩) p3 (.slice y.ps.A y.ps.l.length y.ps.c)
        have hBx := hBx.put 4 (.slice y.ts.A y.ts.l.length y.ts.c)
        have OO := OwA.putNe OO (p := ⟨K7, 4, none⟩) p5 (.slice y.ts.A y.ts.l.length y.ts.c)
        have UU := UU.setCell (p := ⟨K7, 4, none⟩) p3 (.slice y.ts.A y.ts.l.length y.ts.c)
        have hBx := hBx.put 5 (.slice y.pl.A y.pl.l.length y.pl.c)
        have OO := OwA.putNe OO (p := ⟨K7, 5, none⟩) p5 (.slice y.pl.A y.pl.l.length y.pl.c)
        have UU := UU.setCell (p := ⟨K7, 5, none⟩) p3 (.slice y.pl.A y.pl.l.length y.pl.c)
        have hBx := hBx.put 6 (.slice y.ws.A y.ws.l.length y.ws.c)
        have OO := OwA.putNe OO (p := ⟨K7, 6, none⟩) p5 (.slice y.ws.A y.ws.l.length y.ws.c)
        have UU := UU.setCell (p := ⟨K7, 6, none⟩) p3 (.slice y.ws.A y.ws.l.length y.ws.c)
        have hBx := hBx.put 7 (.slice y.st.A y.st.l.length y.st.c)
        have OO := OwA.putNe OO (p := ⟨K7, 7, none⟩) p5 (.slice y.st.A y.st.l.length y.st.c)
        have UU := UU.setCell (p := ⟨K7, 7, none⟩) p3 (.slice y.st.A y.st.l.length y.st.c)
        have hBx := hBx.put 8 (.slice y.se.A y.se.l.length y.se.c)
        have OO := OwA.putNe OO (p := ⟨K7, 8, none⟩) p5 (.slice y.se.A y.se.l.length y.se.c)
        have UU := UU.setCell (p := ⟨K7, 8, none⟩) p3 (.slice y.se.A y.se.l.length y.se.c)
        have hBx := hBx.put 9 (.slice y.ha.A y.ha.l.length y.ha.c)
        have OO := OwA.putNe OO (p := ⟨K7, 9, none⟩) p5 (.slice y.ha.A y.ha.l.length y.ha.c)
        have UU := UU.setCell (p := ⟨K7, 9, none⟩) p3 (.slice y.ha.A y.ha.l.length y.ha.c)
        have hBx := hBx.put 10 (.slice none 0 0)
        have OO := OwA.putNe OO (p := ⟨K7, 10, none⟩) p5 (.slice none 0 0)
        have UU := UU.setCell (p := ⟨K7, 10, none⟩) p3 (.slice none 0 0)
        have hBx := hBx.put 11 (.slice g'.A g'.l.length g'.c)
        have OO := OwA.putNe OO (p := ⟨K7, 11, none⟩) p5 (.slice g'.A g'.l.length g'.c)
        have UU := UU.setCell (p := ⟨K7, 11, none⟩) p3 (.slice g'.A g'.l.length g'.c)
        have hBx := hBx.put 12 (.slice none 0 0)
        have OO := OwA.putNe OO (p := ⟨K7, 12, none⟩) p5 (.slice none 0 0)
        have UU := UU.setCell (p := ⟨K7, 12, none⟩) p3 (.slice none 0 0)
        refine wpOp_plain (o := _) rfl rfl ?_
        go_simp
        rw [HH.out]
        exact ⟨b0, b1, b2, b3, b4, b5, true, true, true, _, u17, u18, u19, u20, u21, u22, _, K7, y, g', rfl, rfl, H0, H1, H2, H3, H4, H5, H6, Lib.hid ((fun _ => ⟨rfl, p2, p3, by simpa using p4, p5⟩)), Lib.hid ((fun _ h => absurd h (by simp))), Lib.hid ((fun _ => ⟨rfl, rfl, hBx⟩)), H8d, Lib.hid (OO), Lib.hid (UU)⟩
    · intro b a Z hIb hall
      rw [HH.out] at hIb
      obtain ⟨b0, b1, b2, b3, b4, b5, b6, b7, b8, u7, u17, u18, u19, u20, u21, u22, u23, K7, y, g', rfl, rfl, H0, H1, H2, H3, H4, H5, H6, H9, H9b, H10, H8d, HO, HU⟩ := hIb
      obtain rfl : b0 = true := hall 0 (by decide)
      obtain rfl : b1 = true := hall 1 (by decide)
      obtain rfl : b2 = true := hall 2 (by decide)
      obtain rfl : b3 = true := hall 3 (by decide)
      obtain rfl : b4 = true := hall 4 (by decide)
      obtain rfl : b5 = true := hall 5 (by decide)
      obtain rfl : b6 = true := hall 6 (by decide)
      obtain rfl : b7 = true := hall 7 (by decide)
      obtain rfl : b8 = true := hall 8 (by decide)
      obtain rfl := H0.out rfl
      obtain rfl := H1.out rfl
      obtain ⟨rfl, ey⟩ := H2.out rfl
      obtain rfl := H3.out rfl
      obtain rfl := H4.out rfl
      obtain ⟨rfl, eg⟩ := H5.out rfl
      obtain rfl := H6.out rfl
      obtain ⟨rfl, p2, p3, p4, p5⟩ := H9.out rfl
      have hBx := (H10.out rfl).2.2
      have hAz := HA.out.up HU.out
      have hIz := HI.out.up HU.out
      have hRz := HR.out.up HU.out
      have uz := U.out.trans HU.out
      have HO2 : OwA Z (w.heap.size + 3) (rowsW y ++ rowsFm g') := OwA.base (by simpa [Rb] using HO.out) HSZ.out
      have hN : NB (rowsW y ++ rowsFm g') K7 := by simpa [Rb] using p5
      go_wp2_with fail
      go_meet
      exact ⟨Z, K7, y, g', rfl, rfl, ey, eg, HO2, hN, p2, hBx, hAz, hIz, hRz, uz⟩
  obtain ⟨W3, bx, y, g', hZ, hp, ey, eg, hO, hN, hbx, hB, hA, hI, hR, u⟩ := hcut
  subst hZ
  subst hp
  have EY := Lib.hid ey
  have EG := Lib.hid eg
  have HBX := Lib.hid hbx
  clear ey eg hbx cw cf HA HI HR U HSZ a0 a1 a2 a3 a4 a5 a6 a7 a8 a9 a10 a11 a12
  have hbl : bx < W3.heap.size := block_lt_of_cell (hB 0 _ rfl).1
  have hO0 : OwA W3 (w.heap.size + 3) (rowsDd ⟨none, 0, []⟩ ++ (rowsPh ⟨none, 0, []⟩ ++ (rowsW y ++ rowsFm g'))) := owNil2 hO
  have hN0 : NB (rowsDd ⟨none, 0, []⟩ ++ (rowsPh ⟨none, 0, []⟩ ++ (rowsW y ++ rowsFm g'))) bx := nbNil2 hN
  obtain ⟨x0, x1, x2, x3, x4, x5, x6, x7, x8, x9, x10, x11, x12⟩ := hA.c13
  go_upto_region 6 with (fail)
  clear x0 x1 x2 x3 x4 x5 x6 x7 x8 x9 x10 x11 x12
  go_loopw [8, 9, 27] (fun _ _ kk wr => ∃ (k : Nat) (t : Sl Dd) (q' : Sl (Sl ByteArray)), k ≤ s.l.length ∧ kk = .int .i64 k ∧ t.l.map Dd.p = ((s.l.take k).eraseIdx m).map (wdP (wdN s.l m)) ∧ phP q'.l = phP ((q.l.take k).eraseIdx m) ∧ OwA wr (w.heap.size + 3) (rowsDd t ++ (rowsPh q' ++ (rowsW y ++ rowsFm g'))) ∧ NB (rowsDd t ++ (rowsPh q' ++ (rowsW y ++ rowsFm g'))) bx ∧ Bx wr bx [.slice y.rs.A y.rs.l.length y.rs.c, .int .i64 y.fr, .int .i64 y.to_, .slice y.ps.A y.ps.l.length y.ps.c, .slice y.ts.A y.ts.l.length y.ts.c, .slice y.pl.A y.pl.l.length y.pl.c, .slice y.ws.A y.ws.l.length y.ws.c, .slice y.st.A y.st.l.length y.st.c, .slice y.se.A y.se.l.length y.se.c, .slice y.ha.A y.ha.l.length y.ha.c, .slice t.A t.l.length t.c, .slice g'.A g'.l.length g'.c, .slice q'.A q'.l.length q'.c] ∧ Bx wr w.heap.size [.slice x.rs.A x.rs.l.length x.rs.c, .int .i64 x.fr, .int .i64 x.to_, .slice x.ps.A x.ps.l.length x.ps.c, .slice x.ts.A x.ts.l.length x.ts.c, .slice x.pl.A x.pl.l.length x.pl.c, .slice x.ws.A x.ws.l.length x.ws.c, .slice x.st.A x.st.l.length x.st.c, .slice x.se.A x.se.l.length x.se.c, .slice x.ha.A x.ha.l.length x.ha.c, .slice s.A s.l.length s.c, .slice g.A g.l.length g.c, .slice q.A q.l.length q.c] ∧ Bx wr (w.heap.size + 1) [.int .i64 (m : Int)] ∧ Bx wr (w.heap.size + 1 + 1) [.slice none 0 0, .int .i64 0, .int .i64 0, .slice none 0 0, .slice none 0 0, .slice none 0 0, .slice none 0 0, .slice none 0 0, .slice none 0 0, .slice none 0 0, .slice none 0 0, .slice none 0 0, .slice none 0 0] ∧ Up w wr ∧ bx < wr.heap.size) (fun _ _ kk _ => s.l.length - (intOf kk).toNat)
  case atStart => exact ⟨0, ⟨none, 0, []⟩, ⟨none, 0, []⟩, Nat.zero_le _, rfl, by simp, by simp, hO0, hN0, hB, hA, hI, hR, u, hbl⟩
  case round =>
    clear hO hN hO0 hN0 hB hA hI hR u hbl
    obtain ⟨k, t, q', hk, rfl, et, eq, hO, hN, hB, hA, hI, hR, u, hbl⟩ := hrel
    have ET := Lib.hid et
    have EQ := Lib.hid eq
    have htl : t.l.length ≤ k := by have := congrArg List.length et; simp only [List.length_map] at this; rw [this]; exact Nat.le_trans (List.length_eraseIdx_le _ _) (by rw [List.length_take]; omega)
    have hqlk : q'.l.length ≤ k := by have := congrArg List.length eq; simp only [List.length_map] at this; rw [this]; exact Nat.le_trans (List.length_eraseIdx_le _ _) (by rw [List.length_take]; omega)
    clear et eq
    obtain ⟨x0, x1, x2, x3, x4, x5, x6, x7, x8, x9, x10, x11, x12⟩ := hA.c13
    have i0 := (hI 0 _ rfl).1
    by_cases hlt : k < s.l.length
    · have r2 := (h2.up u).rd
      obtain ⟨b, off, d, hqA, -, hbh, hd, p0, p1, p2, p3, p4, p5, p6⟩ := r2.dd hlt
      obtain ⟨b', off', dm, hqA', -, -, hdm, r0, -⟩ := r2.dd hml
      obtain ⟨rfl, rfl⟩ : b = b' ∧ off = off' := by rw [hqA] at hqA'; simpa using hqA'
      have ud := Up.alloc wr (.cells #[.string d.nm, .slice d.da.A d.da.l.length d.da.c, .slice d.wi.A d.wi.l.length d.wi.c, .string d.pl, .string d.se, .string d.ha, .slice d.ci.A d.ci.l.length d.ci.c] 77)
      have i1 := ud.cell i0
      by_cases hkm : k = m
      · subst hkm
        have HT := Lib.hid (erase_skip hlt)
        have HQT := Lib.hid (erase_skip (l := q.l) (i := k) (by rw [HQL.out]; exact hlt))
        have HO := Lib.hid (hO.up ud)
        have HN := Lib.hid hN
        have HB := Lib.hid (hB.up ud)
        have HA := Lib.hid (hA.up ud)
        have HI := Lib.hid (hI.up ud)
        have HR := Lib.hid (hR.up ud)
        have HU := Lib.hid (u.trans ud)
        have hl9 := Nat.lt_of_lt_of_le hbl ud.size
        clear hO hN hB hA hI hR u r0 hdm hqA' r2 hd
        rw [hqA]
        go_wp2
        go_roundw
        case rel => exact ⟨k + 1, t, q', by omega, by go_num, by rw [HT.out]; exact ET.out, by rw [HQT.out]; exact EQ.out, HO.out, HN.out, HB.out, by rw [← hqA]; exact HA.out, HI.out, HR.out, HU.out, hl9⟩
        case measure => simp [intOf]; omega
      · have e1 : ((k : Int) == (m : Int)) = false := by simp; omega
        have HD := Lib.hid hd
        have HDM := Lib.hid (wdN_at hdm)
        have HDMM := Lib.hid hdm
        have hde := h2.each d (List.mem_of_getElem? hd)
        have hsz : w.heap.size + 3 ≤ wr.heap.size := by have := HBX.out; omega
        clear hd hdm hqA'
        have CO := Lib.hid (ownDeed_any d lo hi _ ((hde.up u).up ud))
        have hAns : AnsT wr 28 #[.pointer (some ⟨w.heap.size, 0, none⟩), .pointer (some ⟨w.heap.size + 1, 0, none⟩)] (fun z => z.toList == dm.nm.toList) = AnsT wr 28 #[.pointer (some ⟨w.heap.size, 0, none⟩), .pointer (some ⟨w.heap.size + 1, 0, none⟩)] (fun z => z.toList == dm.nm.toList) := rfl
        clear hAns
        have HCL := Lib.hid (fun (z : ByteArray) (w1 : World) (hu : Up wr w1) => wdClosure_any z w.heap.size (w.heap.size + 1) s m lo hi dm w1 HDMM.out (r2.up hu (Nat.le_trans h2.hhi u.size)) (hu.cell x10) (hu.cell i0) hsl)
        have HO := Lib.hid hO
        have HN := Lib.hid hN
        have HB := Lib.hid hB
        have HA := Lib.hid hA
        have HI := Lib.hid hI
        have HR := Lib.hid hR
        have U := Lib.hid u
        have HQA := Lib.hid hqA
        have hDn := Bx.new wr #[.string d.nm, .slice d.da.A d.da.l.length d.da.c, .slice d.wi.A d.wi.l.length d.wi.c, .string d.pl, .string d.se, .string d.ha, .slice d.ci.A d.ci.l.length d.ci.c] 77
        obtain ⟨d0, d1, d2, d3, d4, d5, d6⟩ := hDn.c7
        have hs1z : (wr.alloc (.cells #[.string d.nm, .slice d.da.A d.da.l.length d.da.c, .slice d.wi.A d.wi.l.length d.wi.c, .string d.pl, .string d.se, .string d.ha, .slice d.ci.A d.ci.l.length d.ci.c] 77)).heap.size = wr.heap.size + 1 := by simp
        have HS1 := Lib.hid hs1z
        clear hO hN hB hA hI hR u r2 hs1z
        rw [hqA]
        clear hqA
        go_wp2_with fail
        refine CO.out.mono ?_
        rintro e v1 ⟨y1, rfl, e1', oy, u1⟩
        have EY1 := Lib.hid e1'
        clear e1' d0 d1 d2 d3 d4 d5 d6 CO
        have hD1 := hDn.up u1
        obtain ⟨d0, d1, d2, d3, d4, d5, d6⟩ := hD1.c7
        obtain ⟨f0, f1, f2, f3, f4, f5, f6⟩ := hD1.f7
        have hlw : wr.heap.size < (wr.alloc (.cells #[.string d.nm, .slice d.da.A d.da.l.length d.da.c, .slice d.wi.A d.wi.l.length d.wi.c, .string d.pl, .string d.se, .string d.ha, .slice d.ci.A d.ci.l.length d.ci.c] 77)).heap.size := by rw [HS1.out]; omega
        have hD2 := (((((((hD1.put 0 (.string y1.nm)).put 1 (.slice y1.da.A y1.da.l.length y1.da.c)).put 2 (.slice y1.wi.A y1.wi.l.length y1.wi.c)).put 3 (.string y1.pl)).put 4 (.string y1.se)).put 5 (.string y1.ha)).put 6 (.slice y1.ci.A y1.ci.l.length y1.ci.c))
        have oy2 := (((((((oy.put (p := ⟨wr.heap.size, 0, none⟩) hlw (.string y1.nm)).put (p := ⟨wr.heap.size, 1, none⟩) hlw (.slice y1.da.A y1.da.l.length y1.da.c)).put (p := ⟨wr.heap.size, 2, none⟩) hlw (.slice y1.wi.A y1.wi.l.length y1.wi.c)).put (p := ⟨wr.heap.size, 3, none⟩) hlw (.string y1.pl)).put (p := ⟨wr.heap.size, 4, none⟩) hlw (.string y1.se)).put (p := ⟨wr.heap.size, 5, none⟩) hlw (.string y1.ha)).put (p := ⟨wr.heap.size, 6, none⟩) hlw (.slice y1.ci.A y1.ci.l.length y1.ci.c))
        have u2 := ((((((((ud.trans u1).setCell (p := ⟨wr.heap.size, 0, none⟩) (Nat.le_refl _) (.string y1.nm)).setCell (p := ⟨wr.heap.size, 1, none⟩) (Nat.le_refl _) (.slice y1.da.A y1.da.l.length y1.da.c)).setCell (p := ⟨wr.heap.size, 2, none⟩) (Nat.le_refl _) (.slice y1.wi.A y1.wi.l.length y1.wi.c)).setCell (p := ⟨wr.heap.size, 3, none⟩) (Nat.le_refl _) (.string y1.pl)).setCell (p := ⟨wr.heap.size, 4, none⟩) (Nat.le_refl _) (.string y1.se)).setCell (p := ⟨wr.heap.size, 5, none⟩) (Nat.le_refl _) (.string y1.ha)).setCell (p := ⟨wr.heap.size, 6, none⟩) (Nat.le_refl _) (.slice y1.ci.A y1.ci.l.length y1.ci.c))
        have hcl : y1.ci.l.length ≤ 2000000 := by have := congrArg Pd.ci EY1.out; simp only at this; rw [this]; exact hde.ci.len
        have HDel := Lib.hid (deleteFuncT_any y1.ci.A y1.ci.l y1.ci.c (wr.alloc (.cells #[.string d.nm, .slice d.da.A d.da.l.length d.da.c, .slice d.wi.A d.wi.l.length d.wi.c, .string d.pl, .string d.se, .string d.ha, .slice d.ci.A d.ci.l.length d.ci.c] 77)).heap.size 28 #[.pointer (some ⟨w.heap.size, 0, none⟩), .pointer (some ⟨w.heap.size + 1, 0, none⟩)] (fun z => z.toList == dm.nm.toList) wr (((((((v1.setCell ⟨wr.heap.size, 0, none⟩ (.string y1.nm)).setCell ⟨wr.heap.size, 1, none⟩ (.slice y1.da.A y1.da.l.length y1.da.c)).setCell ⟨wr.heap.size, 2, none⟩ (.slice y1.wi.A y1.wi.l.length y1.wi.c)).setCell ⟨wr.heap.size, 3, none⟩ (.string y1.pl)).setCell ⟨wr.heap.size, 4, none⟩ (.string y1.se)).setCell ⟨wr.heap.size, 5, none⟩ (.string y1.ha)).setCell ⟨wr.heap.size, 6, none⟩ (.slice y1.ci.A y1.ci.l.length y1.ci.c)) u2 (oy2.each (rwStr y1.ci) (by simp [rowsE])) ud.size hcl (fun _ _ => rfl) (fun z _ w1 hu => HCL.out z w1 hu))
        go_wp2_with fail
        refine HDel.out.mono ?_
        rintro e v3 ⟨t2, rfl, et2, ot2, hb2, hg2, u3⟩
        have ET2 := Lib.hid et2
        have hlow2 : ∀ b', y1.ci.val.ownBlock = some b' → wr.heap.size + 1 ≤ b' := fun b' e => by have := (oy2.lt (r := rwStr y1.ci) (by simp [rowsE]) e).1; rw [HS1.out] at this; exact this
        have hD3 := hD2.grown hg2 (fun e => by have := hlow2 _ e; omega)
        have oy3 : OwA v3 (wr.alloc (.cells #[.string d.nm, .slice d.da.A d.da.l.length d.da.c, .slice d.wi.A d.wi.l.length d.wi.c, .string d.pl, .string d.se, .string d.ha, .slice d.ci.A d.ci.l.length d.ci.c] 77)).heap.size (rowsE ⟨y1.nm, y1.da, y1.wi, y1.pl, y1.se, y1.ha, t2⟩) := ((oy2.perm (List.perm_append_comm (l₁ := [rwClause y1.da, rwWitness y1.wi]) (l₂ := [rwStr y1.ci]))).push (r' := rwStr t2) ot2 hg2 (.inl hb2)).perm (List.perm_append_comm (l₁ := [rwStr t2]) (l₂ := [rwClause y1.da, rwWitness y1.wi]))
        clear d0 d1 d2 d3 d4 d5 d6 f0 f1 f2 f3 f4 f5 f6 HDel et2 ot2 hg2 hb2 oy oy2 hD1 hD2 u2
        obtain ⟨d0, d1, d2, d3, d4, d5, d6⟩ := hD3.c7
        obtain ⟨f0, f1, f2, f3, f4, f5, f6⟩ := hD3.f7
        obtain ⟨ya0, ya1, ya2, ya3, ya4, ya5, ya6, ya7, ya8, ya9, ya10, ya11, ya12⟩ := (HB.out.up u3).c13
        have oy4 : OwA (v3.setCell ⟨wr.heap.size, 6, none⟩ (.slice t2.A t2.l.length t2.c)) wr.heap.size (rowsE ⟨y1.nm, y1.da, y1.wi, y1.pl, y1.se, y1.ha, t2⟩) := (oy3.put (p := ⟨wr.heap.size, 6, none⟩) hlw (.slice t2.A t2.l.length t2.c)).base ud.size
        have u4 := u3.setCell (p := ⟨wr.heap.size, 6, none⟩) (Nat.le_refl _) (.slice t2.A t2.l.length t2.c)
        have ub := Up.alloc (v3.setCell ⟨wr.heap.size, 6, none⟩ (.slice t2.A t2.l.length t2.c)) (.cells #[.string y1.nm, .slice y1.da.A y1.da.l.length y1.da.c, .slice y1.wi.A y1.wi.l.length y1.wi.c, .string y1.pl, .string y1.se, .string y1.ha, .slice t2.A t2.l.length t2.c] 77)
        have hss : (v3.setCell ⟨wr.heap.size, 6, none⟩ (.slice t2.A t2.l.length t2.c)).heap.size = v3.heap.size := by simp
        have hnews := ddNews (v3.setCell ⟨wr.heap.size, 6, none⟩ (.slice t2.A t2.l.length t2.c)) ⟨y1.nm, y1.da, y1.wi, y1.pl, y1.se, y1.ha, t2⟩
        rw [hss] at hnews
        have HNS := Lib.hid hnews
        have hrow := (HO.out.up (u4.trans ub)).each (rwDeed t) (by simp [rowsDd])
        have m3 := Nat.le_trans hsz (u4.trans ub).size
        obtain ⟨i1', hi1, hy0, hy1, hy2⟩ := info_parts infoDeedW
        have n1 : t.l.length + 1 ≤ maxLen := by unfold maxLen; omega
        have n2 : (t.l.length + 1) * 136 ≤ 140737488355328 := by omega
        clear hnews hss
        go_wp2_with ((at_builtin; refine wpList_append_lies (P := Tryz.prog) _ rfl _ _ 57 rfl (w.heap.size + 3) 77 i1' _ 7 136 Tryz.underlying57 hi1 hy0 hy1 hy2 ddZero (by decide) _ _ _ rfl hrow ⟨v3.heap.size, 0, none⟩ 1 1 (Dd.cells ⟨y1.nm, y1.da, y1.wi, y1.pl, y1.se, y1.ha, t2⟩) rfl rfl HNS.out (ddOnes _) (by decide) n1 n2 m3 _ rfl ?_))
        intro gg cap w9 hown9 hg9 hat hlt9
        have hS := OwA.ddSnoc HO.out HN.out u4 (show w.heap.size + 3 ≤ wr.heap.size from hsz) hbl oy4 ub hown9 hg9 (by first | exact hat | exact hat.imp id (fun h => by rw [h]; simp))
        have dub := u4.trans ub
        have hlow : ∀ b', t.val.ownBlock = some b' → w.heap.size + 3 ≤ b' := fun b' e => (HO.out.lt (r := rwDeed t) (by simp [rowsDd]) e).1
        have hB9 := (HB.out.up dub).grown hg9 (HN.out (rwDeed t) (by simp [rowsDd]))
        have hA9 := (HA.out.up dub).grown hg9 (fun e => by have := hlow _ e; omega)
        have hI9 := (HI.out.up dub).grown hg9 (fun e => by have := hlow _ e; omega)
        have hR9 := (HR.out.up dub).grown hg9 (fun e => by have := hlow _ e; omega)
        have u9 := (U.out.trans dub).grown hg9 (fun b hb => by have := hlow b hb; omega)
        obtain ⟨yb0, yb1, yb2, yb3, yb4, yb5, yb6, yb7, yb8, yb9, yb10, yb11, yb12⟩ := hB9.c13
        obtain ⟨fb0, fb1, fb2, fb3, fb4, fb5, fb6, fb7, fb8, fb9, fb10, fb11, fb12⟩ := hB9.f13
        have hO := hS.1.putNe (p := ⟨bx, 10, none⟩) hS.2 (.slice (some ⟨gg, 0, none⟩) (t.l.length + 1) cap)
        have hN := hS.2
        have hB := hB9.put 10 (.slice (some ⟨gg, 0, none⟩) (t.l.length + 1) cap)
        have hA := hA9.other (b' := bx) (by have := HBX.out; omega) 10 (.slice (some ⟨gg, 0, none⟩) (t.l.length + 1) cap)
        have hI := hI9.other (b' := bx) (by have := HBX.out; omega) 10 (.slice (some ⟨gg, 0, none⟩) (t.l.length + 1) cap)
        have hR := hR9.other (b' := bx) (by have := HBX.out; omega) 10 (.slice (some ⟨gg, 0, none⟩) (t.l.length + 1) cap)
        have u := u9.setCell (p := ⟨bx, 10, none⟩) (by have := HBX.out; show w.heap.size ≤ bx; omega) (.slice (some ⟨gg, 0, none⟩) (t.l.length + 1) cap)
        have hbl9 : bx < (w9.setCell ⟨bx, 10, none⟩ (.slice (some ⟨gg, 0, none⟩) (t.l.length + 1) cap)).heap.size := by have := Nat.lt_of_lt_of_le (Nat.lt_of_lt_of_le hbl dub.size) hg9.size; simpa using this
        have ET1 := Lib.hid (show (t.l ++ [(⟨y1.nm, y1.da, y1.wi, y1.pl, y1.se, y1.ha, t2⟩ : Dd)]).map Dd.p = ((s.l.take (k + 1)).eraseIdx m).map (wdP (wdN s.l m)) by
          have e1 := EY1.out
          have e2 := ET2.out
          simp only [Dd.p, Pd.mk.injEq] at e1
          obtain ⟨q1, q2, q3, q4, q5, q6, q7⟩ := e1
          rw [erase_keep HD.out hkm, List.map_append, List.map_append, ET.out, HDM.out]
          simp only [List.map_cons, List.map_nil, Dd.p, wdP, e2, q1, q2, q3, q4, q5, q6, q7])
        go_upto_region 12 with (fail)
        generalize (w9.setCell ⟨bx, 10, none⟩ (.slice (some ⟨gg, 0, none⟩) (t.l.length + 1) cap)) = Z at *
        clear hS hB9 hA9 hI9 hR9 u9 hown9 hg9 hat hlt9 hrow m3 HNS oy4 oy3 u4 ub dub hlow hlow2 hD3 u3 u1 ud hDn HS1 HCL HDMM hbl hlw hcl HO HN HB HA HI HR U x0 x1 x2 x3 x4 x5 x6 x7 x8 x9 x10 x11 x12 ya0 ya1 ya2 ya3 ya4 ya5 ya6 ya7 ya8 ya9 ya10 ya11 ya12 yb0 yb1 yb2 yb3 yb4 yb5 yb6 yb7 yb8 yb9 yb10 yb11 yb12 fb0 fb1 fb2 fb3 fb4 fb5 fb6 fb7 fb8 fb9 fb10 fb11 fb12 i0 i1 p0 p1 p2 p3 p4 p5 p6 r0 d0 f0 d1 f1 d2 f2 d3 f3 d4 f4 d5 f5 d6 f6
        obtain ⟨bq, offq, pz, hqq, -, hbq, hp, p0⟩ := (h4.up u).rd.ph (show k < q.l.length by rw [HQL.out]; exact hlt)
        have hpe := h4.each pz (List.mem_of_getElem? hp)
        have hpu := hpe.up u
        obtain ⟨x0, x1, x2, x3, x4, x5, x6, x7, x8, x9, x10, x11, x12⟩ := hA.c13
        rw [hqq] at x12
        have hszZ : w.heap.size + 3 ≤ Z.heap.size := by have := HBX.out; omega
        have hs0 : w.heap.size < w.heap.size + 3 := by omega
        have hs1 : bq < w.heap.size + 3 := by have := h4.hhi; omega
        have hkq : k < q.l.length := by rw [HQL.out]; exact hlt
        have HPZ := Lib.hid hp
        clear hp hqq
        have CC := Lib.hid (fun (wx : World) (v : Up Z wx) => cloneStr_any pz lo hi wx (hpu.up v))
        have hd0 : Up Z Z.drew := (Up.refl _).drew
        have n4 : q'.l.length + 1 ≤ maxLen := by unfold maxLen; omega
        have n5 : (q'.l.length + 1) * 24 ≤ 140737488355328 := by omega
        obtain ⟨i2, hi2, hw0, hw1, hw2⟩ := info_parts infoStrSW
        have HO := Lib.hid (hO.perm (List.perm_append_comm_assoc _ _ _))
        have HN := Lib.hid (hN.perm (List.perm_append_comm_assoc _ _ _))
        have HB := Lib.hid hB
        have HA := Lib.hid hA
        have HI := Lib.hid hI
        have HR := Lib.hid hR
        have U := Lib.hid u
        obtain ⟨ye0, ye1, ye2, ye3, ye4, ye5, ye6, ye7, ye8, ye9, ye10, ye11, ye12⟩ := hB.c13
        clear hO hN hB hA hI hR u hpe hpu
        have hHeld : Z.drew.cell? ⟨w.heap.size, 12, none⟩ = some (.slice (some ⟨bq, offq, none⟩) q.l.length q.c) ∧ Z.drew.cell? ⟨bq, offq + k, none⟩ = some (.slice pz.A pz.l.length pz.c) ∧ Z.drew.cell? ⟨bx, 12, none⟩ = some (.slice q'.A q'.l.length q'.c) := ⟨hd0.cell x12, hd0.cell p0, hd0.cell (HB.out.c13).2.2.2.2.2.2.2.2.2.2.2.2⟩
        refine wp_region_last (S := fun w' => w'.cell? ⟨w.heap.size, 12, none⟩ = some (.slice (some ⟨bq, offq, none⟩) q.l.length q.c) ∧ w'.cell? ⟨bq, offq + k, none⟩ = some (.slice pz.A pz.l.length pz.c) ∧ w'.cell? ⟨bx, 12, none⟩ = some (.slice q'.A q'.l.length q'.c)) 11 (by kernel_rfl) (by kernel_rfl) (by kernel_rfl) (by kernel_rfl) ?_
        refine wpAnyH_take (i := 0) (v := ?_) rfl (by kernel_rfl) (by kernel_rfl) (by kernel_rfl) (fun _ _ _ h => h) (Or.inl ⟨by rfl, ?_⟩) (by assumption) ?_
        rotate_left
        · (intro wS hSw; (try dsimp only at hSw); go_simp; try with_reducible rfl)
        try simp only [Act.put]
        try simp only [List.setIfInBounds_toArray]
        repeat (first | simp only [List.set_cons_succ] | simp only [List.set_cons_zero])
        refine wpAnyH_take (i := 1) (v := ?_) rfl (by kernel_rfl) (by kernel_rfl) (by kernel_rfl) (fun _ _ _ h => h) (Or.inl ⟨by rfl, ?_⟩) (by assumption) ?_
        rotate_left
        · (intro wS hSw; (try dsimp only at hSw); go_simp; try with_reducible rfl)
        try simp only [Act.put]
        try simp only [List.setIfInBounds_toArray]
        repeat (first | simp only [List.set_cons_succ] | simp only [List.set_cons_zero])
        refine wpAnyH_take (i := 2) (v := ?_) rfl (by kernel_rfl) (by kernel_rfl) (by kernel_rfl) (fun _ _ _ h => h) (Or.inl ⟨by rfl, ?_⟩) (by assumption) ?_
        rotate_left
        · (intro wS hSw; (try dsimp only at hSw); go_simp; try with_reducible rfl)
        try simp only [Act.put]
        try simp only [List.setIfInBounds_toArray]
        repeat (first | simp only [List.set_cons_succ] | simp only [List.set_cons_zero])
        refine wpAnyH_take (i := 3) (v := ?_) rfl (by kernel_rfl) (by kernel_rfl) (by kernel_rfl) (fun _ _ _ h => h) (Or.inl ⟨by rfl, ?_⟩) (by assumption) ?_
        rotate_left
        · (intro wS hSw; (try dsimp only at hSw); go_simp; try with_reducible rfl)
        try simp only [Act.put]
        try simp only [List.setIfInBounds_toArray]
        repeat (first | simp only [List.set_cons_succ] | simp only [List.set_cons_zero])
        refine wpAnyH_take (i := 4) (v := ?_) rfl (by kernel_rfl) (by kernel_rfl) (by kernel_rfl) (fun _ _ _ h => h) (Or.inl ⟨by rfl, ?_⟩) (by assumption) ?_
        rotate_left
        · (intro wS hSw; (try dsimp only at hSw); go_simp; try with_reducible rfl)
        try simp only [Act.put]
        try simp only [List.setIfInBounds_toArray]
        repeat (first | simp only [List.set_cons_succ] | simp only [List.set_cons_zero])
        refine wpAnyH_take (i := 5) (v := ?_) rfl (by kernel_rfl) (by kernel_rfl) (by kernel_rfl) (fun _ _ _ h => h) (Or.inl ⟨by rfl, ?_⟩) (by assumption) ?_
        rotate_left
        · (intro wS hSw; (try dsimp only at hSw); go_simp; try with_reducible rfl)
        try simp only [Act.put]
        try simp only [List.setIfInBounds_toArray]
        repeat (first | simp only [List.set_cons_succ] | simp only [List.set_cons_zero])
        refine wpAnyH_take (i := 6) (v := ?_) rfl (by kernel_rfl) (by kernel_rfl) (by kernel_rfl) (fun _ _ _ h => h) (Or.inl ⟨by rfl, ?_⟩) (by assumption) ?_
        rotate_left
        · (intro wS hSw; (try dsimp only at hSw); go_simp; try with_reducible rfl)
        try simp only [Act.put]
        try simp only [List.setIfInBounds_toArray]
        repeat (first | simp only [List.set_cons_succ] | simp only [List.set_cons_zero])
        refine wpAnyH_ready (rs := [7]) (by kernel_rfl) (by simp) ?_
        refine AllReadyH.cons rfl (fun K hK => ?_) AllReadyH.nil
        (go_simp; go_at_call 29; refine (CC.out _ hd0).mono ?_; rintro e wv ⟨z1, rfl, ey1, oz, uz⟩; have EZ1 := Lib.hid ey1; have OY := Lib.hid oz; clear ey1 oz; have u1 := hd0.trans uz; have ub := Up.alloc wv (.cells #[.slice z1.A z1.l.length z1.c] 29); have dub := u1.trans ub; obtain ⟨yb0, yb1, yb2, yb3, yb4, yb5, yb6, yb7, yb8, yb9, yb10, yb11, yb12⟩ := (HB.out.up u1).c13; obtain ⟨yc0, yc1, yc2, yc3, yc4, yc5, yc6, yc7, yc8, yc9, yc10, yc11, yc12⟩ := (HB.out.up dub).c13)
        refine hK.out _ _ ?_ (fun hHeld => ?_)
        · exact ⟨u1.cell x12, u1.cell p0, u1.cell (HB.out.c13).2.2.2.2.2.2.2.2.2.2.2.2⟩
        clear hK K
        try simp only [Act.put]
        try simp only [List.setIfInBounds_toArray]
        repeat (first | simp only [List.set_cons_succ] | simp only [List.set_cons_zero])
        refine wpAnyH_ready (rs := [8]) (by kernel_rfl) (by simp) ?_
        refine AllReadyH.cons rfl (fun K hK => ?_) AllReadyH.nil
        go_simp
        refine hK.out _ _ ?_ (fun hHeld => ?_)
        · exact ⟨dub.cell x12, dub.cell p0, dub.cell (HB.out.c13).2.2.2.2.2.2.2.2.2.2.2.2⟩
        clear hK K
        try simp only [Act.put]
        try simp only [List.setIfInBounds_toArray]
        repeat (first | simp only [List.set_cons_succ] | simp only [List.set_cons_zero])
        refine wpAnyH_ready (rs := [9]) (by kernel_rfl) (by simp) ?_
        refine AllReadyH.cons rfl (fun K hK => ?_) AllReadyH.nil
        (have hrow := (HO.out.up dub).each (rwPhr q') (by simp [rowsPh]); have m3 : w.heap.size + 3 ≤ (wv.alloc (.cells #[.slice z1.A z1.l.length z1.c] 29)).heap.size := Nat.le_trans hszZ dub.size; refine step_append_lies _ rfl (.tmp 49) (.tmp 56) 39 rfl (w.heap.size + 3) 29 i2 _ 1 24 Tryz.underlying39 hi2 hw0 hw1 hw2 phZero (by decide) (.slice q'.A q'.l.length q'.c) q'.l.length _ (by simp [Act.eval]) hrow ⟨wv.heap.size, 0, none⟩ 1 1 (phC z1) (by simp [Act.eval]) rfl (cell_one_newW wv _ _) (by simp [Value.oneCell']) (by decide) n4 n5 m3 _ rfl ?_; intro gq capq wz hown9 hg9 hat hlt9; have hB9 := (HB.out.up dub).grown hg9 (HN.out (rwPhr q') (by simp [rowsPh])); obtain ⟨yd0, yd1, yd2, yd3, yd4, yd5, yd6, yd7, yd8, yd9, yd10, yd11, yd12⟩ := hB9.c13; obtain ⟨fd0, fd1, fd2, fd3, fd4, fd5, fd6, fd7, fd8, fd9, fd10, fd11, fd12⟩ := hB9.f13; have hlow : ∀ b', q'.val.ownBlock = some b' → w.heap.size + 3 ≤ b' := fun b' e => (HO.out.lt (r := rwPhr q') (by simp [rowsPh]) e).1; have hA9 := (HA.out.up dub).grown hg9 (fun e => by have := hlow _ e; omega); have u9 := (U.out.trans dub).grown hg9 (fun b hb => by have := hlow b hb; omega); have k9 : wz.cell? ⟨w.heap.size, 12, none⟩ = some (.slice (some ⟨bq, offq, none⟩) q.l.length q.c) ∧ wz.cell? ⟨bq, offq + k, none⟩ = some (.slice pz.A pz.l.length pz.c) := ⟨growCell hg9 hlow hs0 (dub.cell x12), growCell hg9 hlow hs1 (dub.cell p0)⟩)
        refine hK.out _ _ ?_ (fun hHeld => ?_)
        · exact ⟨k9.1, k9.2, yd12⟩
        clear hK K
        try simp only [Act.put]
        try simp only [List.setIfInBounds_toArray]
        repeat (first | simp only [List.set_cons_succ] | simp only [List.set_cons_zero])
        refine wpAnyH_take (i := 10) (v := ?_) rfl (by kernel_rfl) (by kernel_rfl) (by kernel_rfl) (fun _ _ _ h => h) (Or.inl ⟨by rfl, ?_⟩) (by assumption) ?_
        rotate_left
        · (intro wS hSw; (try dsimp only at hSw); go_simp; try with_reducible rfl)
        try simp only [Act.put]
        try simp only [List.setIfInBounds_toArray]
        repeat (first | simp only [List.set_cons_succ] | simp only [List.set_cons_zero])
        refine wpAnyH_done (by kernel_rfl) ?_ _
        refine lastQ_mk rfl rfl ?_
        go_simp
        all_goals
          have hS := OwA.phSnoc HO.out HN.out u1 hszZ hbl9 OY.out ub hown9 hg9 (by first | exact hat | exact hat.imp id (fun h => by rw [h]; simp))
          have hI9 := (HI.out.up dub).grown hg9 (fun e => by have := hlow _ e; omega)
          have hR9 := (HR.out.up dub).grown hg9 (fun e => by have := hlow _ e; omega)
          have O9 := Lib.hid ((hS.1.putNe (p := ⟨bx, 12, none⟩) hS.2 (.slice (some ⟨gq, 0, none⟩) (q'.l.length + 1) capq)).perm (List.perm_append_comm_assoc _ _ _))
          have N9 := Lib.hid (hS.2.perm (List.perm_append_comm_assoc _ _ _))
          have B9 := Lib.hid (hB9.put 12 (.slice (some ⟨gq, 0, none⟩) (q'.l.length + 1) capq))
          have A9 := Lib.hid (hA9.other (b' := bx) (by have := HBX.out; omega) 12 (.slice (some ⟨gq, 0, none⟩) (q'.l.length + 1) capq))
          have I9 := Lib.hid (hI9.other (b' := bx) (by have := HBX.out; omega) 12 (.slice (some ⟨gq, 0, none⟩) (q'.l.length + 1) capq))
          have R9 := Lib.hid (hR9.other (b' := bx) (by have := HBX.out; omega) 12 (.slice (some ⟨gq, 0, none⟩) (q'.l.length + 1) capq))
          have U9 := Lib.hid (u9.setCell (p := ⟨bx, 12, none⟩) (by have := HBX.out; show w.heap.size ≤ bx; omega) (.slice (some ⟨gq, 0, none⟩) (q'.l.length + 1) capq))
          have hl9 : bx < wz.heap.size := Nat.lt_of_lt_of_le (Nat.lt_of_lt_of_le hbl9 dub.size) hg9.size
          clear hS hA9 hI9 hR9 u9 hB9 hlow k9 x0 x1 x2 x3 x4 x5 x6 x7 x8 x9 x10 x11 x12 p0
          go_wp2
          go_roundw
          case rel => exact ⟨k + 1, ⟨some ⟨gg, 0, none⟩, cap, t.l ++ [⟨y1.nm, y1.da, y1.wi, y1.pl, y1.se, y1.ha, t2⟩]⟩, ⟨some ⟨gq, 0, none⟩, capq, q'.l ++ [z1]⟩, by omega, by go_num, ET1.out, by rw [erase_keep HPZ.out hkm, phP, List.map_append, phP, List.map_append]; have := EQ.out; simp only [phP] at this; rw [this]; simp only [List.map_cons, List.map_nil, EZ1.out], O9.out, N9.out, by have := B9.out; simpa using this, by first | exact A9.out | (rw [← HQA.out]; exact A9.out), I9.out, R9.out, U9.out, by simpa using hl9⟩
          case measure => simp [intOf]; omega
    · obtain rfl : k = s.l.length := by omega
      have et := ET.out
      have eq := EQ.out
      rw [List.take_of_length_le (Nat.le_refl _)] at et
      rw [List.take_of_length_le (Nat.le_of_eq HQL.out)] at eq
      have ET2 := Lib.hid et
      have EQ2 := Lib.hid eq
      clear et eq ET EQ
      obtain ⟨y0, y1, y2, y3, y4, y5, y6, y7, y8, y9, y10, y11, y12⟩ := hB.c13
      obtain ⟨z0, z1, z2, z3, z4, z5, z6, z7, z8, z9, z10, z11, z12⟩ := hR.c13
      obtain ⟨g0, g1, g2, g3, g4, g5, g6, g7, g8, g9, g10, g11, g12⟩ := hR.f13
      go_wp2
      refine bodyPost_ret (v := .tuple #[.agg #[.slice y.rs.A y.rs.l.length y.rs.c, .int .i64 y.fr, .int .i64 y.to_, .slice y.ps.A y.ps.l.length y.ps.c, .slice y.ts.A y.ts.l.length y.ts.c, .slice y.pl.A y.pl.l.length y.pl.c, .slice y.ws.A y.ws.l.length y.ws.c, .slice y.st.A y.st.l.length y.st.c, .slice y.se.A y.se.l.length y.se.c, .slice y.ha.A y.ha.l.length y.ha.c, .slice t.A t.l.length t.c, .slice g'.A g'.l.length g'.c, .slice q'.A q'.l.length q'.c], .int .i64 0]) (by simp [results, Tryz.results7, go_sem, z0, z1, z2, z3, z4, z5, z6, z7, z8, z9, z10, z11, z12]) rfl ?_
      refine ⟨y, t, g', q', rfl, ⟨fun e => absurd rfl e, fun _ => ⟨EY.out, by rw [Int.toNat_natCast]; exact ET2.out, EG.out, by rw [Int.toNat_natCast]; exact EQ2.out⟩⟩, ?_, ?_⟩
      · refine OwA.base (b := w.heap.size + 3) ?_ (by omega)
        iterate 13 refine OwA.put ?_ (by first | (simp; done) | (simp; omega)) _
        exact hO.perm (evPerm _ _ _ _)
      · iterate 13 refine Up.setCell ?_ (by first | (simp; done) | (simp; omega)) _
        exact u
end Go.Proofs.YtblpjjcjnaigiaaGreatDoor
