/- Copies of a world and of a deed that share nothing: the reference's. -/
import Derived.Test.YtblpjjcjnaigiaaGreatDoorWnD
import Derived.Deep.Cut
import Derived.Deep.DeepCutAuto
namespace Go.Proofs.YtblpjjcjnaigiaaGreatDoor
open Go.RowKit Go.Sort

theorem own_setW {w : World} {base : Nat} {e : TypeId} {size : Nat} {v : Value} {n : Nat} {xs : List Value} (h : w.ownsRow base e size v n xs) (a : Addr) (u : Value) (hne : v.ownBlock ≠ some a.block) : (w.setCell a u).ownsRow base e size v n xs :=
  h.kept ⟨rfl, rfl, rfl, by simp, fun k _ hne => Below.heap_setCell w a u k (fun e => hne (by rw [e]))⟩ (.inr hne)

theorem OwA.putNe {w : World} {b : Nat} {L : List Rw} (h : OwA w b L) {p : Addr} (hp : ∀ r ∈ L, r.v.ownBlock ≠ some p.block) (v : Value) : OwA (w.setCell p v) b L :=
  ⟨fun r hr => own_setW (h.each r hr) p v (hp r hr), h.ap⟩
theorem Bx.grown {w w' : World} {b : Nat} {cs : List Value} {row : Option Nat} (h : Bx w b cs) (g : w.grownBy w' row) (hne : row ≠ some b) : Bx w' b cs := fun j u hu => by
  have hlt := block_lt_of_cell (h j u hu).1
  have e := g.block b hlt (fun e => hne e.symm)
  exact ⟨by rw [World.cell?_of_block (a := ⟨b, j, none⟩) e]; exact (h j u hu).1, by rw [World.frozen?_of_block (a := ⟨b, j, none⟩) e]; exact (h j u hu).2⟩
theorem cell_one_newW (W : World) (v : Value) (T : TypeId) : ∀ (j : Nat) u, [v][j]? = some u → (W.alloc (.cells #[v] T)).cell? ((⟨W.heap.size, 0, none⟩ : Addr).add j) = some u := fun j u hu => by
  match j, hu with
  | 0, hu => simp at hu; subst hu; simp [Addr.add]
set_option maxRecDepth 100000 in
set_option maxHeartbeats 8000000 in
theorem l25World_any (x : Wd) (lo hi : Nat) (w : World) (h : RdW w lo hi x) :
    Calls Tryz.prog 16 #[.agg #[.slice x.rs.A x.rs.l.length x.rs.c, .int .i64 x.fr, .int .i64 x.to_, .slice x.ps.A x.ps.l.length x.ps.c, .slice x.ts.A x.ts.l.length x.ts.c, .slice x.pl.A x.pl.l.length x.pl.c, .slice x.ws.A x.ws.l.length x.ws.c, .slice x.st.A x.st.l.length x.st.c, .slice x.se.A x.se.l.length x.se.c, .slice x.ha.A x.ha.l.length x.ha.c]] w fun e w' => ∃ y : Wd, e = .returned y.val ∧ y.p = x.p ∧ OwA w' w.heap.size (rowsW y) ∧ Up w w' := by
  have u : Up w (((w.alloc (.cells #[.slice x.rs.A x.rs.l.length x.rs.c, .int .i64 x.fr, .int .i64 x.to_, .slice x.ps.A x.ps.l.length x.ps.c, .slice x.ts.A x.ts.l.length x.ts.c, .slice x.pl.A x.pl.l.length x.pl.c, .slice x.ws.A x.ws.l.length x.ws.c, .slice x.st.A x.st.l.length x.st.c, .slice x.se.A x.se.l.length x.se.c, .slice x.ha.A x.ha.l.length x.ha.c] 56)).alloc (.cells #[.slice none 0 0, .int .i64 0, .int .i64 0, .slice none 0 0, .slice none 0 0, .slice none 0 0, .slice none 0 0, .slice none 0 0, .slice none 0 0, .slice none 0 0] 56)).alloc (.cells #[.slice none 0 0, .int .i64 x.fr, .int .i64 x.to_, .slice none 0 0, .slice none 0 0, .slice none 0 0, .slice none 0 0, .slice none 0 0, .slice none 0 0, .slice none 0 0] 56)) := ((Up.alloc _ _).allocs _).allocs _
  have hA := ((Bx.new w #[.slice x.rs.A x.rs.l.length x.rs.c, .int .i64 x.fr, .int .i64 x.to_, .slice x.ps.A x.ps.l.length x.ps.c, .slice x.ts.A x.ts.l.length x.ts.c, .slice x.pl.A x.pl.l.length x.pl.c, .slice x.ws.A x.ws.l.length x.ws.c, .slice x.st.A x.st.l.length x.st.c, .slice x.se.A x.se.l.length x.se.c, .slice x.ha.A x.ha.l.length x.ha.c] 56).up (Up.alloc _ (.cells #[.slice none 0 0, .int .i64 0, .int .i64 0, .slice none 0 0, .slice none 0 0, .slice none 0 0, .slice none 0 0, .slice none 0 0, .slice none 0 0, .slice none 0 0] 56))).up (Up.alloc _ (.cells #[.slice none 0 0, .int .i64 x.fr, .int .i64 x.to_, .slice none 0 0, .slice none 0 0, .slice none 0 0, .slice none 0 0, .slice none 0 0, .slice none 0 0, .slice none 0 0] 56))
  have hR : Bx (((w.alloc (.cells #[.slice x.rs.A x.rs.l.length x.rs.c, .int .i64 x.fr, .int .i64 x.to_, .slice x.ps.A x.ps.l.length x.ps.c, .slice x.ts.A x.ts.l.length x.ts.c, .slice x.pl.A x.pl.l.length x.pl.c, .slice x.ws.A x.ws.l.length x.ws.c, .slice x.st.A x.st.l.length x.st.c, .slice x.se.A x.se.l.length x.se.c, .slice x.ha.A x.ha.l.length x.ha.c] 56)).alloc (.cells #[.slice none 0 0, .int .i64 0, .int .i64 0, .slice none 0 0, .slice none 0 0, .slice none 0 0, .slice none 0 0, .slice none 0 0, .slice none 0 0, .slice none 0 0] 56)).alloc (.cells #[.slice none 0 0, .int .i64 x.fr, .int .i64 x.to_, .slice none 0 0, .slice none 0 0, .slice none 0 0, .slice none 0 0, .slice none 0 0, .slice none 0 0, .slice none 0 0] 56)) (w.heap.size + 1) [.slice none 0 0, .int .i64 0, .int .i64 0, .slice none 0 0, .slice none 0 0, .slice none 0 0, .slice none 0 0, .slice none 0 0, .slice none 0 0, .slice none 0 0] := by
    have := (Bx.new (w.alloc (.cells #[.slice x.rs.A x.rs.l.length x.rs.c, .int .i64 x.fr, .int .i64 x.to_, .slice x.ps.A x.ps.l.length x.ps.c, .slice x.ts.A x.ts.l.length x.ts.c, .slice x.pl.A x.pl.l.length x.pl.c, .slice x.ws.A x.ws.l.length x.ws.c, .slice x.st.A x.st.l.length x.st.c, .slice x.se.A x.se.l.length x.se.c, .slice x.ha.A x.ha.l.length x.ha.c] 56)) #[.slice none 0 0, .int .i64 0, .int .i64 0, .slice none 0 0, .slice none 0 0, .slice none 0 0, .slice none 0 0, .slice none 0 0, .slice none 0 0, .slice none 0 0] 56).up (Up.alloc _ (.cells #[.slice none 0 0, .int .i64 x.fr, .int .i64 x.to_, .slice none 0 0, .slice none 0 0, .slice none 0 0, .slice none 0 0, .slice none 0 0, .slice none 0 0, .slice none 0 0] 56))
    simpa using this
  have hO : Bx (((w.alloc (.cells #[.slice x.rs.A x.rs.l.length x.rs.c, .int .i64 x.fr, .int .i64 x.to_, .slice x.ps.A x.ps.l.length x.ps.c, .slice x.ts.A x.ts.l.length x.ts.c, .slice x.pl.A x.pl.l.length x.pl.c, .slice x.ws.A x.ws.l.length x.ws.c, .slice x.st.A x.st.l.length x.st.c, .slice x.se.A x.se.l.length x.se.c, .slice x.ha.A x.ha.l.length x.ha.c] 56)).alloc (.cells #[.slice none 0 0, .int .i64 0, .int .i64 0, .slice none 0 0, .slice none 0 0, .slice none 0 0, .slice none 0 0, .slice none 0 0, .slice none 0 0, .slice none 0 0] 56)).alloc (.cells #[.slice none 0 0, .int .i64 x.fr, .int .i64 x.to_, .slice none 0 0, .slice none 0 0, .slice none 0 0, .slice none 0 0, .slice none 0 0, .slice none 0 0, .slice none 0 0] 56)) (w.heap.size + 1 + 1) [.slice none 0 0, .int .i64 x.fr, .int .i64 x.to_, .slice none 0 0, .slice none 0 0, .slice none 0 0, .slice none 0 0, .slice none 0 0, .slice none 0 0, .slice none 0 0] := by
    have := Bx.new ((w.alloc (.cells #[.slice x.rs.A x.rs.l.length x.rs.c, .int .i64 x.fr, .int .i64 x.to_, .slice x.ps.A x.ps.l.length x.ps.c, .slice x.ts.A x.ts.l.length x.ts.c, .slice x.pl.A x.pl.l.length x.pl.c, .slice x.ws.A x.ws.l.length x.ws.c, .slice x.st.A x.st.l.length x.st.c, .slice x.se.A x.se.l.length x.se.c, .slice x.ha.A x.ha.l.length x.ha.c] 56)).alloc (.cells #[.slice none 0 0, .int .i64 0, .int .i64 0, .slice none 0 0, .slice none 0 0, .slice none 0 0, .slice none 0 0, .slice none 0 0, .slice none 0 0, .slice none 0 0] 56)) #[.slice none 0 0, .int .i64 x.fr, .int .i64 x.to_, .slice none 0 0, .slice none 0 0, .slice none 0 0, .slice none 0 0, .slice none 0 0, .slice none 0 0, .slice none 0 0] 56
    simpa using this
  have hsz : w.heap.size + 3 ≤ (((w.alloc (.cells #[.slice x.rs.A x.rs.l.length x.rs.c, .int .i64 x.fr, .int .i64 x.to_, .slice x.ps.A x.ps.l.length x.ps.c, .slice x.ts.A x.ts.l.length x.ts.c, .slice x.pl.A x.pl.l.length x.pl.c, .slice x.ws.A x.ws.l.length x.ws.c, .slice x.st.A x.st.l.length x.st.c, .slice x.se.A x.se.l.length x.se.c, .slice x.ha.A x.ha.l.length x.ha.c] 56)).alloc (.cells #[.slice none 0 0, .int .i64 0, .int .i64 0, .slice none 0 0, .slice none 0 0, .slice none 0 0, .slice none 0 0, .slice none 0 0, .slice none 0 0, .slice none 0 0] 56)).alloc (.cells #[.slice none 0 0, .int .i64 x.fr, .int .i64 x.to_, .slice none 0 0, .slice none 0 0, .slice none 0 0, .slice none 0 0, .slice none 0 0, .slice none 0 0, .slice none 0 0] 56)).heap.size := by simp
  have oA : OwA (((w.alloc (.cells #[.slice x.rs.A x.rs.l.length x.rs.c, .int .i64 x.fr, .int .i64 x.to_, .slice x.ps.A x.ps.l.length x.ps.c, .slice x.ts.A x.ts.l.length x.ts.c, .slice x.pl.A x.pl.l.length x.pl.c, .slice x.ws.A x.ws.l.length x.ws.c, .slice x.st.A x.st.l.length x.st.c, .slice x.se.A x.se.l.length x.se.c, .slice x.ha.A x.ha.l.length x.ha.c] 56)).alloc (.cells #[.slice none 0 0, .int .i64 0, .int .i64 0, .slice none 0 0, .slice none 0 0, .slice none 0 0, .slice none 0 0, .slice none 0 0, .slice none 0 0, .slice none 0 0] 56)).alloc (.cells #[.slice none 0 0, .int .i64 x.fr, .int .i64 x.to_, .slice none 0 0, .slice none 0 0, .slice none 0 0, .slice none 0 0, .slice none 0 0, .slice none 0 0, .slice none 0 0] 56)) (w.heap.size + 3) [] := OwA.nil_ _ _
  obtain ⟨i_Reign, hi_Reign, hz_Reign0, hz_Reign1, hz_Reign2⟩ := info_parts infoReign
  obtain ⟨i_Person, hi_Person, hz_Person0, hz_Person1, hz_Person2⟩ := info_parts infoPerson
  obtain ⟨i_Term, hi_Term, hz_Term0, hz_Term1, hz_Term2⟩ := info_parts infoTerm
  obtain ⟨i_Str, hi_Str, hz_Str0, hz_Str1, hz_Str2⟩ := info_parts infoStrW
  obtain ⟨i_Way, hi_Way, hz_Way0, hz_Way1, hz_Way2⟩ := info_parts infoWay
  obtain ⟨i_Stay, hi_Stay, hz_Stay0, hz_Stay1, hz_Stay2⟩ := info_parts infoStay
  obtain ⟨i_Mark, hi_Mark, hz_Mark0, hz_Mark1, hz_Mark2⟩ := info_parts infoMark
  go_enter Tryz.func16, Tryz.ntmps16
  go_upto_region 2 with (fail)
  generalize (((w.alloc (.cells #[.slice x.rs.A x.rs.l.length x.rs.c, .int .i64 x.fr, .int .i64 x.to_, .slice x.ps.A x.ps.l.length x.ps.c, .slice x.ts.A x.ts.l.length x.ts.c, .slice x.pl.A x.pl.l.length x.pl.c, .slice x.ws.A x.ws.l.length x.ws.c, .slice x.st.A x.st.l.length x.st.c, .slice x.se.A x.se.l.length x.se.c, .slice x.ha.A x.ha.l.length x.ha.c] 56)).alloc (.cells #[.slice none 0 0, .int .i64 0, .int .i64 0, .slice none 0 0, .slice none 0 0, .slice none 0 0, .slice none 0 0, .slice none 0 0, .slice none 0 0, .slice none 0 0] 56)).alloc (.cells #[.slice none 0 0, .int .i64 x.fr, .int .i64 x.to_, .slice none 0 0, .slice none 0 0, .slice none 0 0, .slice none 0 0, .slice none 0 0, .slice none 0 0, .slice none 0 0] 56)) = V0 at *
  obtain ⟨y0, y1, y2, y3, y4, y5, y6, y7, y8, y9⟩ := hO.c10
  obtain ⟨f0, f1, f2, f3, f4, f5, f6, f7, f8, f9⟩ := hO.f10
  have hss : V0.heap.size = V0.heap.size := rfl
  have HSS := Lib.hid hss
  have hlit := World.ownsRow_lit (base := V0.heap.size) (e := 120) (size := 3) V0 #[] 0 (Nat.le_refl _) (by simp [maxLen]) rfl
  have ua := Up.alloc V0 (.cells #[] 120)
  have n3 : V0.heap.size ≤ (V0.alloc (.cells #[] 120)).heap.size := ua.size
  have HQ := Lib.hid (h.rs.rd.up (u.trans ua) h.rs.hhi)
  have HL := Lib.hid hlit
  have hlen := h.rs.len
  have n1 : 0 + x.rs.l.length ≤ maxLen := by unfold maxLen; omega
  have n2 : (0 + x.rs.l.length) * 32 ≤ 140737488355328 := by omega
  clear hlit hss
  obtain ⟨x0, x1, x2, x3, x4, x5, x6, x7, x8, x9⟩ := (hA.up ua).c10
  go_wp2_with ((at_builtin; refine wpList_append_rd (P := Tryz.prog) _ rfl _ _ 43 rfl V0.heap.size 120 i_Reign _ 3 32 Tryz.underlying43 hi_Reign hz_Reign0 hz_Reign1 hz_Reign2 rfl (by decide) _ _ _ rfl HL.out Nm.cells Nm.len one_nm x.rs.A x.rs.l x.rs.c lo hi rfl HQ.out n1 n2 n3 ?_))
  intro vv V1 hown' hgrow
  have q : Up V0 V1 := ua.grown hgrow (fun k hk => (HL.out.lt k hk).1)
  have hw : V1.ownsRow V0.heap.size 120 3 vv x.rs.l.length (x.rs.l.flatMap Nm.cells) := by simpa using hown'
  obtain ⟨rs, rfl, ee, -, -, ho⟩ := own_sl hw
  have E_rs := Lib.hid ee
  clear ee hw hown' hgrow HL HQ n1 n2 n3 hlen ua HSS
  have oN := OwA.one (r := rwReign rs) ho
  replace oA := oA.append q (by omega) oN
  replace hA := hA.up q
  replace hR := hR.up q
  replace hO := hO.up q
  replace u := u.trans q
  replace hsz := Nat.le_trans hsz q.size
  clear q ho oN
  clear x0 y0 f0 x1 y1 f1 x2 y2 f2 x3 y3 f3 x4 y4 f4 x5 y5 f5 x6 y6 f6 x7 y7 f7 x8 y8 f8 x9 y9 f9
  obtain ⟨y0, y1, y2, y3, y4, y5, y6, y7, y8, y9⟩ := hO.c10
  obtain ⟨f0, f1, f2, f3, f4, f5, f6, f7, f8, f9⟩ := hO.f10
  replace hO := hO.put 0 (.slice rs.A rs.l.length rs.c)
  replace hA := hA.other (b' := w.heap.size + 1 + 1) (by omega) 0 (.slice rs.A rs.l.length rs.c)
  replace hR := hR.other (b' := w.heap.size + 1 + 1) (by omega) 0 (.slice rs.A rs.l.length rs.c)
  replace oA := oA.put (p := ⟨w.heap.size + 1 + 1, 0, none⟩) (show w.heap.size + 1 + 1 < w.heap.size + 3 by omega) (.slice rs.A rs.l.length rs.c)
  replace u := u.setCell (p := ⟨w.heap.size + 1 + 1, 0, none⟩) (show w.heap.size ≤ w.heap.size + 1 + 1 by omega) (.slice rs.A rs.l.length rs.c)
  replace hsz : w.heap.size + 3 ≤ (V1.setCell ⟨w.heap.size + 1 + 1, 0, none⟩ (.slice rs.A rs.l.length rs.c)).heap.size := by simpa using hsz
  have hss : (V1.setCell ⟨w.heap.size + 1 + 1, 0, none⟩ (.slice rs.A rs.l.length rs.c)).heap.size = V1.heap.size := by simp
  have HSS := Lib.hid hss
  have hlit := World.ownsRow_lit (base := (V1.setCell ⟨w.heap.size + 1 + 1, 0, none⟩ (.slice rs.A rs.l.length rs.c)).heap.size) (e := 123) (size := 3) (V1.setCell ⟨w.heap.size + 1 + 1, 0, none⟩ (.slice rs.A rs.l.length rs.c)) #[] 0 (Nat.le_refl _) (by simp [maxLen]) rfl
  rw [hss] at hlit
  have ua := Up.alloc (V1.setCell ⟨w.heap.size + 1 + 1, 0, none⟩ (.slice rs.A rs.l.length rs.c)) (.cells #[] 123)
  have n3 : V1.heap.size ≤ ((V1.setCell ⟨w.heap.size + 1 + 1, 0, none⟩ (.slice rs.A rs.l.length rs.c)).alloc (.cells #[] 123)).heap.size := by rw [← hss]; exact ua.size
  have HQ := Lib.hid (h.ps.rd.up (u.trans ua) h.ps.hhi)
  have HL := Lib.hid hlit
  have hlen := h.ps.len
  have n1 : 0 + x.ps.l.length ≤ maxLen := by unfold maxLen; omega
  have n2 : (0 + x.ps.l.length) * 32 ≤ 140737488355328 := by omega
  clear hlit hss
  obtain ⟨x0, x1, x2, x3, x4, x5, x6, x7, x8, x9⟩ := (hA.up ua).c10
  go_wp2_with ((at_builtin; refine wpList_append_rd (P := Tryz.prog) _ rfl _ _ 46 rfl V1.heap.size 123 i_Person _ 3 32 Tryz.underlying46 hi_Person hz_Person0 hz_Person1 hz_Person2 rfl (by decide) _ _ _ rfl HL.out Nm.cells Nm.len one_nm x.ps.A x.ps.l x.ps.c lo hi rfl HQ.out n1 n2 n3 ?_))
  intro vv V2 hown' hgrow
  have q : Up (V1.setCell ⟨w.heap.size + 1 + 1, 0, none⟩ (.slice rs.A rs.l.length rs.c)) V2 := ua.grown hgrow (fun k hk => by rw [HSS.out]; exact (HL.out.lt k hk).1)
  have hw : V2.ownsRow V1.heap.size 123 3 vv x.ps.l.length (x.ps.l.flatMap Nm.cells) := by simpa using hown'
  obtain ⟨ps, rfl, ee, -, -, ho⟩ := own_sl hw
  have E_ps := Lib.hid ee
  rw [← HSS.out] at ho
  clear ee hw hown' hgrow HL HQ n1 n2 n3 hlen ua HSS
  have oN := OwA.one (r := rwPerson ps) ho
  replace oA := oA.append q (by omega) oN
  replace hA := hA.up q
  replace hR := hR.up q
  replace hO := hO.up q
  replace u := u.trans q
  replace hsz := Nat.le_trans hsz q.size
  clear q ho oN
  clear x0 y0 f0 x1 y1 f1 x2 y2 f2 x3 y3 f3 x4 y4 f4 x5 y5 f5 x6 y6 f6 x7 y7 f7 x8 y8 f8 x9 y9 f9
  obtain ⟨y0, y1, y2, y3, y4, y5, y6, y7, y8, y9⟩ := hO.c10
  obtain ⟨f0, f1, f2, f3, f4, f5, f6, f7, f8, f9⟩ := hO.f10
  replace hO := hO.put 3 (.slice ps.A ps.l.length ps.c)
  replace hA := hA.other (b' := w.heap.size + 1 + 1) (by omega) 3 (.slice ps.A ps.l.length ps.c)
  replace hR := hR.other (b' := w.heap.size + 1 + 1) (by omega) 3 (.slice ps.A ps.l.length ps.c)
  replace oA := oA.put (p := ⟨w.heap.size + 1 + 1, 3, none⟩) (show w.heap.size + 1 + 1 < w.heap.size + 3 by omega) (.slice ps.A ps.l.length ps.c)
  replace u := u.setCell (p := ⟨w.heap.size + 1 + 1, 3, none⟩) (show w.heap.size ≤ w.heap.size + 1 + 1 by omega) (.slice ps.A ps.l.length ps.c)
  replace hsz : w.heap.size + 3 ≤ (V2.setCell ⟨w.heap.size + 1 + 1, 3, none⟩ (.slice ps.A ps.l.length ps.c)).heap.size := by simpa using hsz
  have hss : (V2.setCell ⟨w.heap.size + 1 + 1, 3, none⟩ (.slice ps.A ps.l.length ps.c)).heap.size = V2.heap.size := by simp
  have HSS := Lib.hid hss
  have hlit := World.ownsRow_lit (base := (V2.setCell ⟨w.heap.size + 1 + 1, 3, none⟩ (.slice ps.A ps.l.length ps.c)).heap.size) (e := 126) (size := 4) (V2.setCell ⟨w.heap.size + 1 + 1, 3, none⟩ (.slice ps.A ps.l.length ps.c)) #[] 0 (Nat.le_refl _) (by simp [maxLen]) rfl
  rw [hss] at hlit
  have ua := Up.alloc (V2.setCell ⟨w.heap.size + 1 + 1, 3, none⟩ (.slice ps.A ps.l.length ps.c)) (.cells #[] 126)
  have n3 : V2.heap.size ≤ ((V2.setCell ⟨w.heap.size + 1 + 1, 3, none⟩ (.slice ps.A ps.l.length ps.c)).alloc (.cells #[] 126)).heap.size := by rw [← hss]; exact ua.size
  have HQ := Lib.hid (h.ts.rd.up (u.trans ua) h.ts.hhi)
  have HL := Lib.hid hlit
  have hlen := h.ts.len
  have n1 : 0 + x.ts.l.length ≤ maxLen := by unfold maxLen; omega
  have n2 : (0 + x.ts.l.length) * 48 ≤ 140737488355328 := by omega
  clear hlit hss
  obtain ⟨x0, x1, x2, x3, x4, x5, x6, x7, x8, x9⟩ := (hA.up ua).c10
  go_wp2_with ((at_builtin; refine wpList_append_rd (P := Tryz.prog) _ rfl _ _ 47 rfl V2.heap.size 126 i_Term _ 4 48 Tryz.underlying47 hi_Term hz_Term0 hz_Term1 hz_Term2 rfl (by decide) _ _ _ rfl HL.out Tm.cells Tm.len one_tm x.ts.A x.ts.l x.ts.c lo hi rfl HQ.out n1 n2 n3 ?_))
  intro vv V3 hown' hgrow
  have q : Up (V2.setCell ⟨w.heap.size + 1 + 1, 3, none⟩ (.slice ps.A ps.l.length ps.c)) V3 := ua.grown hgrow (fun k hk => by rw [HSS.out]; exact (HL.out.lt k hk).1)
  have hw : V3.ownsRow V2.heap.size 126 4 vv x.ts.l.length (x.ts.l.flatMap Tm.cells) := by simpa using hown'
  obtain ⟨ts, rfl, ee, -, -, ho⟩ := own_sl hw
  have E_ts := Lib.hid ee
  rw [← HSS.out] at ho
  clear ee hw hown' hgrow HL HQ n1 n2 n3 hlen ua HSS
  have oN := OwA.one (r := rwTerm ts) ho
  replace oA := oA.append q (by omega) oN
  replace hA := hA.up q
  replace hR := hR.up q
  replace hO := hO.up q
  replace u := u.trans q
  replace hsz := Nat.le_trans hsz q.size
  clear q ho oN
  clear x0 y0 f0 x1 y1 f1 x2 y2 f2 x3 y3 f3 x4 y4 f4 x5 y5 f5 x6 y6 f6 x7 y7 f7 x8 y8 f8 x9 y9 f9
  obtain ⟨y0, y1, y2, y3, y4, y5, y6, y7, y8, y9⟩ := hO.c10
  obtain ⟨f0, f1, f2, f3, f4, f5, f6, f7, f8, f9⟩ := hO.f10
  replace hO := hO.put 4 (.slice ts.A ts.l.length ts.c)
  replace hA := hA.other (b' := w.heap.size + 1 + 1) (by omega) 4 (.slice ts.A ts.l.length ts.c)
  replace hR := hR.other (b' := w.heap.size + 1 + 1) (by omega) 4 (.slice ts.A ts.l.length ts.c)
  replace oA := oA.put (p := ⟨w.heap.size + 1 + 1, 4, none⟩) (show w.heap.size + 1 + 1 < w.heap.size + 3 by omega) (.slice ts.A ts.l.length ts.c)
  replace u := u.setCell (p := ⟨w.heap.size + 1 + 1, 4, none⟩) (show w.heap.size ≤ w.heap.size + 1 + 1 by omega) (.slice ts.A ts.l.length ts.c)
  replace hsz : w.heap.size + 3 ≤ (V3.setCell ⟨w.heap.size + 1 + 1, 4, none⟩ (.slice ts.A ts.l.length ts.c)).heap.size := by simpa using hsz
  have hss : (V3.setCell ⟨w.heap.size + 1 + 1, 4, none⟩ (.slice ts.A ts.l.length ts.c)).heap.size = V3.heap.size := by simp
  have HSS := Lib.hid hss
  have hlit := World.ownsRow_lit (base := (V3.setCell ⟨w.heap.size + 1 + 1, 4, none⟩ (.slice ts.A ts.l.length ts.c)).heap.size) (e := 9) (size := 1) (V3.setCell ⟨w.heap.size + 1 + 1, 4, none⟩ (.slice ts.A ts.l.length ts.c)) #[] 0 (Nat.le_refl _) (by simp [maxLen]) rfl
  rw [hss] at hlit
  have ua := Up.alloc (V3.setCell ⟨w.heap.size + 1 + 1, 4, none⟩ (.slice ts.A ts.l.length ts.c)) (.cells #[] 9)
  have n3 : V3.heap.size ≤ ((V3.setCell ⟨w.heap.size + 1 + 1, 4, none⟩ (.slice ts.A ts.l.length ts.c)).alloc (.cells #[] 9)).heap.size := by rw [← hss]; exact ua.size
  have HQ := Lib.hid (h.pl.rd.up (u.trans ua) h.pl.hhi)
  have HL := Lib.hid hlit
  have hlen := h.pl.len
  have n1 : 0 + x.pl.l.length ≤ maxLen := by unfold maxLen; omega
  have n2 : (0 + x.pl.l.length) * 16 ≤ 140737488355328 := by omega
  clear hlit hss
  obtain ⟨x0, x1, x2, x3, x4, x5, x6, x7, x8, x9⟩ := (hA.up ua).c10
  go_wp2_with ((at_builtin; refine wpList_append_rd (P := Tryz.prog) _ rfl _ _ 29 rfl V3.heap.size 9 i_Str _ 1 16 Tryz.underlying29 hi_Str hz_Str0 hz_Str1 hz_Str2 rfl (by decide) _ _ _ rfl HL.out strC strC_len one_str x.pl.A x.pl.l x.pl.c lo hi rfl HQ.out n1 n2 n3 ?_))
  intro vv V4 hown' hgrow
  have q : Up (V3.setCell ⟨w.heap.size + 1 + 1, 4, none⟩ (.slice ts.A ts.l.length ts.c)) V4 := ua.grown hgrow (fun k hk => by rw [HSS.out]; exact (HL.out.lt k hk).1)
  have hw : V4.ownsRow V3.heap.size 9 1 vv x.pl.l.length (x.pl.l.flatMap strC) := by simpa using hown'
  obtain ⟨pl, rfl, ee, -, -, ho⟩ := own_sl hw
  have E_pl := Lib.hid ee
  rw [← HSS.out] at ho
  clear ee hw hown' hgrow HL HQ n1 n2 n3 hlen ua HSS
  have oN := OwA.one (r := rwStr pl) ho
  replace oA := oA.append q (by omega) oN
  replace hA := hA.up q
  replace hR := hR.up q
  replace hO := hO.up q
  replace u := u.trans q
  replace hsz := Nat.le_trans hsz q.size
  clear q ho oN
  clear x0 y0 f0 x1 y1 f1 x2 y2 f2 x3 y3 f3 x4 y4 f4 x5 y5 f5 x6 y6 f6 x7 y7 f7 x8 y8 f8 x9 y9 f9
  obtain ⟨y0, y1, y2, y3, y4, y5, y6, y7, y8, y9⟩ := hO.c10
  obtain ⟨f0, f1, f2, f3, f4, f5, f6, f7, f8, f9⟩ := hO.f10
  replace hO := hO.put 5 (.slice pl.A pl.l.length pl.c)
  replace hA := hA.other (b' := w.heap.size + 1 + 1) (by omega) 5 (.slice pl.A pl.l.length pl.c)
  replace hR := hR.other (b' := w.heap.size + 1 + 1) (by omega) 5 (.slice pl.A pl.l.length pl.c)
  replace oA := oA.put (p := ⟨w.heap.size + 1 + 1, 5, none⟩) (show w.heap.size + 1 + 1 < w.heap.size + 3 by omega) (.slice pl.A pl.l.length pl.c)
  replace u := u.setCell (p := ⟨w.heap.size + 1 + 1, 5, none⟩) (show w.heap.size ≤ w.heap.size + 1 + 1 by omega) (.slice pl.A pl.l.length pl.c)
  replace hsz : w.heap.size + 3 ≤ (V4.setCell ⟨w.heap.size + 1 + 1, 5, none⟩ (.slice pl.A pl.l.length pl.c)).heap.size := by simpa using hsz
  have hss : (V4.setCell ⟨w.heap.size + 1 + 1, 5, none⟩ (.slice pl.A pl.l.length pl.c)).heap.size = V4.heap.size := by simp
  have HSS := Lib.hid hss
  have hlit := World.ownsRow_lit (base := (V4.setCell ⟨w.heap.size + 1 + 1, 5, none⟩ (.slice pl.A pl.l.length pl.c)).heap.size) (e := 129) (size := 3) (V4.setCell ⟨w.heap.size + 1 + 1, 5, none⟩ (.slice pl.A pl.l.length pl.c)) #[] 0 (Nat.le_refl _) (by simp [maxLen]) rfl
  rw [hss] at hlit
  have ua := Up.alloc (V4.setCell ⟨w.heap.size + 1 + 1, 5, none⟩ (.slice pl.A pl.l.length pl.c)) (.cells #[] 129)
  have n3 : V4.heap.size ≤ ((V4.setCell ⟨w.heap.size + 1 + 1, 5, none⟩ (.slice pl.A pl.l.length pl.c)).alloc (.cells #[] 129)).heap.size := by rw [← hss]; exact ua.size
  have HQ := Lib.hid (h.ws.rd.up (u.trans ua) h.ws.hhi)
  have HL := Lib.hid hlit
  have hlen := h.ws.len
  have n1 : 0 + x.ws.l.length ≤ maxLen := by unfold maxLen; omega
  have n2 : (0 + x.ws.l.length) * 24 ≤ 140737488355328 := by omega
  clear hlit hss
  obtain ⟨x0, x1, x2, x3, x4, x5, x6, x7, x8, x9⟩ := (hA.up ua).c10
  go_wp2_with ((at_builtin; refine wpList_append_rd (P := Tryz.prog) _ rfl _ _ 50 rfl V4.heap.size 129 i_Way _ 3 24 Tryz.underlying50 hi_Way hz_Way0 hz_Way1 hz_Way2 rfl (by decide) _ _ _ rfl HL.out I3.cells I3.len one_i3 x.ws.A x.ws.l x.ws.c lo hi rfl HQ.out n1 n2 n3 ?_))
  intro vv V5 hown' hgrow
  have q : Up (V4.setCell ⟨w.heap.size + 1 + 1, 5, none⟩ (.slice pl.A pl.l.length pl.c)) V5 := ua.grown hgrow (fun k hk => by rw [HSS.out]; exact (HL.out.lt k hk).1)
  have hw : V5.ownsRow V4.heap.size 129 3 vv x.ws.l.length (x.ws.l.flatMap I3.cells) := by simpa using hown'
  obtain ⟨ws, rfl, ee, -, -, ho⟩ := own_sl hw
  have E_ws := Lib.hid ee
  rw [← HSS.out] at ho
  clear ee hw hown' hgrow HL HQ n1 n2 n3 hlen ua HSS
  have oN := OwA.one (r := rwWay ws) ho
  replace oA := oA.append q (by omega) oN
  replace hA := hA.up q
  replace hR := hR.up q
  replace hO := hO.up q
  replace u := u.trans q
  replace hsz := Nat.le_trans hsz q.size
  clear q ho oN
  clear x0 y0 f0 x1 y1 f1 x2 y2 f2 x3 y3 f3 x4 y4 f4 x5 y5 f5 x6 y6 f6 x7 y7 f7 x8 y8 f8 x9 y9 f9
  obtain ⟨y0, y1, y2, y3, y4, y5, y6, y7, y8, y9⟩ := hO.c10
  obtain ⟨f0, f1, f2, f3, f4, f5, f6, f7, f8, f9⟩ := hO.f10
  replace hO := hO.put 6 (.slice ws.A ws.l.length ws.c)
  replace hA := hA.other (b' := w.heap.size + 1 + 1) (by omega) 6 (.slice ws.A ws.l.length ws.c)
  replace hR := hR.other (b' := w.heap.size + 1 + 1) (by omega) 6 (.slice ws.A ws.l.length ws.c)
  replace oA := oA.put (p := ⟨w.heap.size + 1 + 1, 6, none⟩) (show w.heap.size + 1 + 1 < w.heap.size + 3 by omega) (.slice ws.A ws.l.length ws.c)
  replace u := u.setCell (p := ⟨w.heap.size + 1 + 1, 6, none⟩) (show w.heap.size ≤ w.heap.size + 1 + 1 by omega) (.slice ws.A ws.l.length ws.c)
  replace hsz : w.heap.size + 3 ≤ (V5.setCell ⟨w.heap.size + 1 + 1, 6, none⟩ (.slice ws.A ws.l.length ws.c)).heap.size := by simpa using hsz
  have hss : (V5.setCell ⟨w.heap.size + 1 + 1, 6, none⟩ (.slice ws.A ws.l.length ws.c)).heap.size = V5.heap.size := by simp
  have HSS := Lib.hid hss
  have hlit := World.ownsRow_lit (base := (V5.setCell ⟨w.heap.size + 1 + 1, 6, none⟩ (.slice ws.A ws.l.length ws.c)).heap.size) (e := 132) (size := 3) (V5.setCell ⟨w.heap.size + 1 + 1, 6, none⟩ (.slice ws.A ws.l.length ws.c)) #[] 0 (Nat.le_refl _) (by simp [maxLen]) rfl
  rw [hss] at hlit
  have ua := Up.alloc (V5.setCell ⟨w.heap.size + 1 + 1, 6, none⟩ (.slice ws.A ws.l.length ws.c)) (.cells #[] 132)
  have n3 : V5.heap.size ≤ ((V5.setCell ⟨w.heap.size + 1 + 1, 6, none⟩ (.slice ws.A ws.l.length ws.c)).alloc (.cells #[] 132)).heap.size := by rw [← hss]; exact ua.size
  have HQ := Lib.hid (h.st.rd.up (u.trans ua) h.st.hhi)
  have HL := Lib.hid hlit
  have hlen := h.st.len
  have n1 : 0 + x.st.l.length ≤ maxLen := by unfold maxLen; omega
  have n2 : (0 + x.st.l.length) * 24 ≤ 140737488355328 := by omega
  clear hlit hss
  obtain ⟨x0, x1, x2, x3, x4, x5, x6, x7, x8, x9⟩ := (hA.up ua).c10
  go_wp2_with ((at_builtin; refine wpList_append_rd (P := Tryz.prog) _ rfl _ _ 53 rfl V5.heap.size 132 i_Stay _ 3 24 Tryz.underlying53 hi_Stay hz_Stay0 hz_Stay1 hz_Stay2 rfl (by decide) _ _ _ rfl HL.out I3.cells I3.len one_i3 x.st.A x.st.l x.st.c lo hi rfl HQ.out n1 n2 n3 ?_))
  intro vv V6 hown' hgrow
  have q : Up (V5.setCell ⟨w.heap.size + 1 + 1, 6, none⟩ (.slice ws.A ws.l.length ws.c)) V6 := ua.grown hgrow (fun k hk => by rw [HSS.out]; exact (HL.out.lt k hk).1)
  have hw : V6.ownsRow V5.heap.size 132 3 vv x.st.l.length (x.st.l.flatMap I3.cells) := by simpa using hown'
  obtain ⟨st, rfl, ee, -, -, ho⟩ := own_sl hw
  have E_st := Lib.hid ee
  rw [← HSS.out] at ho
  clear ee hw hown' hgrow HL HQ n1 n2 n3 hlen ua HSS
  have oN := OwA.one (r := rwStay st) ho
  replace oA := oA.append q (by omega) oN
  replace hA := hA.up q
  replace hR := hR.up q
  replace hO := hO.up q
  replace u := u.trans q
  replace hsz := Nat.le_trans hsz q.size
  clear q ho oN
  clear x0 y0 f0 x1 y1 f1 x2 y2 f2 x3 y3 f3 x4 y4 f4 x5 y5 f5 x6 y6 f6 x7 y7 f7 x8 y8 f8 x9 y9 f9
  obtain ⟨y0, y1, y2, y3, y4, y5, y6, y7, y8, y9⟩ := hO.c10
  obtain ⟨f0, f1, f2, f3, f4, f5, f6, f7, f8, f9⟩ := hO.f10
  replace hO := hO.put 7 (.slice st.A st.l.length st.c)
  replace hA := hA.other (b' := w.heap.size + 1 + 1) (by omega) 7 (.slice st.A st.l.length st.c)
  replace hR := hR.other (b' := w.heap.size + 1 + 1) (by omega) 7 (.slice st.A st.l.length st.c)
  replace oA := oA.put (p := ⟨w.heap.size + 1 + 1, 7, none⟩) (show w.heap.size + 1 + 1 < w.heap.size + 3 by omega) (.slice st.A st.l.length st.c)
  replace u := u.setCell (p := ⟨w.heap.size + 1 + 1, 7, none⟩) (show w.heap.size ≤ w.heap.size + 1 + 1 by omega) (.slice st.A st.l.length st.c)
  replace hsz : w.heap.size + 3 ≤ (V6.setCell ⟨w.heap.size + 1 + 1, 7, none⟩ (.slice st.A st.l.length st.c)).heap.size := by simpa using hsz
  have hss : (V6.setCell ⟨w.heap.size + 1 + 1, 7, none⟩ (.slice st.A st.l.length st.c)).heap.size = V6.heap.size := by simp
  have HSS := Lib.hid hss
  have hlit := World.ownsRow_lit (base := (V6.setCell ⟨w.heap.size + 1 + 1, 7, none⟩ (.slice st.A st.l.length st.c)).heap.size) (e := 134) (size := 3) (V6.setCell ⟨w.heap.size + 1 + 1, 7, none⟩ (.slice st.A st.l.length st.c)) #[] 0 (Nat.le_refl _) (by simp [maxLen]) rfl
  rw [hss] at hlit
  have ua := Up.alloc (V6.setCell ⟨w.heap.size + 1 + 1, 7, none⟩ (.slice st.A st.l.length st.c)) (.cells #[] 134)
  have n3 : V6.heap.size ≤ ((V6.setCell ⟨w.heap.size + 1 + 1, 7, none⟩ (.slice st.A st.l.length st.c)).alloc (.cells #[] 134)).heap.size := by rw [← hss]; exact ua.size
  have HQ := Lib.hid (h.se.rd.up (u.trans ua) h.se.hhi)
  have HL := Lib.hid hlit
  have hlen := h.se.len
  have n1 : 0 + x.se.l.length ≤ maxLen := by unfold maxLen; omega
  have n2 : (0 + x.se.l.length) * 32 ≤ 140737488355328 := by omega
  clear hlit hss
  obtain ⟨x0, x1, x2, x3, x4, x5, x6, x7, x8, x9⟩ := (hA.up ua).c10
  go_wp2_with ((at_builtin; refine wpList_append_rd (P := Tryz.prog) _ rfl _ _ 54 rfl V6.heap.size 134 i_Mark _ 3 32 Tryz.underlying54 hi_Mark hz_Mark0 hz_Mark1 hz_Mark2 rfl (by decide) _ _ _ rfl HL.out Nm.cells Nm.len one_nm x.se.A x.se.l x.se.c lo hi rfl HQ.out n1 n2 n3 ?_))
  intro vv V7 hown' hgrow
  have q : Up (V6.setCell ⟨w.heap.size + 1 + 1, 7, none⟩ (.slice st.A st.l.length st.c)) V7 := ua.grown hgrow (fun k hk => by rw [HSS.out]; exact (HL.out.lt k hk).1)
  have hw : V7.ownsRow V6.heap.size 134 3 vv x.se.l.length (x.se.l.flatMap Nm.cells) := by simpa using hown'
  obtain ⟨se, rfl, ee, -, -, ho⟩ := own_sl hw
  have E_se := Lib.hid ee
  rw [← HSS.out] at ho
  clear ee hw hown' hgrow HL HQ n1 n2 n3 hlen ua HSS
  have oN := OwA.one (r := rwMark se) ho
  replace oA := oA.append q (by omega) oN
  replace hA := hA.up q
  replace hR := hR.up q
  replace hO := hO.up q
  replace u := u.trans q
  replace hsz := Nat.le_trans hsz q.size
  clear q ho oN
  clear x0 y0 f0 x1 y1 f1 x2 y2 f2 x3 y3 f3 x4 y4 f4 x5 y5 f5 x6 y6 f6 x7 y7 f7 x8 y8 f8 x9 y9 f9
  obtain ⟨y0, y1, y2, y3, y4, y5, y6, y7, y8, y9⟩ := hO.c10
  obtain ⟨f0, f1, f2, f3, f4, f5, f6, f7, f8, f9⟩ := hO.f10
  replace hO := hO.put 8 (.slice se.A se.l.length se.c)
  replace hA := hA.other (b' := w.heap.size + 1 + 1) (by omega) 8 (.slice se.A se.l.length se.c)
  replace hR := hR.other (b' := w.heap.size + 1 + 1) (by omega) 8 (.slice se.A se.l.length se.c)
  replace oA := oA.put (p := ⟨w.heap.size + 1 + 1, 8, none⟩) (show w.heap.size + 1 + 1 < w.heap.size + 3 by omega) (.slice se.A se.l.length se.c)
  replace u := u.setCell (p := ⟨w.heap.size + 1 + 1, 8, none⟩) (show w.heap.size ≤ w.heap.size + 1 + 1 by omega) (.slice se.A se.l.length se.c)
  replace hsz : w.heap.size + 3 ≤ (V7.setCell ⟨w.heap.size + 1 + 1, 8, none⟩ (.slice se.A se.l.length se.c)).heap.size := by simpa using hsz
  have hss : (V7.setCell ⟨w.heap.size + 1 + 1, 8, none⟩ (.slice se.A se.l.length se.c)).heap.size = V7.heap.size := by simp
  have HSS := Lib.hid hss
  have hlit := World.ownsRow_lit (base := (V7.setCell ⟨w.heap.size + 1 + 1, 8, none⟩ (.slice se.A se.l.length se.c)).heap.size) (e := 134) (size := 3) (V7.setCell ⟨w.heap.size + 1 + 1, 8, none⟩ (.slice se.A se.l.length se.c)) #[] 0 (Nat.le_refl _) (by simp [maxLen]) rfl
  rw [hss] at hlit
  have ua := Up.alloc (V7.setCell ⟨w.heap.size + 1 + 1, 8, none⟩ (.slice se.A se.l.length se.c)) (.cells #[] 134)
  have n3 : V7.heap.size ≤ ((V7.setCell ⟨w.heap.size + 1 + 1, 8, none⟩ (.slice se.A se.l.length se.c)).alloc (.cells #[] 134)).heap.size := by rw [← hss]; exact ua.size
  have HQ := Lib.hid (h.ha.rd.up (u.trans ua) h.ha.hhi)
  have HL := Lib.hid hlit
  have hlen := h.ha.len
  have n1 : 0 + x.ha.l.length ≤ maxLen := by unfold maxLen; omega
  have n2 : (0 + x.ha.l.length) * 32 ≤ 140737488355328 := by omega
  clear hlit hss
  obtain ⟨x0, x1, x2, x3, x4, x5, x6, x7, x8, x9⟩ := (hA.up ua).c10
  go_wp2_with ((at_builtin; refine wpList_append_rd (P := Tryz.prog) _ rfl _ _ 54 rfl V7.heap.size 134 i_Mark _ 3 32 Tryz.underlying54 hi_Mark hz_Mark0 hz_Mark1 hz_Mark2 rfl (by decide) _ _ _ rfl HL.out Nm.cells Nm.len one_nm x.ha.A x.ha.l x.ha.c lo hi rfl HQ.out n1 n2 n3 ?_))
  intro vv V8 hown' hgrow
  have q : Up (V7.setCell ⟨w.heap.size + 1 + 1, 8, none⟩ (.slice se.A se.l.length se.c)) V8 := ua.grown hgrow (fun k hk => by rw [HSS.out]; exact (HL.out.lt k hk).1)
  have hw : V8.ownsRow V7.heap.size 134 3 vv x.ha.l.length (x.ha.l.flatMap Nm.cells) := by simpa using hown'
  obtain ⟨ha, rfl, ee, -, -, ho⟩ := own_sl hw
  have E_ha := Lib.hid ee
  rw [← HSS.out] at ho
  clear ee hw hown' hgrow HL HQ n1 n2 n3 hlen ua HSS
  have oN := OwA.one (r := rwMark ha) ho
  replace oA := oA.append q (by omega) oN
  replace hA := hA.up q
  replace hR := hR.up q
  replace hO := hO.up q
  replace u := u.trans q
  replace hsz := Nat.le_trans hsz q.size
  clear q ho oN
  clear x0 y0 f0 x1 y1 f1 x2 y2 f2 x3 y3 f3 x4 y4 f4 x5 y5 f5 x6 y6 f6 x7 y7 f7 x8 y8 f8 x9 y9 f9
  obtain ⟨y0, y1, y2, y3, y4, y5, y6, y7, y8, y9⟩ := hO.c10
  obtain ⟨f0, f1, f2, f3, f4, f5, f6, f7, f8, f9⟩ := hO.f10
  replace hO := hO.put 9 (.slice ha.A ha.l.length ha.c)
  replace hA := hA.other (b' := w.heap.size + 1 + 1) (by omega) 9 (.slice ha.A ha.l.length ha.c)
  replace hR := hR.other (b' := w.heap.size + 1 + 1) (by omega) 9 (.slice ha.A ha.l.length ha.c)
  replace oA := oA.put (p := ⟨w.heap.size + 1 + 1, 9, none⟩) (show w.heap.size + 1 + 1 < w.heap.size + 3 by omega) (.slice ha.A ha.l.length ha.c)
  replace u := u.setCell (p := ⟨w.heap.size + 1 + 1, 9, none⟩) (show w.heap.size ≤ w.heap.size + 1 + 1 by omega) (.slice ha.A ha.l.length ha.c)
  replace hsz : w.heap.size + 3 ≤ (V8.setCell ⟨w.heap.size + 1 + 1, 9, none⟩ (.slice ha.A ha.l.length ha.c)).heap.size := by simpa using hsz
  obtain ⟨x0, x1, x2, x3, x4, x5, x6, x7, x8, x9⟩ := hO.c10
  obtain ⟨z0, z1, z2, z3, z4, z5, z6, z7, z8, z9⟩ := hR.c10
  obtain ⟨g0, g1, g2, g3, g4, g5, g6, g7, g8, g9⟩ := hR.f10
  go_wp2
  refine bodyPost_ret (v := .agg #[.slice rs.A rs.l.length rs.c, .int .i64 x.fr, .int .i64 x.to_, .slice ps.A ps.l.length ps.c, .slice ts.A ts.l.length ts.c, .slice pl.A pl.l.length pl.c, .slice ws.A ws.l.length ws.c, .slice st.A st.l.length st.c, .slice se.A se.l.length se.c, .slice ha.A ha.l.length ha.c]) (by simp [results, Tryz.results16, go_sem, z0, z1, z2, z3, z4, z5, z6, z7, z8, z9]) rfl ?_
  refine ⟨⟨rs, x.fr, x.to_, ps, ts, pl, ws, st, se, ha⟩, rfl, by simp only [Wd.p, E_rs.out, E_ps.out, E_ts.out, E_pl.out, E_ws.out, E_st.out, E_se.out, E_ha.out], ?_, ?_⟩
  · refine OwA.base (b := w.heap.size + 3) ?_ (by omega)
    iterate 10 refine OwA.put ?_ (by first | (simp; done) | (simp; omega)) _
    exact oA
  · iterate 10 refine Up.setCell ?_ (by first | (simp; done) | (simp; omega)) _
    exact u
set_option maxRecDepth 100000 in
set_option maxHeartbeats 8000000 in
theorem l25Deed_any (x : Dd) (nm : ByteArray) (lo hi : Nat) (w : World) (h : RdE w lo hi x) :
    Calls Tryz.prog 18 #[.agg #[.string x.nm, .slice x.da.A x.da.l.length x.da.c, .slice x.wi.A x.wi.l.length x.wi.c, .string x.pl, .string x.se, .string x.ha, .slice x.ci.A x.ci.l.length x.ci.c], .string nm] w fun e w' => ∃ y : Dd, e = .returned y.val ∧ y.p = ⟨x.nm, x.da.l, x.wi.l, x.pl, x.se, x.ha, x.ci.l.filter fun z => !(z.toList == nm.toList)⟩ ∧ OwA w' w.heap.size (rowsE y) ∧ Up w w' := by
  have u : Up w ((((w.alloc (.cells #[.string x.nm, .slice x.da.A x.da.l.length x.da.c, .slice x.wi.A x.wi.l.length x.wi.c, .string x.pl, .string x.se, .string x.ha, .slice x.ci.A x.ci.l.length x.ci.c] 77)).alloc (.cells #[.string ⟨#[]⟩, .slice none 0 0, .slice none 0 0, .string ⟨#[]⟩, .string ⟨#[]⟩, .string ⟨#[]⟩, .slice none 0 0] 77)).alloc (.cells #[] 9)).alloc (.cells #[.string x.nm, .slice none 0 0, .slice none 0 0, .string x.pl, .string x.se, .string x.ha, .slice (some ⟨w.heap.size + 1 + 1, 0, none⟩) 0 0] 77)) := (((Up.alloc _ _).allocs _).allocs _).allocs _
  have hA := (((Bx.new w #[.string x.nm, .slice x.da.A x.da.l.length x.da.c, .slice x.wi.A x.wi.l.length x.wi.c, .string x.pl, .string x.se, .string x.ha, .slice x.ci.A x.ci.l.length x.ci.c] 77).up (Up.alloc _ (.cells #[.string ⟨#[]⟩, .slice none 0 0, .slice none 0 0, .string ⟨#[]⟩, .string ⟨#[]⟩, .string ⟨#[]⟩, .slice none 0 0] 77))).up (Up.alloc _ (.cells #[] 9))).up (Up.alloc _ (.cells #[.string x.nm, .slice none 0 0, .slice none 0 0, .string x.pl, .string x.se, .string x.ha, .slice (some ⟨w.heap.size + 1 + 1, 0, none⟩) 0 0] 77))
  have hR : Bx ((((w.alloc (.cells #[.string x.nm, .slice x.da.A x.da.l.length x.da.c, .slice x.wi.A x.wi.l.length x.wi.c, .string x.pl, .string x.se, .string x.ha, .slice x.ci.A x.ci.l.length x.ci.c] 77)).alloc (.cells #[.string ⟨#[]⟩, .slice none 0 0, .slice none 0 0, .string ⟨#[]⟩, .string ⟨#[]⟩, .string ⟨#[]⟩, .slice none 0 0] 77)).alloc (.cells #[] 9)).alloc (.cells #[.string x.nm, .slice none 0 0, .slice none 0 0, .string x.pl, .string x.se, .string x.ha, .slice (some ⟨w.heap.size + 1 + 1, 0, none⟩) 0 0] 77)) (w.heap.size + 1) [.string ⟨#[]⟩, .slice none 0 0, .slice none 0 0, .string ⟨#[]⟩, .string ⟨#[]⟩, .string ⟨#[]⟩, .slice none 0 0] := by
    have := ((Bx.new (w.alloc (.cells #[.string x.nm, .slice x.da.A x.da.l.length x.da.c, .slice x.wi.A x.wi.l.length x.wi.c, .string x.pl, .string x.se, .string x.ha, .slice x.ci.A x.ci.l.length x.ci.c] 77)) #[.string ⟨#[]⟩, .slice none 0 0, .slice none 0 0, .string ⟨#[]⟩, .string ⟨#[]⟩, .string ⟨#[]⟩, .slice none 0 0] 77).up (Up.alloc _ (.cells #[] 9))).up (Up.alloc _ (.cells #[.string x.nm, .slice none 0 0, .slice none 0 0, .string x.pl, .string x.se, .string x.ha, .slice (some ⟨w.heap.size + 1 + 1, 0, none⟩) 0 0] 77))
    simpa using this
  have hO : Bx ((((w.alloc (.cells #[.string x.nm, .slice x.da.A x.da.l.length x.da.c, .slice x.wi.A x.wi.l.length x.wi.c, .string x.pl, .string x.se, .string x.ha, .slice x.ci.A x.ci.l.length x.ci.c] 77)).alloc (.cells #[.string ⟨#[]⟩, .slice none 0 0, .slice none 0 0, .string ⟨#[]⟩, .string ⟨#[]⟩, .string ⟨#[]⟩, .slice none 0 0] 77)).alloc (.cells #[] 9)).alloc (.cells #[.string x.nm, .slice none 0 0, .slice none 0 0, .string x.pl, .string x.se, .string x.ha, .slice (some ⟨w.heap.size + 1 + 1, 0, none⟩) 0 0] 77)) (w.heap.size + 1 + 1 + 1) [.string x.nm, .slice none 0 0, .slice none 0 0, .string x.pl, .string x.se, .string x.ha, .slice (some ⟨w.heap.size + 1 + 1, 0, none⟩) 0 0] := by
    have := Bx.new (((w.alloc (.cells #[.string x.nm, .slice x.da.A x.da.l.length x.da.c, .slice x.wi.A x.wi.l.length x.wi.c, .string x.pl, .string x.se, .string x.ha, .slice x.ci.A x.ci.l.length x.ci.c] 77)).alloc (.cells #[.string ⟨#[]⟩, .slice none 0 0, .slice none 0 0, .string ⟨#[]⟩, .string ⟨#[]⟩, .string ⟨#[]⟩, .slice none 0 0] 77)).alloc (.cells #[] 9)) #[.string x.nm, .slice none 0 0, .slice none 0 0, .string x.pl, .string x.se, .string x.ha, .slice (some ⟨w.heap.size + 1 + 1, 0, none⟩) 0 0] 77
    simpa using this
  have hsz : w.heap.size + 4 ≤ ((((w.alloc (.cells #[.string x.nm, .slice x.da.A x.da.l.length x.da.c, .slice x.wi.A x.wi.l.length x.wi.c, .string x.pl, .string x.se, .string x.ha, .slice x.ci.A x.ci.l.length x.ci.c] 77)).alloc (.cells #[.string ⟨#[]⟩, .slice none 0 0, .slice none 0 0, .string ⟨#[]⟩, .string ⟨#[]⟩, .string ⟨#[]⟩, .slice none 0 0] 77)).alloc (.cells #[] 9)).alloc (.cells #[.string x.nm, .slice none 0 0, .slice none 0 0, .string x.pl, .string x.se, .string x.ha, .slice (some ⟨w.heap.size + 1 + 1, 0, none⟩) 0 0] 77)).heap.size := by simp
  have oA : OwA ((((w.alloc (.cells #[.string x.nm, .slice x.da.A x.da.l.length x.da.c, .slice x.wi.A x.wi.l.length x.wi.c, .string x.pl, .string x.se, .string x.ha, .slice x.ci.A x.ci.l.length x.ci.c] 77)).alloc (.cells #[.string ⟨#[]⟩, .slice none 0 0, .slice none 0 0, .string ⟨#[]⟩, .string ⟨#[]⟩, .string ⟨#[]⟩, .slice none 0 0] 77)).alloc (.cells #[] 9)).alloc (.cells #[.string x.nm, .slice none 0 0, .slice none 0 0, .string x.pl, .string x.se, .string x.ha, .slice (some ⟨w.heap.size + 1 + 1, 0, none⟩) 0 0] 77)) (w.heap.size + 2) [rwStr ⟨some ⟨w.heap.size + 1 + 1, 0, none⟩, 0, []⟩] := by
    have h0 := World.ownsRow_lit (base := w.heap.size + 2) (e := 9) (size := 1) ((w.alloc (.cells #[.string x.nm, .slice x.da.A x.da.l.length x.da.c, .slice x.wi.A x.wi.l.length x.wi.c, .string x.pl, .string x.se, .string x.ha, .slice x.ci.A x.ci.l.length x.ci.c] 77)).alloc (.cells #[.string ⟨#[]⟩, .slice none 0 0, .slice none 0 0, .string ⟨#[]⟩, .string ⟨#[]⟩, .string ⟨#[]⟩, .slice none 0 0] 77)) #[] 0 (by simp) (by simp [maxLen]) rfl
    have h1 : (((w.alloc (.cells #[.string x.nm, .slice x.da.A x.da.l.length x.da.c, .slice x.wi.A x.wi.l.length x.wi.c, .string x.pl, .string x.se, .string x.ha, .slice x.ci.A x.ci.l.length x.ci.c] 77)).alloc (.cells #[.string ⟨#[]⟩, .slice none 0 0, .slice none 0 0, .string ⟨#[]⟩, .string ⟨#[]⟩, .string ⟨#[]⟩, .slice none 0 0] 77)).alloc (.cells #[] 9)).ownsRow (w.heap.size + 2) 9 1 (.slice (some ⟨w.heap.size + 1 + 1, 0, none⟩) 0 0) 0 [] := by simpa using h0
    exact OwA.up (OwA.one (r := rwStr ⟨some ⟨w.heap.size + 1 + 1, 0, none⟩, 0, []⟩) h1) (Up.alloc _ _)
  have hne : ∀ r ∈ [rwStr ⟨some ⟨w.heap.size + 1 + 1, 0, none⟩, 0, []⟩], r.v.ownBlock ≠ some (w.heap.size + 1 + 1 + 1) := fun r hr e => by
    simp only [List.mem_singleton] at hr
    subst hr
    simp [Value.ownBlock] at e
  obtain ⟨i_Clause, hi_Clause, hz_Clause0, hz_Clause1, hz_Clause2⟩ := info_parts infoClause
  obtain ⟨i_Witness, hi_Witness, hz_Witness0, hz_Witness1, hz_Witness2⟩ := info_parts infoWitness
  obtain ⟨i_Str, hi_Str, hz_Str0, hz_Str1, hz_Str2⟩ := info_parts infoStrW
  go_enter Tryz.func18, Tryz.ntmps18
  go_upto_region 2 with (fail)
  generalize ((((w.alloc (.cells #[.string x.nm, .slice x.da.A x.da.l.length x.da.c, .slice x.wi.A x.wi.l.length x.wi.c, .string x.pl, .string x.se, .string x.ha, .slice x.ci.A x.ci.l.length x.ci.c] 77)).alloc (.cells #[.string ⟨#[]⟩, .slice none 0 0, .slice none 0 0, .string ⟨#[]⟩, .string ⟨#[]⟩, .string ⟨#[]⟩, .slice none 0 0] 77)).alloc (.cells #[] 9)).alloc (.cells #[.string x.nm, .slice none 0 0, .slice none 0 0, .string x.pl, .string x.se, .string x.ha, .slice (some ⟨w.heap.size + 1 + 1, 0, none⟩) 0 0] 77)) = V0 at *
  obtain ⟨y0, y1, y2, y3, y4, y5, y6⟩ := hO.c7
  obtain ⟨f0, f1, f2, f3, f4, f5, f6⟩ := hO.f7
  have hss : V0.heap.size = V0.heap.size := rfl
  have HSS := Lib.hid hss
  have hlit := World.ownsRow_lit (base := V0.heap.size) (e := 137) (size := 8) V0 #[] 0 (Nat.le_refl _) (by simp [maxLen]) rfl
  have ua := Up.alloc V0 (.cells #[] 137)
  have n3 : V0.heap.size ≤ (V0.alloc (.cells #[] 137)).heap.size := ua.size
  have HQ := Lib.hid (h.da.rd.up (u.trans ua) h.da.hhi)
  have HL := Lib.hid hlit
  have hlen := h.da.len
  have n1 : 0 + x.da.l.length ≤ maxLen := by unfold maxLen; omega
  have n2 : (0 + x.da.l.length) * 72 ≤ 140737488355328 := by omega
  clear hlit hss
  obtain ⟨x0, x1, x2, x3, x4, x5, x6⟩ := (hA.up ua).c7
  go_wp2_with ((at_builtin; refine wpList_append_rd (P := Tryz.prog) _ rfl _ _ 74 rfl V0.heap.size 137 i_Clause _ 8 72 Tryz.underlying74 hi_Clause hz_Clause0 hz_Clause1 hz_Clause2 rfl (by decide) _ _ _ rfl HL.out Cl.cells Cl.len one_cl x.da.A x.da.l x.da.c lo hi rfl HQ.out n1 n2 n3 ?_))
  intro vv V1 hown' hgrow
  have q : Up V0 V1 := ua.grown hgrow (fun k hk => (HL.out.lt k hk).1)
  have hw : V1.ownsRow V0.heap.size 137 8 vv x.da.l.length (x.da.l.flatMap Cl.cells) := by simpa using hown'
  obtain ⟨da, rfl, ee, -, -, ho⟩ := own_sl hw
  have E_da := Lib.hid ee
  clear ee hw hown' hgrow HL HQ n1 n2 n3 hlen ua HSS
  have oN := OwA.one (r := rwClause da) ho
  replace oA := oA.append q (by omega) oN
  replace hne : ∀ r ∈ ([rwStr ⟨some ⟨w.heap.size + 1 + 1, 0, none⟩, 0, []⟩] ++ [rwClause da]), r.v.ownBlock ≠ some (w.heap.size + 1 + 1 + 1) := fun r hr => by
    rcases List.mem_append.1 hr with h1 | h1
    · exact hne r h1
    · intro e; have := (oN.lt h1 e).1; omega
  replace hA := hA.up q
  replace hR := hR.up q
  replace hO := hO.up q
  replace u := u.trans q
  replace hsz := Nat.le_trans hsz q.size
  clear q ho oN
  clear x0 y0 f0 x1 y1 f1 x2 y2 f2 x3 y3 f3 x4 y4 f4 x5 y5 f5 x6 y6 f6
  obtain ⟨y0, y1, y2, y3, y4, y5, y6⟩ := hO.c7
  obtain ⟨f0, f1, f2, f3, f4, f5, f6⟩ := hO.f7
  replace hO := hO.put 1 (.slice da.A da.l.length da.c)
  replace hA := hA.other (b' := w.heap.size + 1 + 1 + 1) (by omega) 1 (.slice da.A da.l.length da.c)
  replace hR := hR.other (b' := w.heap.size + 1 + 1 + 1) (by omega) 1 (.slice da.A da.l.length da.c)
  replace oA := oA.putNe (p := ⟨w.heap.size + 1 + 1 + 1, 1, none⟩) hne (.slice da.A da.l.length da.c)
  replace u := u.setCell (p := ⟨w.heap.size + 1 + 1 + 1, 1, none⟩) (show w.heap.size ≤ w.heap.size + 1 + 1 + 1 by omega) (.slice da.A da.l.length da.c)
  replace hsz : w.heap.size + 4 ≤ (V1.setCell ⟨w.heap.size + 1 + 1 + 1, 1, none⟩ (.slice da.A da.l.length da.c)).heap.size := by simpa using hsz
  have hss : (V1.setCell ⟨w.heap.size + 1 + 1 + 1, 1, none⟩ (.slice da.A da.l.length da.c)).heap.size = V1.heap.size := by simp
  have HSS := Lib.hid hss
  have hlit := World.ownsRow_lit (base := (V1.setCell ⟨w.heap.size + 1 + 1 + 1, 1, none⟩ (.slice da.A da.l.length da.c)).heap.size) (e := 140) (size := 2) (V1.setCell ⟨w.heap.size + 1 + 1 + 1, 1, none⟩ (.slice da.A da.l.length da.c)) #[] 0 (Nat.le_refl _) (by simp [maxLen]) rfl
  rw [hss] at hlit
  have ua := Up.alloc (V1.setCell ⟨w.heap.size + 1 + 1 + 1, 1, none⟩ (.slice da.A da.l.length da.c)) (.cells #[] 140)
  have n3 : V1.heap.size ≤ ((V1.setCell ⟨w.heap.size + 1 + 1 + 1, 1, none⟩ (.slice da.A da.l.length da.c)).alloc (.cells #[] 140)).heap.size := by rw [← hss]; exact ua.size
  have HQ := Lib.hid (h.wi.rd.up (u.trans ua) h.wi.hhi)
  have HL := Lib.hid hlit
  have hlen := h.wi.len
  have n1 : 0 + x.wi.l.length ≤ maxLen := by unfold maxLen; omega
  have n2 : (0 + x.wi.l.length) * 32 ≤ 140737488355328 := by omega
  clear hlit hss
  obtain ⟨x0, x1, x2, x3, x4, x5, x6⟩ := (hA.up ua).c7
  go_wp2_with ((at_builtin; refine wpList_append_rd (P := Tryz.prog) _ rfl _ _ 75 rfl V1.heap.size 140 i_Witness _ 2 32 Tryz.underlying75 hi_Witness hz_Witness0 hz_Witness1 hz_Witness2 rfl (by decide) _ _ _ rfl HL.out Wi.cells Wi.len one_wi x.wi.A x.wi.l x.wi.c lo hi rfl HQ.out n1 n2 n3 ?_))
  intro vv V2 hown' hgrow
  have q : Up (V1.setCell ⟨w.heap.size + 1 + 1 + 1, 1, none⟩ (.slice da.A da.l.length da.c)) V2 := ua.grown hgrow (fun k hk => by rw [HSS.out]; exact (HL.out.lt k hk).1)
  have hw : V2.ownsRow V1.heap.size 140 2 vv x.wi.l.length (x.wi.l.flatMap Wi.cells) := by simpa using hown'
  obtain ⟨wi, rfl, ee, -, -, ho⟩ := own_sl hw
  have E_wi := Lib.hid ee
  rw [← HSS.out] at ho
  clear ee hw hown' hgrow HL HQ n1 n2 n3 hlen ua HSS
  have oN := OwA.one (r := rwWitness wi) ho
  replace oA := oA.append q (by omega) oN
  replace hne : ∀ r ∈ (([rwStr ⟨some ⟨w.heap.size + 1 + 1, 0, none⟩, 0, []⟩] ++ [rwClause da]) ++ [rwWitness wi]), r.v.ownBlock ≠ some (w.heap.size + 1 + 1 + 1) := fun r hr => by
    rcases List.mem_append.1 hr with h1 | h1
    · exact hne r h1
    · intro e; have := (oN.lt h1 e).1; omega
  replace hA := hA.up q
  replace hR := hR.up q
  replace hO := hO.up q
  replace u := u.trans q
  replace hsz := Nat.le_trans hsz q.size
  clear q ho oN
  clear x0 y0 f0 x1 y1 f1 x2 y2 f2 x3 y3 f3 x4 y4 f4 x5 y5 f5 x6 y6 f6
  obtain ⟨y0, y1, y2, y3, y4, y5, y6⟩ := hO.c7
  obtain ⟨f0, f1, f2, f3, f4, f5, f6⟩ := hO.f7
  replace hO := hO.put 2 (.slice wi.A wi.l.length wi.c)
  replace hA := hA.other (b' := w.heap.size + 1 + 1 + 1) (by omega) 2 (.slice wi.A wi.l.length wi.c)
  replace hR := hR.other (b' := w.heap.size + 1 + 1 + 1) (by omega) 2 (.slice wi.A wi.l.length wi.c)
  replace oA := oA.putNe (p := ⟨w.heap.size + 1 + 1 + 1, 2, none⟩) hne (.slice wi.A wi.l.length wi.c)
  replace u := u.setCell (p := ⟨w.heap.size + 1 + 1 + 1, 2, none⟩) (show w.heap.size ≤ w.heap.size + 1 + 1 + 1 by omega) (.slice wi.A wi.l.length wi.c)
  replace hsz : w.heap.size + 4 ≤ (V2.setCell ⟨w.heap.size + 1 + 1 + 1, 2, none⟩ (.slice wi.A wi.l.length wi.c)).heap.size := by simpa using hsz
  go_upto_region 5 with (fail)
  generalize (V2.setCell ⟨w.heap.size + 1 + 1 + 1, 2, none⟩ (.slice wi.A wi.l.length wi.c)) = V9 at *
  have hcn := h.ci.len
  go_loopw [6] (fun i wr => ∃ (k : Nat) (ci : Sl ByteArray), k ≤ x.ci.l.length ∧ i = .int .i64 k ∧ ci.l = (x.ci.l.take k).filter (fun z => !(z.toList == nm.toList)) ∧ OwA wr (w.heap.size + 2) [rwStr ci, rwClause da, rwWitness wi] ∧ (∀ r ∈ [rwStr ci, rwClause da, rwWitness wi], r.v.ownBlock ≠ some (w.heap.size + 1 + 1 + 1)) ∧ Bx wr w.heap.size [.string x.nm, .slice x.da.A x.da.l.length x.da.c, .slice x.wi.A x.wi.l.length x.wi.c, .string x.pl, .string x.se, .string x.ha, .slice x.ci.A x.ci.l.length x.ci.c] ∧ Bx wr (w.heap.size + 1) [.string ⟨#[]⟩, .slice none 0 0, .slice none 0 0, .string ⟨#[]⟩, .string ⟨#[]⟩, .string ⟨#[]⟩, .slice none 0 0] ∧ Bx wr (w.heap.size + 1 + 1 + 1) [.string x.nm, .slice da.A da.l.length da.c, .slice wi.A wi.l.length wi.c, .string x.pl, .string x.se, .string x.ha, .slice ci.A ci.l.length ci.c] ∧ Up w wr ∧ w.heap.size + 4 ≤ wr.heap.size) (fun i _ => x.ci.l.length - (intOf i).toNat)
  case atStart => exact ⟨0, ⟨some ⟨w.heap.size + 1 + 1, 0, none⟩, 0, []⟩, Nat.zero_le _, rfl, by simp, oA, hne, hA, hR, hO, u, hsz⟩
  case round =>
    clear oA hne hA hR hO u hsz
    obtain ⟨k, ci, hk, rfl, hci, oA, hne, hA, hR, hO, u, hsz⟩ := hrel
    have HCI := Lib.hid hci
    clear hci
    obtain ⟨x0, x1, x2, x3, x4, x5, x6⟩ := hA.c7
    obtain ⟨y0, y1, y2, y3, y4, y5, y6⟩ := hO.c7
    obtain ⟨f0, f1, f2, f3, f4, f5, f6⟩ := hO.f7
    by_cases hlt : k < x.ci.l.length
    · obtain ⟨b, off, z, hqA, -, -, hd, q0⟩ := ((h.ci.up u).rd).txt hlt
      rw [hqA] at x6
      have HD := Lib.hid hd
      have HQA := Lib.hid hqA
      clear hd hqA
      rcases hb : (z.toList == nm.toList) with _ | _
      · have e1 : (!(z.toList == nm.toList)) = true := by rw [hb]; rfl
        have HB := Lib.hid hb
        clear hb
        have ua := Up.alloc wr (.cells #[.string z] 9)
        have hrow : (wr.alloc (.cells #[.string z] 9)).ownsRow (w.heap.size + 2) 9 1 (.slice ci.A ci.l.length ci.c) ci.l.length (ci.l.flatMap strC) := (oA.up ua).each (rwStr ci) (by simp)
        have hcl : ci.l.length ≤ 2000000 := by rw [HCI.out]; exact Nat.le_trans (List.length_filter_le _ _) (by rw [List.length_take]; omega)
        have n1 : ci.l.length + 1 ≤ maxLen := by unfold maxLen; omega
        have n2 : (ci.l.length + 1) * 16 ≤ 140737488355328 := by omega
        have n3 : w.heap.size + 2 ≤ (wr.alloc (.cells #[.string z] 9)).heap.size := by simp; omega
        have OA := Lib.hid (oA.up ua.drew)
        have HA := Lib.hid (hA.up ua.drew)
        have HR := Lib.hid (hR.up ua.drew)
        have HO := Lib.hid (hO.up ua.drew)
        have HNE := Lib.hid hne
        have X := (hO.up ua).c7
        have XA := (hA.up ua).c7
        have q1 := ua.cell q0
        obtain ⟨xa0, xa1, xa2, xa3, xa4, xa5, xa6⟩ := XA
        obtain ⟨ya0, ya1, ya2, ya3, ya4, ya5, ya6⟩ := X
        rw [HQA.out] at xa6
        clear oA hA hR hO hne
        go_wp2_with fail
        go_region_law ((refine step_append_lies _ rfl (.tmp 42) (.tmp 48) 29 rfl (w.heap.size + 2) 9 i_Str _ 1 16 Tryz.underlying29 hi_Str hz_Str0 hz_Str1 hz_Str2 rfl (by decide) (.slice ci.A ci.l.length ci.c) ci.l.length _ (by simp [Act.eval]) hrow ⟨wr.heap.size, 0, none⟩ 1 1 [.string z] (by simp [Act.eval]) rfl (cell_one_newW _ _ _) (by simp [Value.oneCell']) (by decide) n1 n2 n3 _ rfl ?_; intro g cap w' hown' hgrow hat hlt'; have hO := HO.out.grown hgrow (HNE.out (rwStr ci) (by simp)); obtain ⟨t0, t1, t2, t3, t4, t5, t6⟩ := hO.c7; obtain ⟨s0, s1, s2, s3, s4, s5, s6⟩ := hO.f7))
        all_goals
          have oA := OA.out.push (r' := rwStr ⟨some ⟨g, 0, none⟩, cap, ci.l ++ [z]⟩) (by
            show World.ownsRow _ (w.heap.size + 2) 9 1 (.slice (some ⟨g, 0, none⟩) (ci.l ++ [z]).length cap) (ci.l ++ [z]).length ((ci.l ++ [z]).flatMap strC)
            rw [List.length_append, List.flatMap_append]; simpa using hown') hgrow (hat.imp (fun e => e.symm) (fun e => by simp [Value.ownBlock, e]))
          have hlow : ∀ b', (rwStr ci).v.ownBlock = some b' → w.heap.size + 2 ≤ b' := fun b' e => (OA.out.lt (by simp) e).1
          have hA := HA.out.grown hgrow (fun e => by have := hlow _ e; omega)
          have hR := HR.out.grown hgrow (fun e => by have := hlow _ e; omega)
          have hne : ∀ r ∈ [rwStr ⟨some ⟨g, 0, none⟩, cap, ci.l ++ [z]⟩, rwClause da, rwWitness wi], r.v.ownBlock ≠ some (w.heap.size + 1 + 1 + 1) := by
            intro r hr
            rcases List.mem_cons.1 hr with rfl | h1
            · intro e
              have e' : g = w.heap.size + 1 + 1 + 1 := by simpa [Value.ownBlock, Sl.val] using e
              rcases hat with h2 | h2
              · exact HNE.out (rwStr ci) (by simp) (by rw [← e']; exact h2)
              · simp at h2; omega
            · exact HNE.out r (List.mem_cons_of_mem _ h1)
          have u' := (u.trans ua.drew).grown hgrow (fun b hb => by have := hlow b hb; omega)
          have hsz' : w.heap.size + 4 ≤ w'.heap.size := Nat.le_trans (by simp; omega) hgrow.size
          have OA2 := Lib.hid (oA.putNe (p := ⟨w.heap.size + 1 + 1 + 1, 6, none⟩) hne (.slice (some ⟨g, 0, none⟩) (ci.l.length + 1) cap))
          have HA2 := Lib.hid (hA.other (b' := w.heap.size + 1 + 1 + 1) (by omega) 6 (.slice (some ⟨g, 0, none⟩) (ci.l.length + 1) cap))
          have HR2 := Lib.hid (hR.other (b' := w.heap.size + 1 + 1 + 1) (by omega) 6 (.slice (some ⟨g, 0, none⟩) (ci.l.length + 1) cap))
          have HO2 := Lib.hid (hO.put 6 (.slice (some ⟨g, 0, none⟩) (ci.l.length + 1) cap))
          have HNE2 := Lib.hid hne
          have U2 := Lib.hid (u'.setCell (p := ⟨w.heap.size + 1 + 1 + 1, 6, none⟩) (show w.heap.size ≤ w.heap.size + 1 + 1 + 1 by omega) (.slice (some ⟨g, 0, none⟩) (ci.l.length + 1) cap))
          clear oA hA hR hO hne u' hown' hgrow hat hlow OA HA HR HO HNE hrow x0 x1 x2 x3 x4 x5 x6 y0 y1 y2 y3 y4 y5 y6 f0 f1 f2 f3 f4 f5 f6 xa0 xa1 xa2 xa3 xa4 xa5 xa6 ya0 ya1 ya2 ya3 ya4 ya5 ya6 q0 q1 e1
          go_wp2
          go_roundw
          case rel => exact ⟨k + 1, ⟨some ⟨g, 0, none⟩, cap, ci.l ++ [z]⟩, by omega, by go_num, by show ci.l ++ [z] = _; rw [filtT_yes HD.out HB.out, HCI.out], OA2.out, HNE2.out, HA2.out, HR2.out, by have := HO2.out; simpa using this, U2.out, by simpa using hsz'⟩
          case measure => simp [intOf]; omega
      · have e1 : (!(z.toList == nm.toList)) = false := by rw [hb]; rfl
        have HB := Lib.hid hb
        clear hb
        go_wp2
        go_roundw
        case rel => exact ⟨k + 1, ci, by omega, by go_num, by rw [filtT_no HD.out HB.out]; exact HCI.out, oA, hne, hA, hR, hO, u, hsz⟩
        case measure => simp [intOf]; omega
    · obtain rfl : k = x.ci.l.length := by omega
      have hm := HCI.out
      rw [List.take_of_length_le (Nat.le_refl _)] at hm
      have HM := Lib.hid hm
      clear hm
      obtain ⟨z0, z1, z2, z3, z4, z5, z6⟩ := hR.c7
      obtain ⟨g0, g1, g2, g3, g4, g5, g6⟩ := hR.f7
      go_wp2
      refine bodyPost_ret (v := .agg #[.string x.nm, .slice da.A da.l.length da.c, .slice wi.A wi.l.length wi.c, .string x.pl, .string x.se, .string x.ha, .slice ci.A ci.l.length ci.c]) (by simp [results, Tryz.results18, go_sem, z0, z1, z2, z3, z4, z5, z6]) rfl ?_
      refine ⟨⟨x.nm, da, wi, x.pl, x.se, x.ha, ci⟩, rfl, by simp only [Dd.p, E_da.out, E_wi.out, HM.out], ?_, ?_⟩
      · refine OwA.base (b := w.heap.size + 2) ?_ (by omega)
        iterate 7 refine OwA.put ?_ (by first | (simp; done) | (simp; omega)) _
        exact oA.perm (List.perm_append_comm (l₁ := [rwStr ci]) (l₂ := [rwClause da, rwWitness wi]))
      · iterate 7 refine Up.setCell ?_ (by first | (simp; done) | (simp; omega)) _
        exact u
end Go.Proofs.YtblpjjcjnaigiaaGreatDoor
