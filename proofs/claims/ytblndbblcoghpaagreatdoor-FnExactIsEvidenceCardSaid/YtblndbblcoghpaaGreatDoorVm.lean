/- The law package's copies of chanceries, people, lands, worlds and deeds. Equality of worlds and deeds that say the same; sizes and copies of deeds and of lists of deeds. -/
import Derived.Test.YtblndbblcoghpaaGreatDoorVl
namespace Go.Proofs.YtblndbblcoghpaaGreatDoor
open Go.RowKit Go.Sort

set_option maxRecDepth 100000 in
set_option maxHeartbeats 4000000 in
theorem toChancery_any (s : Sl Nm) (fr to_ : Int) (lo hi : Nat) (w : World) (h : SrNm w lo hi s) :
    Calls Tryz.prog 52 #[.agg #[.slice s.A s.l.length s.c, .int .i64 fr, .int .i64 to_]] w fun e w' => ∃ s1 : Sl Nm, e = .returned (.agg #[.slice s1.A s1.l.length s1.c, .int .i64 fr, .int .i64 to_]) ∧ s1.l = s.l ∧ w'.ownsRow w.heap.size 224 3 s1.val s1.l.length (s1.l.flatMap Nm.cells) ∧ Up w w' := by
  have u : Up w (((w.alloc (.cells #[.slice s.A s.l.length s.c, .int .i64 fr, .int .i64 to_] 24)).alloc (.cells #[.slice none 0 0, .int .i64 0, .int .i64 0] 45)).alloc (.cells #[.slice none 0 0, .int .i64 0, .int .i64 0] 45)) := ((Up.alloc w _).allocs _).allocs _
  have hA := ((Bx.new w #[.slice s.A s.l.length s.c, .int .i64 fr, .int .i64 to_] 24).up (Up.alloc _ (.cells #[.slice none 0 0, .int .i64 0, .int .i64 0] 45))).up (Up.alloc _ (.cells #[.slice none 0 0, .int .i64 0, .int .i64 0] 45))
  have hR : Bx (((w.alloc (.cells #[.slice s.A s.l.length s.c, .int .i64 fr, .int .i64 to_] 24)).alloc (.cells #[.slice none 0 0, .int .i64 0, .int .i64 0] 45)).alloc (.cells #[.slice none 0 0, .int .i64 0, .int .i64 0] 45)) (w.heap.size + 1) [.slice none 0 0, .int .i64 0, .int .i64 0] := by
    have := (Bx.new (w.alloc (.cells #[.slice s.A s.l.length s.c, .int .i64 fr, .int .i64 to_] 24)) #[.slice none 0 0, .int .i64 0, .int .i64 0] 45).up (Up.alloc _ (.cells #[.slice none 0 0, .int .i64 0, .int .i64 0] 45))
    simpa using this
  have hO : Bx (((w.alloc (.cells #[.slice s.A s.l.length s.c, .int .i64 fr, .int .i64 to_] 24)).alloc (.cells #[.slice none 0 0, .int .i64 0, .int .i64 0] 45)).alloc (.cells #[.slice none 0 0, .int .i64 0, .int .i64 0] 45)) (w.heap.size + 1 + 1) [.slice none 0 0, .int .i64 0, .int .i64 0] := by
    have := Bx.new ((w.alloc (.cells #[.slice s.A s.l.length s.c, .int .i64 fr, .int .i64 to_] 24)).alloc (.cells #[.slice none 0 0, .int .i64 0, .int .i64 0] 45)) #[.slice none 0 0, .int .i64 0, .int .i64 0] 45
    simpa using this
  have hsz : w.heap.size + 3 ≤ (((w.alloc (.cells #[.slice s.A s.l.length s.c, .int .i64 fr, .int .i64 to_] 24)).alloc (.cells #[.slice none 0 0, .int .i64 0, .int .i64 0] 45)).alloc (.cells #[.slice none 0 0, .int .i64 0, .int .i64 0] 45)).heap.size := by simp
  go_enter Tryz.func52, Tryz.ntmps52
  go_wp2_with fail
  generalize (((w.alloc (.cells #[.slice s.A s.l.length s.c, .int .i64 fr, .int .i64 to_] 24)).alloc (.cells #[.slice none 0 0, .int .i64 0, .int .i64 0] 45)).alloc (.cells #[.slice none 0 0, .int .i64 0, .int .i64 0] 45)) = w0 at *
  refine (toReignS_any s.A s.l s.c lo hi _ (h.rd.up u h.hhi) (Nat.le_trans h.hhi u.size) h.len).mono ?_
  rintro e v1 ⟨q, rfl, o_s1, v⟩
  obtain ⟨s1, rfl, e_s1, -, -, o_s1⟩ := own_sl o_s1
  have E_s1 := Lib.hid e_s1
  clear e_s1
  replace o_s1 := own_base (base' := w.heap.size + 3) o_s1 hsz
  replace u := u.trans v
  replace hA := hA.up v
  replace hR := hR.up v
  replace hO := hO.up v
  replace hsz := Nat.le_trans hsz v.size
  clear v
  obtain ⟨x0, x1, x2⟩ := hA.c3
  obtain ⟨y0, y1, y2⟩ := hO.c3
  obtain ⟨f0, f1, f2⟩ := hO.f3
  obtain ⟨z0, z1, z2⟩ := hR.c3
  obtain ⟨g0, g1, g2⟩ := hR.f3
  go_wp2
  refine bodyPost_ret (v := .agg #[.slice s1.A s1.l.length s1.c, .int .i64 fr, .int .i64 to_]) (by simp [results, Tryz.results52, go_sem, z0, z1, z2]) rfl ?_
  refine ⟨s1, rfl, E_s1.out, ?_, ?_⟩
  · refine own_base (base := w.heap.size + 3) ?_ (by omega)
    iterate 6 refine ownsRow_setCell_below ?_ (by first | (simp; done) | (simp; omega)) _
    exact o_s1
  · iterate 6 refine Up.setCell ?_ (by first | (simp; done) | (simp; omega)) _
    exact u
set_option maxRecDepth 100000 in
set_option maxHeartbeats 4000000 in
theorem toPeople_any (s : Sl Nm) (t : Sl Tm) (lo hi : Nat) (w : World) (h : SrNm w lo hi s) (k : SrTm w lo hi t) :
    Calls Tryz.prog 53 #[.agg #[.slice s.A s.l.length s.c, .slice t.A t.l.length t.c]] w fun e w' => ∃ (s1 : Sl Nm) (t1 : Sl Tm), e = .returned (.agg #[.slice s1.A s1.l.length s1.c, .slice t1.A t1.l.length t1.c]) ∧ s1.l = s.l ∧ t1.l = t.l ∧ w'.ownsRow w.heap.size 213 3 s1.val s1.l.length (s1.l.flatMap Nm.cells) ∧ w'.ownsRow w.heap.size 214 4 t1.val t1.l.length (t1.l.flatMap Tm.cells) ∧ Up w w' := by
  have u : Up w (((w.alloc (.cells #[.slice s.A s.l.length s.c, .slice t.A t.l.length t.c] 28)).alloc (.cells #[.slice none 0 0, .slice none 0 0] 49)).alloc (.cells #[.slice none 0 0, .slice none 0 0] 49)) := ((Up.alloc w _).allocs _).allocs _
  have hA := ((Bx.new w #[.slice s.A s.l.length s.c, .slice t.A t.l.length t.c] 28).up (Up.alloc _ (.cells #[.slice none 0 0, .slice none 0 0] 49))).up (Up.alloc _ (.cells #[.slice none 0 0, .slice none 0 0] 49))
  have hR : Bx (((w.alloc (.cells #[.slice s.A s.l.length s.c, .slice t.A t.l.length t.c] 28)).alloc (.cells #[.slice none 0 0, .slice none 0 0] 49)).alloc (.cells #[.slice none 0 0, .slice none 0 0] 49)) (w.heap.size + 1) [.slice none 0 0, .slice none 0 0] := by
    have := (Bx.new (w.alloc (.cells #[.slice s.A s.l.length s.c, .slice t.A t.l.length t.c] 28)) #[.slice none 0 0, .slice none 0 0] 49).up (Up.alloc _ (.cells #[.slice none 0 0, .slice none 0 0] 49))
    simpa using this
  have hO : Bx (((w.alloc (.cells #[.slice s.A s.l.length s.c, .slice t.A t.l.length t.c] 28)).alloc (.cells #[.slice none 0 0, .slice none 0 0] 49)).alloc (.cells #[.slice none 0 0, .slice none 0 0] 49)) (w.heap.size + 1 + 1) [.slice none 0 0, .slice none 0 0] := by
    have := Bx.new ((w.alloc (.cells #[.slice s.A s.l.length s.c, .slice t.A t.l.length t.c] 28)).alloc (.cells #[.slice none 0 0, .slice none 0 0] 49)) #[.slice none 0 0, .slice none 0 0] 49
    simpa using this
  have hsz : w.heap.size + 3 ≤ (((w.alloc (.cells #[.slice s.A s.l.length s.c, .slice t.A t.l.length t.c] 28)).alloc (.cells #[.slice none 0 0, .slice none 0 0] 49)).alloc (.cells #[.slice none 0 0, .slice none 0 0] 49)).heap.size := by simp
  go_enter Tryz.func53, Tryz.ntmps53
  go_wp2_with fail
  generalize (((w.alloc (.cells #[.slice s.A s.l.length s.c, .slice t.A t.l.length t.c] 28)).alloc (.cells #[.slice none 0 0, .slice none 0 0] 49)).alloc (.cells #[.slice none 0 0, .slice none 0 0] 49)) = w0 at *
  refine (toPersonS_any s.A s.l s.c lo hi _ (h.rd.up u h.hhi) (Nat.le_trans h.hhi u.size) h.len).mono ?_
  rintro e v1 ⟨q, rfl, o_s1, v⟩
  obtain ⟨s1, rfl, e_s1, -, -, o_s1⟩ := own_sl o_s1
  have E_s1 := Lib.hid e_s1
  clear e_s1
  replace o_s1 := own_base (base' := w.heap.size + 3) o_s1 hsz
  replace u := u.trans v
  replace hA := hA.up v
  replace hR := hR.up v
  replace hO := hO.up v
  replace hsz := Nat.le_trans hsz v.size
  clear v
  obtain ⟨x0, x1⟩ := hA.c2
  obtain ⟨y0, y1⟩ := hO.c2
  obtain ⟨f0, f1⟩ := hO.f2
  obtain ⟨z0, z1⟩ := hR.c2
  obtain ⟨g0, g1⟩ := hR.f2
  replace hO := hO.put 0 (.slice s1.A s1.l.length s1.c)
  replace hA := hA.other (b' := w.heap.size + 1 + 1) (by omega) 0 (.slice s1.A s1.l.length s1.c)
  replace hR := hR.other (b' := w.heap.size + 1 + 1) (by omega) 0 (.slice s1.A s1.l.length s1.c)
  replace o_s1 := ownsRow_setCell_below o_s1 (a := ⟨w.heap.size + 1 + 1, 0, none⟩) (show w.heap.size + 1 + 1 < w.heap.size + 3 by omega) (.slice s1.A s1.l.length s1.c)
  replace u := u.setCell (p := ⟨w.heap.size + 1 + 1, 0, none⟩) (show w.heap.size ≤ w.heap.size + 1 + 1 by omega) (.slice s1.A s1.l.length s1.c)
  have hsz : w.heap.size + 3 ≤ (v1.setCell ⟨w.heap.size + 1 + 1, 0, none⟩ (.slice s1.A s1.l.length s1.c)).heap.size := by simpa using hsz
  go_wp2_with fail
  generalize (v1.setCell ⟨w.heap.size + 1 + 1, 0, none⟩ (.slice s1.A s1.l.length s1.c)) = w2 at *
  refine (toTermS_any t.A t.l t.c lo hi _ (k.rd.up u k.hhi) (Nat.le_trans k.hhi u.size) k.len).mono ?_
  rintro e v3 ⟨q, rfl, o_t1, v⟩
  obtain ⟨t1, rfl, e_t1, -, -, o_t1⟩ := own_sl o_t1
  have E_t1 := Lib.hid e_t1
  clear e_t1
  replace o_s1 := own_up o_s1 v
  replace o_t1 := own_base (base' := w.heap.size + 3) o_t1 hsz
  replace u := u.trans v
  replace hA := hA.up v
  replace hR := hR.up v
  replace hO := hO.up v
  replace hsz := Nat.le_trans hsz v.size
  clear v
  obtain ⟨x0, x1⟩ := hA.c2
  obtain ⟨y0, y1⟩ := hO.c2
  obtain ⟨f0, f1⟩ := hO.f2
  obtain ⟨z0, z1⟩ := hR.c2
  obtain ⟨g0, g1⟩ := hR.f2
  go_wp2
  refine bodyPost_ret (v := .agg #[.slice s1.A s1.l.length s1.c, .slice t1.A t1.l.length t1.c]) (by simp [results, Tryz.results53, go_sem, z0, z1]) rfl ?_
  refine ⟨s1, t1, rfl, E_s1.out, E_t1.out, ?_, ?_, ?_⟩
  · refine own_base (base := w.heap.size + 3) ?_ (by omega)
    iterate 3 refine ownsRow_setCell_below ?_ (by first | (simp; done) | (simp; omega)) _
    exact o_s1
  · refine own_base (base := w.heap.size + 3) ?_ (by omega)
    iterate 3 refine ownsRow_setCell_below ?_ (by first | (simp; done) | (simp; omega)) _
    exact o_t1
  · iterate 3 refine Up.setCell ?_ (by first | (simp; done) | (simp; omega)) _
    exact u
set_option maxRecDepth 100000 in
set_option maxHeartbeats 4000000 in
theorem toLand_any (s : Sl ByteArray) (t : Sl I3) (lo hi : Nat) (w : World) (h : SrSt w lo hi s) (k : SrI3 w lo hi t) :
    Calls Tryz.prog 54 #[.agg #[.slice s.A s.l.length s.c, .slice t.A t.l.length t.c]] w fun e w' => ∃ (s1 : Sl ByteArray) (t1 : Sl I3), e = .returned (.agg #[.slice s1.A s1.l.length s1.c, .slice t1.A t1.l.length t1.c]) ∧ s1.l = s.l ∧ t1.l = t.l ∧ w'.ownsRow w.heap.size 9 1 s1.val s1.l.length (s1.l.flatMap strC) ∧ w'.ownsRow w.heap.size 229 3 t1.val t1.l.length (t1.l.flatMap I3.cells) ∧ Up w w' := by
  have u : Up w (((w.alloc (.cells #[.slice s.A s.l.length s.c, .slice t.A t.l.length t.c] 32)).alloc (.cells #[.slice none 0 0, .slice none 0 0] 52)).alloc (.cells #[.slice none 0 0, .slice none 0 0] 52)) := ((Up.alloc w _).allocs _).allocs _
  have hA := ((Bx.new w #[.slice s.A s.l.length s.c, .slice t.A t.l.length t.c] 32).up (Up.alloc _ (.cells #[.slice none 0 0, .slice none 0 0] 52))).up (Up.alloc _ (.cells #[.slice none 0 0, .slice none 0 0] 52))
  have hR : Bx (((w.alloc (.cells #[.slice s.A s.l.length s.c, .slice t.A t.l.length t.c] 32)).alloc (.cells #[.slice none 0 0, .slice none 0 0] 52)).alloc (.cells #[.slice none 0 0, .slice none 0 0] 52)) (w.heap.size + 1) [.slice none 0 0, .slice none 0 0] := by
    have := (Bx.new (w.alloc (.cells #[.slice s.A s.l.length s.c, .slice t.A t.l.length t.c] 32)) #[.slice none 0 0, .slice none 0 0] 52).up (Up.alloc _ (.cells #[.slice none 0 0, .slice none 0 0] 52))
    simpa using this
  have hO : Bx (((w.alloc (.cells #[.slice s.A s.l.length s.c, .slice t.A t.l.length t.c] 32)).alloc (.cells #[.slice none 0 0, .slice none 0 0] 52)).alloc (.cells #[.slice none 0 0, .slice none 0 0] 52)) (w.heap.size + 1 + 1) [.slice none 0 0, .slice none 0 0] := by
    have := Bx.new ((w.alloc (.cells #[.slice s.A s.l.length s.c, .slice t.A t.l.length t.c] 32)).alloc (.cells #[.slice none 0 0, .slice none 0 0] 52)) #[.slice none 0 0, .slice none 0 0] 52
    simpa using this
  have hsz : w.heap.size + 3 ≤ (((w.alloc (.cells #[.slice s.A s.l.length s.c, .slice t.A t.l.length t.c] 32)).alloc (.cells #[.slice none 0 0, .slice none 0 0] 52)).alloc (.cells #[.slice none 0 0, .slice none 0 0] 52)).heap.size := by simp
  go_enter Tryz.func54, Tryz.ntmps54
  go_wp2_with fail
  generalize (((w.alloc (.cells #[.slice s.A s.l.length s.c, .slice t.A t.l.length t.c] 32)).alloc (.cells #[.slice none 0 0, .slice none 0 0] 52)).alloc (.cells #[.slice none 0 0, .slice none 0 0] 52)) = w0 at *
  refine (toStringS_any s.A s.l s.c lo hi _ (h.rd.up u h.hhi) (Nat.le_trans h.hhi u.size) h.len).mono ?_
  rintro e v1 ⟨q, rfl, o_s1, v⟩
  obtain ⟨s1, rfl, e_s1, -, -, o_s1⟩ := own_sl o_s1
  have E_s1 := Lib.hid e_s1
  clear e_s1
  replace o_s1 := own_base (base' := w.heap.size + 3) o_s1 hsz
  replace u := u.trans v
  replace hA := hA.up v
  replace hR := hR.up v
  replace hO := hO.up v
  replace hsz := Nat.le_trans hsz v.size
  clear v
  obtain ⟨x0, x1⟩ := hA.c2
  obtain ⟨y0, y1⟩ := hO.c2
  obtain ⟨f0, f1⟩ := hO.f2
  obtain ⟨z0, z1⟩ := hR.c2
  obtain ⟨g0, g1⟩ := hR.f2
  replace hO := hO.put 0 (.slice s1.A s1.l.length s1.c)
  replace hA := hA.other (b' := w.heap.size + 1 + 1) (by omega) 0 (.slice s1.A s1.l.length s1.c)
  replace hR := hR.other (b' := w.heap.size + 1 + 1) (by omega) 0 (.slice s1.A s1.l.length s1.c)
  replace o_s1 := ownsRow_setCell_below o_s1 (a := ⟨w.heap.size + 1 + 1, 0, none⟩) (show w.heap.size + 1 + 1 < w.heap.size + 3 by omega) (.slice s1.A s1.l.length s1.c)
  replace u := u.setCell (p := ⟨w.heap.size + 1 + 1, 0, none⟩) (show w.heap.size ≤ w.heap.size + 1 + 1 by omega) (.slice s1.A s1.l.length s1.c)
  have hsz : w.heap.size + 3 ≤ (v1.setCell ⟨w.heap.size + 1 + 1, 0, none⟩ (.slice s1.A s1.l.length s1.c)).heap.size := by simpa using hsz
  go_wp2_with fail
  generalize (v1.setCell ⟨w.heap.size + 1 + 1, 0, none⟩ (.slice s1.A s1.l.length s1.c)) = w2 at *
  refine (toWayS_any t.A t.l t.c lo hi _ (k.rd.up u k.hhi) (Nat.le_trans k.hhi u.size) k.len).mono ?_
  rintro e v3 ⟨q, rfl, o_t1, v⟩
  obtain ⟨t1, rfl, e_t1, -, -, o_t1⟩ := own_sl o_t1
  have E_t1 := Lib.hid e_t1
  clear e_t1
  replace o_s1 := own_up o_s1 v
  replace o_t1 := own_base (base' := w.heap.size + 3) o_t1 hsz
  replace u := u.trans v
  replace hA := hA.up v
  replace hR := hR.up v
  replace hO := hO.up v
  replace hsz := Nat.le_trans hsz v.size
  clear v
  obtain ⟨x0, x1⟩ := hA.c2
  obtain ⟨y0, y1⟩ := hO.c2
  obtain ⟨f0, f1⟩ := hO.f2
  obtain ⟨z0, z1⟩ := hR.c2
  obtain ⟨g0, g1⟩ := hR.f2
  go_wp2
  refine bodyPost_ret (v := .agg #[.slice s1.A s1.l.length s1.c, .slice t1.A t1.l.length t1.c]) (by simp [results, Tryz.results54, go_sem, z0, z1]) rfl ?_
  refine ⟨s1, t1, rfl, E_s1.out, E_t1.out, ?_, ?_, ?_⟩
  · refine own_base (base := w.heap.size + 3) ?_ (by omega)
    iterate 3 refine ownsRow_setCell_below ?_ (by first | (simp; done) | (simp; omega)) _
    exact o_s1
  · refine own_base (base := w.heap.size + 3) ?_ (by omega)
    iterate 3 refine ownsRow_setCell_below ?_ (by first | (simp; done) | (simp; omega)) _
    exact o_t1
  · iterate 3 refine Up.setCell ?_ (by first | (simp; done) | (simp; omega)) _
    exact u

/-- a world that the call itself made -/
structure OwW (w : World) (b : Nat) (x : Wd) : Prop where
  rs : w.ownsRow b 224 3 x.rs.val x.rs.l.length (x.rs.l.flatMap Nm.cells)
  ps : w.ownsRow b 213 3 x.ps.val x.ps.l.length (x.ps.l.flatMap Nm.cells)
  ts : w.ownsRow b 214 4 x.ts.val x.ts.l.length (x.ts.l.flatMap Tm.cells)
  pl : w.ownsRow b 9 1 x.pl.val x.pl.l.length (x.pl.l.flatMap strC)
  ws : w.ownsRow b 229 3 x.ws.val x.ws.l.length (x.ws.l.flatMap I3.cells)
  st : w.ownsRow b 175 3 x.st.val x.st.l.length (x.st.l.flatMap I3.cells)
  se : w.ownsRow b 178 3 x.se.val x.se.l.length (x.se.l.flatMap Nm.cells)
  ha : w.ownsRow b 178 3 x.ha.val x.ha.l.length (x.ha.l.flatMap Nm.cells)
theorem OwW.up {w w' : World} {b : Nat} {x : Wd} (h : OwW w b x) (u : Up w w') : OwW w' b x := ⟨own_up h.rs u, own_up h.ps u, own_up h.ts u, own_up h.pl u, own_up h.ws u, own_up h.st u, own_up h.se u, own_up h.ha u⟩
theorem OwW.base {w : World} {b b' : Nat} {x : Wd} (h : OwW w b x) (k : b' ≤ b) : OwW w b' x := ⟨own_base h.rs k, own_base h.ps k, own_base h.ts k, own_base h.pl k, own_base h.ws k, own_base h.st k, own_base h.se k, own_base h.ha k⟩
theorem OwW.put {w : World} {b : Nat} {x : Wd} (h : OwW w b x) {p : Addr} (hp : p.block < b) (v : Value) : OwW (w.setCell p v) b x :=
  ⟨ownsRow_setCell_below h.rs hp v, ownsRow_setCell_below h.ps hp v, ownsRow_setCell_below h.ts hp v, ownsRow_setCell_below h.pl hp v, ownsRow_setCell_below h.ws hp v, ownsRow_setCell_below h.st hp v, ownsRow_setCell_below h.se hp v, ownsRow_setCell_below h.ha hp v⟩
theorem OwW.rd {w w0 : World} {b lo hi : Nat} {x y : Wd} (h : OwW w b x) (e : x.p = y.p) (k : RdW w0 lo hi y) : RdW w b w.heap.size x := by
  simp only [Wd.p, Pw.mk.injEq] at e
  obtain ⟨e1, -, -, e2, e3, e4, e5, e6, e7, e8⟩ := e
  exact ⟨Sr.own Nm.len h.rs (by rw [e1]; exact k.rs.len) (by rw [e1]; exact k.rs.ok), Sr.own Nm.len h.ps (by rw [e2]; exact k.ps.len) (by rw [e2]; exact k.ps.ok), Sr.own Tm.len h.ts (by rw [e3]; exact k.ts.len) (by rw [e3]; exact k.ts.ok), Sr.own strC_len h.pl (by rw [e4]; exact k.pl.len) (by rw [e4]; exact k.pl.ok), Sr.own I3.len h.ws (by rw [e5]; exact k.ws.len) (by rw [e5]; exact k.ws.ok), Sr.own I3.len h.st (by rw [e6]; exact k.st.len) (by rw [e6]; exact k.st.ok), Sr.own Nm.len h.se (by rw [e7]; exact k.se.len) (by rw [e7]; exact k.se.ok), Sr.own Nm.len h.ha (by rw [e8]; exact k.ha.len) (by rw [e8]; exact k.ha.ok)⟩
set_option maxRecDepth 100000 in
set_option maxHeartbeats 4000000 in
theorem toWorld_any (x : Wd) (lo hi : Nat) (w : World) (h : RdW w lo hi x) :
    Calls Tryz.prog 20 #[.agg #[.slice x.rs.A x.rs.l.length x.rs.c, .int .i64 x.fr, .int .i64 x.to_, .slice x.ps.A x.ps.l.length x.ps.c, .slice x.ts.A x.ts.l.length x.ts.c, .slice x.pl.A x.pl.l.length x.pl.c, .slice x.ws.A x.ws.l.length x.ws.c, .slice x.st.A x.st.l.length x.st.c, .slice x.se.A x.se.l.length x.se.c, .slice x.ha.A x.ha.l.length x.ha.c]] w fun e w' => ∃ y : Wd, e = .returned y.val ∧ y.p = x.p ∧ OwW w' w.heap.size y ∧ Up w w' := by
  have u : Up w (((w.alloc (.cells #[.slice x.rs.A x.rs.l.length x.rs.c, .int .i64 x.fr, .int .i64 x.to_, .slice x.ps.A x.ps.l.length x.ps.c, .slice x.ts.A x.ts.l.length x.ts.c, .slice x.pl.A x.pl.l.length x.pl.c, .slice x.ws.A x.ws.l.length x.ws.c, .slice x.st.A x.st.l.length x.st.c, .slice x.se.A x.se.l.length x.se.c, .slice x.ha.A x.ha.l.length x.ha.c] 36)).alloc (.cells #[.slice none 0 0, .int .i64 0, .int .i64 0, .slice none 0 0, .slice none 0 0, .slice none 0 0, .slice none 0 0, .slice none 0 0, .slice none 0 0, .slice none 0 0] 56)).alloc (.cells #[.slice none 0 0, .int .i64 0, .int .i64 0, .slice none 0 0, .slice none 0 0, .slice none 0 0, .slice none 0 0, .slice none 0 0, .slice none 0 0, .slice none 0 0] 56)) := ((Up.alloc w _).allocs _).allocs _
  have hA := ((Bx.new w #[.slice x.rs.A x.rs.l.length x.rs.c, .int .i64 x.fr, .int .i64 x.to_, .slice x.ps.A x.ps.l.length x.ps.c, .slice x.ts.A x.ts.l.length x.ts.c, .slice x.pl.A x.pl.l.length x.pl.c, .slice x.ws.A x.ws.l.length x.ws.c, .slice x.st.A x.st.l.length x.st.c, .slice x.se.A x.se.l.length x.se.c, .slice x.ha.A x.ha.l.length x.ha.c] 36).up (Up.alloc _ (.cells #[.slice none 0 0, .int .i64 0, .int .i64 0, .slice none 0 0, .slice none 0 0, .slice none 0 0, .slice none 0 0, .slice none 0 0, .slice none 0 0, .slice none 0 0] 56))).up (Up.alloc _ (.cells #[.slice none 0 0, .int .i64 0, .int .i64 0, .slice none 0 0, .slice none 0 0, .slice none 0 0, .slice none 0 0, .slice none 0 0, .slice none 0 0, .slice none 0 0] 56))
  have hR : Bx (((w.alloc (.cells #[.slice x.rs.A x.rs.l.length x.rs.c, .int .i64 x.fr, .int .i64 x.to_, .slice x.ps.A x.ps.l.length x.ps.c, .slice x.ts.A x.ts.l.length x.ts.c, .slice x.pl.A x.pl.l.length x.pl.c, .slice x.ws.A x.ws.l.length x.ws.c, .slice x.st.A x.st.l.length x.st.c, .slice x.se.A x.se.l.length x.se.c, .slice x.ha.A x.ha.l.length x.ha.c] 36)).alloc (.cells #[.slice none 0 0, .int .i64 0, .int .i64 0, .slice none 0 0, .slice none 0 0, .slice none 0 0, .slice none 0 0, .slice none 0 0, .slice none 0 0, .slice none 0 0] 56)).alloc (.cells #[.slice none 0 0, .int .i64 0, .int .i64 0, .slice none 0 0, .slice none 0 0, .slice none 0 0, .slice none 0 0, .slice none 0 0, .slice none 0 0, .slice none 0 0] 56)) (w.heap.size + 1) [.slice none 0 0, .int .i64 0, .int .i64 0, .slice none 0 0, .slice none 0 0, .slice none 0 0, .slice none 0 0, .slice none 0 0, .slice none 0 0, .slice none 0 0] := by
    have := (Bx.new (w.alloc (.cells #[.slice x.rs.A x.rs.l.length x.rs.c, .int .i64 x.fr, .int .i64 x.to_, .slice x.ps.A x.ps.l.length x.ps.c, .slice x.ts.A x.ts.l.length x.ts.c, .slice x.pl.A x.pl.l.length x.pl.c, .slice x.ws.A x.ws.l.length x.ws.c, .slice x.st.A x.st.l.length x.st.c, .slice x.se.A x.se.l.length x.se.c, .slice x.ha.A x.ha.l.length x.ha.c] 36)) #[.slice none 0 0, .int .i64 0, .int .i64 0, .slice none 0 0, .slice none 0 0, .slice none 0 0, .slice none 0 0, .slice none 0 0, .slice none 0 0, .slice none 0 0] 56).up (Up.alloc _ (.cells #[.slice none 0 0, .int .i64 0, .int .i64 0, .slice none 0 0, .slice none 0 0, .slice none 0 0, .slice none 0 0, .slice none 0 0, .slice none 0 0, .slice none 0 0] 56))
    simpa using this
  have hO : Bx (((w.alloc (.cells #[.slice x.rs.A x.rs.l.length x.rs.c, .int .i64 x.fr, .int .i64 x.to_, .slice x.ps.A x.ps.l.length x.ps.c, .slice x.ts.A x.ts.l.length x.ts.c, .slice x.pl.A x.pl.l.length x.pl.c, .slice x.ws.A x.ws.l.length x.ws.c, .slice x.st.A x.st.l.length x.st.c, .slice x.se.A x.se.l.length x.se.c, .slice x.ha.A x.ha.l.length x.ha.c] 36)).alloc (.cells #[.slice none 0 0, .int .i64 0, .int .i64 0, .slice none 0 0, .slice none 0 0, .slice none 0 0, .slice none 0 0, .slice none 0 0, .slice none 0 0, .slice none 0 0] 56)).alloc (.cells #[.slice none 0 0, .int .i64 0, .int .i64 0, .slice none 0 0, .slice none 0 0, .slice none 0 0, .slice none 0 0, .slice none 0 0, .slice none 0 0, .slice none 0 0] 56)) (w.heap.size + 1 + 1) [.slice none 0 0, .int .i64 0, .int .i64 0, .slice none 0 0, .slice none 0 0, .slice none 0 0, .slice none 0 0, .slice none 0 0, .slice none 0 0, .slice none 0 0] := by
    have := Bx.new ((w.alloc (.cells #[.slice x.rs.A x.rs.l.length x.rs.c, .int .i64 x.fr, .int .i64 x.to_, .slice x.ps.A x.ps.l.length x.ps.c, .slice x.ts.A x.ts.l.length x.ts.c, .slice x.pl.A x.pl.l.length x.pl.c, .slice x.ws.A x.ws.l.length x.ws.c, .slice x.st.A x.st.l.length x.st.c, .slice x.se.A x.se.l.length x.se.c, .slice x.ha.A x.ha.l.length x.ha.c] 36)).alloc (.cells #[.slice none 0 0, .int .i64 0, .int .i64 0, .slice none 0 0, .slice none 0 0, .slice none 0 0, .slice none 0 0, .slice none 0 0, .slice none 0 0, .slice none 0 0] 56)) #[.slice none 0 0, .int .i64 0, .int .i64 0, .slice none 0 0, .slice none 0 0, .slice none 0 0, .slice none 0 0, .slice none 0 0, .slice none 0 0, .slice none 0 0] 56
    simpa using this
  have hsz : w.heap.size + 3 ≤ (((w.alloc (.cells #[.slice x.rs.A x.rs.l.length x.rs.c, .int .i64 x.fr, .int .i64 x.to_, .slice x.ps.A x.ps.l.length x.ps.c, .slice x.ts.A x.ts.l.length x.ts.c, .slice x.pl.A x.pl.l.length x.pl.c, .slice x.ws.A x.ws.l.length x.ws.c, .slice x.st.A x.st.l.length x.st.c, .slice x.se.A x.se.l.length x.se.c, .slice x.ha.A x.ha.l.length x.ha.c] 36)).alloc (.cells #[.slice none 0 0, .int .i64 0, .int .i64 0, .slice none 0 0, .slice none 0 0, .slice none 0 0, .slice none 0 0, .slice none 0 0, .slice none 0 0, .slice none 0 0] 56)).alloc (.cells #[.slice none 0 0, .int .i64 0, .int .i64 0, .slice none 0 0, .slice none 0 0, .slice none 0 0, .slice none 0 0, .slice none 0 0, .slice none 0 0, .slice none 0 0] 56)).heap.size := by simp
  go_enter Tryz.func20, Tryz.ntmps20
  go_wp2_with fail
  generalize (((w.alloc (.cells #[.slice x.rs.A x.rs.l.length x.rs.c, .int .i64 x.fr, .int .i64 x.to_, .slice x.ps.A x.ps.l.length x.ps.c, .slice x.ts.A x.ts.l.length x.ts.c, .slice x.pl.A x.pl.l.length x.pl.c, .slice x.ws.A x.ws.l.length x.ws.c, .slice x.st.A x.st.l.length x.st.c, .slice x.se.A x.se.l.length x.se.c, .slice x.ha.A x.ha.l.length x.ha.c] 36)).alloc (.cells #[.slice none 0 0, .int .i64 0, .int .i64 0, .slice none 0 0, .slice none 0 0, .slice none 0 0, .slice none 0 0, .slice none 0 0, .slice none 0 0, .slice none 0 0] 56)).alloc (.cells #[.slice none 0 0, .int .i64 0, .int .i64 0, .slice none 0 0, .slice none 0 0, .slice none 0 0, .slice none 0 0, .slice none 0 0, .slice none 0 0, .slice none 0 0] 56)) = w0 at *
  refine (toChancery_any x.rs x.fr x.to_ lo hi _ (h.rs.up u)).mono ?_
  rintro e v1 ⟨rs, rfl, e_rs, o_rs, v⟩
  have E_rs := Lib.hid e_rs
  clear e_rs
  replace o_rs := own_base (base' := w.heap.size + 3) o_rs hsz
  replace u := u.trans v
  replace hA := hA.up v
  replace hR := hR.up v
  replace hO := hO.up v
  replace hsz := Nat.le_trans hsz v.size
  clear v
  obtain ⟨x0, x1, x2, x3, x4, x5, x6, x7, x8, x9⟩ := hA.c10
  obtain ⟨y0, y1, y2, y3, y4, y5, y6, y7, y8, y9⟩ := hO.c10
  obtain ⟨f0, f1, f2, f3, f4, f5, f6, f7, f8, f9⟩ := hO.f10
  obtain ⟨z0, z1, z2, z3, z4, z5, z6, z7, z8, z9⟩ := hR.c10
  obtain ⟨g0, g1, g2, g3, g4, g5, g6, g7, g8, g9⟩ := hR.f10
  replace hO := hO.put 0 (.slice rs.A rs.l.length rs.c)
  replace hA := hA.other (b' := w.heap.size + 1 + 1) (by omega) 0 (.slice rs.A rs.l.length rs.c)
  replace hR := hR.other (b' := w.heap.size + 1 + 1) (by omega) 0 (.slice rs.A rs.l.length rs.c)
  replace o_rs := ownsRow_setCell_below o_rs (a := ⟨w.heap.size + 1 + 1, 0, none⟩) (show w.heap.size + 1 + 1 < w.heap.size + 3 by omega) (.slice rs.A rs.l.length rs.c)
  replace u := u.setCell (p := ⟨w.heap.size + 1 + 1, 0, none⟩) (show w.heap.size ≤ w.heap.size + 1 + 1 by omega) (.slice rs.A rs.l.length rs.c)
  replace hO := hO.put 1 (.int .i64 x.fr)
  replace hA := hA.other (b' := w.heap.size + 1 + 1) (by omega) 1 (.int .i64 x.fr)
  replace hR := hR.other (b' := w.heap.size + 1 + 1) (by omega) 1 (.int .i64 x.fr)
  replace o_rs := ownsRow_setCell_below o_rs (a := ⟨w.heap.size + 1 + 1, 1, none⟩) (show w.heap.size + 1 + 1 < w.heap.size + 3 by omega) (.int .i64 x.fr)
  replace u := u.setCell (p := ⟨w.heap.size + 1 + 1, 1, none⟩) (show w.heap.size ≤ w.heap.size + 1 + 1 by omega) (.int .i64 x.fr)
  replace hO := hO.put 2 (.int .i64 x.to_)
  replace hA := hA.other (b' := w.heap.size + 1 + 1) (by omega) 2 (.int .i64 x.to_)
  replace hR := hR.other (b' := w.heap.size + 1 + 1) (by omega) 2 (.int .i64 x.to_)
  replace o_rs := ownsRow_setCell_below o_rs (a := ⟨w.heap.size + 1 + 1, 2, none⟩) (show w.heap.size + 1 + 1 < w.heap.size + 3 by omega) (.int .i64 x.to_)
  replace u := u.setCell (p := ⟨w.heap.size + 1 + 1, 2, none⟩) (show w.heap.size ≤ w.heap.size + 1 + 1 by omega) (.int .i64 x.to_)
  have hsz : w.heap.size + 3 ≤ (((v1.setCell ⟨w.heap.size + 1 + 1, 0, none⟩ (.slice rs.A rs.l.length rs.c)).setCell ⟨w.heap.size + 1 + 1, 1, none⟩ (.int .i64 x.fr)).setCell ⟨w.heap.size + 1 + 1, 2, none⟩ (.int .i64 x.to_)).heap.size := by simpa using hsz
  go_wp2_with fail
  generalize (((v1.setCell ⟨w.heap.size + 1 + 1, 0, none⟩ (.slice rs.A rs.l.length rs.c)).setCell ⟨w.heap.size + 1 + 1, 1, none⟩ (.int .i64 x.fr)).setCell ⟨w.heap.size + 1 + 1, 2, none⟩ (.int .i64 x.to_)) = w2 at *
  refine (toPeople_any x.ps x.ts lo hi _ (h.ps.up u) (h.ts.up u)).mono ?_
  rintro e v3 ⟨ps, ts, rfl, e_ps, e_ts, o_ps, o_ts, v⟩
  have E_ps := Lib.hid e_ps
  have E_ts := Lib.hid e_ts
  clear e_ps e_ts
  replace o_rs := own_up o_rs v
  replace o_ps := own_base (base' := w.heap.size + 3) o_ps hsz
  replace o_ts := own_base (base' := w.heap.size + 3) o_ts hsz
  replace u := u.trans v
  replace hA := hA.up v
  replace hR := hR.up v
  replace hO := hO.up v
  replace hsz := Nat.le_trans hsz v.size
  clear v
  obtain ⟨x0, x1, x2, x3, x4, x5, x6, x7, x8, x9⟩ := hA.c10
  obtain ⟨y0, y1, y2, y3, y4, y5, y6, y7, y8, y9⟩ := hO.c10
  obtain ⟨f0, f1, f2, f3, f4, f5, f6, f7, f8, f9⟩ := hO.f10
  obtain ⟨z0, z1, z2, z3, z4, z5, z6, z7, z8, z9⟩ := hR.c10
  obtain ⟨g0, g1, g2, g3, g4, g5, g6, g7, g8, g9⟩ := hR.f10
  replace hO := hO.put 3 (.slice ps.A ps.l.length ps.c)
  replace hA := hA.other (b' := w.heap.size + 1 + 1) (by omega) 3 (.slice ps.A ps.l.length ps.c)
  replace hR := hR.other (b' := w.heap.size + 1 + 1) (by omega) 3 (.slice ps.A ps.l.length ps.c)
  replace o_rs := ownsRow_setCell_below o_rs (a := ⟨w.heap.size + 1 + 1, 3, none⟩) (show w.heap.size + 1 + 1 < w.heap.size + 3 by omega) (.slice ps.A ps.l.length ps.c)
  replace o_ps := ownsRow_setCell_below o_ps (a := ⟨w.heap.size + 1 + 1, 3, none⟩) (show w.heap.size + 1 + 1 < w.heap.size + 3 by omega) (.slice ps.A ps.l.length ps.c)
  replace o_ts := ownsRow_setCell_below o_ts (a := ⟨w.heap.size + 1 + 1, 3, none⟩) (show w.heap.size + 1 + 1 < w.heap.size + 3 by omega) (.slice ps.A ps.l.length ps.c)
  replace u := u.setCell (p := ⟨w.heap.size + 1 + 1, 3, none⟩) (show w.heap.size ≤ w.heap.size + 1 + 1 by omega) (.slice ps.A ps.l.length ps.c)
  replace hO := hO.put 4 (.slice ts.A ts.l.length ts.c)
  replace hA := hA.other (b' := w.heap.size + 1 + 1) (by omega) 4 (.slice ts.A ts.l.length ts.c)
  replace hR := hR.other (b' := w.heap.size + 1 + 1) (by omega) 4 (.slice ts.A ts.l.length ts.c)
  replace o_rs := ownsRow_setCell_below o_rs (a := ⟨w.heap.size + 1 + 1, 4, none⟩) (show w.heap.size + 1 + 1 < w.heap.size + 3 by omega) (.slice ts.A ts.l.length ts.c)
  replace o_ps := ownsRow_setCell_below o_ps (a := ⟨w.heap.size + 1 + 1, 4, none⟩) (show w.heap.size + 1 + 1 < w.heap.size + 3 by omega) (.slice ts.A ts.l.length ts.c)
  replace o_ts := ownsRow_setCell_below o_ts (a := ⟨w.heap.size + 1 + 1, 4, none⟩) (show w.heap.size + 1 + 1 < w.heap.size + 3 by omega) (.slice ts.A ts.l.length ts.c)
  replace u := u.setCell (p := ⟨w.heap.size + 1 + 1, 4, none⟩) (show w.heap.size ≤ w.heap.size + 1 + 1 by omega) (.slice ts.A ts.l.length ts.c)
  have hsz : w.heap.size + 3 ≤ ((v3.setCell ⟨w.heap.size + 1 + 1, 3, none⟩ (.slice ps.A ps.l.length ps.c)).setCell ⟨w.heap.size + 1 + 1, 4, none⟩ (.slice ts.A ts.l.length ts.c)).heap.size := by simpa using hsz
  go_wp2_with fail
  generalize ((v3.setCell ⟨w.heap.size + 1 + 1, 3, none⟩ (.slice ps.A ps.l.length ps.c)).setCell ⟨w.heap.size + 1 + 1, 4, none⟩ (.slice ts.A ts.l.length ts.c)) = w4 at *
  refine (toLand_any x.pl x.ws lo hi _ (h.pl.up u) (h.ws.up u)).mono ?_
  rintro e v5 ⟨pl, ws, rfl, e_pl, e_ws, o_pl, o_ws, v⟩
  have E_pl := Lib.hid e_pl
  have E_ws := Lib.hid e_ws
  clear e_pl e_ws
  replace o_rs := own_up o_rs v
  replace o_ps := own_up o_ps v
  replace o_ts := own_up o_ts v
  replace o_pl := own_base (base' := w.heap.size + 3) o_pl hsz
  replace o_ws := own_base (base' := w.heap.size + 3) o_ws hsz
  replace u := u.trans v
  replace hA := hA.up v
  replace hR := hR.up v
  replace hO := hO.up v
  replace hsz := Nat.le_trans hsz v.size
  clear v
  obtain ⟨x0, x1, x2, x3, x4, x5, x6, x7, x8, x9⟩ := hA.c10
  obtain ⟨y0, y1, y2, y3, y4, y5, y6, y7, y8, y9⟩ := hO.c10
  obtain ⟨f0, f1, f2, f3, f4, f5, f6, f7, f8, f9⟩ := hO.f10
  obtain ⟨z0, z1, z2, z3, z4, z5, z6, z7, z8, z9⟩ := hR.c10
  obtain ⟨g0, g1, g2, g3, g4, g5, g6, g7, g8, g9⟩ := hR.f10
  replace hO := hO.put 5 (.slice pl.A pl.l.length pl.c)
  replace hA := hA.other (b' := w.heap.size + 1 + 1) (by omega) 5 (.slice pl.A pl.l.length pl.c)
  replace hR := hR.other (b' := w.heap.size + 1 + 1) (by omega) 5 (.slice pl.A pl.l.length pl.c)
  replace o_rs := ownsRow_setCell_below o_rs (a := ⟨w.heap.size + 1 + 1, 5, none⟩) (show w.heap.size + 1 + 1 < w.heap.size + 3 by omega) (.slice pl.A pl.l.length pl.c)
  replace o_ps := ownsRow_setCell_below o_ps (a := ⟨w.heap.size + 1 + 1, 5, none⟩) (show w.heap.size + 1 + 1 < w.heap.size + 3 by omega) (.slice pl.A pl.l.length pl.c)
  replace o_ts := ownsRow_setCell_below o_ts (a := ⟨w.heap.size + 1 + 1, 5, none⟩) (show w.heap.size + 1 + 1 < w.heap.size + 3 by omega) (.slice pl.A pl.l.length pl.c)
  replace o_pl := ownsRow_setCell_below o_pl (a := ⟨w.heap.size + 1 + 1, 5, none⟩) (show w.heap.size + 1 + 1 < w.heap.size + 3 by omega) (.slice pl.A pl.l.length pl.c)
  replace o_ws := ownsRow_setCell_below o_ws (a := ⟨w.heap.size + 1 + 1, 5, none⟩) (show w.heap.size + 1 + 1 < w.heap.size + 3 by omega) (.slice pl.A pl.l.length pl.c)
  replace u := u.setCell (p := ⟨w.heap.size + 1 + 1, 5, none⟩) (show w.heap.size ≤ w.heap.size + 1 + 1 by omega) (.slice pl.A pl.l.length pl.c)
  replace hO := hO.put 6 (.slice ws.A ws.l.length ws.c)
  replace hA := hA.other (b' := w.heap.size + 1 + 1) (by omega) 6 (.slice ws.A ws.l.length ws.c)
  replace hR := hR.other (b' := w.heap.size + 1 + 1) (by omega) 6 (.slice ws.A ws.l.length ws.c)
  replace o_rs := ownsRow_setCell_below o_rs (a := ⟨w.heap.size + 1 + 1, 6, none⟩) (show w.heap.size + 1 + 1 < w.heap.size + 3 by omega) (.slice ws.A ws.l.length ws.c)
  replace o_ps := ownsRow_setCell_below o_ps (a := ⟨w.heap.size + 1 + 1, 6, none⟩) (show w.heap.size + 1 + 1 < w.heap.size + 3 by omega) (.slice ws.A ws.l.length ws.c)
  replace o_ts := ownsRow_setCell_below o_ts (a := ⟨w.heap.size + 1 + 1, 6, none⟩) (show w.heap.size + 1 + 1 < w.heap.size + 3 by omega) (.slice ws.A ws.l.length ws.c)
  replace o_pl := ownsRow_setCell_below o_pl (a := ⟨w.heap.size + 1 + 1, 6, none⟩) (show w.heap.size + 1 + 1 < w.heap.size + 3 by omega) (.slice ws.A ws.l.length ws.c)
  replace o_ws := ownsRow_setCell_below o_ws (a := ⟨w.heap.size + 1 + 1, 6, none⟩) (show w.heap.size + 1 + 1 < w.heap.size + 3 by omega) (.slice ws.A ws.l.length ws.c)
  replace u := u.setCell (p := ⟨w.heap.size + 1 + 1, 6, none⟩) (show w.heap.size ≤ w.heap.size + 1 + 1 by omega) (.slice ws.A ws.l.length ws.c)
  have hsz : w.heap.size + 3 ≤ ((v5.setCell ⟨w.heap.size + 1 + 1, 5, none⟩ (.slice pl.A pl.l.length pl.c)).setCell ⟨w.heap.size + 1 + 1, 6, none⟩ (.slice ws.A ws.l.length ws.c)).heap.size := by simpa using hsz
  go_wp2_with fail
  generalize ((v5.setCell ⟨w.heap.size + 1 + 1, 5, none⟩ (.slice pl.A pl.l.length pl.c)).setCell ⟨w.heap.size + 1 + 1, 6, none⟩ (.slice ws.A ws.l.length ws.c)) = w6 at *
  refine (toStayS_any x.st.A x.st.l x.st.c lo hi _ (h.st.rd.up u h.st.hhi) (Nat.le_trans h.st.hhi u.size) h.st.len).mono ?_
  rintro e v7 ⟨q, rfl, o_st, v⟩
  obtain ⟨st, rfl, e_st, -, -, o_st⟩ := own_sl o_st
  have E_st := Lib.hid e_st
  clear e_st
  replace o_rs := own_up o_rs v
  replace o_ps := own_up o_ps v
  replace o_ts := own_up o_ts v
  replace o_pl := own_up o_pl v
  replace o_ws := own_up o_ws v
  replace o_st := own_base (base' := w.heap.size + 3) o_st hsz
  replace u := u.trans v
  replace hA := hA.up v
  replace hR := hR.up v
  replace hO := hO.up v
  replace hsz := Nat.le_trans hsz v.size
  clear v
  obtain ⟨x0, x1, x2, x3, x4, x5, x6, x7, x8, x9⟩ := hA.c10
  obtain ⟨y0, y1, y2, y3, y4, y5, y6, y7, y8, y9⟩ := hO.c10
  obtain ⟨f0, f1, f2, f3, f4, f5, f6, f7, f8, f9⟩ := hO.f10
  obtain ⟨z0, z1, z2, z3, z4, z5, z6, z7, z8, z9⟩ := hR.c10
  obtain ⟨g0, g1, g2, g3, g4, g5, g6, g7, g8, g9⟩ := hR.f10
  replace hO := hO.put 7 (.slice st.A st.l.length st.c)
  replace hA := hA.other (b' := w.heap.size + 1 + 1) (by omega) 7 (.slice st.A st.l.length st.c)
  replace hR := hR.other (b' := w.heap.size + 1 + 1) (by omega) 7 (.slice st.A st.l.length st.c)
  replace o_rs := ownsRow_setCell_below o_rs (a := ⟨w.heap.size + 1 + 1, 7, none⟩) (show w.heap.size + 1 + 1 < w.heap.size + 3 by omega) (.slice st.A st.l.length st.c)
  replace o_ps := ownsRow_setCell_below o_ps (a := ⟨w.heap.size + 1 + 1, 7, none⟩) (show w.heap.size + 1 + 1 < w.heap.size + 3 by omega) (.slice st.A st.l.length st.c)
  replace o_ts := ownsRow_setCell_below o_ts (a := ⟨w.heap.size + 1 + 1, 7, none⟩) (show w.heap.size + 1 + 1 < w.heap.size + 3 by omega) (.slice st.A st.l.length st.c)
  replace o_pl := ownsRow_setCell_below o_pl (a := ⟨w.heap.size + 1 + 1, 7, none⟩) (show w.heap.size + 1 + 1 < w.heap.size + 3 by omega) (.slice st.A st.l.length st.c)
  replace o_ws := ownsRow_setCell_below o_ws (a := ⟨w.heap.size + 1 + 1, 7, none⟩) (show w.heap.size + 1 + 1 < w.heap.size + 3 by omega) (.slice st.A st.l.length st.c)
  replace o_st := ownsRow_setCell_below o_st (a := ⟨w.heap.size + 1 + 1, 7, none⟩) (show w.heap.size + 1 + 1 < w.heap.size + 3 by omega) (.slice st.A st.l.length st.c)
  replace u := u.setCell (p := ⟨w.heap.size + 1 + 1, 7, none⟩) (show w.heap.size ≤ w.heap.size + 1 + 1 by omega) (.slice st.A st.l.length st.c)
  have hsz : w.heap.size + 3 ≤ (v7.setCell ⟨w.heap.size + 1 + 1, 7, none⟩ (.slice st.A st.l.length st.c)).heap.size := by simpa using hsz
  go_wp2_with fail
  generalize (v7.setCell ⟨w.heap.size + 1 + 1, 7, none⟩ (.slice st.A st.l.length st.c)) = w8 at *
  refine (toMarkS_any x.se.A x.se.l x.se.c lo hi _ (h.se.rd.up u h.se.hhi) (Nat.le_trans h.se.hhi u.size) h.se.len).mono ?_
  rintro e v9 ⟨q, rfl, o_se, v⟩
  obtain ⟨se, rfl, e_se, -, -, o_se⟩ := own_sl o_se
  have E_se := Lib.hid e_se
  clear e_se
  replace o_rs := own_up o_rs v
  replace o_ps := own_up o_ps v
  replace o_ts := own_up o_ts v
  replace o_pl := own_up o_pl v
  replace o_ws := own_up o_ws v
  replace o_st := own_up o_st v
  replace o_se := own_base (base' := w.heap.size + 3) o_se hsz
  replace u := u.trans v
  replace hA := hA.up v
  replace hR := hR.up v
  replace hO := hO.up v
  replace hsz := Nat.le_trans hsz v.size
  clear v
  obtain ⟨x0, x1, x2, x3, x4, x5, x6, x7, x8, x9⟩ := hA.c10
  obtain ⟨y0, y1, y2, y3, y4, y5, y6, y7, y8, y9⟩ := hO.c10
  obtain ⟨f0, f1, f2, f3, f4, f5, f6, f7, f8, f9⟩ := hO.f10
  obtain ⟨z0, z1, z2, z3, z4, z5, z6, z7, z8, z9⟩ := hR.c10
  obtain ⟨g0, g1, g2, g3, g4, g5, g6, g7, g8, g9⟩ := hR.f10
  replace hO := hO.put 8 (.slice se.A se.l.length se.c)
  replace hA := hA.other (b' := w.heap.size + 1 + 1) (by omega) 8 (.slice se.A se.l.length se.c)
  replace hR := hR.other (b' := w.heap.size + 1 + 1) (by omega) 8 (.slice se.A se.l.length se.c)
  replace o_rs := ownsRow_setCell_below o_rs (a := ⟨w.heap.size + 1 + 1, 8, none⟩) (show w.heap.size + 1 + 1 < w.heap.size + 3 by omega) (.slice se.A se.l.length se.c)
  replace o_ps := ownsRow_setCell_below o_ps (a := ⟨w.heap.size + 1 + 1, 8, none⟩) (show w.heap.size + 1 + 1 < w.heap.size + 3 by omega) (.slice se.A se.l.length se.c)
  replace o_ts := ownsRow_setCell_below o_ts (a := ⟨w.heap.size + 1 + 1, 8, none⟩) (show w.heap.size + 1 + 1 < w.heap.size + 3 by omega) (.slice se.A se.l.length se.c)
  replace o_pl := ownsRow_setCell_below o_pl (a := ⟨w.heap.size + 1 + 1, 8, none⟩) (show w.heap.size + 1 + 1 < w.heap.size + 3 by omega) (.slice se.A se.l.length se.c)
  replace o_ws := ownsRow_setCell_below o_ws (a := ⟨w.heap.size + 1 + 1, 8, none⟩) (show w.heap.size + 1 + 1 < w.heap.size + 3 by omega) (.slice se.A se.l.length se.c)
  replace o_st := ownsRow_setCell_below o_st (a := ⟨w.heap.size + 1 + 1, 8, none⟩) (show w.heap.size + 1 + 1 < w.heap.size + 3 by omega) (.slice se.A se.l.length se.c)
  replace o_se := ownsRow_setCell_below o_se (a := ⟨w.heap.size + 1 + 1, 8, none⟩) (show w.heap.size + 1 + 1 < w.heap.size + 3 by omega) (.slice se.A se.l.length se.c)
  replace u := u.setCell (p := ⟨w.heap.size + 1 + 1, 8, none⟩) (show w.heap.size ≤ w.heap.size + 1 + 1 by omega) (.slice se.A se.l.length se.c)
  have hsz : w.heap.size + 3 ≤ (v9.setCell ⟨w.heap.size + 1 + 1, 8, none⟩ (.slice se.A se.l.length se.c)).heap.size := by simpa using hsz
  go_wp2_with fail
  generalize (v9.setCell ⟨w.heap.size + 1 + 1, 8, none⟩ (.slice se.A se.l.length se.c)) = w10 at *
  refine (toMarkS_any x.ha.A x.ha.l x.ha.c lo hi _ (h.ha.rd.up u h.ha.hhi) (Nat.le_trans h.ha.hhi u.size) h.ha.len).mono ?_
  rintro e v11 ⟨q, rfl, o_ha, v⟩
  obtain ⟨ha, rfl, e_ha, -, -, o_ha⟩ := own_sl o_ha
  have E_ha := Lib.hid e_ha
  clear e_ha
  replace o_rs := own_up o_rs v
  replace o_ps := own_up o_ps v
  replace o_ts := own_up o_ts v
  replace o_pl := own_up o_pl v
  replace o_ws := own_up o_ws v
  replace o_st := own_up o_st v
  replace o_se := own_up o_se v
  replace o_ha := own_base (base' := w.heap.size + 3) o_ha hsz
  replace u := u.trans v
  replace hA := hA.up v
  replace hR := hR.up v
  replace hO := hO.up v
  replace hsz := Nat.le_trans hsz v.size
  clear v
  obtain ⟨x0, x1, x2, x3, x4, x5, x6, x7, x8, x9⟩ := hA.c10
  obtain ⟨y0, y1, y2, y3, y4, y5, y6, y7, y8, y9⟩ := hO.c10
  obtain ⟨f0, f1, f2, f3, f4, f5, f6, f7, f8, f9⟩ := hO.f10
  obtain ⟨z0, z1, z2, z3, z4, z5, z6, z7, z8, z9⟩ := hR.c10
  obtain ⟨g0, g1, g2, g3, g4, g5, g6, g7, g8, g9⟩ := hR.f10
  go_wp2
  refine bodyPost_ret (v := .agg #[.slice rs.A rs.l.length rs.c, .int .i64 x.fr, .int .i64 x.to_, .slice ps.A ps.l.length ps.c, .slice ts.A ts.l.length ts.c, .slice pl.A pl.l.length pl.c, .slice ws.A ws.l.length ws.c, .slice st.A st.l.length st.c, .slice se.A se.l.length se.c, .slice ha.A ha.l.length ha.c]) (by simp [results, Tryz.results20, go_sem, z0, z1, z2, z3, z4, z5, z6, z7, z8, z9]) rfl ?_
  refine ⟨⟨rs, x.fr, x.to_, ps, ts, pl, ws, st, se, ha⟩, rfl, by simp only [Wd.p, E_rs.out, E_ps.out, E_ts.out, E_pl.out, E_ws.out, E_st.out, E_se.out, E_ha.out], ?_, ?_⟩
  · refine OwW.base (b := w.heap.size + 3) ?_ (by omega)
    iterate 11 refine OwW.put ?_ (by first | (simp; done) | (simp; omega)) _
    exact ⟨o_rs, o_ps, o_ts, o_pl, o_ws, o_st, o_se, o_ha⟩
  · iterate 11 refine Up.setCell ?_ (by first | (simp; done) | (simp; omega)) _
    exact u

/-- a deed that the call itself made -/
structure OwE (w : World) (b : Nat) (d : Dd) : Prop where
  da : w.ownsRow b 220 8 d.da.val d.da.l.length (d.da.l.flatMap Cl.cells)
  wi : w.ownsRow b 184 2 d.wi.val d.wi.l.length (d.wi.l.flatMap Wi.cells)
  ci : w.ownsRow b 9 1 d.ci.val d.ci.l.length (d.ci.l.flatMap strC)
theorem OwE.up {w w' : World} {b : Nat} {x : Dd} (h : OwE w b x) (u : Up w w') : OwE w' b x := ⟨own_up h.da u, own_up h.wi u, own_up h.ci u⟩
theorem OwE.base {w : World} {b b' : Nat} {x : Dd} (h : OwE w b x) (k : b' ≤ b) : OwE w b' x := ⟨own_base h.da k, own_base h.wi k, own_base h.ci k⟩
theorem OwE.put {w : World} {b : Nat} {x : Dd} (h : OwE w b x) {p : Addr} (hp : p.block < b) (v : Value) : OwE (w.setCell p v) b x :=
  ⟨ownsRow_setCell_below h.da hp v, ownsRow_setCell_below h.wi hp v, ownsRow_setCell_below h.ci hp v⟩
theorem OwE.rd {w w0 : World} {b lo hi : Nat} {x y : Dd} (h : OwE w b x) (e : x.p = y.p) (k : RdE w0 lo hi y) : RdE w b w.heap.size x := by
  simp only [Dd.p, Pd.mk.injEq] at e
  obtain ⟨e1, e2, e3, e4, e5, e6, e7⟩ := e
  exact ⟨by rw [e1]; exact k.nm, Sr.own Cl.len h.da (by rw [e2]; exact k.da.len) (by rw [e2]; exact k.da.ok), Sr.own Wi.len h.wi (by rw [e3]; exact k.wi.len) (by rw [e3]; exact k.wi.ok), by rw [e4]; exact k.pl, by rw [e5]; exact k.se, by rw [e6]; exact k.ha, Sr.own strC_len h.ci (by rw [e7]; exact k.ci.len) (by rw [e7]; exact k.ci.ok)⟩
set_option maxRecDepth 100000 in
set_option maxHeartbeats 4000000 in
theorem toDeed_any (x : Dd) (lo hi : Nat) (w : World) (h : RdE w lo hi x) :
    Calls Tryz.prog 57 #[.agg #[.string x.nm, .slice x.da.A x.da.l.length x.da.c, .slice x.wi.A x.wi.l.length x.wi.c, .string x.pl, .string x.se, .string x.ha, .slice x.ci.A x.ci.l.length x.ci.c]] w fun e w' => ∃ y : Dd, e = .returned y.val ∧ y.p = x.p ∧ OwE w' w.heap.size y ∧ Up w w' := by
  have u : Up w (((w.alloc (.cells #[.string x.nm, .slice x.da.A x.da.l.length x.da.c, .slice x.wi.A x.wi.l.length x.wi.c, .string x.pl, .string x.se, .string x.ha, .slice x.ci.A x.ci.l.length x.ci.c] 105)).alloc (.cells #[.string ⟨#[]⟩, .slice none 0 0, .slice none 0 0, .string ⟨#[]⟩, .string ⟨#[]⟩, .string ⟨#[]⟩, .slice none 0 0] 114)).alloc (.cells #[.string x.nm, .slice none 0 0, .slice none 0 0, .string ⟨#[]⟩, .string ⟨#[]⟩, .string ⟨#[]⟩, .slice none 0 0] 114)) := ((Up.alloc w _).allocs _).allocs _
  have hA := ((Bx.new w #[.string x.nm, .slice x.da.A x.da.l.length x.da.c, .slice x.wi.A x.wi.l.length x.wi.c, .string x.pl, .string x.se, .string x.ha, .slice x.ci.A x.ci.l.length x.ci.c] 105).up (Up.alloc _ (.cells #[.string ⟨#[]⟩, .slice none 0 0, .slice none 0 0, .string ⟨#[]⟩, .string ⟨#[]⟩, .string ⟨#[]⟩, .slice none 0 0] 114))).up (Up.alloc _ (.cells #[.string x.nm, .slice none 0 0, .slice none 0 0, .string ⟨#[]⟩, .string ⟨#[]⟩, .string ⟨#[]⟩, .slice none 0 0] 114))
  have hR : Bx (((w.alloc (.cells #[.string x.nm, .slice x.da.A x.da.l.length x.da.c, .slice x.wi.A x.wi.l.length x.wi.c, .string x.pl, .string x.se, .string x.ha, .slice x.ci.A x.ci.l.length x.ci.c] 105)).alloc (.cells #[.string ⟨#[]⟩, .slice none 0 0, .slice none 0 0, .string ⟨#[]⟩, .string ⟨#[]⟩, .string ⟨#[]⟩, .slice none 0 0] 114)).alloc (.cells #[.string x.nm, .slice none 0 0, .slice none 0 0, .string ⟨#[]⟩, .string ⟨#[]⟩, .string ⟨#[]⟩, .slice none 0 0] 114)) (w.heap.size + 1) [.string ⟨#[]⟩, .slice none 0 0, .slice none 0 0, .string ⟨#[]⟩, .string ⟨#[]⟩, .string ⟨#[]⟩, .slice none 0 0] := by
    have := (Bx.new (w.alloc (.cells #[.string x.nm, .slice x.da.A x.da.l.length x.da.c, .slice x.wi.A x.wi.l.length x.wi.c, .string x.pl, .string x.se, .string x.ha, .slice x.ci.A x.ci.l.length x.ci.c] 105)) #[.string ⟨#[]⟩, .slice none 0 0, .slice none 0 0, .string ⟨#[]⟩, .string ⟨#[]⟩, .string ⟨#[]⟩, .slice none 0 0] 114).up (Up.alloc _ (.cells #[.string x.nm, .slice none 0 0, .slice none 0 0, .string ⟨#[]⟩, .string ⟨#[]⟩, .string ⟨#[]⟩, .slice none 0 0] 114))
    simpa using this
  have hO : Bx (((w.alloc (.cells #[.string x.nm, .slice x.da.A x.da.l.length x.da.c, .slice x.wi.A x.wi.l.length x.wi.c, .string x.pl, .string x.se, .string x.ha, .slice x.ci.A x.ci.l.length x.ci.c] 105)).alloc (.cells #[.string ⟨#[]⟩, .slice none 0 0, .slice none 0 0, .string ⟨#[]⟩, .string ⟨#[]⟩, .string ⟨#[]⟩, .slice none 0 0] 114)).alloc (.cells #[.string x.nm, .slice none 0 0, .slice none 0 0, .string ⟨#[]⟩, .string ⟨#[]⟩, .string ⟨#[]⟩, .slice none 0 0] 114)) (w.heap.size + 1 + 1) [.string x.nm, .slice none 0 0, .slice none 0 0, .string ⟨#[]⟩, .string ⟨#[]⟩, .string ⟨#[]⟩, .slice none 0 0] := by
    have := Bx.new ((w.alloc (.cells #[.string x.nm, .slice x.da.A x.da.l.length x.da.c, .slice x.wi.A x.wi.l.length x.wi.c, .string x.pl, .string x.se, .string x.ha, .slice x.ci.A x.ci.l.length x.ci.c] 105)).alloc (.cells #[.string ⟨#[]⟩, .slice none 0 0, .slice none 0 0, .string ⟨#[]⟩, .string ⟨#[]⟩, .string ⟨#[]⟩, .slice none 0 0] 114)) #[.string x.nm, .slice none 0 0, .slice none 0 0, .string ⟨#[]⟩, .string ⟨#[]⟩, .string ⟨#[]⟩, .slice none 0 0] 114
    simpa using this
  have hsz : w.heap.size + 3 ≤ (((w.alloc (.cells #[.string x.nm, .slice x.da.A x.da.l.length x.da.c, .slice x.wi.A x.wi.l.length x.wi.c, .string x.pl, .string x.se, .string x.ha, .slice x.ci.A x.ci.l.length x.ci.c] 105)).alloc (.cells #[.string ⟨#[]⟩, .slice none 0 0, .slice none 0 0, .string ⟨#[]⟩, .string ⟨#[]⟩, .string ⟨#[]⟩, .slice none 0 0] 114)).alloc (.cells #[.string x.nm, .slice none 0 0, .slice none 0 0, .string ⟨#[]⟩, .string ⟨#[]⟩, .string ⟨#[]⟩, .slice none 0 0] 114)).heap.size := by simp
  go_enter Tryz.func57, Tryz.ntmps57
  go_wp2_with fail
  generalize (((w.alloc (.cells #[.string x.nm, .slice x.da.A x.da.l.length x.da.c, .slice x.wi.A x.wi.l.length x.wi.c, .string x.pl, .string x.se, .string x.ha, .slice x.ci.A x.ci.l.length x.ci.c] 105)).alloc (.cells #[.string ⟨#[]⟩, .slice none 0 0, .slice none 0 0, .string ⟨#[]⟩, .string ⟨#[]⟩, .string ⟨#[]⟩, .slice none 0 0] 114)).alloc (.cells #[.string x.nm, .slice none 0 0, .slice none 0 0, .string ⟨#[]⟩, .string ⟨#[]⟩, .string ⟨#[]⟩, .slice none 0 0] 114)) = w0 at *
  refine (toClauseS_any x.da.A x.da.l x.da.c lo hi _ (h.da.rd.up u h.da.hhi) (Nat.le_trans h.da.hhi u.size) h.da.len).mono ?_
  rintro e v1 ⟨q, rfl, o_da, v⟩
  obtain ⟨da, rfl, e_da, -, -, o_da⟩ := own_sl o_da
  have E_da := Lib.hid e_da
  clear e_da
  replace o_da := own_base (base' := w.heap.size + 3) o_da hsz
  replace u := u.trans v
  replace hA := hA.up v
  replace hR := hR.up v
  replace hO := hO.up v
  replace hsz := Nat.le_trans hsz v.size
  clear v
  obtain ⟨x0, x1, x2, x3, x4, x5, x6⟩ := hA.c7
  obtain ⟨y0, y1, y2, y3, y4, y5, y6⟩ := hO.c7
  obtain ⟨f0, f1, f2, f3, f4, f5, f6⟩ := hO.f7
  obtain ⟨z0, z1, z2, z3, z4, z5, z6⟩ := hR.c7
  obtain ⟨g0, g1, g2, g3, g4, g5, g6⟩ := hR.f7
  replace hO := hO.put 1 (.slice da.A da.l.length da.c)
  replace hA := hA.other (b' := w.heap.size + 1 + 1) (by omega) 1 (.slice da.A da.l.length da.c)
  replace hR := hR.other (b' := w.heap.size + 1 + 1) (by omega) 1 (.slice da.A da.l.length da.c)
  replace o_da := ownsRow_setCell_below o_da (a := ⟨w.heap.size + 1 + 1, 1, none⟩) (show w.heap.size + 1 + 1 < w.heap.size + 3 by omega) (.slice da.A da.l.length da.c)
  replace u := u.setCell (p := ⟨w.heap.size + 1 + 1, 1, none⟩) (show w.heap.size ≤ w.heap.size + 1 + 1 by omega) (.slice da.A da.l.length da.c)
  have hsz : w.heap.size + 3 ≤ (v1.setCell ⟨w.heap.size + 1 + 1, 1, none⟩ (.slice da.A da.l.length da.c)).heap.size := by simpa using hsz
  go_wp2_with fail
  generalize (v1.setCell ⟨w.heap.size + 1 + 1, 1, none⟩ (.slice da.A da.l.length da.c)) = w2 at *
  refine (toWitnessS_any x.wi.A x.wi.l x.wi.c lo hi _ (h.wi.rd.up u h.wi.hhi) (Nat.le_trans h.wi.hhi u.size) h.wi.len).mono ?_
  rintro e v3 ⟨q, rfl, o_wi, v⟩
  obtain ⟨wi, rfl, e_wi, -, -, o_wi⟩ := own_sl o_wi
  have E_wi := Lib.hid e_wi
  clear e_wi
  replace o_da := own_up o_da v
  replace o_wi := own_base (base' := w.heap.size + 3) o_wi hsz
  replace u := u.trans v
  replace hA := hA.up v
  replace hR := hR.up v
  replace hO := hO.up v
  replace hsz := Nat.le_trans hsz v.size
  clear v
  obtain ⟨x0, x1, x2, x3, x4, x5, x6⟩ := hA.c7
  obtain ⟨y0, y1, y2, y3, y4, y5, y6⟩ := hO.c7
  obtain ⟨f0, f1, f2, f3, f4, f5, f6⟩ := hO.f7
  obtain ⟨z0, z1, z2, z3, z4, z5, z6⟩ := hR.c7
  obtain ⟨g0, g1, g2, g3, g4, g5, g6⟩ := hR.f7
  replace hO := hO.put 2 (.slice wi.A wi.l.length wi.c)
  replace hA := hA.other (b' := w.heap.size + 1 + 1) (by omega) 2 (.slice wi.A wi.l.length wi.c)
  replace hR := hR.other (b' := w.heap.size + 1 + 1) (by omega) 2 (.slice wi.A wi.l.length wi.c)
  replace o_da := ownsRow_setCell_below o_da (a := ⟨w.heap.size + 1 + 1, 2, none⟩) (show w.heap.size + 1 + 1 < w.heap.size + 3 by omega) (.slice wi.A wi.l.length wi.c)
  replace o_wi := ownsRow_setCell_below o_wi (a := ⟨w.heap.size + 1 + 1, 2, none⟩) (show w.heap.size + 1 + 1 < w.heap.size + 3 by omega) (.slice wi.A wi.l.length wi.c)
  replace u := u.setCell (p := ⟨w.heap.size + 1 + 1, 2, none⟩) (show w.heap.size ≤ w.heap.size + 1 + 1 by omega) (.slice wi.A wi.l.length wi.c)
  replace hO := hO.put 3 (.string x.pl)
  replace hA := hA.other (b' := w.heap.size + 1 + 1) (by omega) 3 (.string x.pl)
  replace hR := hR.other (b' := w.heap.size + 1 + 1) (by omega) 3 (.string x.pl)
  replace o_da := ownsRow_setCell_below o_da (a := ⟨w.heap.size + 1 + 1, 3, none⟩) (show w.heap.size + 1 + 1 < w.heap.size + 3 by omega) (.string x.pl)
  replace o_wi := ownsRow_setCell_below o_wi (a := ⟨w.heap.size + 1 + 1, 3, none⟩) (show w.heap.size + 1 + 1 < w.heap.size + 3 by omega) (.string x.pl)
  replace u := u.setCell (p := ⟨w.heap.size + 1 + 1, 3, none⟩) (show w.heap.size ≤ w.heap.size + 1 + 1 by omega) (.string x.pl)
  replace hO := hO.put 4 (.string x.se)
  replace hA := hA.other (b' := w.heap.size + 1 + 1) (by omega) 4 (.string x.se)
  replace hR := hR.other (b' := w.heap.size + 1 + 1) (by omega) 4 (.string x.se)
  replace o_da := ownsRow_setCell_below o_da (a := ⟨w.heap.size + 1 + 1, 4, none⟩) (show w.heap.size + 1 + 1 < w.heap.size + 3 by omega) (.string x.se)
  replace o_wi := ownsRow_setCell_below o_wi (a := ⟨w.heap.size + 1 + 1, 4, none⟩) (show w.heap.size + 1 + 1 < w.heap.size + 3 by omega) (.string x.se)
  replace u := u.setCell (p := ⟨w.heap.size + 1 + 1, 4, none⟩) (show w.heap.size ≤ w.heap.size + 1 + 1 by omega) (.string x.se)
  replace hO := hO.put 5 (.string x.ha)
  replace hA := hA.other (b' := w.heap.size + 1 + 1) (by omega) 5 (.string x.ha)
  replace hR := hR.other (b' := w.heap.size + 1 + 1) (by omega) 5 (.string x.ha)
  replace o_da := ownsRow_setCell_below o_da (a := ⟨w.heap.size + 1 + 1, 5, none⟩) (show w.heap.size + 1 + 1 < w.heap.size + 3 by omega) (.string x.ha)
  replace o_wi := ownsRow_setCell_below o_wi (a := ⟨w.heap.size + 1 + 1, 5, none⟩) (show w.heap.size + 1 + 1 < w.heap.size + 3 by omega) (.string x.ha)
  replace u := u.setCell (p := ⟨w.heap.size + 1 + 1, 5, none⟩) (show w.heap.size ≤ w.heap.size + 1 + 1 by omega) (.string x.ha)
  have hsz : w.heap.size + 3 ≤ ((((v3.setCell ⟨w.heap.size + 1 + 1, 2, none⟩ (.slice wi.A wi.l.length wi.c)).setCell ⟨w.heap.size + 1 + 1, 3, none⟩ (.string x.pl)).setCell ⟨w.heap.size + 1 + 1, 4, none⟩ (.string x.se)).setCell ⟨w.heap.size + 1 + 1, 5, none⟩ (.string x.ha)).heap.size := by simpa using hsz
  go_wp2_with fail
  generalize ((((v3.setCell ⟨w.heap.size + 1 + 1, 2, none⟩ (.slice wi.A wi.l.length wi.c)).setCell ⟨w.heap.size + 1 + 1, 3, none⟩ (.string x.pl)).setCell ⟨w.heap.size + 1 + 1, 4, none⟩ (.string x.se)).setCell ⟨w.heap.size + 1 + 1, 5, none⟩ (.string x.ha)) = w4 at *
  refine (toStringS_any x.ci.A x.ci.l x.ci.c lo hi _ (h.ci.rd.up u h.ci.hhi) (Nat.le_trans h.ci.hhi u.size) h.ci.len).mono ?_
  rintro e v5 ⟨q, rfl, o_ci, v⟩
  obtain ⟨ci, rfl, e_ci, -, -, o_ci⟩ := own_sl o_ci
  have E_ci := Lib.hid e_ci
  clear e_ci
  replace o_da := own_up o_da v
  replace o_wi := own_up o_wi v
  replace o_ci := own_base (base' := w.heap.size + 3) o_ci hsz
  replace u := u.trans v
  replace hA := hA.up v
  replace hR := hR.up v
  replace hO := hO.up v
  replace hsz := Nat.le_trans hsz v.size
  clear v
  obtain ⟨x0, x1, x2, x3, x4, x5, x6⟩ := hA.c7
  obtain ⟨y0, y1, y2, y3, y4, y5, y6⟩ := hO.c7
  obtain ⟨f0, f1, f2, f3, f4, f5, f6⟩ := hO.f7
  obtain ⟨z0, z1, z2, z3, z4, z5, z6⟩ := hR.c7
  obtain ⟨g0, g1, g2, g3, g4, g5, g6⟩ := hR.f7
  go_wp2
  refine bodyPost_ret (v := .agg #[.string x.nm, .slice da.A da.l.length da.c, .slice wi.A wi.l.length wi.c, .string x.pl, .string x.se, .string x.ha, .slice ci.A ci.l.length ci.c]) (by simp [results, Tryz.results57, go_sem, z0, z1, z2, z3, z4, z5, z6]) rfl ?_
  refine ⟨⟨x.nm, da, wi, x.pl, x.se, x.ha, ci⟩, rfl, by simp only [Dd.p, E_da.out, E_wi.out, E_ci.out], ?_, ?_⟩
  · refine OwE.base (b := w.heap.size + 3) ?_ (by omega)
    iterate 8 refine OwE.put ?_ (by first | (simp; done) | (simp; omega)) _
    exact ⟨o_da, o_wi, o_ci⟩
  · iterate 8 refine Up.setCell ?_ (by first | (simp; done) | (simp; omega)) _
    exact u
end Go.Proofs.YtblndbblcoghpaaGreatDoor

namespace Go.Proofs.YtblndbblcoghpaaGreatDoor
open Go.RowKit Go.Sort

theorem eqStringS_same (A B : Option Addr) (l : List ByteArray) (c c' lo hi lo' hi' : Nat) (w : World) (hr : RdT w lo hi A l) (hhi : hi ≤ w.heap.size) (hr' : RdT w lo' hi' B l) (hhi' : hi' ≤ w.heap.size) (hn : l.length ≤ 2000000) :
    Calls Tryz.prog 82 #[.slice A l.length c, .slice B l.length c'] w fun e w' => e = .returned (.bool true) ∧ Up w w' :=
  (eqStringS_any A B l l c c' lo hi lo' hi' w hr hhi hr' hhi' hn).mono fun e w' ⟨h1, h2⟩ => ⟨by rw [h1, eqSs_self], h2⟩
set_option maxRecDepth 100000 in
set_option maxHeartbeats 1000000 in
theorem eqChancery_same (s : Sl Nm) (A' : Option Addr) (c' : Nat) (fr to_ : Int) (lo hi lo' hi' : Nat) (w : World) (h : SrNm w lo hi s) (h2 : SrNm w lo' hi' ⟨A', c', s.l⟩) :
    Calls Tryz.prog 63 #[.agg #[.slice s.A s.l.length s.c, .int .i64 fr, .int .i64 to_], .agg #[.slice A' s.l.length c', .int .i64 fr, .int .i64 to_]] w fun e w' => e = .returned (.bool true) ∧ Up w w' := by
  have hss : ∀ s : ByteArray, (s.toList == s.toList) = true := fun s => by simp
  have hii : ∀ i : Int, (i != i) = false := fun s => by simp
  have u : Up w ((w.alloc (.cells #[.slice s.A s.l.length s.c, .int .i64 fr, .int .i64 to_] 45)).alloc (.cells #[.slice A' s.l.length c', .int .i64 fr, .int .i64 to_] 45)) := (Up.alloc w _).allocs _
  have hX := (Bx.new w #[.slice s.A s.l.length s.c, .int .i64 fr, .int .i64 to_] 45).up (Up.alloc _ (.cells #[.slice A' s.l.length c', .int .i64 fr, .int .i64 to_] 45))
  have hY : Bx ((w.alloc (.cells #[.slice s.A s.l.length s.c, .int .i64 fr, .int .i64 to_] 45)).alloc (.cells #[.slice A' s.l.length c', .int .i64 fr, .int .i64 to_] 45)) (w.heap.size + 1) [.slice A' s.l.length c', .int .i64 fr, .int .i64 to_] := by
    have := Bx.new (w.alloc (.cells #[.slice s.A s.l.length s.c, .int .i64 fr, .int .i64 to_] 45)) #[.slice A' s.l.length c', .int .i64 fr, .int .i64 to_] 45
    simpa using this
  go_enter Tryz.func63, Tryz.ntmps63
  go_wp2_with fail
  generalize (w.alloc (.cells #[.slice s.A s.l.length s.c, .int .i64 fr, .int .i64 to_] 45)).alloc (.cells #[.slice A' s.l.length c', .int .i64 fr, .int .i64 to_] 45) = w0 at *
  refine (eqReignS_same s.A A' s.l s.c c' lo hi lo' hi' _ (h.rd.up u h.hhi) (Nat.le_trans h.hhi u.size) (h2.rd.up u h2.hhi) (Nat.le_trans h2.hhi u.size) h.len).mono ?_
  rintro e w1 ⟨rfl, v⟩
  replace u := u.trans v
  replace hX := hX.up v
  replace hY := hY.up v
  clear v
  obtain ⟨x0, x1, x2⟩ := hX.c3
  obtain ⟨y0, y1, y2⟩ := hY.c3
  go_wp2
  all_goals first | (exfalso; simp_all; done) | (go_ret; exact ⟨rfl, u⟩)
set_option maxRecDepth 100000 in
set_option maxHeartbeats 1000000 in
theorem eqPeople_same (s : Sl Nm) (A' : Option Addr) (c' : Nat) (t : Sl Tm) (B' : Option Addr) (d' : Nat) (lo hi lo' hi' : Nat) (w : World) (h : SrNm w lo hi s) (h2 : SrNm w lo' hi' ⟨A', c', s.l⟩) (k : SrTm w lo hi t) (k2 : SrTm w lo' hi' ⟨B', d', t.l⟩) :
    Calls Tryz.prog 64 #[.agg #[.slice s.A s.l.length s.c, .slice t.A t.l.length t.c], .agg #[.slice A' s.l.length c', .slice B' t.l.length d']] w fun e w' => e = .returned (.bool true) ∧ Up w w' := by
  have hss : ∀ s : ByteArray, (s.toList == s.toList) = true := fun s => by simp
  have hii : ∀ i : Int, (i != i) = false := fun s => by simp
  have u : Up w ((w.alloc (.cells #[.slice s.A s.l.length s.c, .slice t.A t.l.length t.c] 49)).alloc (.cells #[.slice A' s.l.length c', .slice B' t.l.length d'] 49)) := (Up.alloc w _).allocs _
  have hX := (Bx.new w #[.slice s.A s.l.length s.c, .slice t.A t.l.length t.c] 49).up (Up.alloc _ (.cells #[.slice A' s.l.length c', .slice B' t.l.length d'] 49))
  have hY : Bx ((w.alloc (.cells #[.slice s.A s.l.length s.c, .slice t.A t.l.length t.c] 49)).alloc (.cells #[.slice A' s.l.length c', .slice B' t.l.length d'] 49)) (w.heap.size + 1) [.slice A' s.l.length c', .slice B' t.l.length d'] := by
    have := Bx.new (w.alloc (.cells #[.slice s.A s.l.length s.c, .slice t.A t.l.length t.c] 49)) #[.slice A' s.l.length c', .slice B' t.l.length d'] 49
    simpa using this
  go_enter Tryz.func64, Tryz.ntmps64
  go_wp2_with fail
  generalize (w.alloc (.cells #[.slice s.A s.l.length s.c, .slice t.A t.l.length t.c] 49)).alloc (.cells #[.slice A' s.l.length c', .slice B' t.l.length d'] 49) = w0 at *
  refine (eqPersonS_same s.A A' s.l s.c c' lo hi lo' hi' _ (h.rd.up u h.hhi) (Nat.le_trans h.hhi u.size) (h2.rd.up u h2.hhi) (Nat.le_trans h2.hhi u.size) h.len).mono ?_
  rintro e w1 ⟨rfl, v⟩
  replace u := u.trans v
  replace hX := hX.up v
  replace hY := hY.up v
  clear v
  obtain ⟨x0, x1⟩ := hX.c2
  obtain ⟨y0, y1⟩ := hY.c2
  go_wp2_with fail
  refine (eqTermS_same t.A B' t.l t.c d' lo hi lo' hi' _ (k.rd.up u k.hhi) (Nat.le_trans k.hhi u.size) (k2.rd.up u k2.hhi) (Nat.le_trans k2.hhi u.size) k.len).mono ?_
  rintro e w2 ⟨rfl, v⟩
  replace u := u.trans v
  replace hX := hX.up v
  replace hY := hY.up v
  clear v
  obtain ⟨x0, x1⟩ := hX.c2
  obtain ⟨y0, y1⟩ := hY.c2
  go_wp2
  all_goals first | (exfalso; simp_all; done) | (go_ret; exact ⟨rfl, u⟩)
set_option maxRecDepth 100000 in
set_option maxHeartbeats 1000000 in
theorem eqLand_same (s : Sl ByteArray) (A' : Option Addr) (c' : Nat) (t : Sl I3) (B' : Option Addr) (d' : Nat) (lo hi lo' hi' : Nat) (w : World) (h : SrSt w lo hi s) (h2 : SrSt w lo' hi' ⟨A', c', s.l⟩) (k : SrI3 w lo hi t) (k2 : SrI3 w lo' hi' ⟨B', d', t.l⟩) :
    Calls Tryz.prog 65 #[.agg #[.slice s.A s.l.length s.c, .slice t.A t.l.length t.c], .agg #[.slice A' s.l.length c', .slice B' t.l.length d']] w fun e w' => e = .returned (.bool true) ∧ Up w w' := by
  have hss : ∀ s : ByteArray, (s.toList == s.toList) = true := fun s => by simp
  have hii : ∀ i : Int, (i != i) = false := fun s => by simp
  have u : Up w ((w.alloc (.cells #[.slice s.A s.l.length s.c, .slice t.A t.l.length t.c] 52)).alloc (.cells #[.slice A' s.l.length c', .slice B' t.l.length d'] 52)) := (Up.alloc w _).allocs _
  have hX := (Bx.new w #[.slice s.A s.l.length s.c, .slice t.A t.l.length t.c] 52).up (Up.alloc _ (.cells #[.slice A' s.l.length c', .slice B' t.l.length d'] 52))
  have hY : Bx ((w.alloc (.cells #[.slice s.A s.l.length s.c, .slice t.A t.l.length t.c] 52)).alloc (.cells #[.slice A' s.l.length c', .slice B' t.l.length d'] 52)) (w.heap.size + 1) [.slice A' s.l.length c', .slice B' t.l.length d'] := by
    have := Bx.new (w.alloc (.cells #[.slice s.A s.l.length s.c, .slice t.A t.l.length t.c] 52)) #[.slice A' s.l.length c', .slice B' t.l.length d'] 52
    simpa using this
  go_enter Tryz.func65, Tryz.ntmps65
  go_wp2_with fail
  generalize (w.alloc (.cells #[.slice s.A s.l.length s.c, .slice t.A t.l.length t.c] 52)).alloc (.cells #[.slice A' s.l.length c', .slice B' t.l.length d'] 52) = w0 at *
  refine (eqStringS_same s.A A' s.l s.c c' lo hi lo' hi' _ (h.rd.up u h.hhi) (Nat.le_trans h.hhi u.size) (h2.rd.up u h2.hhi) (Nat.le_trans h2.hhi u.size) h.len).mono ?_
  rintro e w1 ⟨rfl, v⟩
  replace u := u.trans v
  replace hX := hX.up v
  replace hY := hY.up v
  clear v
  obtain ⟨x0, x1⟩ := hX.c2
  obtain ⟨y0, y1⟩ := hY.c2
  go_wp2_with fail
  refine (eqWayS_same t.A B' t.l t.c d' lo hi lo' hi' _ (k.rd.up u k.hhi) (Nat.le_trans k.hhi u.size) (k2.rd.up u k2.hhi) (Nat.le_trans k2.hhi u.size) k.len).mono ?_
  rintro e w2 ⟨rfl, v⟩
  replace u := u.trans v
  replace hX := hX.up v
  replace hY := hY.up v
  clear v
  obtain ⟨x0, x1⟩ := hX.c2
  obtain ⟨y0, y1⟩ := hY.c2
  go_wp2
  all_goals first | (exfalso; simp_all; done) | (go_ret; exact ⟨rfl, u⟩)
set_option maxRecDepth 100000 in
set_option maxHeartbeats 1000000 in
theorem eqWorld_same (x : Wd) (A_rs : Option Addr) (c_rs : Nat) (A_ps : Option Addr) (c_ps : Nat) (A_ts : Option Addr) (c_ts : Nat) (A_pl : Option Addr) (c_pl : Nat) (A_ws : Option Addr) (c_ws : Nat) (A_st : Option Addr) (c_st : Nat) (A_se : Option Addr) (c_se : Nat) (A_ha : Option Addr) (c_ha : Nat) (lo hi lo' hi' : Nat) (w : World) (h : RdW w lo hi x) (h2 : RdW w lo' hi' ⟨⟨A_rs, c_rs, x.rs.l⟩, x.fr, x.to_, ⟨A_ps, c_ps, x.ps.l⟩, ⟨A_ts, c_ts, x.ts.l⟩, ⟨A_pl, c_pl, x.pl.l⟩, ⟨A_ws, c_ws, x.ws.l⟩, ⟨A_st, c_st, x.st.l⟩, ⟨A_se, c_se, x.se.l⟩, ⟨A_ha, c_ha, x.ha.l⟩⟩) :
    Calls Tryz.prog 25 #[.agg #[.slice x.rs.A x.rs.l.length x.rs.c, .int .i64 x.fr, .int .i64 x.to_, .slice x.ps.A x.ps.l.length x.ps.c, .slice x.ts.A x.ts.l.length x.ts.c, .slice x.pl.A x.pl.l.length x.pl.c, .slice x.ws.A x.ws.l.length x.ws.c, .slice x.st.A x.st.l.length x.st.c, .slice x.se.A x.se.l.length x.se.c, .slice x.ha.A x.ha.l.length x.ha.c], .agg #[.slice A_rs x.rs.l.length c_rs, .int .i64 x.fr, .int .i64 x.to_, .slice A_ps x.ps.l.length c_ps, .slice A_ts x.ts.l.length c_ts, .slice A_pl x.pl.l.length c_pl, .slice A_ws x.ws.l.length c_ws, .slice A_st x.st.l.length c_st, .slice A_se x.se.l.length c_se, .slice A_ha x.ha.l.length c_ha]] w fun e w' => e = .returned (.bool true) ∧ Up w w' := by
  have hss : ∀ s : ByteArray, (s.toList == s.toList) = true := fun s => by simp
  have hii : ∀ i : Int, (i != i) = false := fun s => by simp
  have u : Up w ((w.alloc (.cells #[.slice x.rs.A x.rs.l.length x.rs.c, .int .i64 x.fr, .int .i64 x.to_, .slice x.ps.A x.ps.l.length x.ps.c, .slice x.ts.A x.ts.l.length x.ts.c, .slice x.pl.A x.pl.l.length x.pl.c, .slice x.ws.A x.ws.l.length x.ws.c, .slice x.st.A x.st.l.length x.st.c, .slice x.se.A x.se.l.length x.se.c, .slice x.ha.A x.ha.l.length x.ha.c] 56)).alloc (.cells #[.slice A_rs x.rs.l.length c_rs, .int .i64 x.fr, .int .i64 x.to_, .slice A_ps x.ps.l.length c_ps, .slice A_ts x.ts.l.length c_ts, .slice A_pl x.pl.l.length c_pl, .slice A_ws x.ws.l.length c_ws, .slice A_st x.st.l.length c_st, .slice A_se x.se.l.length c_se, .slice A_ha x.ha.l.length c_ha] 56)) := (Up.alloc w _).allocs _
  have hX := (Bx.new w #[.slice x.rs.A x.rs.l.length x.rs.c, .int .i64 x.fr, .int .i64 x.to_, .slice x.ps.A x.ps.l.length x.ps.c, .slice x.ts.A x.ts.l.length x.ts.c, .slice x.pl.A x.pl.l.length x.pl.c, .slice x.ws.A x.ws.l.length x.ws.c, .slice x.st.A x.st.l.length x.st.c, .slice x.se.A x.se.l.length x.se.c, .slice x.ha.A x.ha.l.length x.ha.c] 56).up (Up.alloc _ (.cells #[.slice A_rs x.rs.l.length c_rs, .int .i64 x.fr, .int .i64 x.to_, .slice A_ps x.ps.l.length c_ps, .slice A_ts x.ts.l.length c_ts, .slice A_pl x.pl.l.length c_pl, .slice A_ws x.ws.l.length c_ws, .slice A_st x.st.l.length c_st, .slice A_se x.se.l.length c_se, .slice A_ha x.ha.l.length c_ha] 56))
  have hY : Bx ((w.alloc (.cells #[.slice x.rs.A x.rs.l.length x.rs.c, .int .i64 x.fr, .int .i64 x.to_, .slice x.ps.A x.ps.l.length x.ps.c, .slice x.ts.A x.ts.l.length x.ts.c, .slice x.pl.A x.pl.l.length x.pl.c, .slice x.ws.A x.ws.l.length x.ws.c, .slice x.st.A x.st.l.length x.st.c, .slice x.se.A x.se.l.length x.se.c, .slice x.ha.A x.ha.l.length x.ha.c] 56)).alloc (.cells #[.slice A_rs x.rs.l.length c_rs, .int .i64 x.fr, .int .i64 x.to_, .slice A_ps x.ps.l.length c_ps, .slice A_ts x.ts.l.length c_ts, .slice A_pl x.pl.l.length c_pl, .slice A_ws x.ws.l.length c_ws, .slice A_st x.st.l.length c_st, .slice A_se x.se.l.length c_se, .slice A_ha x.ha.l.length c_ha] 56)) (w.heap.size + 1) [.slice A_rs x.rs.l.length c_rs, .int .i64 x.fr, .int .i64 x.to_, .slice A_ps x.ps.l.length c_ps, .slice A_ts x.ts.l.length c_ts, .slice A_pl x.pl.l.length c_pl, .slice A_ws x.ws.l.length c_ws, .slice A_st x.st.l.length c_st, .slice A_se x.se.l.length c_se, .slice A_ha x.ha.l.length c_ha] := by
    have := Bx.new (w.alloc (.cells #[.slice x.rs.A x.rs.l.length x.rs.c, .int .i64 x.fr, .int .i64 x.to_, .slice x.ps.A x.ps.l.length x.ps.c, .slice x.ts.A x.ts.l.length x.ts.c, .slice x.pl.A x.pl.l.length x.pl.c, .slice x.ws.A x.ws.l.length x.ws.c, .slice x.st.A x.st.l.length x.st.c, .slice x.se.A x.se.l.length x.se.c, .slice x.ha.A x.ha.l.length x.ha.c] 56)) #[.slice A_rs x.rs.l.length c_rs, .int .i64 x.fr, .int .i64 x.to_, .slice A_ps x.ps.l.length c_ps, .slice A_ts x.ts.l.length c_ts, .slice A_pl x.pl.l.length c_pl, .slice A_ws x.ws.l.length c_ws, .slice A_st x.st.l.length c_st, .slice A_se x.se.l.length c_se, .slice A_ha x.ha.l.length c_ha] 56
    simpa using this
  go_enter Tryz.func25, Tryz.ntmps25
  go_wp2_with fail
  generalize (w.alloc (.cells #[.slice x.rs.A x.rs.l.length x.rs.c, .int .i64 x.fr, .int .i64 x.to_, .slice x.ps.A x.ps.l.length x.ps.c, .slice x.ts.A x.ts.l.length x.ts.c, .slice x.pl.A x.pl.l.length x.pl.c, .slice x.ws.A x.ws.l.length x.ws.c, .slice x.st.A x.st.l.length x.st.c, .slice x.se.A x.se.l.length x.se.c, .slice x.ha.A x.ha.l.length x.ha.c] 56)).alloc (.cells #[.slice A_rs x.rs.l.length c_rs, .int .i64 x.fr, .int .i64 x.to_, .slice A_ps x.ps.l.length c_ps, .slice A_ts x.ts.l.length c_ts, .slice A_pl x.pl.l.length c_pl, .slice A_ws x.ws.l.length c_ws, .slice A_st x.st.l.length c_st, .slice A_se x.se.l.length c_se, .slice A_ha x.ha.l.length c_ha] 56) = w0 at *
  refine (eqChancery_same x.rs A_rs c_rs x.fr x.to_ lo hi lo' hi' _ (h.rs.up u) (h2.rs.up u)).mono ?_
  rintro e w1 ⟨rfl, v⟩
  replace u := u.trans v
  replace hX := hX.up v
  replace hY := hY.up v
  clear v
  obtain ⟨x0, x1, x2, x3, x4, x5, x6, x7, x8, x9⟩ := hX.c10
  obtain ⟨y0, y1, y2, y3, y4, y5, y6, y7, y8, y9⟩ := hY.c10
  go_wp2_with fail
  refine (eqPeople_same x.ps A_ps c_ps x.ts A_ts c_ts lo hi lo' hi' _ (h.ps.up u) (h2.ps.up u) (h.ts.up u) (h2.ts.up u)).mono ?_
  rintro e w2 ⟨rfl, v⟩
  replace u := u.trans v
  replace hX := hX.up v
  replace hY := hY.up v
  clear v
  obtain ⟨x0, x1, x2, x3, x4, x5, x6, x7, x8, x9⟩ := hX.c10
  obtain ⟨y0, y1, y2, y3, y4, y5, y6, y7, y8, y9⟩ := hY.c10
  go_wp2_with fail
  refine (eqLand_same x.pl A_pl c_pl x.ws A_ws c_ws lo hi lo' hi' _ (h.pl.up u) (h2.pl.up u) (h.ws.up u) (h2.ws.up u)).mono ?_
  rintro e w3 ⟨rfl, v⟩
  replace u := u.trans v
  replace hX := hX.up v
  replace hY := hY.up v
  clear v
  obtain ⟨x0, x1, x2, x3, x4, x5, x6, x7, x8, x9⟩ := hX.c10
  obtain ⟨y0, y1, y2, y3, y4, y5, y6, y7, y8, y9⟩ := hY.c10
  go_wp2_with fail
  refine (eqStayS_same x.st.A A_st x.st.l x.st.c c_st lo hi lo' hi' _ (h.st.rd.up u h.st.hhi) (Nat.le_trans h.st.hhi u.size) (h2.st.rd.up u h2.st.hhi) (Nat.le_trans h2.st.hhi u.size) h.st.len).mono ?_
  rintro e w4 ⟨rfl, v⟩
  replace u := u.trans v
  replace hX := hX.up v
  replace hY := hY.up v
  clear v
  obtain ⟨x0, x1, x2, x3, x4, x5, x6, x7, x8, x9⟩ := hX.c10
  obtain ⟨y0, y1, y2, y3, y4, y5, y6, y7, y8, y9⟩ := hY.c10
  go_wp2_with fail
  refine (eqMarkS_same x.se.A A_se x.se.l x.se.c c_se lo hi lo' hi' _ (h.se.rd.up u h.se.hhi) (Nat.le_trans h.se.hhi u.size) (h2.se.rd.up u h2.se.hhi) (Nat.le_trans h2.se.hhi u.size) h.se.len).mono ?_
  rintro e w5 ⟨rfl, v⟩
  replace u := u.trans v
  replace hX := hX.up v
  replace hY := hY.up v
  clear v
  obtain ⟨x0, x1, x2, x3, x4, x5, x6, x7, x8, x9⟩ := hX.c10
  obtain ⟨y0, y1, y2, y3, y4, y5, y6, y7, y8, y9⟩ := hY.c10
  go_wp2_with fail
  refine (eqMarkS_same x.ha.A A_ha x.ha.l x.ha.c c_ha lo hi lo' hi' _ (h.ha.rd.up u h.ha.hhi) (Nat.le_trans h.ha.hhi u.size) (h2.ha.rd.up u h2.ha.hhi) (Nat.le_trans h2.ha.hhi u.size) h.ha.len).mono ?_
  rintro e w6 ⟨rfl, v⟩
  replace u := u.trans v
  replace hX := hX.up v
  replace hY := hY.up v
  clear v
  obtain ⟨x0, x1, x2, x3, x4, x5, x6, x7, x8, x9⟩ := hX.c10
  obtain ⟨y0, y1, y2, y3, y4, y5, y6, y7, y8, y9⟩ := hY.c10
  go_wp2
  all_goals first | (exfalso; simp_all; done) | (go_ret; exact ⟨rfl, u⟩)
theorem eqWorld_p (x y : Wd) (lo hi lo' hi' : Nat) (w : World) (h : RdW w lo hi x) (h2 : RdW w lo' hi' y) (e : y.p = x.p) :
    Calls Tryz.prog 25 #[x.val, y.val] w fun e w' => e = .returned (.bool true) ∧ Up w w' := by
  obtain ⟨⟨A_rs, c_rs, l_rs⟩, fr, to_, ⟨A_ps, c_ps, l_ps⟩, ⟨A_ts, c_ts, l_ts⟩, ⟨A_pl, c_pl, l_pl⟩, ⟨A_ws, c_ws, l_ws⟩, ⟨A_st, c_st, l_st⟩, ⟨A_se, c_se, l_se⟩, ⟨A_ha, c_ha, l_ha⟩⟩ := y
  simp only [Wd.p, Pw.mk.injEq] at e
  obtain ⟨rfl, rfl, rfl, rfl, rfl, rfl, rfl, rfl, rfl, rfl⟩ := e
  exact eqWorld_same x A_rs c_rs A_ps c_ps A_ts c_ts A_pl c_pl A_ws c_ws A_st c_st A_se c_se A_ha c_ha lo hi lo' hi' w h h2
set_option maxRecDepth 100000 in
set_option maxHeartbeats 1000000 in
theorem eqDeed_same (x : Dd) (A_da : Option Addr) (c_da : Nat) (A_wi : Option Addr) (c_wi : Nat) (A_ci : Option Addr) (c_ci : Nat) (lo hi lo' hi' : Nat) (w : World) (h : RdE w lo hi x) (h2 : RdE w lo' hi' ⟨x.nm, ⟨A_da, c_da, x.da.l⟩, ⟨A_wi, c_wi, x.wi.l⟩, x.pl, x.se, x.ha, ⟨A_ci, c_ci, x.ci.l⟩⟩) :
    Calls Tryz.prog 68 #[.agg #[.string x.nm, .slice x.da.A x.da.l.length x.da.c, .slice x.wi.A x.wi.l.length x.wi.c, .string x.pl, .string x.se, .string x.ha, .slice x.ci.A x.ci.l.length x.ci.c], .agg #[.string x.nm, .slice A_da x.da.l.length c_da, .slice A_wi x.wi.l.length c_wi, .string x.pl, .string x.se, .string x.ha, .slice A_ci x.ci.l.length c_ci]] w fun e w' => e = .returned (.bool true) ∧ Up w w' := by
  have hss : ∀ s : ByteArray, (s.toList == s.toList) = true := fun s => by simp
  have hii : ∀ i : Int, (i != i) = false := fun s => by simp
  have u : Up w ((w.alloc (.cells #[.string x.nm, .slice x.da.A x.da.l.length x.da.c, .slice x.wi.A x.wi.l.length x.wi.c, .string x.pl, .string x.se, .string x.ha, .slice x.ci.A x.ci.l.length x.ci.c] 114)).alloc (.cells #[.string x.nm, .slice A_da x.da.l.length c_da, .slice A_wi x.wi.l.length c_wi, .string x.pl, .string x.se, .string x.ha, .slice A_ci x.ci.l.length c_ci] 114)) := (Up.alloc w _).allocs _
  have hX := (Bx.new w #[.string x.nm, .slice x.da.A x.da.l.length x.da.c, .slice x.wi.A x.wi.l.length x.wi.c, .string x.pl, .string x.se, .string x.ha, .slice x.ci.A x.ci.l.length x.ci.c] 114).up (Up.alloc _ (.cells #[.string x.nm, .slice A_da x.da.l.length c_da, .slice A_wi x.wi.l.length c_wi, .string x.pl, .string x.se, .string x.ha, .slice A_ci x.ci.l.length c_ci] 114))
  have hY : Bx ((w.alloc (.cells #[.string x.nm, .slice x.da.A x.da.l.length x.da.c, .slice x.wi.A x.wi.l.length x.wi.c, .string x.pl, .string x.se, .string x.ha, .slice x.ci.A x.ci.l.length x.ci.c] 114)).alloc (.cells #[.string x.nm, .slice A_da x.da.l.length c_da, .slice A_wi x.wi.l.length c_wi, .string x.pl, .string x.se, .string x.ha, .slice A_ci x.ci.l.length c_ci] 114)) (w.heap.size + 1) [.string x.nm, .slice A_da x.da.l.length c_da, .slice A_wi x.wi.l.length c_wi, .string x.pl, .string x.se, .string x.ha, .slice A_ci x.ci.l.length c_ci] := by
    have := Bx.new (w.alloc (.cells #[.string x.nm, .slice x.da.A x.da.l.length x.da.c, .slice x.wi.A x.wi.l.length x.wi.c, .string x.pl, .string x.se, .string x.ha, .slice x.ci.A x.ci.l.length x.ci.c] 114)) #[.string x.nm, .slice A_da x.da.l.length c_da, .slice A_wi x.wi.l.length c_wi, .string x.pl, .string x.se, .string x.ha, .slice A_ci x.ci.l.length c_ci] 114
    simpa using this
  go_enter Tryz.func68, Tryz.ntmps68
  go_wp2_with fail
  generalize (w.alloc (.cells #[.string x.nm, .slice x.da.A x.da.l.length x.da.c, .slice x.wi.A x.wi.l.length x.wi.c, .string x.pl, .string x.se, .string x.ha, .slice x.ci.A x.ci.l.length x.ci.c] 114)).alloc (.cells #[.string x.nm, .slice A_da x.da.l.length c_da, .slice A_wi x.wi.l.length c_wi, .string x.pl, .string x.se, .string x.ha, .slice A_ci x.ci.l.length c_ci] 114) = w0 at *
  refine (eqClauseS_same x.da.A A_da x.da.l x.da.c c_da lo hi lo' hi' _ (h.da.rd.up u h.da.hhi) (Nat.le_trans h.da.hhi u.size) (h2.da.rd.up u h2.da.hhi) (Nat.le_trans h2.da.hhi u.size) h.da.len).mono ?_
  rintro e w1 ⟨rfl, v⟩
  replace u := u.trans v
  replace hX := hX.up v
  replace hY := hY.up v
  clear v
  obtain ⟨x0, x1, x2, x3, x4, x5, x6⟩ := hX.c7
  obtain ⟨y0, y1, y2, y3, y4, y5, y6⟩ := hY.c7
  go_wp2_with fail
  refine (eqWitnessS_same x.wi.A A_wi x.wi.l x.wi.c c_wi lo hi lo' hi' _ (h.wi.rd.up u h.wi.hhi) (Nat.le_trans h.wi.hhi u.size) (h2.wi.rd.up u h2.wi.hhi) (Nat.le_trans h2.wi.hhi u.size) h.wi.len).mono ?_
  rintro e w2 ⟨rfl, v⟩
  replace u := u.trans v
  replace hX := hX.up v
  replace hY := hY.up v
  clear v
  obtain ⟨x0, x1, x2, x3, x4, x5, x6⟩ := hX.c7
  obtain ⟨y0, y1, y2, y3, y4, y5, y6⟩ := hY.c7
  go_wp2_with fail
  refine (eqStringS_same x.ci.A A_ci x.ci.l x.ci.c c_ci lo hi lo' hi' _ (h.ci.rd.up u h.ci.hhi) (Nat.le_trans h.ci.hhi u.size) (h2.ci.rd.up u h2.ci.hhi) (Nat.le_trans h2.ci.hhi u.size) h.ci.len).mono ?_
  rintro e w3 ⟨rfl, v⟩
  replace u := u.trans v
  replace hX := hX.up v
  replace hY := hY.up v
  clear v
  obtain ⟨x0, x1, x2, x3, x4, x5, x6⟩ := hX.c7
  obtain ⟨y0, y1, y2, y3, y4, y5, y6⟩ := hY.c7
  go_wp2
  all_goals first | (exfalso; simp_all; done) | (go_ret; exact ⟨rfl, u⟩)
theorem eqDeed_p (x y : Dd) (lo hi lo' hi' : Nat) (w : World) (h : RdE w lo hi x) (h2 : RdE w lo' hi' y) (e : y.p = x.p) :
    Calls Tryz.prog 68 #[x.val, y.val] w fun e w' => e = .returned (.bool true) ∧ Up w w' := by
  obtain ⟨nm, ⟨A_da, c_da, l_da⟩, ⟨A_wi, c_wi, l_wi⟩, pl, se, ha, ⟨A_ci, c_ci, l_ci⟩⟩ := y
  simp only [Dd.p, Pd.mk.injEq] at e
  obtain ⟨rfl, rfl, rfl, rfl, rfl, rfl, rfl⟩ := e
  exact eqDeed_same x A_da c_da A_wi c_wi A_ci c_ci lo hi lo' hi' w h h2
set_option maxRecDepth 100000 in
set_option maxHeartbeats 2000000 in
theorem eqDeedS_p (s t : Sl Dd) (lo hi lo' hi' : Nat) (w : World) (h : RdDd w lo hi s) (h2 : RdDd w lo' hi' t) (e : t.l.map Dd.p = s.l.map Dd.p) :
    Calls Tryz.prog 26 #[.slice s.A s.l.length s.c, .slice t.A t.l.length t.c] w fun e w' => e = .returned (.bool true) ∧ Up w w' := by
  obtain ⟨A, c, l⟩ := s
  obtain ⟨B, c', m⟩ := t
  have hr := h.rd
  have hr' := h2.rd
  have hhi := h.hhi
  have hhi' := h2.hhi
  have hl : m.length = l.length := by simpa using congrArg List.length e
  have hn : l.length ≤ 2000000 := h.len
  have hb0 : ((l.length : Int) != (m.length : Int)) = false := by simp [hl]
  have E := Lib.hid e
  have hlm : l.length ≤ m.length := by omega
  clear e hl
  show Calls _ _ #[.slice A l.length c, .slice B m.length c'] _ _
  go_enter Tryz.func26, Tryz.ntmps26
  go_wp2
  go_loopw [5] (fun i wr => ∃ k : Nat, k ≤ l.length ∧ i = .int .i64 k ∧ Up w wr) (fun i _ => l.length - (intOf i).toNat)
  case atStart => exact ⟨0, Nat.zero_le _, rfl, Up.refl _⟩
  case round =>
    obtain ⟨k, hk, rfl, hup⟩ := hrel
    by_cases hlt : k < l.length
    · have hlt' : k < m.length := by omega
      obtain ⟨b1, o1, d1, rfl, -, -, hd1, p0, p1, p2, p3, p4, p5, p6⟩ := (hr.up hup hhi).dd hlt
      obtain ⟨b2, o2, d2, rfl, -, -, hd2, q0, q1, q2, q3, q4, q5, q6⟩ := (hr'.up hup hhi').dd hlt'
      have hp : d2.p = d1.p := by
        have e2 : (m.map Dd.p)[k]? = (l.map Dd.p)[k]? := by rw [E.out]
        rw [List.getElem?_map, List.getElem?_map, hd1, hd2] at e2
        exact Option.some.inj e2
      have HE := Lib.hid (fun (wx : World) (u : Up wr wx) => eqDeed_p d1 d2 lo hi lo' hi' wx ((h.each d1 (List.mem_of_getElem? hd1)).up (hup.trans u)) ((h2.each d2 (List.mem_of_getElem? hd2)).up (hup.trans u)) hp)
      clear hd1 hd2 hp
      have P0 := cell_regrown p0
      have Q0 := cell_regrown q0
      have P1 := cell_regrown p1
      have Q1 := cell_regrown q1
      have P2 := cell_regrown p2
      have Q2 := cell_regrown q2
      have P3 := cell_regrown p3
      have Q3 := cell_regrown q3
      have P4 := cell_regrown p4
      have Q4 := cell_regrown q4
      have P5 := cell_regrown p5
      have Q5 := cell_regrown q5
      have P6 := cell_regrown p6
      have Q6 := cell_regrown q6
      go_wp2_with fail
      refine wp_region_quiet_below (by kernel_rfl) (by kernel_rfl) ?_
      repeat (quiet_step ((go_at_call 68; exact Calls.regrown_of (HE.out _ (below_regrown _ _ _)))))
      refine wpQuiet_nil ?_
      intro w2 hw2
      obtain ⟨⟨dq, osq⟩, hw2⟩ := hw2
      have hup2 : Up wr w2 := by rw [hw2]; exact below_regrown _ _ _
      clear hw2 P0 Q0 P1 Q1 P2 Q2 P3 Q3 P4 Q4 P5 Q5 P6 Q6
      go_wp2
      go_roundw
      case rel => exact ⟨k + 1, by omega, by go_num, hup.trans hup2⟩
      case measure => simp [intOf]; omega
    · go_wp2
      go_ret
      exact ⟨rfl, hup⟩
set_option maxRecDepth 100000 in
set_option maxHeartbeats 2000000 in
theorem szDeed_any (x : Dd) (lo hi : Nat) (left : Int) (w : World) (h : RawE w lo hi x) (h0 : 0 ≤ left) (hl : left ≤ 2000000) :
    Calls Tryz.prog 45 #[x.val, .int .i64 left] w fun e w' => ∃ z : Int, e = .returned (.int .i64 z) ∧ z ≤ left ∧ (z < 0 ∨ SmE x) ∧ Up w w' := by
  have n1 := h.nm
  have n2 := h.pl
  have n3 := h.se
  have n4 := h.ha
  unfold maxLen at n1 n2 n3 n4
  have u := Up.alloc w (.cells #[.string x.nm, .slice x.da.A x.da.l.length x.da.c, .slice x.wi.A x.wi.l.length x.wi.c, .string x.pl, .string x.se, .string x.ha, .slice x.ci.A x.ci.l.length x.ci.c] 105)
  have hB := Bx.new w #[.string x.nm, .slice x.da.A x.da.l.length x.da.c, .slice x.wi.A x.wi.l.length x.wi.c, .string x.pl, .string x.se, .string x.ha, .slice x.ci.A x.ci.l.length x.ci.c] 105
  by_cases a1 : left < (x.nm.size : Nat)
  · go_enter Tryz.func45, Tryz.ntmps45
    go_wp2
    go_ret
    exact ⟨_, rfl, by omega, .inl (by omega), u⟩
  go_enter Tryz.func45, Tryz.ntmps45
  go_wp2_with fail
  generalize w.alloc (.cells #[.string x.nm, .slice x.da.A x.da.l.length x.da.c, .slice x.wi.A x.wi.l.length x.wi.c, .string x.pl, .string x.se, .string x.ha, .slice x.ci.A x.ci.l.length x.ci.c] 105) = w0 at *
  refine (szClauseS_any x.da.A x.da.l x.da.c lo hi _ _ (h.da.rd.up u h.da.hhi) (Nat.le_trans h.da.hhi u.size) h.da.ok (by omega) (by omega) h.da.len).mono ?_
  rintro e w1 ⟨z1, rfl, hz1, sm1, v⟩
  replace u := u.trans v
  replace hB := hB.up v
  obtain ⟨x0, x1, x2, x3, x4, x5, x6⟩ := hB.c7
  by_cases c1 : z1 < 0
  · have hd : decide (z1 < 0) = true := by simpa using c1
    go_wp2
    go_ret
    exact ⟨-1, rfl, by omega, .inl (by omega), u⟩
  have hd1 : decide (z1 < 0) = false := by simpa using c1
  go_wp2_with fail
  refine (szWitnessS_any x.wi.A x.wi.l x.wi.c lo hi _ _ (h.wi.rd.up u h.wi.hhi) (Nat.le_trans h.wi.hhi u.size) h.wi.ok (by omega) (by omega) h.wi.len).mono ?_
  rintro e w2 ⟨z2, rfl, hz2, sm2, v2⟩
  replace u := u.trans v2
  replace hB := hB.up v2
  obtain ⟨x0, x1, x2, x3, x4, x5, x6⟩ := hB.c7
  by_cases c2 : z2 < 0
  · have hd : decide (z2 < 0) = true := by simpa using c2
    go_wp2
    go_ret
    exact ⟨-1, rfl, by omega, .inl (by omega), u⟩
  have hd2 : decide (z2 < 0) = false := by simpa using c2
  by_cases a2 : z2 < (x.pl.size : Nat)
  · go_wp2
    go_ret
    exact ⟨_, rfl, by omega, .inl (by omega), u⟩
  by_cases a3 : z2 < (x.pl.size + x.se.size : Nat)
  · go_wp2
    go_ret
    exact ⟨_, rfl, by omega, .inl (by omega), u⟩
  by_cases a4 : z2 < (x.pl.size + x.se.size + x.ha.size : Nat)
  · go_wp2
    go_ret
    exact ⟨_, rfl, by omega, .inl (by omega), u⟩
  go_wp2_with fail
  refine (szStringS_w x.ci.A x.ci.l x.ci.c lo hi _ _ (h.ci.rd.up u h.ci.hhi) (Nat.le_trans h.ci.hhi u.size) h.ci.ok (by omega) (by omega) h.ci.len).mono ?_
  rintro e w3 ⟨z3, rfl, hz3, sm3, v3⟩
  replace u := u.trans v3
  by_cases c3 : z3 < 0
  · have hd : decide (z3 < 0) = true := by simpa using c3
    go_wp2
    go_ret
    exact ⟨-1, rfl, by omega, .inl (by omega), u⟩
  have hd3 : decide (z3 < 0) = false := by simpa using c3
  go_wp2
  go_ret
  exact ⟨z3, rfl, by omega, .inr ⟨sm1.resolve_left (by omega), sm2.resolve_left (by omega), sm3.resolve_left (by omega)⟩, u⟩
set_option maxRecDepth 100000 in
set_option maxHeartbeats 1000000 in
theorem szDeedS_any (s : Sl (Dd)) (lo hi : Nat) (left : Int) (w : World) (h : RawDd w lo hi s) (h0 : 0 ≤ left) (hl : left ≤ 2000000) :
    Calls Tryz.prog 16 #[.slice s.A s.l.length s.c, .int .i64 left] w fun e w' => ∃ z : Int, e = .returned (.int .i64 z) ∧ z ≤ left ∧ (z < 0 ∨ (s.l.length ≤ 2000000 ∧ ∀ d ∈ s.l, SmE d)) ∧ Up w w' := by
  obtain ⟨A, c, l⟩ := s
  have hr := h.rd
  have hhi := h.hhi
  have hn : l.length ≤ maxLen := h.len
  have hea := Lib.hid h.each
  clear h
  unfold maxLen at hn
  show Calls _ _ #[.slice A l.length c, _] _ _
  by_cases c1 : left < l.length
  · go_enter Tryz.func16, Tryz.ntmps16
    go_wp2
    go_ret
    exact ⟨-1, rfl, by omega, .inl (by omega), Up.refl _⟩
  · go_enter Tryz.func16, Tryz.ntmps16
    have hb0 : decide (left - (l.length : Int) < 0) = false := by simp; omega
    have hll : l.length ≤ 2000000 := by omega
    go_wp2
    go_loopw [4, 1, 5] (fun r lf i wr => ∃ k : Nat, ∃ z : Int, k ≤ l.length ∧ i = .int .i64 k ∧ lf = .int .i64 z ∧ 0 ≤ z ∧ z ≤ left ∧ (∀ d ∈ l.take k, SmE d) ∧ Up w wr) (fun _ _ i _ => l.length - (intOf i).toNat)
    case atStart => exact ⟨0, _, Nat.zero_le _, rfl, rfl, by omega, by omega, by simp, Up.refl _⟩
    case round =>
      obtain ⟨k, z, hk, rfl, rfl, hz0, hz1, hsm, hup⟩ := hrel
      have HS := Lib.hid hsm
      clear hsm
      by_cases hlt : k < l.length
      · obtain ⟨b, off, d, rfl, hlo, hb, hd, q0, q1, q2, q3, q4, q5, q6⟩ := (hr.up hup hhi).dd hlt
        have HD := Lib.hid hd
        clear hd
        go_wp2_with fail
        refine (szDeed_any d lo hi _ _ ((hea.out d (List.mem_of_getElem? HD.out)).up hup) (by omega) (by omega)).mono ?_
        rintro e w' ⟨z', rfl, hz', sm, hup'⟩
        have SM := Lib.hid sm
        clear sm
        by_cases c2 : z' < 0
        · have hdec : decide (z' < 0) = true := by simpa using c2
          go_wp2
          go_ret
          exact ⟨-1, rfl, by omega, .inl (by omega), hup.trans hup'⟩
        · have hdec : decide (z' < 0) = false := by simpa using c2
          go_wp2
          go_roundw
          case rel => exact ⟨k + 1, _, by omega, by go_num, rfl, by omega, by omega, fun x hx => by
            rw [List.take_succ_eq_append_getElem (List.getElem?_eq_some_iff.1 HD.out).1, (List.getElem?_eq_some_iff.1 HD.out).2] at hx
            rcases List.mem_append.1 hx with h1 | h1
            · exact HS.out x h1
            · simp at h1; subst h1; exact SM.out.resolve_left (by omega), hup.trans hup'⟩
          case measure => simp [intOf]; omega
      · go_wp2
        go_ret
        have hk2 : k = l.length := by omega
        have := HS.out
        rw [hk2, List.take_of_length_le (Nat.le_refl _)] at this
        exact ⟨z, rfl, by omega, .inr ⟨hll, this⟩, hup⟩

theorem infoDeed : (Tryz.prog.info? 114).map (fun i => (i.zero, i.size, i.bytes)) = some (some (.agg #[.string ByteArray.empty, .slice none 0 0, .slice none 0 0, .string ByteArray.empty, .string ByteArray.empty, .string ByteArray.empty, .slice none 0 0]), 7, 136) := by kernel_rfl
theorem setDeed {xs : List Value} {L : List Dd} {k : Nat} {y : Dd} {n : Nat} (hx : xs.length = n * 7) (hk : k < n) (ht : xs.take (k * 7) = L.flatMap Dd.cells) :
    ((((((((xs.set (k * 7) (.string y.nm)).set (k * 7 + 1) (.slice y.da.A y.da.l.length y.da.c)).set (k * 7 + 2) (.slice y.wi.A y.wi.l.length y.wi.c)).set (k * 7 + 3) (.string y.pl)).set (k * 7 + 4) (.string y.se)).set (k * 7 + 5) (.string y.ha)).set (k * 7 + 6) (.slice y.ci.A y.ci.l.length y.ci.c))).take ((k + 1) * 7) = (L ++ [y]).flatMap Dd.cells := by
  rw [show (k + 1) * 7 = k * 7 + 6 + 1 by omega, take_set_succ (by simp; omega), take_set_succ (by simp; omega), take_set_succ (by simp; omega), take_set_succ (by simp; omega), take_set_succ (by simp; omega), take_set_succ (by simp; omega), take_set_succ (by omega), ht]
  simp
/-- a list of deeds that the call itself made -/
def OwDd (w : World) (g0 : Nat) (s : Sl Dd) : Prop :=
  w.ownsRow g0 114 7 s.val s.l.length (s.l.flatMap Dd.cells) ∧ ∀ y ∈ s.l, OwE w g0 y
theorem OwDd.up {w w' : World} {b : Nat} {x : Sl Dd} (h : OwDd w b x) (u : Up w w') : OwDd w' b x := ⟨own_up h.1 u, fun y hy => (h.2 y hy).up u⟩
theorem OwDd.rd {w w0 : World} {b lo hi : Nat} {x y : Sl Dd} (h : OwDd w b x) (e : x.l.map Dd.p = y.l.map Dd.p) (k : RdDd w0 lo hi y) : RdDd w b w.heap.size x := by
  refine ⟨Rd.own Dd.len h.1, Nat.le_refl _, by rw [show x.l.length = y.l.length by simpa using congrArg List.length e]; exact k.len, fun d hd => ?_, own_cap h.1⟩
  have h1 : d.p ∈ y.l.map Dd.p := by rw [← e]; exact List.mem_map_of_mem hd
  obtain ⟨z, hz, e2⟩ := List.mem_map.1 h1
  exact (h.2 d hd).rd e2.symm (k.each z hz)
set_option maxRecDepth 100000 in
set_option maxHeartbeats 4000000 in
theorem toDeedS_any (s : Sl Dd) (lo hi : Nat) (w : World) (h : RdDd w lo hi s) :
    Calls Tryz.prog 21 #[.slice s.A s.l.length s.c] w fun e w' => ∃ t : Sl Dd, e = .returned (.slice t.A t.l.length t.c) ∧ t.l.map Dd.p = s.l.map Dd.p ∧ OwDd w' w.heap.size t ∧ Up w w' := by
  obtain ⟨A, c, l⟩ := s
  have hr := h.rd
  have hhi := h.hhi
  have hn : l.length ≤ 2000000 := h.len
  have hea := Lib.hid h.each
  clear h
  obtain ⟨i0, hi0, hz0, hz1, hz2⟩ := info_parts infoDeed
  show Calls _ _ #[.slice A l.length c] _ _
  go_enter Tryz.func21, Tryz.ntmps21
  go_wp2_with ((refine wpList_make_full _ rfl _ _ 57 rfl w.heap.size 114 i0 _ 7 Tryz.underlying57 hi0 hz0 hz1 _ _ _ _ l.length rfl rfl rfl rfl ?b2 ?b3 ?b4 ?_))
  all_goals try first | (rw [hz2]; omega; done) | (omega; done) | (unfold maxLen; omega; done) | exact Nat.le_refl _
  intro w1 hown hg
  have hup1 : Up w w1 := (Up.refl w).grown hg (fun k h => by cases h)
  generalize (madeCells _ _).toList = xs0 at hown
  clear hg
  go_wp2
  go_loopw [4] (fun i wr => ∃ k : Nat, ∃ xs, ∃ L : List Dd, k ≤ l.length ∧ i = .int .i64 k ∧ L.length = k ∧ wr.ownsRow w.heap.size 114 7 (.slice (some ⟨w.heap.size, 0, none⟩) l.length l.length) l.length xs ∧ xs.take (k * 7) = L.flatMap Dd.cells ∧ L.map Dd.p = (l.take k).map Dd.p ∧
      (∀ y ∈ L, OwE wr (w.heap.size + 1) y) ∧ Up w wr) (fun i _ => l.length - (intOf i).toNat)
  case atStart => exact ⟨0, _, [], Nat.zero_le _, rfl, rfl, hown, by simp, by simp, by simp, hup1⟩
  case round =>
    obtain ⟨k, xs, L, hk, rfl, hL, hown, hxs, hmap, hin, hup⟩ := hrel
    have HX := Lib.hid hxs
    have HL := Lib.hid hL
    have HM := Lib.hid hmap
    have HIN := Lib.hid hin
    clear hxs hL hmap hin
    by_cases hlt : k < l.length
    · obtain ⟨b, off, d, rfl, hlo, hb, hd, q0, q1, q2, q3, q4, q5, q6⟩ := (hr.up hup hhi).dd hlt
      have HD := Lib.hid hd
      clear hd
      have hgs : w.heap.size < wr.heap.size := by
        obtain ⟨A', c', hv, -, -, hA, -⟩ := own_form hown
        simp only [Value.slice.injEq] at hv
        obtain ⟨rfl, -, -⟩ := hv
        obtain ⟨g', e, -, h⟩ := hA (by omega)
        cases e; exact h
      go_wp2_with (go_at_call 57; refine (toDeed_any d lo hi _ ((hea.out d (List.mem_of_getElem? HD.out)).up hup)).mono ?_; rintro e w' ⟨y, rfl, hyp, hyo, hup'⟩; have HY := Lib.hid hyp; clear hyp; have HO := Lib.hid hyo; clear hyo; have hown' := own_up hown hup'; obtain ⟨u0, r0⟩ := own_cell hown' (p := k * 7) (by omega); obtain ⟨u1, r1⟩ := own_cell hown' (p := k * 7 + 1) (by omega); obtain ⟨u2, r2⟩ := own_cell hown' (p := k * 7 + 2) (by omega); obtain ⟨u3, r3⟩ := own_cell hown' (p := k * 7 + 3) (by omega); obtain ⟨u4, r4⟩ := own_cell hown' (p := k * 7 + 4) (by omega); obtain ⟨u5, r5⟩ := own_cell hown' (p := k * 7 + 5) (by omega); obtain ⟨u6, r6⟩ := own_cell hown' (p := k * 7 + 6) (by omega); have z0 := hown'.frozenAt (k * 7); have z1 := hown'.frozenAt (k * 7 + 1); have z2 := hown'.frozenAt (k * 7 + 2); have z3 := hown'.frozenAt (k * 7 + 3); have z4 := hown'.frozenAt (k * 7 + 4); have z5 := hown'.frozenAt (k * 7 + 5); have z6 := hown'.frozenAt (k * 7 + 6))
      go_roundw
      case rel => exact ⟨k + 1, _, L ++ [y], by omega, by go_num, by rw [List.length_append, HL.out]; rfl, (((((((hown'.stored _ _).1.stored _ _).1.stored _ _).1.stored _ _).1.stored _ _).1.stored _ _).1.stored _ _).1, setDeed hown'.1 hlt HX.out,
        by rw [List.map_append, HM.out, List.take_succ_eq_append_getElem hlt, List.map_append, (List.getElem?_eq_some_iff.1 HD.out).2]; simp [HY.out],
        fun z hz => by
          rcases List.mem_append.1 hz with h | h
          · exact (OwE.put (OwE.put (OwE.put (OwE.put (OwE.put (OwE.put (OwE.put ((HIN.out z h).up hup') (by simp) _) (by simp) _) (by simp) _) (by simp) _) (by simp) _) (by simp) _) (by simp) _)
          · simp at h; subst h
            exact (OwE.put (OwE.put (OwE.put (OwE.put (OwE.put (OwE.put (OwE.put (HO.out.base hgs) (by simp) _) (by simp) _) (by simp) _) (by simp) _) (by simp) _) (by simp) _) (by simp) _),
        ((((((((hup.trans hup').setCell (by simp) _).setCell (by simp) _).setCell (by simp) _).setCell (by simp) _).setCell (by simp) _).setCell (by simp) _).setCell (by simp) _)⟩
      case measure => simp [intOf]; omega
    · go_wp2
      go_ret
      have hk2 : k = l.length := by omega
      have hx := HX.out
      have hm := HM.out
      rw [hk2] at hx hm
      rw [List.take_of_length_le (by rw [hown.1]; omega)] at hx
      rw [List.take_of_length_le (Nat.le_refl _)] at hm
      subst hx
      refine ⟨⟨some ⟨w.heap.size, 0, none⟩, l.length, L⟩, ?_, hm, ⟨?_, fun y hy => (HIN.out y hy).base (by omega)⟩, hup⟩
      · have e : L.length = l.length := by rw [HL.out, hk2]
        show _ = Ending.returned (.slice _ L.length _)
        rw [e]
        rfl
      · show World.ownsRow _ _ _ _ (.slice _ L.length _) L.length _
        rw [HL.out, hk2]; exact hown
end Go.Proofs.YtblndbblcoghpaaGreatDoor
