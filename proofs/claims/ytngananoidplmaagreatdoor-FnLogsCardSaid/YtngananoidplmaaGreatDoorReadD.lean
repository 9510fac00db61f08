/- A decision is read from a line, by the program. -/
import Derived.Test.YtngananoidplmaaGreatDoorRead
import Derived.Test.YtngananoidplmaaGreatDoorDrawD
import Derived.Deep.RegionHeld3
namespace Go.Proofs.YtngananoidplmaaGreatDoor
open Go.RowKit Go.Sort

theorem flat_str : ∀ l : List ByteArray, l.flatMap strC = l.map Value.string
  | [] => rfl
  | x :: l => by rw [List.flatMap_cons, flat_str l]; rfl
theorem split_any (s : ByteArray) (c : UInt8) (w : World) (hs : s.size ≤ 100000000) (he : EnvP w) :
    Calls Tryz.prog 46 #[.string s, .string ⟨#[c]⟩] w fun e w' => e = .returned (.slice (some ⟨w.heap.size, 0, none⟩) (spL c s).length (spL c s).length) ∧ w'.ownsRow w.heap.size 9 1 (.slice (some ⟨w.heap.size, 0, none⟩) (spL c s).length (spL c s).length) (spL c s).length ((spL c s).flatMap strC) ∧ Up w w' := by
  obtain ⟨-, ⟨m, hm⟩, -, -⟩ := he
  refine (Tryz.strings_Split s ⟨#[c]⟩ m w (by omega) hm (Nat.le_refl _)).mono ?_
  rintro e w' ⟨rfl, rfl⟩
  rw [splitB_spL, countB_spL]
  refine ⟨rfl, ?_, Up.alloc _ _⟩
  have h := World.ownsRow_lit (base := w.heap.size) (e := 9) (size := 1) w ((spL c s).map Value.string).toArray (spL c s).length (Nat.le_refl _) (by have := spL_len c s; unfold maxLen; omega) (by simp)
  have e2 : (spL c s).flatMap strC = ((spL c s).map Value.string).toArray.toList := by
    rw [flat_str]
  rw [e2]; exact h

theorem up_keep3 {w w' : World} {a b c : Addr} {x y z : Value} (h : Up w w') (ha : w.cell? a = some x) (hb : w.cell? b = some y) (hc : w.cell? c = some z) : Up w w' ∧ w'.cell? a = some x ∧ w'.cell? b = some y ∧ w'.cell? c = some z := ⟨h, h.cell ha, h.cell hb, h.cell hc⟩
def dZ : Dec := ⟨⟨#[]⟩, 0, 0, ⟨#[]⟩⟩
theorem dI_no {l : ByteArray} (h : (spL 32 l).length < 4) : dI l = dZ := by unfold dI; rw [if_pos h]; rfl
theorem dI_yes {l : ByteArray} {a b c d : ByteArray} (h : ¬ (spL 32 l).length < 4) (h0 : (spL 32 l)[0]? = some a) (h1 : (spL 32 l)[1]? = some b) (h2 : (spL 32 l)[2]? = some c) (h3 : (spL 32 l)[3]? = some d) :
    dI l = ⟨a, kdX b, if kdX b = 0 then (nuV d : Int) else 0, c⟩ := by
  unfold dI; rw [if_neg h]
  simp only [List.getD_eq_getElem?_getD, h0, h1, h2, h3, Option.getD_some]
theorem words_rd {w : World} {b : Nat} (v0 : w.cell? ⟨b, 0, none⟩ = some (.string (wdB 0))) (v1 : w.cell? ⟨b, 1, none⟩ = some (.string (wdB 1))) (v2 : w.cell? ⟨b, 2, none⟩ = some (.string (wdB 2))) :
    RdT w b (b + 1) (some ⟨b, 0, none⟩) [wdB 0, wdB 1, wdB 2] := fun _ => ⟨b, 0, rfl, Nat.le_refl _, Nat.lt_succ_self _, fun i x hx j u hu => by
  have hj : j = 0 := by
    have := (List.getElem?_eq_some_iff.1 hu).1
    simp at this; omega
  subst hj
  simp at hu
  match i, hx with
  | 0, hx => simp at hx; subst hx; subst hu; exact v0
  | 1, hx => simp at hx; subst hx; subst hu; exact v1
  | 2, hx => simp at hx; subst hx; subst hu; exact v2⟩
theorem seg_size (c : UInt8) : ∀ (l cur : List UInt8), ∀ x ∈ seg c cur l, x.length ≤ cur.length + l.length
  | [], cur => by simp [seg]
  | b :: r, cur => by
    rw [seg]; split
    · intro x hx
      rcases List.mem_cons.1 hx with rfl | hx
      · omega
      · have := seg_size c r [] x hx; simp at this ⊢; omega
    · intro x hx
      have := seg_size c r _ x hx; simp at this ⊢; omega
theorem spL_size {c : UInt8} {s x : ByteArray} (h : x ∈ spL c s) : x.size ≤ s.size := by
  unfold spL at h
  obtain ⟨y, hy, rfl⟩ := List.mem_map.1 h
  have := seg_size c _ _ y hy
  simp at this
  show y.toArray.size ≤ _
  simpa using this

set_option maxRecDepth 100000 in
set_option maxHeartbeats 4000000 in
theorem readDecision_any (l : ByteArray) (w : World) (hs : l.size ≤ 10000) (he : EnvP w) :
    Calls Tryz.prog 28 #[.string l] w fun e w' => e = .returned (dI l).val ∧ Up w w' := by
  have R0 := DB.new w dZ
  have ub := Up.alloc w (.cells #[.string dZ.deed, .int .i64 dZ.kind, .int .i64 dZ.day, .string dZ.by_] 43)
  have hlt0 : w.heap.size < (w.alloc (.cells #[.string dZ.deed, .int .i64 dZ.kind, .int .i64 dZ.day, .string dZ.by_] 43)).heap.size := by simp
  have HSP := Lib.hid (split_any l 32 _ (by omega) (he.up ub))
  have HE := Lib.hid he
  have hsl := spL_len 32 l
  simp only [dZ] at R0 ub hlt0 HSP
  go_enter Tryz.func28, Tryz.ntmps28
  go_wp2_with fail
  generalize w.alloc (.cells #[.string ⟨#[]⟩, .int .i64 0, .int .i64 0, .string ⟨#[]⟩] 43) = wa at *
  refine HSP.out.mono ?_
  rintro e w1 ⟨rfl, own, u1⟩
  have R1 := R0.up u1
  have U1 := ub.trans u1
  have hrd := Rd.own strC_len own
  by_cases h4 : (spL 32 l).length < 4
  · have HD := Lib.hid (dI_no h4)
    obtain ⟨r0, r1, r2, r3, f0, f1, f2, f3⟩ := R1
    have hd4 : decide (((spL 32 l).length : Int) < 4) = true := by simp; omega
    clear own hrd HSP R0 h4
    go_wp2
    refine bodyPost_ret (v := dZ.val) (by simp [results, Tryz.results28, go_sem, r0, r1, r2, r3, dZ]) rfl ⟨by rw [HD.out], ?_⟩
    iterate 4 refine Up.setCell ?_ (Nat.le_refl _) _
    exact U1
  · obtain ⟨b0, o0, s0, e0, hb0, hb1, g0, q0⟩ := hrd.txt (k := 0) (by omega)
    cases e0
    obtain ⟨b0, o0, s1, e0, -, -, g1, q1⟩ := hrd.txt (k := 1) (by omega)
    cases e0
    obtain ⟨b0, o0, s2, e0, -, -, g2, q2⟩ := hrd.txt (k := 2) (by omega)
    cases e0
    obtain ⟨b0, o0, s3, e0, -, -, g3, q3⟩ := hrd.txt (k := 3) (by omega)
    cases e0
    have HD := Lib.hid (dI_yes h4 g0 g1 g2 g3)
    have hz3 := spL_size (List.mem_of_getElem? g3)
    have hn4 : 4 ≤ (spL 32 l).length := by omega
    have hd4 : decide (((spL 32 l).length : Int) < 4) = false := by simp; omega
    generalize spL 32 l = ws at *
    have hd1 : Up w1 w1.drew := (Up.refl _).drew
    have ubx := Up.alloc w1 (.cells #[.string ⟨#[]⟩, .int .i64 0, .int .i64 0, .string ⟨#[]⟩] 43)
    have DN := Lib.hid (show DB (w1.alloc (.cells #[.string ⟨#[]⟩, .int .i64 0, .int .i64 0, .string ⟨#[]⟩] 43)).drew w1.heap.size dZ from (DB.new w1 dZ).up (Up.refl _).drew)
    have HR1 := Lib.hid R1
    have HSZ := Lib.hid (show (w1.alloc (.cells #[.string ⟨#[]⟩, .int .i64 0, .int .i64 0, .string ⟨#[]⟩] 43)).drew.heap.size = w1.heap.size + 1 by simp)
    have i0 : 0 < ws.length := by omega
    have i1 : 1 < ws.length := by omega
    have i2 : 2 < ws.length := by omega
    have i3 : (3 : Int) < (ws.length : Int) := by omega
    have j1 : (1 : Int) < (ws.length : Int) := by omega
    have j2 : (2 : Int) < (ws.length : Int) := by omega
    have hx : ∀ o, (w1.alloc o).cell? ⟨wa.heap.size, 1, none⟩ = some (.string s1) := fun o => (Up.alloc w1 o).cell q1
    clear own hrd HSP R0 h4 g0 g1 g2 g3 R1
    go_wp2_with fail
    go_cut [3, 4] (fun v3 v4 wx => v3 = .slice (some ⟨wa.heap.size, 0, none⟩) ws.length ws.length ∧ ∃ g, v4 = .pointer (some ⟨g, 0, none⟩) ∧ DB wx g ⟨s0, kdX s1, 0, s2⟩ ∧ w1.heap.size ≤ g ∧ Up w1 wx)
    case first =>
      have x0 := ubx.cell q0
      have x1 := ubx.cell q1
      have x2 := ubx.cell q2
      go_region_held3 (fun w' => Up w1 w' ∧ w'.cell? ⟨wa.heap.size, 0, none⟩ = some (.string s0) ∧ w'.cell? ⟨wa.heap.size, 1, none⟩ = some (.string s1) ∧ w'.cell? ⟨wa.heap.size, 2, none⟩ = some (.string s2))
        ((refine up_keep3 ?_ q0 q1 q2; first | assumption | exact Up.refl _ | exact hd1 | exact ubx | exact ubx.drew | exact Up.allocs (by assumption) _ | exact Up.setCell (Up.setCell (Up.setCell (Up.setCell (by assumption) (Nat.le_refl _) _) (Nat.le_refl _) _) (Nat.le_refl _) _) (Nat.le_refl _) _))
        (first
        | (go_at_call 48
           refine (decisionWords_any w1.drew).mono ?_
           rintro e wb ⟨rfl, v0, v1, v2, vu⟩
           have hSb : Up w1 wb := Up.trans hd1 vu
           have k0 := hSb.cell q0
           have k1 := hSb.cell q1
           have k2 := hSb.cell q2
           have HRD := Lib.hid (words_rd v0 v1 v2)
           have hgw : w1.heap.size ≤ wb.heap.size := hSb.size
           have uba := hSb.allocs (.cells #[.string ⟨#[]⟩, .int .i64 0, .int .i64 0, .string ⟨#[]⟩] 43)
           have ka0 := (Up.alloc wb (.cells #[.string ⟨#[]⟩, .int .i64 0, .int .i64 0, .string ⟨#[]⟩] 43)).cell k0
           have ka1 := (Up.alloc wb (.cells #[.string ⟨#[]⟩, .int .i64 0, .int .i64 0, .string ⟨#[]⟩] 43)).cell k1
           have ka2 := (Up.alloc wb (.cells #[.string ⟨#[]⟩, .int .i64 0, .int .i64 0, .string ⟨#[]⟩] 43)).cell k2
           have HRA := Lib.hid (HRD.out.up (Up.alloc wb (.cells #[.string ⟨#[]⟩, .int .i64 0, .int .i64 0, .string ⟨#[]⟩] 43)) (block_lt_of_cell v0)))
        | (go_at_call 48
           refine (decisionWords_any (w1.alloc (.cells #[.string ⟨#[]⟩, .int .i64 0, .int .i64 0, .string ⟨#[]⟩] 43)).drew).mono ?_
           rintro e wb ⟨rfl, v0, v1, v2, vu⟩
           have hSb : Up w1 wb := Up.trans ubx.drew vu
           have k0 := hSb.cell q0
           have k1 := hSb.cell q1
           have k2 := hSb.cell q2
           rw [HSZ.out] at v0 v1 v2
           have HRD := Lib.hid (words_rd v0 v1 v2)
           obtain ⟨y0, y1, y2, y3, z0, z1, z2, z3⟩ := DN.out.up vu)
        | (go_at_call 47
           refine (indexIn_any _ [wdB 0, wdB 1, wdB 2] 3 _ _ s1 _ HRD.out (by decide)).mono ?_
           rintro e wc ⟨rfl, rfl⟩)
        | (go_at_call 47
           refine (indexIn_any _ [wdB 0, wdB 1, wdB 2] 3 _ _ s1 _ HRA.out (by decide)).mono ?_
           rintro e wc ⟨rfl, rfl⟩))
      all_goals (try go_wp2_with fail)
      all_goals
        go_meet
        rw [ixL_kd]
        first
          | exact ⟨rfl, _, rfl, DB.new wb ⟨s0, kdX s1, 0, s2⟩, hSb.size, hSb.allocs _⟩
          | exact ⟨rfl, _, rfl, ⟨by go_simp, by go_simp, by go_simp, by go_simp, by go_simp, by go_simp, by go_simp, by go_simp⟩, Nat.le_refl _, (((hSb.setCell (Nat.le_refl _) _).setCell (Nat.le_refl _) _).setCell (Nat.le_refl _) _).setCell (Nat.le_refl _) _⟩
    case rest =>
      obtain ⟨rfl, g, rfl, hDB, hg, hu2⟩ := hcut
      have hwg : w.heap.size < g := by have := HR1.out.lt; have := u1.size; omega
      have p3 := hu2.cell q3
      have U2 := U1.trans hu2
      have HE2 := Lib.hid (HE.out.up U2)
      have HR2 := Lib.hid (HR1.out.up hu2)
      have HDB := Lib.hid hDB
      obtain ⟨d0, d1, d2, d3, e0, e1, e2, e3⟩ := hDB
      clear q0 q1 q2 q3 hx he HE HR1 DN
      by_cases hk : kdX s1 = 0
      · have hkb : (kdX s1 == 0) = true := by simpa using hk
        rw [if_pos hk] at HD
        have HK := Lib.hid hk
        clear hk
        go_wp2_with fail
        refine (number_any s3 _ (by omega) HE2.out).mono ?_
        rintro e w3 ⟨rfl, u3⟩
        obtain ⟨d0, d1, d2, d3, e0, e1, e2, e3⟩ := HDB.out.up u3
        obtain ⟨r0, r1, r2, r3, f0, f1, f2, f3⟩ := HR2.out.up u3
        have U3 := U2.trans u3
        have hne : g ≠ w.heap.size := by omega
        go_wp2
        refine bodyPost_ret (v := (dI l).val) (by rw [HD.out]; simp [results, Tryz.results28, go_sem, r0, r1, r2, r3]) rfl ⟨rfl, ?_⟩
        iterate 4 refine Up.setCell ?_ (Nat.le_refl _) _
        exact U3.setCell (Nat.le_of_lt hwg) _
      · have hkb : (kdX s1 == 0) = false := by simpa using hk
        rw [if_neg hk] at HD
        clear hk
        obtain ⟨r0, r1, r2, r3, f0, f1, f2, f3⟩ := HR2.out
        go_wp2
        refine bodyPost_ret (v := (dI l).val) (by rw [HD.out]; simp [results, Tryz.results28, go_sem, r0, r1, r2, r3]) rfl ⟨rfl, ?_⟩
        iterate 4 refine Up.setCell ?_ (Nat.le_refl _) _
        exact U2
end Go.Proofs.YtngananoidplmaaGreatDoor
