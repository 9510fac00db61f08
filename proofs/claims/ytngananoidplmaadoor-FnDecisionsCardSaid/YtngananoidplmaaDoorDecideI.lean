/- DecideDeed: the program's walk. -/
import Derived.Test.YtngananoidplmaaDoorDecide
namespace Go.Proofs.YtngananoidplmaaDoor
open Go.RowKit Go.Sort

set_option maxRecDepth 100000 in
set_option maxHeartbeats 4000000 in
theorem implDecide_any (A : Option Addr) (l : List Dec) (c lo hi : Nat) (d : Dec) (w : World) (hr : RdD w lo hi A l) (hhi : hi ≤ w.heap.size) (hok : ∀ d ∈ l, d.ok) (hd : d.ok) (hn : l.length ≤ 2000000) (hc : l.length ≤ c) (hcm : c ≤ maxLen) :
    Calls Tryd.prog 29 #[.slice A l.length c, d.val] w fun e w' => ∃ v, e = .returned (.tuple #[v, .int .i64 (ddE l d)]) ∧ w'.ownsRow w.heap.size 43 4 v (ddL l d).length ((ddL l d).flatMap Dec.cells) ∧ Up w w' := by
  obtain ⟨i0, hi0, hz0, hz1, hz2⟩ := info_parts infoDec
  have hm : l.length ≤ maxLen := by unfold maxLen; omega
  have hu0 := Up.alloc w (.cells #[.string d.deed, .int .i64 d.kind, .int .i64 d.day, .string d.by_] 43)
  have HI := Lib.hid (implIsLog_any A l c lo hi _ (hr.up hu0 hhi) (Nat.le_trans hhi hu0.size) hok hn hc hcm)
  by_cases hb : logB l = true
  · by_cases h2 : decB d = true
    · by_cases h3 : mayB l d = true
      · by_cases h4 : l.length = 80
        · have h4' : ((l.length : Int) == 80) = true := by rw [beq_iff_eq]; omega
          have DD := Lib.hid (dd_3 hb h2 h3 h4)
          clear h4
          go_enter Tryd.func29, Tryd.ntmps29
          go_wp2_with fail
          refine HI.out.mono ?_
          rintro e w1 ⟨rfl, hup1⟩
          obtain ⟨x0, x1, x2, x3⟩ := box4 hup1
          go_wp2_with fail
          refine (isDecision_any d hd _).mono ?_
          rintro e w2 ⟨rfl, hup2⟩
          have y0 := hup2.cell x0
          have y1 := hup2.cell x1
          have y2 := hup2.cell x2
          have y3 := hup2.cell x3
          have hu12 := hu0.trans (hup1.trans hup2)
          go_wp2_with fail
          refine (mayFollow_any A l c lo hi d _ (hr.up hu12 hhi) (Nat.le_trans hhi hu12.size) hm).mono ?_
          rintro e w3 ⟨rfl, hup3⟩
          have hu3 := hu12.trans hup3
          go_wp2
          go_ret2
          exact ⟨_, ret_vD DD.out.1.symm, by rw [DD.out.2]; exact World.ownsRow_nil _ _ _ _, hu3⟩
        · have h4' : ((l.length : Int) == 80) = false := by rw [beq_eq_false_iff_ne]; omega
          have DD := Lib.hid (dd_0 hb h2 h3 h4)
          clear h4
          go_enter Tryd.func29, Tryd.ntmps29
          go_wp2_with fail
          refine HI.out.mono ?_
          rintro e w1 ⟨rfl, hup1⟩
          obtain ⟨x0, x1, x2, x3⟩ := box4 hup1
          go_wp2_with fail
          refine (isDecision_any d hd _).mono ?_
          rintro e w2 ⟨rfl, hup2⟩
          have y0 := hup2.cell x0
          have y1 := hup2.cell x1
          have y2 := hup2.cell x2
          have y3 := hup2.cell x3
          go_wp2_with fail
          have hu12 := hu0.trans (hup1.trans hup2)
          refine (mayFollow_any A l c lo hi d _ (hr.up hu12 hhi) (Nat.le_trans hhi hu12.size) hm).mono ?_
          rintro e w3 ⟨rfl, hup3⟩
          have z0 := hup3.cell y0
          have z1 := hup3.cell y1
          have z2 := hup3.cell y2
          have z3 := hup3.cell y3
          have hu3 := hu12.trans hup3
          clear x0 x1 x2 x3 y0 y1 y2 y3
          have HB := Lib.hid hb
          have H2 := Lib.hid h2
          have H3 := Lib.hid h3
          have hzm : (Value.agg #[.string ByteArray.empty, .int .i64 0, .int .i64 0, .string ByteArray.empty]).cells.size = 4 := rfl
          have ud := Up.alloc w3 (.cells #[.string d.deed, .int .i64 d.kind, .int .i64 d.day, .string d.by_] 43)
          have hd1 : Up w3 w3.drew := (Up.refl _).drew
          have HX3 := Lib.hid (show Dx w3 w.heap.size d from ⟨z0, z1, z2, z3⟩)
          have HCL := Lib.hid (fun (w5 : World) (h5 : Up w3 w5) => cloneD_any A l c lo hi w5 (hr.up (hu3.trans h5) hhi) (Nat.le_trans hhi (hu3.trans h5).size) hn)
          have n4 : l.length + 1 ≤ maxLen := by unfold maxLen; omega
          have n5 : (l.length + 1) * 48 ≤ 140737488355328 := by omega
          obtain ⟨k0, k1, k2, k3⟩ := HX3.out.up ud
          go_wp2_with fail
          clear hb h2 h3 h4'
          go_region_law (first
            | (refine step_append_own _ rfl (.tmp 24) (.tmp 26) 25 rfl w3.heap.size 43 i0 _ 4 48 Tryd.underlying25 hi0 hz0 hz1 hz2 hzm (by decide) v1 l.length (l.flatMap Dec.cells) (by simp [Act.eval]) (own1.alloc (.cells #[.string d.deed, .int .i64 d.kind, .int .i64 d.day, .string d.by_] 43)) ⟨w4'.heap.size, 0, none⟩ 1 1 d.cells (by simp [Act.eval]) rfl (Dx.new w4' d).news (dec_one d) n4 n5 (U1.allocs (.cells #[.string d.deed, .int .i64 d.kind, .int .i64 d.day, .string d.by_] 43)).size ?_
               intro v2 w2' own2 hg2
               have U2 := (U1.allocs (.cells #[.string d.deed, .int .i64 d.kind, .int .i64 d.day, .string d.by_] 43)).grown hg2 (fun b hb => (own1.lt b hb).1))
            | (refine step_append_own _ rfl (.tmp 24) (.tmp 26) 25 rfl w3.heap.size 43 i0 _ 4 48 Tryd.underlying25 hi0 hz0 hz1 hz2 hzm (by decide) v1 l.length (l.flatMap Dec.cells) (by simp [Act.eval]) own1 ⟨w3.heap.size, 0, none⟩ 1 1 d.cells (by simp [Act.eval]) rfl dxm.news (dec_one d) n4 n5 U1.size ?_
               intro v2 w2' own2 hg2
               have U2 := U1.grown hg2 (fun b hb => (own1.lt b hb).1))
            | (go_simp
               go_at_call 53
               refine (HCL.out w3.drew hd1).mono ?_
               rintro e w4' ⟨v1, rfl, own1', hup4⟩
               have U1 := hd1.trans hup4
               have own1 := own_base own1' hd1.size
               obtain ⟨j0, j1, j2, j3⟩ := HX3.out.up U1)
            | (go_simp
               go_at_call 53
               refine (HCL.out (w3.alloc (.cells #[.string d.deed, .int .i64 d.kind, .int .i64 d.day, .string d.by_] 43)).drew ud.drew).mono ?_
               rintro e w4' ⟨v1, rfl, own1', hup4⟩
               have U1 := ud.drew.trans hup4
               have own1 := own_base own1' ud.drew.size
               have dxm := Dx.up (Dx.new w3 d) (((Up.refl (w3.alloc (.cells #[.string d.deed, .int .i64 d.kind, .int .i64 d.day, .string d.by_] 43))).drew).trans hup4)
               obtain ⟨j0, j1, j2, j3⟩ := HX3.out.up U1))
          all_goals
            have HOW := Lib.hid (own_base own2 hu3.size)
            have HUP := Lib.hid (hu3.trans U2)
            clear own1' own1 hup4 own2 hg2 U1 U2 j0 j1 j2 j3 k0 k1 k2 k3
            go_wp2
            go_ret2
            exact ⟨v2, ret_vD DD.out.1.symm, by rw [DD.out.2, List.length_append, List.flatMap_append]; simpa using HOW.out, HUP.out⟩
      · have h3' : mayB l d = false := by simpa using h3
        have DD := Lib.hid (dd_5 hb h2 h3')
        clear h3
        go_enter Tryd.func29, Tryd.ntmps29
        go_wp2_with fail
        refine HI.out.mono ?_
        rintro e w1 ⟨rfl, hup1⟩
        obtain ⟨x0, x1, x2, x3⟩ := box4 hup1
        go_wp2_with fail
        refine (isDecision_any d hd _).mono ?_
        rintro e w2 ⟨rfl, hup2⟩
        have y0 := hup2.cell x0
        have y1 := hup2.cell x1
        have y2 := hup2.cell x2
        have y3 := hup2.cell x3
        have hu12 := hu0.trans (hup1.trans hup2)
        go_wp2_with fail
        refine (mayFollow_any A l c lo hi d _ (hr.up hu12 hhi) (Nat.le_trans hhi hu12.size) hm).mono ?_
        rintro e w3 ⟨rfl, hup3⟩
        have hu3 := hu12.trans hup3
        go_wp2
        go_ret2
        exact ⟨_, ret_vD DD.out.1.symm, by rw [DD.out.2]; exact World.ownsRow_nil _ _ _ _, hu3⟩
    · have h2' : decB d = false := by simpa using h2
      have DD := Lib.hid (dd_2 hb h2')
      clear h2
      go_enter Tryd.func29, Tryd.ntmps29
      go_wp2_with fail
      refine HI.out.mono ?_
      rintro e w1 ⟨rfl, hup1⟩
      obtain ⟨x0, x1, x2, x3⟩ := box4 hup1
      go_wp2_with fail
      refine (isDecision_any d hd _).mono ?_
      rintro e w2 ⟨rfl, hup2⟩
      have y0 := hup2.cell x0
      have y1 := hup2.cell x1
      have y2 := hup2.cell x2
      have y3 := hup2.cell x3
      have hu12 := hu0.trans (hup1.trans hup2)
      go_wp2
      go_ret2
      exact ⟨_, ret_vD DD.out.1.symm, by rw [DD.out.2]; exact World.ownsRow_nil _ _ _ _, hu12⟩
  · have hb' : logB l = false := by simpa using hb
    have DD := Lib.hid (dd_1 (d := d) hb')
    clear hb
    go_enter Tryd.func29, Tryd.ntmps29
    go_wp2_with fail
    refine HI.out.mono ?_
    rintro e w1 ⟨rfl, hup1⟩
    obtain ⟨x0, x1, x2, x3⟩ := box4 hup1
    go_wp2
    go_ret2
    exact ⟨_, ret_vD DD.out.1.symm, by rw [DD.out.2]; exact World.ownsRow_nil _ _ _ _, hu0.trans hup1⟩
end Go.Proofs.YtngananoidplmaaDoor
