/- The walk of the law FnExactReadCopy. -/
import Derived.Test.YtdjhenjgccenhaaDoorRspec
namespace Go.Proofs.YtdjhenjgccenhaaDoor
open Go.RowKit Go.Sort

theorem rcP_len (s : ByteArray) : (rcP s).2.length ≤ s.size := by
  unfold rcP; split
  · show (rcR (ctR 58 s)).length ≤ s.size
    rw [rcR_len]; exact ctR_size 58 s
  · exact Nat.zero_le _
set_option maxHeartbeats 1000000 in
theorem markCopy_any (y : Cp) (base : Nat) (xs : List Value) (k : Int) (w : World) (hown : w.ownsRow base 2 1 (.slice y.A y.rs.length y.c) y.rs.length xs) (hn : y.rs.length ≤ 2000000) (h0 : 0 ≤ k) (hk : k ≤ 2000000) :
    Calls Tryd.prog 34 #[y.val, .int .i64 k] w fun e w' => e = .returned (.int .i64 (k + y.rs.length)) ∧ w'.ownsRow base 2 1 (.slice y.A y.rs.length y.c) y.rs.length ((mkI k y.rs.length).flatMap intCells) ∧ (w.alloc (.cells #[.string y.name, .slice y.A y.rs.length y.c] 43)).grownBy w' (Value.slice y.A y.rs.length y.c).ownBlock := by
  have HM := Lib.hid (markInt64S_any y.A y.rs.length y.c base xs k _ (hown.alloc (.cells #[.string y.name, .slice y.A y.rs.length y.c] 43)) hn h0 hk)
  go_enter Tryd.func34, Tryd.ntmps34
  go_wp2_with fail
  refine HM.out.mono ?_
  rintro e w1 ⟨rfl, ho, hg⟩
  have HO := Lib.hid ho
  have HG := Lib.hid hg
  clear ho hg
  go_wp2
  go_ret
  exact ⟨rfl, HO.out, HG.out⟩
set_option maxHeartbeats 1000000 in
theorem heldCopy_any (y : Cp) (lo hi : Nat) (k : Int) (w : World) (hr : RdI w lo hi y.A (mkI k y.rs.length)) (hhi : hi ≤ w.heap.size) (hn : y.rs.length ≤ 2000000) (h0 : 0 ≤ k) (hk : k ≤ 2000000) :
    Calls Tryd.prog 35 #[y.val, .int .i64 k] w fun e w' => e = .returned (.int .i64 (k + y.rs.length)) ∧ Up w w' := by
  have HM := Lib.hid (heldInt64S_any y.A y.rs.length y.c lo hi k _ (hr.up (Up.alloc w (.cells #[.string y.name, .slice y.A y.rs.length y.c] 43)) hhi) hn h0 hk)
  go_enter Tryd.func35, Tryd.ntmps35
  go_wp2_with fail
  refine HM.out.mono ?_
  rintro e w1 ⟨rfl, rfl⟩
  go_wp2
  go_ret
  exact ⟨rfl, Up.alloc _ _⟩
theorem box_new (w : World) (y : Cp) : Box (w.alloc (.cells #[.string y.name, .slice y.A y.rs.length y.c] 43)) w.heap.size (.string y.name) (.slice y.A y.rs.length y.c) := ⟨by go_simp, by go_simp, by go_simp, by go_simp⟩

set_option maxRecDepth 100000 in
set_option maxHeartbeats 4000000 in
theorem fnExactReadCopy_walk (s0 : ByteArray) (w : World) (hs0 : s0.size ≤ maxLen) :
    Calls Tryd.prog 7 #[.string s0] w fun e w' => e = .returned (.bool true) ∧ Up w w' := by
  have hsm0 : s0.size ≤ 9223372036854775807 := by unfold maxLen at hs0; omega
  by_cases hlen0 : 1048576 < (s0.size : Int)
  · go_enter Tryd.func7, Tryd.ntmps7
    go_wp2
    go_ret
    exact ⟨rfl, Up.refl _⟩
  · have hs : s0.size ≤ 1048576 := by omega
    have hpl := rcP_len s0
    have HSP := Lib.hid (specReadCopy_any s0 w hs)
    go_enter Tryd.func7, Tryd.ntmps7
    go_wp2_with fail
    refine HSP.out.mono ?_
    rintro e w1 ⟨y0, rfl, hp0, -, ho0, u1⟩
    have HP0 := Lib.hid hp0
    have hl0 : y0.rs.length ≤ 1048576 := by rw [show y0.rs = (rcP s0).2 from congrArg Prod.snd hp0]; omega
    have ub0 := Up.alloc w1 (.cells #[.string y0.name, .slice y0.A y0.rs.length y0.c] 43)
    have hb0 := box_new w1 y0
    have HIM := Lib.hid (implReadCopy_any s0 (w1.alloc (.cells #[.string y0.name, .slice y0.A y0.rs.length y0.c] 43)) hs)
    clear hp0
    go_wp2_with fail
    refine HIM.out.mono ?_
    rintro e w2 ⟨y1, rfl, hp1, -, ho1, u2⟩
    have HP1 := Lib.hid hp1
    have hl1 : y1.rs.length ≤ 1048576 := by rw [show y1.rs = (rcP s0).2 from congrArg Prod.snd hp1]; omega
    have heq1 : eqC y1 y0 = true := by unfold eqC; rw [hp1, HP0.out]; simp
    have ub1 := Up.alloc w2 (.cells #[.string y1.name, .slice y1.A y1.rs.length y1.c] 43)
    have hb1 := box_new w2 y1
    have u02 := ub0.trans (u2.trans ub1)
    have hB0 := hb0.up (u2.trans ub1)
    have o0 := own_up ho0 u02
    have o1 := own_up ho1 ub1
    have hz2 := u02.size
    have r0 := Rd.own int_len o0
    have r1 := Rd.own int_len o1
    have HQ := eqCopy_any y1 y0 _ _ _ _ _ r1 (Nat.le_refl _) r0 (Nat.le_refl _) (by omega)
    rw [heq1] at HQ
    have HQ1 := Lib.hid HQ
    have HB0 := Lib.hid hB0
    have HB1 := Lib.hid hb1
    clear HQ heq1 hp1 r0 r1 hb0
    obtain ⟨a0, a1, -, -⟩ := hB0
    obtain ⟨c0, c1, -, -⟩ := hb1
    go_wp2_with fail
    refine HQ1.out.mono ?_
    rintro e w3 ⟨rfl, u3⟩
    have U3 := u1.trans (u02.trans u3)
    obtain ⟨d0, d1, -, -⟩ := HB1.out.up u3
    have hw12 := u1.size
    have hw2 := u2.size
    simp at hw2
    have HM := Lib.hid (markCopy_any y1 _ _ 1 w3 (own_up o1 u3) (by omega) (by omega) (by omega))
    clear a0 a1 c0 c1
    go_wp2_with fail
    refine HM.out.mono ?_
    rintro e w4 ⟨rfl, om, hg⟩
    have ub3 := Up.alloc w3 (.cells #[.string y1.name, .slice y1.A y1.rs.length y1.c] 43)
    have hin1 : In (.slice y1.A y1.rs.length y1.c) (w1.heap.size + 1) w2.heap.size := fun b hb => by
      have h := ho1.lt b hb
      simp at h; omega
    have hB4 := ((HB0.out.up u3).up ub3).grown hg (fun e => by have := hin1 _ e.symm; omega)
    have hC4 := ((HB1.out.up u3).up ub3).grown hg (fun e => by have := hin1 _ e.symm; omega)
    have o4 := own_grown (own_up (own_up o0 u3) ub3) hg hin1 (In.own ho0) (.inl (by omega))
    have hz4 := hg.size
    have U4 := (U3.trans ub3).grown hg (fun b hb => by have := hin1 b hb; omega)
    have rk := Rd.own (l := mkI 1 y1.rs.length) int_len (by rw [mkI_len]; exact om)
    have HB4 := Lib.hid hB4
    have HC4 := Lib.hid hC4
    have O4 := Lib.hid o4
    have RK := Lib.hid rk
    obtain ⟨e0, e1, -, -⟩ := hC4
    have HH := Lib.hid (heldCopy_any y1 _ _ 1 w4 rk (Nat.le_refl _) (by omega) (by omega) (by omega))
    have HIM2 := Lib.hid (fun (w5 : World) => implReadCopy_any s0 w5 hs)
    clear om hg hB4 o4 rk d0 d1 o0 o1 ho0 ho1 hz4 hin1
    go_wp2_with fail
    refine HH.out.mono ?_
    rintro e w5 ⟨rfl, u5⟩
    go_wp2_with fail
    refine (HIM2.out w5).mono ?_
    rintro e w6 ⟨y2, rfl, hp2, -, ho2, u6⟩
    have ub6 := Up.alloc w6 (.cells #[.string y2.name, .slice y2.A y2.rs.length y2.c] 43)
    have hl2 : y2.rs.length ≤ 1048576 := by rw [show y2.rs = (rcP s0).2 from congrArg Prod.snd hp2]; omega
    have heq2 : eqC y2 y0 = true := by unfold eqC; rw [hp2, HP0.out]; simp
    have hb2 := box_new w6 y2
    have u46 := u5.trans (u6.trans ub6)
    have o2 := own_up ho2 ub6
    have r2 := Rd.own int_len o2
    have r0 := Rd.own int_len (own_up O4.out u46)
    have HQ := eqCopy_any y2 y0 _ _ _ _ _ r2 (Nat.le_refl _) r0 (Nat.le_refl _) (by omega)
    rw [heq2] at HQ
    have HQ2 := Lib.hid HQ
    obtain ⟨k0, k1, -, -⟩ := HB4.out.up u46
    obtain ⟨m0, m1, -, -⟩ := hb2
    clear HQ heq2 hp2 r0 r2 e0 e1 ho2 o2
    go_wp2_with fail
    refine HQ2.out.mono ?_
    rintro e w7 ⟨rfl, u7⟩
    have u47 := u46.trans u7
    obtain ⟨x0, x1, -, -⟩ := HC4.out.up u47
    have HH2 := Lib.hid (heldCopy_any y1 _ _ 1 w7 (RK.out.up u47 (Nat.le_refl _)) u47.size (by omega) (by omega) (by omega))
    clear k0 k1 m0 m1
    go_wp2_with fail
    refine HH2.out.mono ?_
    rintro e w8 ⟨rfl, u8⟩
    go_wp2
    go_ret
    exact ⟨rfl, U4.trans (u47.trans u8)⟩
end Go.Proofs.YtdjhenjgccenhaaDoor
