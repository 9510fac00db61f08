/- The walk of the law FnExactIsCommand. -/
import Derived.Test.YtehoaoeahfmfpaaDoorCmdS
import Derived.Test.YtehoaoeahfmfpaaDoorCmdJ
import Derived.Test.YtehoaoeahfmfpaaDoorFuncsT
namespace Go.Proofs.YtehoaoeahfmfpaaDoor
open Go.RowKit Go.Sort

theorem shC_size (c : Nat) : ∀ d ∈ shC c, d.size ≤ 10 := by
  unfold shC; split <;> decide
theorem shC_len (c : Nat) : (shC c).length ≤ 2 := by
  unfold shC; split <;> decide
theorem entC : EntersT 10 := fun _ _ => rfl
set_option maxRecDepth 100000 in
set_option maxHeartbeats 2000000 in
theorem implCmd_any (s : ByteArray) (w : World) (hs : s.size ≤ 2000000) (he : EnvP w) :
    Calls Tryd.prog 5 #[.string s] w fun e w' => e = .returned (.bool (prB (spL 32 s))) ∧ Up w w' := by
  have HSP := Lib.hid (split_any s 32 w (by omega) he)
  have hlen := spL_len 32 s
  have hpos := spL_pos 32 s
  have HSZ := Lib.hid (show ∀ x ∈ spL 32 s, x.size ≤ 2000000 from fun x hx => Nat.le_trans (spL_sizeW hx) hs)
  have HPB := Lib.hid (sp_any (spL 32 s) (List.ne_nil_of_length_pos hpos))
  have HE := Lib.hid he
  clear he
  generalize spL 32 s = ws at *
  go_enter Tryd.func5, Tryd.ntmps5
  go_wp2_with fail
  refine HSP.out.mono ?_
  rintro e w1 ⟨rfl, own, ua⟩
  have HR := Lib.hid (Rd.own strC_len own)
  have hwlt : w.heap.size < w1.heap.size := by
    obtain ⟨A1, c1, e1, -, -, hA1, -⟩ := own_form own
    cases e1
    obtain ⟨g1, e2, -, hg1⟩ := hA1 (by omega)
    cases e2; exact hg1
  clear own HSP
  obtain ⟨b0, o0, x0, e0, -, -, hx0, q0⟩ := HR.out.txt (k := 0) (by omega)
  cases e0
  have vb := (Up.refl w1).allocs (.cells #[.slice (some ⟨w.heap.size, 0, none⟩) ws.length ws.length] 23)
  have q1 := vb.cell q0
  have qg : (w1.alloc (.cells #[.slice (some ⟨w.heap.size, 0, none⟩) ws.length ws.length] 23)).cell? ⟨w1.heap.size, 0, none⟩ = some (.slice (some ⟨w.heap.size, 0, none⟩) ws.length ws.length) := cell_one_new _ _ _ 0 _ rfl
  have HPP := Lib.hid (show prB ws = (shC (clW x0)).any (fun s => fitB s (ws.drop 1)) by
    rw [HPB.out]
    obtain ⟨y, r, rfl⟩ := List.exists_cons_of_ne_nil (List.ne_nil_of_length_pos hpos)
    simp at hx0; subst hx0; rfl)
  clear hx0 HPB q0
  simp only [Nat.add_zero] at q1
  go_wp2_with fail
  refine (shapesOf_any x0 _).mono ?_
  rintro e w2 ⟨A, c, rfl, hsh, vc⟩
  have V2 := vb.trans vc
  have qg2 := vc.cell qg
  have HR2 := Lib.hid (HR.out.up V2 (Nat.le_refl _))
  have HE2 := Lib.hid ((HE.out.up ua).up V2)
  have hlt2 : w1.heap.size + 1 ≤ w2.heap.size := by have := vc.size; simpa using this
  have HCF := Lib.hid (containsFuncT_any A (shC (clW x0)) c _ w2.heap.size 10 #[.pointer (some ⟨w1.heap.size, 0, none⟩)] (fun d => fitB d (ws.drop 1)) w2 hsh (Nat.le_refl _) (by have := shC_len (clW x0); omega) entC
    (fun d hd w3 hu => fitC_any w1.heap.size w.heap.size ws.length ws d w.heap.size w1.heap.size w3 (HR2.out.up hu (by omega)) (by have := hu.size; omega) hpos (by omega) (Nat.le_refl _) HSZ.out (by have := shC_size (clW x0) d hd; omega) (HE2.out.up hu) (hu.cell qg2)))
  go_wp2_with fail
  refine HCF.out.mono ?_
  rintro e w4 ⟨rfl, vd⟩
  go_wp2
  go_ret
  exact ⟨ret_bool (by rw [HPP.out]; simp), ua.trans (V2.trans vd)⟩

set_option maxRecDepth 100000 in
set_option maxHeartbeats 1000000 in
theorem fnExactIsCommand_walk (s0 : ByteArray) (w : World) (hok0 : s0.size ≤ maxLen) (he : EnvP w) :
    Calls Tryd.prog 3 #[.string s0] w fun e w' => e = .returned (.bool true) ∧ Up w w' := by
  unfold maxLen at hok0
  by_cases hbig : (1048576 : Int) < (s0.size : Int)
  · have hd : decide ((1048576 : Int) < (s0.size : Int)) = true := by simpa using hbig
    go_enter Tryd.func3, Tryd.ntmps3
    go_wp2
    go_ret
    exact ⟨rfl, Up.refl _⟩
  · have hd : decide ((1048576 : Int) < (s0.size : Int)) = false := by simpa using hbig
    have hs : s0.size ≤ 2000000 := by omega
    have HE := Lib.hid he
    have HSP := Lib.hid (specCmd_any s0 w hs)
    have HIM := Lib.hid (fun wx (h : EnvP wx) => implCmd_any s0 wx hs h)
    generalize prB (spL 32 s0) = r at *
    clear he
    go_enter Tryd.func3, Tryd.ntmps3
    go_wp2_with fail
    refine HSP.out.mono ?_
    rintro e w1 ⟨rfl, ua⟩
    go_wp2_with fail
    refine (HIM.out w1 (HE.out.up ua)).mono ?_
    rintro e w2 ⟨rfl, ub⟩
    go_wp2
    all_goals first | (go_ret; exact ⟨rfl, ua.trans ub⟩) | (exfalso; simp_all; done)
end Go.Proofs.YtehoaoeahfmfpaaDoor
