/- StemmaText: the program's walk. -/
import Derived.Test.YtncmenfdnpmblaaDoorStext
import Derived.Test.YtncmenfdnpmblaaDoorShelf
namespace Go.Proofs.YtncmenfdnpmblaaDoor
open Go.RowKit Go.Sort

theorem cell_two_new (w : World) (o : Obj) (u : Value) (e : TypeId) : ∀ j v, [u][j]? = some v → ((w.alloc o).alloc (.cells #[u] e)).cell? (Addr.add ⟨w.heap.size + 1, 0, none⟩ j) = some v := by
  have h : w.heap.size + 1 = (w.alloc o).heap.size := by simp
  rw [h]; exact cell_one_new _ _ _
set_option maxRecDepth 100000 in
set_option maxHeartbeats 4000000 in
theorem implText_any (A : Option Addr) (l : List Cp) (c : Nat) (B : Option Addr) (ps : List Int) (cb lo hi lo' hi' : Nat) (w : World) (hr : RdC w lo hi A l) (hhi : hi ≤ w.heap.size) (hf : Fit l c) (hr' : RdI w lo' hi' B ps) (hhi' : hi' ≤ w.heap.size) (hn' : ps.length ≤ 2000000) :
    Calls Tryd.prog 25 #[.slice A l.length c, .slice B ps.length cb] w fun e w' => e = .returned (.tuple #[.string (sxV (l.map Cp.p) ps), .int .i64 (sxC (l.map Cp.p) ps)]) ∧ Up w w' := by
  obtain ⟨i0, hi0, hz0, hz1, hz2⟩ := info_parts infoString
  have HS := Lib.hid (implIsStemma_any A l c B ps cb lo hi lo' hi' w hr hhi hf hr' hhi' hn')
  clear hf
  rcases h1 : isB (l.map Cp.p) ps with _ | _
  · have HE := Lib.hid (sx_1 h1)
    go_enter Tryd.func25, Tryd.ntmps25
    go_wp2_with fail
    refine HS.out.mono ?_
    rintro e w1 ⟨rfl, hup⟩
    go_wp2
    go_ret2
    exact ⟨ret_si HE.out.2.symm HE.out.1.symm, hup⟩
  · obtain ⟨hA, hlen, hpar, -⟩ := is_inv h1
    have hll : l.length ≤ ps.length ∧ ps.length ≤ l.length := by simp at hlen; omega
    have hl8 : l.length ≤ 8 := by unfold arB at hA; simp only [Bool.and_eq_true, decide_eq_true_eq, List.length_map] at hA; exact hA.2
    have HA := Lib.hid hA
    have HP := Lib.hid hpar
    have HI := Lib.hid h1
    clear hlen hpar hA
    by_cases h0 : 0 < l.length
    case neg =>
      have hl0 : ((l.length : Int) == 0) = true := by rw [beq_iff_eq]; omega
      have HE := Lib.hid (sx_0 h1 (by rw [List.length_map]; omega))
      go_enter Tryd.func25, Tryd.ntmps25
      go_wp2_with fail
      refine HS.out.mono ?_
      rintro e w1 ⟨rfl, hup⟩
      go_wp2
      go_ret2
      exact ⟨ret_si HE.out.2.symm HE.out.1.symm, hup⟩
    have hl0 : ((l.length : Int) == 0) = false := by rw [beq_eq_false_iff_ne]; omega
    go_enter Tryd.func25, Tryd.ntmps25
    go_wp2_with fail
    refine HS.out.mono ?_
    rintro e w1 ⟨rfl, hup⟩
    go_wp2
    clear h1
    have hown0 := World.ownsRow_lit (base := w1.heap.size) (e := 9) (size := 1) w1 #[] 0 (Nat.le_refl _) (by simp [maxLen]) rfl
    have hup0 := (Up.refl w1).allocs (.cells #[] 9)
    generalize w1.alloc (.cells #[] 9) = w2 at *
    go_loopw [6, 7, 8, 9, 20] (fun o _ _ _ i wr => ∃ (k C cc : Nat), k ≤ l.length ∧ i = .int .i64 k ∧ o = .slice (some ⟨C, 0, none⟩) k cc ∧ wr.ownsRow w1.heap.size 9 1 (.slice (some ⟨C, 0, none⟩) k cc) k ((wdL (l.map Cp.p) ps k).flatMap strC) ∧ Up w1 wr) (fun _ _ _ _ i _ => l.length - (intOf i).toNat)
    case atStart => exact ⟨0, w1.heap.size, 0, Nat.zero_le _, rfl, rfl, hown0, hup0⟩
    case round =>
      obtain ⟨k, C, cc, hk, rfl, rfl, hown, hupr⟩ := hrel
      have hupx := hup.trans hupr
      by_cases hlt : k < l.length
      · have hkp : k < ps.length := by omega
        obtain ⟨b, off, x, rfl, -, -, hx, y0⟩ := (hr'.up hupx hhi').int hkp
        have hxr := parB_at HP.out hx
        have HX := Lib.hid (upS_of hx)
        obtain ⟨b2, off2, y, rfl, -, -, hy, iy, q0, q1⟩ := (hr.up hupx hhi).at_ hlt
        have HNM := Lib.hid (nmT_of (getp hy))
        have hua := Up.alloc wr (.cells #[.string y.name, .slice y.A y.rs.length y.c] 49)
        have y1 := hua.cell y0
        have hnl := nmT_le HA.out k
        have hyl : y.name.size ≤ 12 := by have h := HNM.out; simp only [Cp.p] at h; rw [← h]; exact hnl
        have hyl2 : (y.name ++ ⟨#[60]⟩).size ≤ 13 := by rw [ByteArray.size_append]; have : (⟨#[60]⟩ : ByteArray).size = 1 := rfl; omega
        have n1 : k + 1 ≤ maxLen := by unfold maxLen; omega
        have n2 : (k + 1) * 16 ≤ 140737488355328 := by omega
        clear hx hy iy
        by_cases hx0 : x = -1
        · subst hx0
          have HW := Lib.hid (show (y.name ++ ⟨#[60]⟩) ++ ⟨#[42]⟩ = wdT (l.map Cp.p) ps k by unfold wdT; rw [frT_o HX.out, HNM.out]; rfl)
          have n3 : w1.heap.size ≤ ((wr.alloc (.cells #[.string y.name, .slice y.A y.rs.length y.c] 49)).alloc (.cells #[.string ((y.name ++ ⟨#[60]⟩) ++ ⟨#[42]⟩)] 9)).heap.size := ((hupr.trans hua).allocs _).size
          go_wp2_with ((at_builtin; refine wpList_append_own _ rfl _ _ 77 rfl w1.heap.size 9 i0 _ 1 16 Tryd.underlying77 hi0 hz0 hz1 hz2 rfl (by decide) _ _ _ rfl ((own_up hown hua).alloc _) ⟨wr.heap.size + 1, 0, none⟩ 1 1 [.string ((y.name ++ ⟨#[60]⟩) ++ ⟨#[42]⟩)] rfl rfl (cell_two_new _ _ _ _) (by simp [Value.oneCell']) n1 n2 n3 ?_))
          intro v' w4 hown' hgrow _
          rw [HW.out] at hown'
          have ho := wdL_step hown'
          have hu := ((hupr.trans hua).allocs (.cells #[.string ((y.name ++ ⟨#[60]⟩) ++ ⟨#[42]⟩)] 9)).grown hgrow (fun k hk => (hown.lt k hk).1)
          obtain ⟨C2', cc2, rfl, -, -, hC2, -⟩ := own_form ho
          obtain ⟨C2, rfl, -, -⟩ := hC2 (Nat.succ_pos _)
          clear hown' hgrow
          go_wp2
          go_roundw
          case rel => exact ⟨k + 1, C2, cc2, by omega, by go_num, rfl, ho, hu⟩
          case measure => simp [intOf]; omega
        · obtain ⟨j, rfl⟩ : ∃ j : Nat, x = (j : Int) := ⟨x.toNat, by omega⟩
          have hx0' : ((j : Int) != -1) = true := by simp
          have hjl : j < l.length := by omega
          obtain ⟨b3, off3, z, he, -, -, hz, -, t0, -⟩ := (hr.up hupx hhi).at_ hjl
          cases he
          have hzl : z.name.size ≤ 12 := by have h := nmT_le HA.out j; rw [nmT_of (getp hz)] at h; exact h
          have t1 := hua.cell t0
          clear hx0
          have HW := Lib.hid (show (y.name ++ ⟨#[60]⟩) ++ z.name = wdT (l.map Cp.p) ps k by unfold wdT; rw [frT_c HX.out (getp hz), HNM.out]; rfl)
          clear hz
          have n3 : w1.heap.size ≤ ((wr.alloc (.cells #[.string y.name, .slice y.A y.rs.length y.c] 49)).alloc (.cells #[.string ((y.name ++ ⟨#[60]⟩) ++ z.name)] 9)).heap.size := ((hupr.trans hua).allocs _).size
          go_wp2_with ((at_builtin; refine wpList_append_own _ rfl _ _ 77 rfl w1.heap.size 9 i0 _ 1 16 Tryd.underlying77 hi0 hz0 hz1 hz2 rfl (by decide) _ _ _ rfl ((own_up hown hua).alloc _) ⟨wr.heap.size + 1, 0, none⟩ 1 1 [.string ((y.name ++ ⟨#[60]⟩) ++ z.name)] rfl rfl (cell_two_new _ _ _ _) (by simp [Value.oneCell']) n1 n2 n3 ?_))
          intro v' w4 hown' hgrow _
          rw [HW.out] at hown'
          have ho := wdL_step hown'
          have hu := ((hupr.trans hua).allocs (.cells #[.string ((y.name ++ ⟨#[60]⟩) ++ z.name)] 9)).grown hgrow (fun k hk => (hown.lt k hk).1)
          obtain ⟨C2', cc2, rfl, -, -, hC2, -⟩ := own_form ho
          obtain ⟨C2, rfl, -, -⟩ := hC2 (Nat.succ_pos _)
          clear hown' hgrow
          go_wp2
          go_roundw
          case rel => exact ⟨k + 1, C2, cc2, by omega, by go_num, rfl, ho, hu⟩
          case measure => simp [intOf]; omega
      · have HK := Lib.hid (show k = l.length by omega)
        have HE := Lib.hid (sx_2 (n := k) HI.out (by rw [List.length_map]; exact HK.out.symm) (by omega))
        have hwl := wdL_len (l.map Cp.p) ps k
        have hown2 : wr.ownsRow w1.heap.size 9 1 (.slice (some ⟨C, 0, none⟩) (wdL (l.map Cp.p) ps k).length cc) (wdL (l.map Cp.p) ps k).length ((wdL (l.map Cp.p) ps k).flatMap strC) := by rw [hwl]; exact hown
        have hrd := Rd.own strC_len hown2
        have hsz := jn_size (sep := ⟨#[32]⟩) (by decide) (wdL_le HA.out ps k) k (by omega)
        obtain ⟨A9, c9, hv9, hc9, -, hA9, -⟩ := own_form hown
        cases hv9
        obtain ⟨g9, he9, -, hg9⟩ := hA9 (by omega)
        cases he9
        have hj := Tryd.strings_Join C 0 cc (wdL (l.map Cp.p) ps k) ⟨#[32]⟩ wr (fun j x hx => by
            obtain ⟨b7, o7, z7, e7, -, -, hz7, hc7⟩ := hrd.txt (List.getElem?_eq_some_iff.1 hx).1
            cases e7
            rw [hx] at hz7; cases hz7
            exact hc7) hg9 (by omega) (by rw [hwl]; exact hc9) (by
              have e : (jnB (wdL (l.map Cp.p) ps k) ⟨#[32]⟩ k).size = (Lib.join ((wdL (l.map Cp.p) ps k).map (·.data.toList)) (⟨#[32]⟩ : ByteArray).data.toList).length := by
                unfold jnB; rw [List.take_of_length_le (by omega)]; simp [ByteArray.size]
              rw [← e]; omega)
        rw [hwl, show (⟨(Lib.join ((wdL (l.map Cp.p) ps k).map (·.data.toList)) (⟨#[32]⟩ : ByteArray).data.toList).toArray⟩ : ByteArray) = jnB (wdL (l.map Cp.p) ps k) ⟨#[32]⟩ k by unfold jnB; rw [List.take_of_length_le (by omega)]] at hj
        have HJ := Lib.hid hj
        clear hwl hown2 hrd hj hA9
        go_wp2_with fail
        refine HJ.out.mono ?_
        rintro e w5 ⟨rfl, hup5⟩
        go_wp2
        go_ret2
        exact ⟨ret_si HE.out.2.symm HE.out.1.symm, hupx.trans hup5⟩
end Go.Proofs.YtncmenfdnpmblaaDoor
