/- The program's search for ancestors, and its IsStemma. -/
import Derived.Test.YtncmenfdnpmblaaDoorIsStem
import Derived.Test.YtncmenfdnpmblaaDoorOrig
namespace Go.Proofs.YtncmenfdnpmblaaDoor
open Go.RowKit Go.Sort

set_option maxRecDepth 100000 in
set_option maxHeartbeats 1000000 in
theorem indexI_any (A : Option Addr) (l : List Int) (c lo hi : Nat) (z : Int) (w : World) (hr : RdI w lo hi A l) (hn : l.length ≤ 2000000) :
    Calls Tryd.prog 82 #[.slice A l.length c, .int .i64 z] w fun e w' => e = .returned (.int .i64 (idxFI l (fun x => z == x))) ∧ w = w' := by
  go_enter Tryd.func82, Tryd.ntmps82
  go_wp2
  go_loop [5, 8] (fun u5 i => ∃ k : Nat, k ≤ l.length ∧ i = .int .i64 k ∧ (∀ j x, j < k → l[j]? = some x → (z == x) = false)) (fun _ i => l.length - (intOf i).toNat)
  case atStart => exact ⟨0, Nat.zero_le _, rfl, fun j x h => absurd h (by omega)⟩
  case round =>
    obtain ⟨k, hk, rfl, ha⟩ := hrel
    have HA := Lib.hid ha
    clear ha
    by_cases hlt : k < l.length
    · obtain ⟨b, off, d, rfl, -, -, hd, q0⟩ := hr.int hlt
      have HD := Lib.hid hd
      clear hd
      rcases hp : z == d with _ | _
      · have HP := Lib.hid hp
        go_wp2
        go_round
        case rel => exact ⟨k + 1, by omega, by go_num, fun j x hj hx => by
          rcases Nat.lt_or_ge j k with h | h
          · exact HA.out j x h hx
          · obtain rfl : j = k := by omega
            rw [HD.out] at hx; cases hx; exact HP.out⟩
        case measure => simp [intOf]; omega
      · have HP := Lib.hid hp
        go_wp2
        go_ret
        exact ⟨ret_int (idxFI_yes HD.out HP.out (fun j x hj hx => HA.out j x hj hx)).symm, rfl⟩
    · go_wp2
      go_ret
      exact ⟨ret_int (idxFI_no (fun j x hj hx => HA.out j x (by omega) hx)).symm, rfl⟩
set_option maxHeartbeats 400000 in
theorem containsI_any (A : Option Addr) (l : List Int) (c lo hi : Nat) (z : Int) (w : World) (hr : RdI w lo hi A l) (hn : l.length ≤ 2000000) :
    Calls Tryd.prog 46 #[.slice A l.length c, .int .i64 z] w fun e w' => e = .returned (.bool (l.contains z)) ∧ w = w' := by
  have H := Lib.hid (indexI_any A l c lo hi z w hr hn)
  go_enter Tryd.func46, Tryd.ntmps46
  go_wp2_with (go_at_call 82; refine H.out.mono ?_; rintro e w' ⟨rfl, rfl⟩)
  go_ret
  exact ⟨ret_bool (by rw [List.contains_eq_any_beq]; exact idxFI_any l _), rfl⟩

theorem ret_vb {v : Value} {a b : Bool} (h : a = b) : Ending.returned (.tuple #[v, .bool a]) = .returned (.tuple #[v, .bool b]) := by rw [h]
/-- a slice value's length -/
def lenV : Value → Nat | .slice _ n _ => n | _ => 0
/-- if b then v is no nil slice -/
def NoNil (b : Bool) (v : Value) : Prop := b = true → ∃ g n c, v = .slice (some ⟨g, 0, none⟩) n c
set_option maxRecDepth 100000 in
set_option maxHeartbeats 4000000 in
theorem ancestorsOf_any (B : Option Addr) (ps : List Int) (cb lo' hi' i : Nat) (w : World) (hr' : RdI w lo' hi' B ps) (hhi' : hi' ≤ w.heap.size) (hn' : ps.length ≤ 2000000) (hp : parB ps ps.length = true) (hi : i < ps.length) :
    Calls Tryd.prog 45 #[.slice B ps.length cb, .int .i64 (i : Int)] w fun e w' => ∃ v, e = .returned (.tuple #[v, .bool (lnB ps (i : Int))]) ∧ w'.ownsRow w.heap.size 2 1 v (lnL ps (i : Int)).length ((lnL ps (i : Int)).flatMap intCells) ∧ NoNil (lnB ps (i : Int)) v ∧ Up w w' := by
  obtain ⟨i0, hi0, hz0, hz1, hz2⟩ := info_parts infoInt
  have HP := Lib.hid hp
  clear hp
  obtain ⟨b, off, x, hB, -, -, hx, y0⟩ := hr'.int hi
  have HX := Lib.hid (upS_of hx)
  clear hx
  subst hB
  have y1 := (Up.alloc w (.cells #[] 2)).cell y0
  go_enter Tryd.func45, Tryd.ntmps45
  go_wp2
  have hown0 := World.ownsRow_lit (base := w.heap.size) (e := 2) (size := 1) w #[] 0 (Nat.le_refl _) (by simp [maxLen]) rfl
  have hup0 := (Up.refl w).allocs (.cells #[] 2)
  generalize w.alloc (.cells #[] 2) = w2 at *
  clear y0 y1
  go_loopw [6, 7] (fun o a wr => ∃ (out : List Int) (z : Int) (C cc : Nat), o = .slice (some ⟨C, 0, none⟩) out.length cc ∧ a = .int .i64 z ∧ Line ps i out z ∧ wr.ownsRow w.heap.size 2 1 (.slice (some ⟨C, 0, none⟩) out.length cc) out.length (out.flatMap intCells) ∧ Up w wr) (fun o _ _ => ps.length - lenV o)
  case atStart => exact ⟨[], x, w.heap.size, 0, rfl, rfl, by rw [← HX.out]; exact Line.start HP.out (by omega) (by omega), hown0, hup0⟩
  case round =>
    obtain ⟨out, z, C, cc, rfl, rfl, hln, hown, hup⟩ := hrel
    have HLN := Lib.hid hln
    have hol := hln.len
    have hzr := hln.cur
    clear hln
    by_cases hz : z = -1
    · subst hz
      have HD1 := Lib.hid HLN.out.done.1
      have HD2 := Lib.hid HLN.out.done.2
      go_wp2
      go_ret2
      exact ⟨_, ret_vb HD1.out.symm, by rw [ln_yes HD1.out, HD2.out]; exact hown, fun _ => ⟨_, _, _, rfl⟩, hup⟩
    · have hz' : (z != -1) = true := by simpa using hz
      have HZ := Lib.hid hz
      have hzn : 0 ≤ z := by omega
      clear hz
      by_cases hzi : z = i
      · have HR := Lib.hid (HLN.out.ring (.inl hzi) (ps.length + 1))
        have hzb : (z == (i : Int)) = true := by simpa using hzi
        clear hzi
        go_wp2
        go_ret2
        exact ⟨_, ret_vb HR.out.symm, by rw [ln_no HR.out]; exact World.ownsRow_nil _ _ _ _, fun h => (by rw [show lnB ps (i : Int) = false from HR.out] at h; cases h), hup⟩
      · have hzb : (z == (i : Int)) = false := by simpa using hzi
        have HZI := Lib.hid hzi
        clear hzi
        have hc0 := containsI_any (some ⟨C, 0, none⟩) out cc w.heap.size wr.heap.size z wr (Rd.own int_len hown) (by omega)
        obtain ⟨bb, hbb⟩ : ∃ bb, bb = out.contains z := ⟨_, rfl⟩
        rw [← hbb] at hc0
        have HC := Lib.hid hc0
        have HBB := Lib.hid hbb
        clear hc0 hbb
        cases bb
        · have HCC := Lib.hid HBB.out.symm
          go_wp2_with fail
          refine HC.out.mono ?_
          rintro e w3 ⟨rfl, rfl⟩
          obtain ⟨y, rfl⟩ : ∃ y : Nat, z = (y : Int) := ⟨z.toNat, by omega⟩
          have hy : y < ps.length := by omega
          have n1 : out.length + 1 ≤ maxLen := by unfold maxLen; omega
          have n2 : (out.length + 1) * 8 ≤ 140737488355328 := by omega
          have n3 : w.heap.size ≤ (wr.alloc (.cells #[.int .i64 (y : Int)] 2)).heap.size := (hup.allocs _).size
          go_wp2_with ((at_builtin; refine wpList_append_own _ rfl _ _ 25 rfl w.heap.size 2 i0 _ 1 8 Tryd.underlying25 hi0 hz0 hz1 hz2 rfl (by decide) _ _ _ rfl (hown.alloc _) ⟨wr.heap.size, 0, none⟩ 1 1 [.int .i64 (y : Int)] rfl rfl (cell_one_new _ _ _) (by simp [Value.oneCell']) n1 n2 n3 ?_))
          intro v' w4 hown' hgrow _
          have hu := (hup.allocs (.cells #[.int .i64 (y : Int)] 2)).grown hgrow (fun k hk => (hown.lt k hk).1)
          obtain ⟨C2', cc2, rfl, -, -, hC2, -⟩ := own_form hown'
          obtain ⟨C2, rfl, -, -⟩ := hC2 (Nat.succ_pos _)
          have ho : w4.ownsRow w.heap.size 2 1 (.slice (some ⟨C2, 0, none⟩) (out ++ [(y : Int)]).length cc2) (out ++ [(y : Int)]).length ((out ++ [(y : Int)]).flatMap intCells) := by
            rw [List.length_append, List.flatMap_append]; exact hown'
          clear hown' hgrow
          obtain ⟨b5, off5, x5, he5, -, -, hx5, y5⟩ := (hr'.up hu hhi').int hy
          cases he5
          have HX5 := Lib.hid (upS_of hx5)
          clear hx5
          go_wp2
          go_roundw
          case rel => exact ⟨out ++ [(y : Int)], x5, C2, cc2, by simp, rfl, by rw [← HX5.out]; exact HLN.out.step HP.out HZ.out HZI.out HCC.out, ho, hu⟩
          case measure => simp [lenV]; omega
        · have HR := Lib.hid (HLN.out.ring (.inr (by simpa using HBB.out.symm)) (ps.length + 1))
          go_wp2_with fail
          refine HC.out.mono ?_
          rintro e w3 ⟨rfl, rfl⟩
          go_wp2
          go_ret2
          exact ⟨_, ret_vb HR.out.symm, by rw [ln_no HR.out]; exact World.ownsRow_nil _ _ _ _, fun h => (by rw [show lnB ps (i : Int) = false from HR.out] at h; cases h), hup⟩

theorem stemClosure_any (n : Int) (vb : Nat) (z : Int) (w : World) (hc : w.cell? ⟨vb, 0, none⟩ = some (.int .i64 n)) :
    Calls Tryd.prog 64 #[.int .i64 z, .pointer (some ⟨vb, 0, none⟩)] w fun e w' => e = .returned (.bool (!inB z (-1) n)) ∧ Up w w' := by
  go_enter Tryd.func64, Tryd.ntmps64
  go_wp2_with (go_at_call 65; refine (within_any _ _ _ _).mono ?_; rintro e w' ⟨rfl, rfl⟩)
  go_ret
  exact ⟨rfl, Up.refl _⟩

set_option maxRecDepth 100000 in
set_option maxHeartbeats 4000000 in
theorem implIsStemma_any (A : Option Addr) (l : List Cp) (c : Nat) (B : Option Addr) (ps : List Int) (cb lo hi lo' hi' : Nat) (w : World) (hr : RdC w lo hi A l) (hhi : hi ≤ w.heap.size) (hf : Fit l c) (hr' : RdI w lo' hi' B ps) (hhi' : hi' ≤ w.heap.size) (hn' : ps.length ≤ 2000000) :
    Calls Tryd.prog 27 #[.slice A l.length c, .slice B ps.length cb] w fun e w' => e = .returned (.bool (isB (l.map Cp.p) ps)) ∧ Up w w' := by
  have HA := Lib.hid (implAre A l c lo hi w hr hhi hf)
  have hn := hf.2.2.1
  clear hf
  have e0 : (l.map Cp.p).length = l.length := by simp
  have E0 := Lib.hid e0
  clear e0
  rcases h1 : arB (l.map Cp.p) with _ | _
  · have H1 := Lib.hid h1
    go_enter Tryd.func27, Tryd.ntmps27
    go_wp2_with (go_at_call 40; refine HA.out.mono ?_; rintro e w1 ⟨rfl, hup⟩)
    go_ret
    exact ⟨ret_bool (is_1 H1.out).symm, by assumption⟩
  · have H1 := Lib.hid h1
    by_cases hl : ps.length = l.length
    · have hl' : ((ps.length : Int) != (l.length : Int)) = false := by simp [hl]
      have HL := Lib.hid hl
      clear hl
      go_enter Tryd.func27, Tryd.ntmps27
      go_wp2_with fail
      refine HA.out.mono ?_
      rintro e w1 ⟨rfl, hup⟩
      clear h1
      have hua := Up.alloc w1 (.cells #[.int .i64 ((l.length : Int) - 1)] 2)
      have x0 : (w1.alloc (.cells #[.int .i64 ((l.length : Int) - 1)] 2)).cell? ⟨w1.heap.size, 0, none⟩ = some (.int .i64 ((l.length : Int) - 1)) := by simp
      have hu1 := hup.trans hua
      have CI := containsFuncI_any B ps cb lo' hi' 64 #[.pointer (some ⟨w1.heap.size, 0, none⟩)] (fun z => !inB z (-1) ((l.length : Int) - 1)) _ (hr'.up hu1 hhi') (Nat.le_trans hhi' hu1.size) hn' (fun _ _ => by kernel_rfl)
        (fun z _ w2 hw2 => stemClosure_any _ w1.heap.size z w2 (hw2.cell x0))
      have HC := Lib.hid CI
      clear CI x0
      go_wp2_with fail
      refine HC.out.mono ?_
      rintro e w2 ⟨rfl, hup2⟩
      have hu2 := hu1.trans hup2
      rcases h2 : ps.any (fun z => !inB z (-1) ((l.length : Int) - 1)) with _ | _
      · have HPB : parB ps l.length = true := by
          rw [show parB ps l.length = ps.all fun z => inB z (-1) ((l.length : Int) - 1) from rfl, List.all_eq_not_any_not, h2]; rfl
        have HP := Lib.hid HPB
        have HPP := Lib.hid (show parB ps ps.length = true by rw [HL.out]; exact HP.out)
        clear HPB
        go_wp2
        clear h2
        go_loopw [6, 7, 8, 27] (fun _ _ _ i wr => ∃ k : Nat, k ≤ ps.length ∧ i = .int .i64 k ∧ (∀ q : Nat, q < k → lnB ps (q : Int) = true) ∧ Up w2 wr) (fun _ _ _ i _ => ps.length - (intOf i).toNat)
        case atStart => exact ⟨0, Nat.zero_le _, rfl, fun q h => absurd h (by omega), Up.refl _⟩
        case round =>
          obtain ⟨k, hk, rfl, hq, hupr⟩ := hrel
          have HQ := Lib.hid hq
          clear hq
          by_cases hlt : k < ps.length
          · have HAN := Lib.hid (ancestorsOf_any B ps cb lo' hi' k wr (hr'.up (hu2.trans hupr) hhi') (Nat.le_trans hhi' (hu2.trans hupr).size) hn' HPP.out hlt)
            rcases hln : lnB ps (k : Int) with _ | _
            · have HLN := Lib.hid hln
              go_wp2_with fail
              refine HAN.out.mono ?_
              rintro e w3 ⟨v, rfl, -, -, hup3⟩
              go_wp2
              go_ret
              exact ⟨ret_bool (is_4 (stB_no hlt HLN.out)).symm, hu2.trans (hupr.trans hup3)⟩
            · have HLN := Lib.hid hln
              go_wp2_with fail
              refine HAN.out.mono ?_
              rintro e w3 ⟨v, rfl, -, -, hup3⟩
              go_wp2
              go_roundw
              case rel => exact ⟨k + 1, by omega, by go_num, fun q hq => by
                rcases Nat.lt_or_ge q k with h | h
                · exact HQ.out q h
                · obtain rfl : q = k := by omega
                  exact HLN.out, hupr.trans hup3⟩
              case measure => simp [intOf]; omega
          · have HS := Lib.hid (stB_yes (ps := ps) (fun q hq => HQ.out q (by omega)))
            go_wp2
            go_ret
            exact ⟨ret_bool (is_0 H1.out (by rw [E0.out]; exact HL.out) (by rw [E0.out]; exact HP.out) HS.out).symm, hu2.trans hupr⟩
      · have HPB : parB ps l.length = false := by
          rw [show parB ps l.length = ps.all fun z => inB z (-1) ((l.length : Int) - 1) from rfl, List.all_eq_not_any_not, h2]; rfl
        have HP := Lib.hid HPB
        clear HPB
        go_wp2
        go_ret
        exact ⟨ret_bool (is_3 (by rw [E0.out]; exact HP.out)).symm, hu2⟩
    · have hl' : ((ps.length : Int) != (l.length : Int)) = true := by rw [bne_iff_ne]; omega
      have HL := Lib.hid hl
      clear hl
      go_enter Tryd.func27, Tryd.ntmps27
      go_wp2_with (go_at_call 40; refine HA.out.mono ?_; rintro e w1 ⟨rfl, hup⟩)
      go_ret
      exact ⟨ret_bool (is_2 (by rw [E0.out]; exact HL.out)).symm, by assumption⟩
end Go.Proofs.YtncmenfdnpmblaaDoor
