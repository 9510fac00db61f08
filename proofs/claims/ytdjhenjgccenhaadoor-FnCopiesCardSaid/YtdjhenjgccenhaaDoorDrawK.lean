/- Drawn copies with indices. -/
import Derived.Test.YtdjhenjgccenhaaDoorDrawCp
import Derived.Test.YtdjhenjgccenhaaDoorAre
namespace Go.Proofs.YtdjhenjgccenhaaDoor
open Go.RowKit Go.Sort

set_option maxRecDepth 100000 in
set_option maxHeartbeats 2000000 in
theorem l22DrawIndex_any (A : Option Addr) (L0 : List UInt8) (c0 lo g : Nat) (C : Option Addr) (n cc : Nat) (w : World) (hs : Src w g A L0 c0 lo) (hg : g < w.heap.size) (hL : L0.length ≤ 2000000) (hn : n ≤ 100) :
    Calls Tryd.prog 89 #[.pointer (some ⟨g, 0, none⟩), .slice C n cc] w fun e w' => ∃ z : Int, e = .returned (.int .i64 z) ∧ -1 ≤ z ∧ z ≤ 100 ∧ Src w' g A L0 c0 lo ∧ Mk g (g + 1) w w' := by
  go_enter Tryd.func89, Tryd.ntmps89
  go_wp2_with fail
  refine (l01Next_any A L0 c0 lo g 30 w hs hg hL (by omega)).mono ?_
  rintro e w1 ⟨z1, rfl, hz1, S1, m1⟩
  have hg1 := Nat.lt_of_lt_of_le hg m1.size
  clear hz1
  by_cases hzz : z1 = 0
  · have hzb : (z1 == 0) = true := by simpa using hzz
    clear hzz
    have hua := Up.alloc w1 (.cells #[.int .i64 (-1), .int .i64 (n : Int)] 2)
    have own := World.ownsRow_lit (base := w1.heap.size) (e := 2) (size := 1) w1 #[.int .i64 (-1), .int .i64 (n : Int)] 2 (Nat.le_refl _) (by simp [maxLen]) rfl
    have hrd : RdI (w1.alloc (.cells #[.int .i64 (-1), .int .i64 (n : Int)] 2)) w1.heap.size (w1.alloc (.cells #[.int .i64 (-1), .int .i64 (n : Int)] 2)).heap.size (some ⟨w1.heap.size, 0, none⟩) [(-1 : Int), (n : Int)] := Rd.own int_len own
    have HP := Lib.hid (l01Pick_any A L0 c0 lo g (some ⟨w1.heap.size, 0, none⟩) [(-1 : Int), (n : Int)] 2 w1.heap.size _ _ (S1.up hua hg1) (Nat.lt_of_lt_of_le hg1 hua.size) hL hrd (Nat.le_refl _) (.inr hg1) (by simp) (by simp))
    have M1 := m1.trans (Mk.up (b0 := g) (b1 := g + 1) hua)
    clear own hrd S1 m1
    go_wp2_with fail
    refine HP.out.mono ?_
    rintro e w2 ⟨z2, rfl, hz2, S2, m2⟩
    have hzr : -1 ≤ z2 ∧ z2 ≤ 100 := by
      simp at hz2
      rcases hz2 with h | h <;> omega
    have M2 := M1.trans m2
    clear hz2 m2 M1
    go_wp2
    go_ret
    exact ⟨z2, rfl, hzr.1, hzr.2, S2, M2⟩
  · have hzb : (z1 == 0) = false := by simpa using hzz
    clear hzz
    go_wp2_with fail
    refine (l01Next_any A L0 c0 lo g (n : Int) w1 S1 hg1 hL (by omega)).mono ?_
    rintro e w2 ⟨z2, rfl, hz2, S2, m2⟩
    have hzr : -1 ≤ z2 ∧ z2 ≤ 100 := by
      obtain ⟨h0, h⟩ := hz2
      rcases h with h | h <;> omega
    have M2 := m1.trans m2
    clear hz2 m2 m1 S1
    go_wp2
    go_ret
    exact ⟨z2, rfl, hzr.1, hzr.2, S2, M2⟩
/-- what a draw of copies gives -/
def OwnK (w w' : World) (vo : Value) (o : List Int) (vl : Value) (L : List Cp) : Prop := St w' w.heap.size vo o vl L ∧ Fine L ∧ o.length ≤ 20 ∧ L.length ≤ 9
theorem St.base {w : World} {B B' : Nat} {vo vl : Value} {o : List Int} {L : List Cp} (h : St w B vo o vl L) (hb : B' ≤ B) : St w B' vo o vl L :=
  ⟨own_base h.orig hb, own_base h.list hb, fun y hy => own_base (h.each y hy) hb, h.apart, h.far, h.dist⟩

set_option maxRecDepth 100000 in
set_option maxHeartbeats 2000000 in
theorem drawUseless_any (A : Option Addr) (L0 : List UInt8) (c0 lo hi : Nat) (w : World) (hr : RdY w lo hi A L0) (hhi : hi ≤ w.heap.size) (hn : L0.length ≤ 2000000) :
    Calls Tryd.prog 44 #[.slice A L0.length c0] w fun e w' => ∃ (vo : Value) (o : List Int) (vl : Value) (L : List Cp), e = .returned (.tuple #[vo, vl]) ∧ OwnK w w' vo o vl L ∧ Up w w' := by
  go_enter Tryd.func44, Tryd.ntmps44
  go_wp2_with fail
  refine (l01From_any A L0 c0 lo hi w hr hhi hn).mono ?_
  rintro e w1 ⟨rfl, h1, S1, u1⟩
  go_wp2_with fail
  refine (l22Draw_any A L0 c0 lo w.heap.size w1 S1 h1 hn).mono ?_
  rintro e w2 ⟨vo, o, vl, L, rfl, T2, hF, ho, hl, S2, m2⟩
  have H3 := Lib.hid (show OwnK w w2 vo o vl L from ⟨T2.base (by have := u1.size; omega), hF, ho, hl⟩)
  have u3 := u1.mk m2 (Nat.le_refl _)
  clear S1 S2 m2 T2 hF ho hl
  go_wp2
  go_ret2
  exact ⟨_, o, _, L, rfl, H3.out, u3⟩

set_option maxRecDepth 100000 in
set_option maxHeartbeats 2000000 in
theorem drawCommonErrors_any (A : Option Addr) (L0 : List UInt8) (c0 lo hi : Nat) (w : World) (hr : RdY w lo hi A L0) (hhi : hi ≤ w.heap.size) (hn : L0.length ≤ 2000000) :
    Calls Tryd.prog 81 #[.slice A L0.length c0] w fun e w' => ∃ (vo : Value) (o : List Int) (vl : Value) (L : List Cp) (i k : Int), e = .returned (.tuple #[vo, vl, .int .i64 i, .int .i64 k]) ∧ OwnK w w' vo o vl L ∧ (-1 ≤ i ∧ i ≤ 100 ∧ -1 ≤ k ∧ k ≤ 100) ∧ Up w w' := by
  go_enter Tryd.func81, Tryd.ntmps81
  go_wp2_with fail
  refine (l01From_any A L0 c0 lo hi w hr hhi hn).mono ?_
  rintro e w1 ⟨rfl, h1, S1, u1⟩
  go_wp2_with fail
  refine (l22Draw_any A L0 c0 lo w.heap.size w1 S1 h1 hn).mono ?_
  rintro e w2 ⟨vo, o, vl, L, rfl, T2, hF, ho, hl, S2, m2⟩
  have hb1 : w.heap.size < w1.heap.size + 1 := by omega
  have u2 := u1.mk m2 (Nat.le_refl _)
  have h2 := Nat.lt_of_lt_of_le h1 m2.size
  obtain ⟨Cl, cl, rfl, -, -, -⟩ := own_formz T2.list
  clear S1 m2
  go_wp2_with fail
  refine (l22DrawIndex_any A L0 c0 lo w.heap.size Cl L.length cl w2 S2 h2 hn (by omega)).mono ?_
  rintro e w3 ⟨i, rfl, hi1, hi2, S3, m3⟩
  have T3 := T2.gr (gr_mk m3) hb1
  have u3 := u2.mk m3 (Nat.le_refl _)
  have h3 := Nat.lt_of_lt_of_le h2 m3.size
  clear S2 m3 T2
  go_wp2_with fail
  refine (l22DrawIndex_any A L0 c0 lo w.heap.size Cl L.length cl w3 S3 h3 hn (by omega)).mono ?_
  rintro e w4 ⟨k, rfl, hk1, hk2, S4, m4⟩
  have H4 := Lib.hid (show OwnK w w4 vo o (.slice Cl L.length cl) L from ⟨(T3.gr (gr_mk m4) hb1).base (by omega), hF, ho, hl⟩)
  have u4 := u3.mk m4 (Nat.le_refl _)
  clear S3 S4 m4 T3 hF ho hl
  go_wp2
  refine bodyPost_ret (v := .tuple #[vo, .slice Cl L.length cl, .int .i64 i, .int .i64 k]) (by simp [results, Tryd.results81, go_sem]) rfl ⟨_, o, _, L, i, k, rfl, H4.out, ⟨hi1, hi2, hk1, hk2⟩, u4⟩
set_option maxRecDepth 100000 in
set_option maxHeartbeats 2000000 in
theorem drawMayDerive_any (A : Option Addr) (L0 : List UInt8) (c0 lo hi : Nat) (w : World) (hr : RdY w lo hi A L0) (hhi : hi ≤ w.heap.size) (hn : L0.length ≤ 2000000) :
    Calls Tryd.prog 43 #[.slice A L0.length c0] w fun e w' => ∃ (vo : Value) (o : List Int) (vl : Value) (L : List Cp) (i k : Int), e = .returned (.tuple #[vo, vl, .int .i64 i, .int .i64 k]) ∧ OwnK w w' vo o vl L ∧ (-1 ≤ i ∧ i ≤ 100 ∧ -1 ≤ k ∧ k ≤ 100) ∧ Up w w' := by
  go_enter Tryd.func43, Tryd.ntmps43
  go_wp2_with fail
  refine (drawCommonErrors_any A L0 c0 lo hi w hr hhi hn).mono ?_
  rintro e w1 ⟨vo, o, vl, L, i, k, rfl, ho, hik, u1⟩
  have H4 := Lib.hid ho
  clear ho
  go_wp2
  refine bodyPost_ret (v := .tuple #[vo, vl, .int .i64 i, .int .i64 k]) (by simp [results, Tryd.results43, go_sem]) rfl ⟨_, o, _, L, i, k, rfl, H4.out, hik, u1⟩
end Go.Proofs.YtdjhenjgccenhaaDoor
