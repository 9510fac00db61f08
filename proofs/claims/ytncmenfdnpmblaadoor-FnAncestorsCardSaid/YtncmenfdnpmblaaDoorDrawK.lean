/- Drawn copies with indices. -/
import Derived.Test.YtncmenfdnpmblaaDoorDrawCp
import Derived.Test.YtncmenfdnpmblaaDoorAre
import Derived.Test.YtncmenfdnpmblaaDoorCode
namespace Go.Proofs.YtncmenfdnpmblaaDoor
open Go.RowKit Go.Sort

set_option maxRecDepth 100000 in
set_option maxHeartbeats 2000000 in
theorem l22DrawIndex_any (A : Option Addr) (L0 : List UInt8) (c0 lo g : Nat) (C : Option Addr) (n cc : Nat) (w : World) (hs : Src w g A L0 c0 lo) (hg : g < w.heap.size) (hL : L0.length ≤ 2000000) (hn : n ≤ 100) :
    Calls Tryd.prog 43 #[.pointer (some ⟨g, 0, none⟩), .slice C n cc] w fun e w' => ∃ z : Int, e = .returned (.int .i64 z) ∧ -1 ≤ z ∧ z ≤ 100 ∧ Src w' g A L0 c0 lo ∧ Mk g (g + 1) w w' := by
  go_enter Tryd.func43, Tryd.ntmps43
  go_wp2_with fail
  refine (l01Next_any A L0 c0 lo g 30 w hs hg hL (by omega)).mono ?_
  rintro e w1 ⟨z1, rfl, hz1, S1, m1⟩
  have hg1 := Nat.lt_of_lt_of_le hg m1.size
  clear hz1
  by_cases hzz : z1 = 0
  · have hzb : (z1 == 0) = true := by simpa using hzz
    clear hzz
    have hua := Up.alloc w1 (.cells #[.int .i64 (-1), .int .i64 (n : Int)] 2)
    have own := World.ownsRow_lit (base := w1.heap.size) (e := 2) (size := 1) w1 #[.int .i64 (-1), .int .i64 (n : Int)] 2 (Nat.le_refl _) (by simp [maxLen]) rfl
    have hrd : RdI (w1.alloc (.cells #[.int .i64 (-1), .int .i64 (n : Int)] 2)) w1.heap.size (w1.alloc (.cells #[.int .i64 (-1), .int .i64 (n : Int)] 2)).heap.size (some ⟨w1.heap.size, 0, none⟩) [(-1 : Int), (n : Int)] := Rd.own int_len own
    have HP := Lib.hid (l01Pick_any A L0 c0 lo g (some ⟨w1.heap.size, 0, none⟩) [(-1 : Int), (n : Int)] 2 w1.heap.size _ _ (S1.up hua hg1) (Nat.lt_of_lt_of_le hg1 hua.size) hL hrd (Nat.le_refl _) (.inr hg1) (by simp) (by simp))
    have M1 := m1.trans (Mk.up (b0 := g) (b1 := g + 1) hua)
    clear own hrd S1 m1
    go_wp2_with fail
    refine HP.out.mono ?_
    rintro e w2 ⟨z2, rfl, hz2, S2, m2⟩
    have hzr : -1 ≤ z2 ∧ z2 ≤ 100 := by
      simp at hz2
      rcases hz2 with h | h <;> omega
    have M2 := M1.trans m2
    clear hz2 m2 M1
    go_wp2
    go_ret
    exact ⟨z2, rfl, hzr.1, hzr.2, S2, M2⟩
  · have hzb : (z1 == 0) = false := by simpa using hzz
    clear hzz
    go_wp2_with fail
    refine (l01Next_any A L0 c0 lo g (n : Int) w1 S1 hg1 hL (by omega)).mono ?_
    rintro e w2 ⟨z2, rfl, hz2, S2, m2⟩
    have hzr : -1 ≤ z2 ∧ z2 ≤ 100 := by
      obtain ⟨h0, h⟩ := hz2
      rcases h with h | h <;> omega
    have M2 := m1.trans m2
    clear hz2 m2 m1 S1
    go_wp2
    go_ret
    exact ⟨z2, rfl, hzr.1, hzr.2, S2, M2⟩
/-- what a draw of copies gives -/
def OwnK (w w' : World) (vo : Value) (o : List Int) (vl : Value) (L : List Cp) : Prop := St w' w.heap.size vo o vl L ∧ Fine L ∧ o.length ≤ 20 ∧ L.length ≤ 9
theorem St.base {w : World} {B B' : Nat} {vo vl : Value} {o : List Int} {L : List Cp} (h : St w B vo o vl L) (hb : B' ≤ B) : St w B' vo o vl L :=
  ⟨own_base h.orig hb, own_base h.list hb, fun y hy => own_base (h.each y hy) hb, h.apart, h.far, h.dist⟩

theorem fit_of {L : List Cp} {c : Nat} (hF : Fine L) (hl : L.length ≤ 9) (hc : L.length ≤ c) (hcm : c ≤ maxLen) : Fit L c :=
  ⟨fun d hd => by have := (hF d hd).2.1; unfold maxLen; omega, fun d hd => by have := (hF d hd).2.2; omega, by omega, hc, hcm⟩
/-- an owned original and list, read in any later world -/
theorem OwnK.open {w w' : World} {vo vl : Value} {o : List Int} {L : List Cp} (h : OwnK w w' vo o vl L) : ∃ A c C cc, vo = .slice A o.length c ∧ vl = .slice C L.length cc ∧ RdI w' w.heap.size w'.heap.size A o ∧ RdC w' w.heap.size w'.heap.size C L ∧ Fit L cc ∧ Fine L ∧ o.length ≤ 20 ∧ L.length ≤ 9 := by
  obtain ⟨T, hF, ho, hl⟩ := h
  obtain ⟨A, c, rfl, -, -, -⟩ := own_formz T.orig
  obtain ⟨C, cc, rfl, h1, h2, -⟩ := own_formz T.list
  exact ⟨A, c, C, cc, rfl, rfl, Rd.own int_len T.orig, T.rdc, fit_of hF hl h1 h2, hF, ho, hl⟩

end Go.Proofs.YtncmenfdnpmblaaDoor
