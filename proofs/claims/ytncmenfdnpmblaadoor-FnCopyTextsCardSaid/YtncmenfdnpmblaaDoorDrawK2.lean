/- Drawn lists of copies, and two indices. -/
import Derived.Test.YtncmenfdnpmblaaDoorDrawK
namespace Go.Proofs.YtncmenfdnpmblaaDoor
open Go.RowKit Go.Sort

/-- an owned list of copies -/
def OwnL (w w' : World) (vl : Value) (L : List Cp) : Prop := ∃ vo o, OwnK w w' vo o vl L

set_option maxRecDepth 100000 in
set_option maxHeartbeats 2000000 in
theorem drawCountD_any (A : Option Addr) (L0 : List UInt8) (c0 lo hi : Nat) (w : World) (hr : RdY w lo hi A L0) (hhi : hi ≤ w.heap.size) (hn : L0.length ≤ 2000000) :
    Calls Tryd.prog 34 #[.slice A L0.length c0] w fun e w' => ∃ (vl : Value) (L : List Cp) (i k : Int), e = .returned (.tuple #[vl, .int .i64 i, .int .i64 k]) ∧ OwnL w w' vl L ∧ (-1 ≤ i ∧ i ≤ 100 ∧ -1 ≤ k ∧ k ≤ 100) ∧ Up w w' := by
  go_enter Tryd.func34, Tryd.ntmps34
  go_wp2_with fail
  refine (l01From_any A L0 c0 lo hi w hr hhi hn).mono ?_
  rintro e w1 ⟨rfl, h1, S1, u1⟩
  go_wp2_with fail
  refine (l22Draw_any A L0 c0 lo w.heap.size w1 S1 h1 hn).mono ?_
  rintro e w2 ⟨vo, o, vl, L, rfl, T2, hF, ho, hl, S2, m2⟩
  have hb1 : w.heap.size < w1.heap.size + 1 := by omega
  have u2 := u1.mk m2 (Nat.le_refl _)
  have h2 := Nat.lt_of_lt_of_le h1 m2.size
  obtain ⟨Cl, cl, rfl, -, -, -⟩ := own_formz T2.list
  clear S1 m2
  go_wp2_with fail
  refine (l22DrawIndex_any A L0 c0 lo w.heap.size Cl L.length cl w2 S2 h2 hn (by omega)).mono ?_
  rintro e w3 ⟨i, rfl, hi1, hi2, S3, m3⟩
  have T3 := T2.gr (gr_mk m3) hb1
  have u3 := u2.mk m3 (Nat.le_refl _)
  have h3 := Nat.lt_of_lt_of_le h2 m3.size
  clear S2 m3 T2
  go_wp2_with fail
  refine (l22DrawIndex_any A L0 c0 lo w.heap.size Cl L.length cl w3 S3 h3 hn (by omega)).mono ?_
  rintro e w4 ⟨k, rfl, hk1, hk2, S4, m4⟩
  have H4 := Lib.hid (show OwnL w w4 (.slice Cl L.length cl) L from ⟨vo, o, (T3.gr (gr_mk m4) hb1).base (by omega), hF, ho, hl⟩)
  have u4 := u3.mk m4 (Nat.le_refl _)
  clear S3 S4 m4 T3 hF ho hl
  go_wp2
  refine bodyPost_ret (v := .tuple #[.slice Cl L.length cl, .int .i64 i, .int .i64 k]) (by simp [results, Tryd.results34, go_sem]) rfl ⟨_, L, i, k, rfl, H4.out, ⟨hi1, hi2, hk1, hk2⟩, u4⟩

set_option maxRecDepth 100000 in
set_option maxHeartbeats 2000000 in
theorem drawAre_any (A : Option Addr) (L0 : List UInt8) (c0 lo hi : Nat) (w : World) (hr : RdY w lo hi A L0) (hhi : hi ≤ w.heap.size) (hn : L0.length ≤ 2000000) :
    Calls Tryd.prog 76 #[.slice A L0.length c0] w fun e w' => ∃ (vl : Value) (L : List Cp), e = .returned vl ∧ OwnL w w' vl L ∧ Up w w' := by
  go_enter Tryd.func76, Tryd.ntmps76
  go_wp2_with fail
  refine (l01From_any A L0 c0 lo hi w hr hhi hn).mono ?_
  rintro e w1 ⟨rfl, h1, S1, u1⟩
  go_wp2_with fail
  refine (l22Draw_any A L0 c0 lo w.heap.size w1 S1 h1 hn).mono ?_
  rintro e w2 ⟨vo, o, vl, L, rfl, T2, hF, ho, hl, S2, m2⟩
  have H3 := Lib.hid (show OwnL w w2 vl L from ⟨vo, o, T2.base (by have := u1.size; omega), hF, ho, hl⟩)
  have u3 := u1.mk m2 (Nat.le_refl _)
  clear S1 S2 m2 T2 hF ho hl
  go_wp2
  go_ret
  exact ⟨_, L, rfl, H3.out, u3⟩

set_option maxRecDepth 100000 in
set_option maxHeartbeats 2000000 in
theorem drawMajority_any (A : Option Addr) (L0 : List UInt8) (c0 lo hi : Nat) (w : World) (hr : RdY w lo hi A L0) (hhi : hi ≤ w.heap.size) (hn : L0.length ≤ 2000000) :
    Calls Tryd.prog 37 #[.slice A L0.length c0] w fun e w' => ∃ (vl : Value) (L : List Cp), e = .returned vl ∧ OwnL w w' vl L ∧ Up w w' := by
  go_enter Tryd.func37, Tryd.ntmps37
  go_wp2_with fail
  refine (drawAre_any A L0 c0 lo hi w hr hhi hn).mono ?_
  rintro e w1 ⟨vl, L, rfl, ho, u1⟩
  have H4 := Lib.hid ho
  clear ho
  go_wp2
  go_ret
  exact ⟨_, L, rfl, H4.out, u1⟩
end Go.Proofs.YtncmenfdnpmblaaDoor
