/- Drawn decisions. -/
import Derived.Test.YtngananoidplmaaGreatDoorDraw
import Derived.Test.YtngananoidplmaaGreatDoorLog
import Derived.Deep.AppendLies
namespace Go.Proofs.YtngananoidplmaaGreatDoor
open Go.RowKit Go.Sort

theorem Src.up {w w' : World} {g c lo : Nat} {A : Option Addr} {L : List UInt8} (h : Src w g A L c lo) (hu : Up w w') (hg : g < w.heap.size) : Src w' g A L c lo := by
  obtain ⟨a, s, h1, h2, h3, h4, h5, h6, h7, h8⟩ := h
  exact ⟨a, s, h1, h2, hu.cell h3, hu.cell h4, hu.cell h5, (Below.frozen hu (p := ⟨g, 1, none⟩) hg).trans h6, (Below.frozen hu (p := ⟨g, 2, none⟩) hg).trans h7, h8.up hu (Nat.le_of_lt hg)⟩
theorem three {z : Int} (h0 : 0 ≤ z) (h : z < 3) : z = 0 ∨ z = 1 ∨ z = 2 := by omega

set_option maxRecDepth 100000 in
set_option maxHeartbeats 2000000 in
theorem l26DrawName_any (A : Option Addr) (L : List UInt8) (c lo g : Nat) (w : World) (hs : Src w g A L c lo) (hg : g < w.heap.size) (hL : L.length ≤ 2000000) :
    Calls Tryz.prog 66 #[.pointer (some ⟨g, 0, none⟩)] w fun e w' => ∃ s : ByteArray, e = .returned (.string s) ∧ s.size ≤ 5 ∧ Src w' g A L c lo ∧ Mk g (g + 1) w w' := by
  have hub := Up.alloc w (.cells #[.string ⟨#[111, 110, 101]⟩, .string ⟨#[116, 119, 111]⟩, .string ⟨#[116, 104, 114, 101, 101]⟩] 9)
  have q0 : (w.alloc (.cells #[.string ⟨#[111, 110, 101]⟩, .string ⟨#[116, 119, 111]⟩, .string ⟨#[116, 104, 114, 101, 101]⟩] 9)).cell? ⟨w.heap.size, 0, none⟩ = some (.string ⟨#[111, 110, 101]⟩) := by go_simp
  have q1 : (w.alloc (.cells #[.string ⟨#[111, 110, 101]⟩, .string ⟨#[116, 119, 111]⟩, .string ⟨#[116, 104, 114, 101, 101]⟩] 9)).cell? ⟨w.heap.size, 1, none⟩ = some (.string ⟨#[116, 119, 111]⟩) := by go_simp
  have q2 : (w.alloc (.cells #[.string ⟨#[111, 110, 101]⟩, .string ⟨#[116, 119, 111]⟩, .string ⟨#[116, 104, 114, 101, 101]⟩] 9)).cell? ⟨w.heap.size, 2, none⟩ = some (.string ⟨#[116, 104, 114, 101, 101]⟩) := by go_simp
  have HN := Lib.hid (l01Next_any A L c lo g 3 _ (hs.up hub hg) (Nat.lt_of_lt_of_le hg hub.size) hL (by omega))
  go_enter Tryz.func66, Tryz.ntmps66
  go_wp2_with fail
  generalize w.alloc (.cells #[.string ⟨#[111, 110, 101]⟩, .string ⟨#[116, 119, 111]⟩, .string ⟨#[116, 104, 114, 101, 101]⟩] 9) = wa at *
  refine HN.out.mono ?_
  rintro e w1 ⟨z, rfl, hz, hs1, m1⟩
  obtain ⟨hz0, hz1⟩ := hz.lt (by omega)
  have r0 := m1.cell q0 (.inr hg)
  have r1 := m1.cell q1 (.inr hg)
  have r2 := m1.cell q2 (.inr hg)
  have HS := Lib.hid (And.intro hs1 ((Mk.up (b0 := g) (b1 := g + 1) hub).trans m1))
  clear hs1 hz HN q0 q1 q2
  rcases three hz0 hz1 with rfl | rfl | rfl
  · go_wp2
    go_ret
    exact ⟨_, rfl, by decide, HS.out.1, HS.out.2⟩
  · go_wp2
    go_ret
    exact ⟨_, rfl, by decide, HS.out.1, HS.out.2⟩
  · go_wp2
    go_ret
    exact ⟨_, rfl, by decide, HS.out.1, HS.out.2⟩

theorem Mk.frozen {b0 b1 : Nat} {w w' : World} (m : Mk b0 b1 w w') {p : Addr} (hlt : p.block < w.heap.size) (hd : p.block < b0 ∨ b1 ≤ p.block) : w'.frozen? p = w.frozen? p := by
  induction m with
  | refl => rfl
  | step m hg hb ih =>
    refine (hg.frozen_far p (Nat.lt_of_lt_of_le hlt m.size) (fun e => ?_)).trans ih
    have := hb _ e.symm; omega
/-- a decision in a block of its own, open to stores -/
def DB (w : World) (D : Nat) (d : Dec) : Prop :=
  w.cell? ⟨D, 0, none⟩ = some (.string d.deed) ∧ w.cell? ⟨D, 1, none⟩ = some (.int .i64 d.kind) ∧ w.cell? ⟨D, 2, none⟩ = some (.int .i64 d.day) ∧ w.cell? ⟨D, 3, none⟩ = some (.string d.by_) ∧
    w.frozen? ⟨D, 0, none⟩ = false ∧ w.frozen? ⟨D, 1, none⟩ = false ∧ w.frozen? ⟨D, 2, none⟩ = false ∧ w.frozen? ⟨D, 3, none⟩ = false
theorem DB.lt {w : World} {D : Nat} {d : Dec} (h : DB w D d) : D < w.heap.size := block_lt_of_cell h.1
theorem DB.mk {w w' : World} {D g : Nat} {d : Dec} (h : DB w D d) (m : Mk g (g + 1) w w') (hne : D ≠ g) : DB w' D d := by
  have hlt := h.lt
  obtain ⟨h0, h1, h2, h3, f0, f1, f2, f3⟩ := h
  have hd : ∀ o, (⟨D, o, none⟩ : Addr).block < g ∨ g + 1 ≤ (⟨D, o, none⟩ : Addr).block := fun o => by show D < g ∨ g + 1 ≤ D; omega
  exact ⟨m.cell h0 (hd 0), m.cell h1 (hd 1), m.cell h2 (hd 2), m.cell h3 (hd 3), (m.frozen (p := ⟨D, 0, none⟩) hlt (hd 0)).trans f0, (m.frozen (p := ⟨D, 1, none⟩) hlt (hd 1)).trans f1, (m.frozen (p := ⟨D, 2, none⟩) hlt (hd 2)).trans f2, (m.frozen (p := ⟨D, 3, none⟩) hlt (hd 3)).trans f3⟩
theorem DB.up {w w' : World} {D : Nat} {d : Dec} (h : DB w D d) (hu : Up w w') : DB w' D d := by
  have hlt := h.lt
  obtain ⟨h0, h1, h2, h3, f0, f1, f2, f3⟩ := h
  exact ⟨hu.cell h0, hu.cell h1, hu.cell h2, hu.cell h3, (Below.frozen hu (p := ⟨D, 0, none⟩) hlt).trans f0, (Below.frozen hu (p := ⟨D, 1, none⟩) hlt).trans f1, (Below.frozen hu (p := ⟨D, 2, none⟩) hlt).trans f2, (Below.frozen hu (p := ⟨D, 3, none⟩) hlt).trans f3⟩
theorem DB.new (w : World) (d : Dec) : DB (w.alloc (.cells #[.string d.deed, .int .i64 d.kind, .int .i64 d.day, .string d.by_] 43)) w.heap.size d :=
  ⟨by go_simp, by go_simp, by go_simp, by go_simp, by go_simp, by go_simp, by go_simp, by go_simp⟩
theorem two {z : Int} (h0 : 0 ≤ z) (h : z < 2) : z = 0 ∨ z = 1 := by omega

/-- Mk of one block and growth by one block are one thing -/
theorem gr_mk {g : Nat} {w w' : World} (m : Mk g (g + 1) w w') : w.grownBy w' (some g) := by
  induction m with
  | refl => exact World.grownBy.refl w _
  | step m hg hb ih =>
    refine ih.trans ⟨hg.os, hg.tape, hg.output, hg.size, fun k hk hne => hg.block k hk (fun e => hne ?_)⟩
    have := hb _ e.symm
    rw [show k = g by omega]
theorem mk_gr {g : Nat} {w w' : World} (h : w.grownBy w' (some g)) : Mk g (g + 1) w w' :=
  Mk.refl.step (v := .slice (some ⟨g, 0, none⟩) 0 0) h (fun b hb => by simp [Value.ownBlock] at hb; omega)
/-- a store into a block that is new -/
theorem gr_store {g : Nat} {w w' : World} (h : w.grownBy w' (some g)) (p : Addr) (u : Value) (hp : w.heap.size ≤ p.block) : w.grownBy (w'.setCell p u) (some g) :=
  ⟨h.os, h.tape, h.output, by simp; exact h.size, fun k hk hne => (Below.heap_setCell w' p u k (by omega)).trans (h.block k hk hne)⟩
theorem DB.store {w : World} {D : Nat} {d : Dec} (h : DB w D d) (p : Addr) (u : Value) (hp : D ≠ p.block) : DB (w.setCell p u) D d := by
  obtain ⟨h0, h1, h2, h3, f0, f1, f2, f3⟩ := h
  have hc : ∀ o, (w.setCell p u).cell? ⟨D, o, none⟩ = w.cell? ⟨D, o, none⟩ := fun o => World.cell?_of_block (Below.heap_setCell w p u D hp)
  exact ⟨(hc 0).trans h0, (hc 1).trans h1, (hc 2).trans h2, (hc 3).trans h3, by rw [World.frozen?_setCell]; exact f0, by rw [World.frozen?_setCell]; exact f1, by rw [World.frozen?_setCell]; exact f2, by rw [World.frozen?_setCell]; exact f3⟩
theorem Src.store {w : World} {g c lo : Nat} {A : Option Addr} {L : List UInt8} (h : Src w g A L c lo) (p : Addr) (u : Value) (hp : g < p.block) : Src (w.setCell p u) g A L c lo := by
  obtain ⟨a, s, h1, h2, h3, h4, h5, h6, h7, h8⟩ := h
  have hc : ∀ q : Addr, q.block ≤ g → (w.setCell p u).cell? q = w.cell? q := fun q hq => World.cell?_of_block (Below.heap_setCell w p u q.block (by omega))
  exact ⟨a, s, h1, h2, (hc ⟨g, 0, none⟩ (Nat.le_refl _)).trans h3, (hc ⟨g, 1, none⟩ (Nat.le_refl _)).trans h4, (hc ⟨g, 2, none⟩ (Nat.le_refl _)).trans h5, by rw [World.frozen?_setCell]; exact h6, by rw [World.frozen?_setCell]; exact h7, h8.keep fun q _ hq => hc q (by omega)⟩

set_option maxRecDepth 100000 in
set_option maxHeartbeats 4000000 in
theorem l26DrawOne_any (A : Option Addr) (L : List UInt8) (c lo g : Nat) (w : World) (hs : Src w g A L c lo) (hg : g < w.heap.size) (hL : L.length ≤ 2000000) :
    Calls Tryz.prog 53 #[.pointer (some ⟨g, 0, none⟩)] w fun e w' => ∃ d : Dec, e = .returned d.val ∧ d.deed.size ≤ 10 ∧ d.by_.size ≤ 10 ∧ Src w' g A L c lo ∧ Mk g (g + 1) w w' := by
  go_enter Tryz.func53, Tryz.ntmps53
  go_wp2_with fail
  obtain ⟨wa, hwa⟩ : ∃ x, x = w.alloc (.cells #[.string ⟨#[]⟩, .int .i64 0, .int .i64 0, .string ⟨#[]⟩] 43) := ⟨_, rfl⟩
  have hua : Up w wa := by rw [hwa]; exact Up.alloc _ _
  have R0 : DB wa w.heap.size ⟨⟨#[]⟩, 0, 0, ⟨#[]⟩⟩ := by rw [hwa]; exact DB.new w ⟨⟨#[]⟩, 0, 0, ⟨#[]⟩⟩
  rw [← hwa]
  clear hwa
  have hga := Nat.lt_of_lt_of_le hg hua.size
  refine (l26DrawName_any A L c lo g wa (hs.up hua hg) hga hL).mono ?_
  rintro e w1 ⟨s1, rfl, hs1, S1, m1⟩
  have hg1 := Nat.lt_of_lt_of_le hga m1.size
  go_wp2_with fail
  refine (l01Next_any A L c lo g 3 w1 S1 hg1 hL (by omega)).mono ?_
  rintro e w2 ⟨kz, rfl, hkz, S2, m2⟩
  have hg2 := Nat.lt_of_lt_of_le hg1 m2.size
  have hub := Up.alloc w2 (.cells #[.string ⟨#[97, 110, 110]⟩, .string ⟨#[98, 111, 98]⟩] 9)
  have b0 : (w2.alloc (.cells #[.string ⟨#[97, 110, 110]⟩, .string ⟨#[98, 111, 98]⟩] 9)).cell? ⟨w2.heap.size, 0, none⟩ = some (.string ⟨#[97, 110, 110]⟩) := by go_simp
  have b1 : (w2.alloc (.cells #[.string ⟨#[97, 110, 110]⟩, .string ⟨#[98, 111, 98]⟩] 9)).cell? ⟨w2.heap.size, 1, none⟩ = some (.string ⟨#[98, 111, 98]⟩) := by go_simp
  go_wp2_with fail
  generalize w2.alloc (.cells #[.string ⟨#[97, 110, 110]⟩, .string ⟨#[98, 111, 98]⟩] 9) = wb at *
  have hgb := Nat.lt_of_lt_of_le hg2 hub.size
  refine (l01Next_any A L c lo g 2 wb (S2.up hub hg2) hgb hL (by omega)).mono ?_
  rintro e w3 ⟨zb, rfl, hzb, S3, m3⟩
  have hg3 := Nat.lt_of_lt_of_le hgb m3.size
  obtain ⟨hz0, hz1⟩ := hzb.lt (by omega)
  have c0 := m3.cell b0 (.inr hg2)
  have c1 := m3.cell b1 (.inr hg2)
  have M3 := Lib.hid ((((Mk.up (b0 := g) (b1 := g + 1) hua).trans m1).trans m2).trans ((Mk.up hub).trans m3))
  have R3 := Lib.hid ((((R0.mk m1 (by omega)).mk m2 (by omega)).up hub).mk m3 (by omega))
  have HS3 := Lib.hid S3
  clear S1 S2 S3 m1 m2 m3 R0 hs hkz hzb b0 b1
  obtain ⟨by_, hby, hbs⟩ : ∃ by_ : ByteArray, w3.cell? ⟨w2.heap.size, zb.toNat, none⟩ = some (.string by_) ∧ by_.size ≤ 5 := by
    rcases two hz0 hz1 with rfl | rfl
    · exact ⟨_, c0, by decide⟩
    · exact ⟨_, c1, by decide⟩
  clear c0 c1
  obtain ⟨zn, rfl⟩ := Int.eq_ofNat_of_zero_le hz0
  simp only [Int.toNat_natCast] at hby
  have hRne : w.heap.size ≠ g := by omega
  have hDg : g < w3.heap.size := hg3
  have hw3 : w.heap.size < w3.heap.size := R3.out.lt
  have huD := Up.alloc w3 (.cells #[.string s1, .int .i64 kz, .int .i64 0, .string by_] 43)
  have hD := DB.new w3 ⟨s1, kz, 0, by_⟩
  have SD := HS3.out.up huD hg3
  have GD := gr_mk (M3.out.trans (Mk.up (b0 := g) (b1 := g + 1) huD))
  have RD := R3.out.up huD
  have hgD := Nat.lt_of_lt_of_le hg3 huD.size
  by_cases hk0 : kz = 0
  case' pos =>
    subst hk0
    go_wp2_with fail
    generalize w3.alloc (.cells #[.string s1, .int .i64 0, .int .i64 0, .string by_] 43) = wD at *
    refine (l01Next_any A L c lo g 9000 wD SD hgD hL (by omega)).mono ?_
    rintro e w5 ⟨zd, rfl, hzd, S5, m5⟩
    obtain ⟨hy0, hy1⟩ := hzd.lt (by omega)
    have G5 := GD.trans (gr_mk m5)
    have R5 := RD.mk m5 (by omega)
    obtain ⟨d0, d1, d2, d3, f0, f1, f2, f3⟩ := hD.mk m5 (by omega)
    go_wp2_with fail
    obtain ⟨dv, hdv⟩ : ∃ x, x = 420000 + zd := ⟨_, rfl⟩
    rw [← hdv]
    obtain ⟨W, hW⟩ : ∃ x, x = w5.setCell ⟨w3.heap.size, 2, none⟩ (.int .i64 dv) := ⟨_, rfl⟩
    have DW : DB W w3.heap.size ⟨s1, 0, dv, by_⟩ := by rw [hW]; exact ⟨by go_simp, by go_simp, by go_simp, by go_simp, by go_simp, by go_simp, by go_simp, by go_simp⟩
    have SW : Src W g A L c lo := by rw [hW]; exact S5.store _ _ hg3
    have GW : w.grownBy W (some g) := by rw [hW]; exact gr_store G5 _ _ (Nat.le_of_lt hw3)
    have RW : DB W w.heap.size ⟨⟨#[]⟩, 0, 0, ⟨#[]⟩⟩ := by rw [hW]; exact R5.store _ _ (Nat.ne_of_lt hw3)
    rw [← hW]
    obtain ⟨kx, hkx⟩ : ∃ x : Int, x = 0 := ⟨_, rfl⟩
    rw [← hkx] at DW
    clear hW hdv hkx d0 d1 d2 d3 f0 f1 f2 f3 m5 S5 G5 R5 SD GD RD hD hzd
  case' neg =>
    have hkb : (kz == 0) = false := by simpa using hk0
    go_wp2_with fail
    obtain ⟨dv, hdv⟩ : ∃ x : Int, x = 0 := ⟨_, rfl⟩
    obtain ⟨W, hW⟩ : ∃ x, x = w3.alloc (.cells #[.string s1, .int .i64 kz, .int .i64 0, .string by_] 43) := ⟨_, rfl⟩
    have DW : DB W w3.heap.size ⟨s1, kz, dv, by_⟩ := by rw [hW, hdv]; exact hD
    have SW : Src W g A L c lo := by rw [hW]; exact SD
    have GW : w.grownBy W (some g) := by rw [hW]; exact GD
    have RW : DB W w.heap.size ⟨⟨#[]⟩, 0, 0, ⟨#[]⟩⟩ := by rw [hW]; exact RD
    rw [← hW]
    obtain ⟨kx, hkx⟩ : ∃ x : Int, x = kz := ⟨_, rfl⟩
    rw [← hkx] at DW
    clear hW hdv hkx SD GD RD hD hk0 hkb
  all_goals
    have hgW : g < W.heap.size := Nat.lt_of_lt_of_le hg GW.size
    refine (l01Next_any A L c lo g 60 W SW hgW hL (by omega)).mono ?_
    rintro e w7 ⟨zc, rfl, hzc, S7, m7⟩
    obtain ⟨hc0, hc1⟩ := hzc.lt (by omega)
    have D7 := Lib.hid (DW.mk m7 (by omega))
    have R7 := Lib.hid (RW.mk m7 (by omega))
    have G7 := Lib.hid (GW.trans (gr_mk m7))
    have S7' := Lib.hid S7
    clear DW RW GW SW m7 S7 hzc
    by_cases hm : 3 ≤ zc
    · have h0 : (zc == 0) = false := by simp; omega
      have h1 : (zc == 1) = false := by simp; omega
      have h2 : (zc == 2) = false := by simp; omega
      obtain ⟨d0, d1, d2, d3, f0, f1, f2, f3⟩ := D7.out
      obtain ⟨r0, r1, r2, r3, k0, k1, k2, k3⟩ := R7.out
      go_wp2
      refine bodyPost_ret (v := Dec.val ⟨s1, kx, dv, by_⟩) (by simp [results, Tryz.results53, go_sem, r0, r1, r2, r3]) rfl ⟨⟨s1, kx, dv, by_⟩, rfl, by show s1.size ≤ 10; omega, by show (by_).size ≤ 10; omega,
        (((S7'.out.store ⟨w.heap.size, 0, none⟩ _ hg).store ⟨w.heap.size, 1, none⟩ _ hg).store ⟨w.heap.size, 2, none⟩ _ hg).store ⟨w.heap.size, 3, none⟩ _ hg,
        mk_gr (gr_store (gr_store (gr_store (gr_store G7.out ⟨w.heap.size, 0, none⟩ _ (Nat.le_refl _)) ⟨w.heap.size, 1, none⟩ _ (Nat.le_refl _)) ⟨w.heap.size, 2, none⟩ _ (Nat.le_refl _)) ⟨w.heap.size, 3, none⟩ _ (Nat.le_refl _))⟩
    · have h3 : zc = 0 ∨ zc = 1 ∨ zc = 2 := by omega
      rcases h3 with rfl | rfl | rfl
      · have hua := Up.alloc w7 (.cells #[.int .i64 (-1), .int .i64 (5), .int .i64 (730500)] 2)
        have own := World.ownsRow_lit (base := w7.heap.size) (e := 2) (size := 1) w7 #[.int .i64 (-1), .int .i64 (5), .int .i64 (730500)] 3 (Nat.le_refl _) (by simp [maxLen]) rfl
        have hrd : RdI (w7.alloc (.cells #[.int .i64 (-1), .int .i64 (5), .int .i64 (730500)] 2)) w7.heap.size (w7.alloc (.cells #[.int .i64 (-1), .int .i64 (5), .int .i64 (730500)] 2)).heap.size (some ⟨w7.heap.size, 0, none⟩) [(-1 : Int), (5 : Int), (730500 : Int)] := Rd.own int_len own
        have hg7 : g < w7.heap.size := Nat.lt_of_lt_of_le hg G7.out.size
        have HP := Lib.hid (l01Pick_any A L c lo g (some ⟨w7.heap.size, 0, none⟩) [(-1 : Int), (5 : Int), (730500 : Int)] 3 w7.heap.size _ _ (S7'.out.up hua hg7) (Nat.lt_of_lt_of_le hg7 hua.size) hL hrd (Nat.le_refl _) (.inr hg7) (by decide) (by decide))
        go_wp2_with fail
        refine HP.out.mono ?_
        rintro e w8 ⟨zp, rfl, -, S8, m8⟩
        have D8 := (D7.out.up hua).mk m8 (by omega)
        have R8 := (R7.out.up hua).mk m8 (by omega)
        have G8 := (gr_mk ((mk_gr G7.out).trans (Mk.up (b0 := g) (b1 := g + 1) hua))).trans (gr_mk m8)
        clear own hrd HP m8
        obtain ⟨p0, p1, p2, p3, pf0, pf1, pf2, pf3⟩ := D8
        obtain ⟨r0, r1, r2, r3, k0, k1, k2, k3⟩ := R8
        have HS9 := Lib.hid (S8.store ⟨w3.heap.size, 2, none⟩ (.int .i64 zp) hg3)
        have HG9 := Lib.hid (gr_store G8 ⟨w3.heap.size, 2, none⟩ (.int .i64 zp) (Nat.le_of_lt hw3))
        clear S8 G8
        go_wp2
        refine bodyPost_ret (v := Dec.val ⟨s1, kx, zp, by_⟩) (by simp [results, Tryz.results53, go_sem, r0, r1, r2, r3]) rfl ⟨⟨s1, kx, zp, by_⟩, rfl, by show s1.size ≤ 10; omega, by show (by_).size ≤ 10; omega,
          (((HS9.out.store ⟨w.heap.size, 0, none⟩ _ hg).store ⟨w.heap.size, 1, none⟩ _ hg).store ⟨w.heap.size, 2, none⟩ _ hg).store ⟨w.heap.size, 3, none⟩ _ hg,
          mk_gr (gr_store (gr_store (gr_store (gr_store HG9.out ⟨w.heap.size, 0, none⟩ _ (Nat.le_refl _)) ⟨w.heap.size, 1, none⟩ _ (Nat.le_refl _)) ⟨w.heap.size, 2, none⟩ _ (Nat.le_refl _)) ⟨w.heap.size, 3, none⟩ _ (Nat.le_refl _))⟩
      · have hua := Up.alloc w7 (.cells #[.string ⟨#[]⟩, .string ⟨#[65, 110, 110]⟩, .string ⟨#[97, 98, 99, 100, 101, 102, 103, 104, 105]⟩] 9)
        have q0 : (w7.alloc (.cells #[.string ⟨#[]⟩, .string ⟨#[65, 110, 110]⟩, .string ⟨#[97, 98, 99, 100, 101, 102, 103, 104, 105]⟩] 9)).cell? ⟨w7.heap.size, 0, none⟩ = some (.string ⟨#[]⟩) := by go_simp
        have q1 : (w7.alloc (.cells #[.string ⟨#[]⟩, .string ⟨#[65, 110, 110]⟩, .string ⟨#[97, 98, 99, 100, 101, 102, 103, 104, 105]⟩] 9)).cell? ⟨w7.heap.size, 1, none⟩ = some (.string ⟨#[65, 110, 110]⟩) := by go_simp
        have q2 : (w7.alloc (.cells #[.string ⟨#[]⟩, .string ⟨#[65, 110, 110]⟩, .string ⟨#[97, 98, 99, 100, 101, 102, 103, 104, 105]⟩] 9)).cell? ⟨w7.heap.size, 2, none⟩ = some (.string ⟨#[97, 98, 99, 100, 101, 102, 103, 104, 105]⟩) := by go_simp
        have hg7 : g < w7.heap.size := Nat.lt_of_lt_of_le hg G7.out.size
        have HN := Lib.hid (l01Next_any A L c lo g 3 _ (S7'.out.up hua hg7) (Nat.lt_of_lt_of_le hg7 hua.size) hL (by omega))
        go_wp2_with fail
        generalize w7.alloc (.cells #[.string ⟨#[]⟩, .string ⟨#[65, 110, 110]⟩, .string ⟨#[97, 98, 99, 100, 101, 102, 103, 104, 105]⟩] 9) = wx at *
        refine HN.out.mono ?_
        rintro e w8 ⟨zp, rfl, hzp, S8, m8⟩
        obtain ⟨hx0, hx1⟩ := hzp.lt (by omega)
        have D8 := (D7.out.up hua).mk m8 (by omega)
        have R8 := (R7.out.up hua).mk m8 (by omega)
        have G8 := (gr_mk ((mk_gr G7.out).trans (Mk.up (b0 := g) (b1 := g + 1) hua))).trans (gr_mk m8)
        obtain ⟨bn, hbn, hbs2⟩ : ∃ bn : ByteArray, w8.cell? ⟨w7.heap.size, zp.toNat, none⟩ = some (.string bn) ∧ bn.size ≤ 10 := by
          rcases three hx0 hx1 with rfl | rfl | rfl
          · exact ⟨_, m8.cell q0 (.inr hg7), by decide⟩
          · exact ⟨_, m8.cell q1 (.inr hg7), by decide⟩
          · exact ⟨_, m8.cell q2 (.inr hg7), by decide⟩
        obtain ⟨zpn, rfl⟩ := Int.eq_ofNat_of_zero_le hx0
        simp only [Int.toNat_natCast] at hbn
        clear q0 q1 q2 HN m8 hzp
        obtain ⟨p0, p1, p2, p3, pf0, pf1, pf2, pf3⟩ := D8
        obtain ⟨r0, r1, r2, r3, k0, k1, k2, k3⟩ := R8
        have HS9 := Lib.hid (S8.store ⟨w3.heap.size, 3, none⟩ (.string bn) hg3)
        have HG9 := Lib.hid (gr_store G8 ⟨w3.heap.size, 3, none⟩ (.string bn) (Nat.le_of_lt hw3))
        clear S8 G8
        go_wp2
        refine bodyPost_ret (v := Dec.val ⟨s1, kx, dv, bn⟩) (by simp [results, Tryz.results53, go_sem, r0, r1, r2, r3]) rfl ⟨⟨s1, kx, dv, bn⟩, rfl, by show s1.size ≤ 10; omega, by show (ByteArray.size bn) ≤ 10; omega,
          (((HS9.out.store ⟨w.heap.size, 0, none⟩ _ hg).store ⟨w.heap.size, 1, none⟩ _ hg).store ⟨w.heap.size, 2, none⟩ _ hg).store ⟨w.heap.size, 3, none⟩ _ hg,
          mk_gr (gr_store (gr_store (gr_store (gr_store HG9.out ⟨w.heap.size, 0, none⟩ _ (Nat.le_refl _)) ⟨w.heap.size, 1, none⟩ _ (Nat.le_refl _)) ⟨w.heap.size, 2, none⟩ _ (Nat.le_refl _)) ⟨w.heap.size, 3, none⟩ _ (Nat.le_refl _))⟩
      · have hua := Up.alloc w7 (.cells #[.int .i64 (-1), .int .i64 (3)] 2)
        have own := World.ownsRow_lit (base := w7.heap.size) (e := 2) (size := 1) w7 #[.int .i64 (-1), .int .i64 (3)] 2 (Nat.le_refl _) (by simp [maxLen]) rfl
        have hrd : RdI (w7.alloc (.cells #[.int .i64 (-1), .int .i64 (3)] 2)) w7.heap.size (w7.alloc (.cells #[.int .i64 (-1), .int .i64 (3)] 2)).heap.size (some ⟨w7.heap.size, 0, none⟩) [(-1 : Int), (3 : Int)] := Rd.own int_len own
        have hg7 : g < w7.heap.size := Nat.lt_of_lt_of_le hg G7.out.size
        have HP := Lib.hid (l01Pick_any A L c lo g (some ⟨w7.heap.size, 0, none⟩) [(-1 : Int), (3 : Int)] 2 w7.heap.size _ _ (S7'.out.up hua hg7) (Nat.lt_of_lt_of_le hg7 hua.size) hL hrd (Nat.le_refl _) (.inr hg7) (by decide) (by decide))
        go_wp2_with fail
        refine HP.out.mono ?_
        rintro e w8 ⟨zp, rfl, -, S8, m8⟩
        have D8 := (D7.out.up hua).mk m8 (by omega)
        have R8 := (R7.out.up hua).mk m8 (by omega)
        have G8 := (gr_mk ((mk_gr G7.out).trans (Mk.up (b0 := g) (b1 := g + 1) hua))).trans (gr_mk m8)
        clear own hrd HP m8
        obtain ⟨p0, p1, p2, p3, pf0, pf1, pf2, pf3⟩ := D8
        obtain ⟨r0, r1, r2, r3, k0, k1, k2, k3⟩ := R8
        have HS9 := Lib.hid (S8.store ⟨w3.heap.size, 1, none⟩ (.int .i64 zp) hg3)
        have HG9 := Lib.hid (gr_store G8 ⟨w3.heap.size, 1, none⟩ (.int .i64 zp) (Nat.le_of_lt hw3))
        clear S8 G8
        go_wp2
        refine bodyPost_ret (v := Dec.val ⟨s1, zp, dv, by_⟩) (by simp [results, Tryz.results53, go_sem, r0, r1, r2, r3]) rfl ⟨⟨s1, zp, dv, by_⟩, rfl, by show s1.size ≤ 10; omega, by show (ByteArray.size by_) ≤ 10; omega,
          (((HS9.out.store ⟨w.heap.size, 0, none⟩ _ hg).store ⟨w.heap.size, 1, none⟩ _ hg).store ⟨w.heap.size, 2, none⟩ _ hg).store ⟨w.heap.size, 3, none⟩ _ hg,
          mk_gr (gr_store (gr_store (gr_store (gr_store HG9.out ⟨w.heap.size, 0, none⟩ _ (Nat.le_refl _)) ⟨w.heap.size, 1, none⟩ _ (Nat.le_refl _)) ⟨w.heap.size, 2, none⟩ _ (Nat.le_refl _)) ⟨w.heap.size, 3, none⟩ _ (Nat.le_refl _))⟩
end Go.Proofs.YtngananoidplmaaGreatDoor
