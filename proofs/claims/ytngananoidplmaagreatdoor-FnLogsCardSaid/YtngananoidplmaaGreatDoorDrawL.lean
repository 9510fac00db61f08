/- Drawn logs. -/
import Derived.Test.YtngananoidplmaaGreatDoorDrawD
import Derived.Test.YtngananoidplmaaGreatDoorDecide
namespace Go.Proofs.YtngananoidplmaaGreatDoor
open Go.RowKit Go.Sort

theorem gr_row {w w1 w2 : World} {g : Nat} {v : Value} (h : w.grownBy w1 (some g)) (hg : w1.grownBy w2 v.ownBlock) (hb : ∀ b, v.ownBlock = some b → w.heap.size ≤ b) : w.grownBy w2 (some g) :=
  ⟨hg.os.trans h.os, hg.tape.trans h.tape, hg.output.trans h.output, Nat.le_trans h.size hg.size, fun k hk hne => (hg.block k (Nat.lt_of_lt_of_le hk h.size) (fun e => by have := hb k e.symm; omega)).trans (h.block k hk hne)⟩
theorem gr_up {w w1 w2 : World} {g : Nat} (h : w.grownBy w1 (some g)) (hu : Up w1 w2) : w.grownBy w2 (some g) := gr_mk ((mk_gr h).trans (Mk.up hu))
theorem own_gr {w w' : World} {base g : Nat} {e : TypeId} {size : Nat} {v : Value} {n : Nat} {xs : List Value} (h : w.ownsRow base e size v n xs) (hg : w.grownBy w' (some g)) (hlt : g < base) : w'.ownsRow base e size v n xs :=
  h.kept hg (by
    rcases hv : v.ownBlock with _ | b
    · exact .inl rfl
    · refine .inr fun e => ?_
      have h1 := h.lt b hv
      cases e; omega)
theorem Src.row {w w' : World} {base g c lo : Nat} {A : Option Addr} {L : List UInt8} {e : TypeId} {size n : Nat} {v : Value} {xs : List Value} (h : Src w g A L c lo) (hown : w.ownsRow base e size v n xs) (hg : w.grownBy w' v.ownBlock) (hlt : g < base) (hgs : g < w.heap.size) : Src w' g A L c lo := by
  obtain ⟨a, s, h1, h2, h3, h4, h5, h6, h7, h8⟩ := h
  have hne : ∀ k : Nat, k ≤ g → some k ≠ v.ownBlock := fun k hk e => by have := hown.lt k e.symm; omega
  exact ⟨a, s, h1, h2, hg.cell h3 (hne g (Nat.le_refl _)), hg.cell h4 (hne g (Nat.le_refl _)), hg.cell h5 (hne g (Nat.le_refl _)), (World.frozen?_of_block (a := ⟨g, 1, none⟩) (hg.block g hgs (hne g (Nat.le_refl _)))).trans h6, (World.frozen?_of_block (a := ⟨g, 2, none⟩) (hg.block g hgs (hne g (Nat.le_refl _)))).trans h7,
    h8.keep fun q _ hq => World.cell?_of_block (hg.block q.block (by omega) (hne q.block (by omega)))⟩

def Shd (d : Dec) : Prop := d.deed.size ≤ 10 ∧ d.by_.size ≤ 10
theorem Shd.ok {d : Dec} (h : Shd d) : d.ok := ⟨Nat.le_trans h.1 (by decide), Nat.le_trans h.2 (by decide)⟩

theorem shd_snoc {l : List Dec} {d : Dec} (h : ∀ x ∈ l, Shd x) (hd : Shd d) : ∀ x ∈ l ++ [d], Shd x := fun x hx => by
  rcases List.mem_append.1 hx with h1 | h1
  · exact h x h1
  · rw [List.mem_singleton.1 h1]; exact hd

set_option maxRecDepth 100000 in
set_option maxHeartbeats 4000000 in
theorem l26Draw_any (A : Option Addr) (L : List UInt8) (c lo g : Nat) (w : World) (hs : Src w g A L c lo) (hg : g < w.heap.size) (hL : L.length ≤ 2000000) :
    Calls Tryz.prog 33 #[.pointer (some ⟨g, 0, none⟩)] w fun e w' => ∃ (v : Value) (l : List Dec), e = .returned v ∧ w'.ownsRow w.heap.size 43 4 v l.length (l.flatMap Dec.cells) ∧ (∀ d ∈ l, Shd d) ∧ l.length ≤ 100 ∧ Src w' g A L c lo ∧ Mk g (g + 1) w w' := by
  obtain ⟨i0, hi0, hz0, hz1, hz2⟩ := info_parts infoDec
  have hzm : (Value.agg #[.string ByteArray.empty, .int .i64 0, .int .i64 0, .string ByteArray.empty]).cells.size = 4 := rfl
  have hua := Up.alloc w (.cells #[] 43)
  have own0 := World.ownsRow_lit (base := w.heap.size) (e := 43) (size := 4) w #[] 0 (Nat.le_refl _) (by simp [maxLen]) rfl
  have HN := Lib.hid (l01Next_any A L c lo g 10 _ (hs.up hua hg) (Nat.lt_of_lt_of_le hg hua.size) hL (by omega))
  go_enter Tryz.func33, Tryz.ntmps33
  go_wp2_with fail
  obtain ⟨v0, hv0⟩ : ∃ v, v = Value.slice (some ⟨w.heap.size, 0, none⟩) 0 0 := ⟨_, rfl⟩
  rw [← hv0] at own0 ⊢
  generalize w.alloc (.cells #[] 43) = wa at *
  clear hv0
  refine HN.out.mono ?_
  rintro e w1 ⟨z, rfl, hz, S1, m1⟩
  obtain ⟨hz0', hz1'⟩ := hz.lt (by omega)
  obtain ⟨zn, rfl⟩ := Int.eq_ofNat_of_zero_le hz0'
  have G1 := gr_mk ((Mk.up (b0 := g) (b1 := g + 1) hua).trans m1)
  have own1 := own_gr own0 (gr_mk m1) hg
  clear HN own0 hua m1 hz
  go_wp2_with fail
  go_loopw [3, 4, 5] (fun o n _ wr => ∃ (k : Nat) (l : List Dec), n = .int .i64 k ∧ l.length + k ≤ 10 ∧ (∀ d ∈ l, Shd d) ∧ wr.ownsRow w.heap.size 43 4 o l.length (l.flatMap Dec.cells) ∧ Src wr g A L c lo ∧ w.grownBy wr (some g)) (fun _ n _ _ => (intOf n).toNat)
  case atStart => exact ⟨zn, [], rfl, by simp; omega, by simp, own1, S1, G1⟩
  case round =>
    obtain ⟨k, l, rfl, hk, hsh, hown, hS, hG⟩ := hrel
    have HSH := Lib.hid hsh
    clear hsh
    have hgr : g < wr.heap.size := Nat.lt_of_lt_of_le hg hG.size
    have HS := Lib.hid hS
    have HG := Lib.hid hG
    clear hS hG
    rcases k with _ | k
    · go_wp2_with fail
      refine (l01Next_any A L c lo g 60 wr HS.out hgr hL (by omega)).mono ?_
      rintro e w1 ⟨zx, rfl, hzx, S1, m1⟩
      have own1 := own_gr hown (gr_mk m1) hg
      have G1 := gr_mk ((mk_gr HG.out).trans m1)
      have hg1 := Nat.lt_of_lt_of_le hgr m1.size
      clear hown HS HG m1 hzx
      by_cases hzz : zx = 0
      · have hzb : (zx == 0) = true := by simpa using hzz
        clear hzz own1
        have hua := Up.alloc w1 (.cells #[] 43)
        have own0 := World.ownsRow_lit (base := w.heap.size) (e := 43) (size := 4) w1 #[] 0 G1.size (by simp [maxLen]) rfl
        have HN := Lib.hid (l01Next_any A L c lo g 2 _ (S1.up hua hg1) (Nat.lt_of_lt_of_le hg1 hua.size) hL (by omega))
        have G2 := gr_up G1 hua
        clear S1 G1
        go_wp2_with fail
        obtain ⟨v0, hv0⟩ : ∃ v, v = Value.slice (some ⟨w1.heap.size, 0, none⟩) 0 0 := ⟨_, rfl⟩
        rw [← hv0] at own0 ⊢
        generalize w1.alloc (.cells #[] 43) = w2 at *
        clear hv0
        refine HN.out.mono ?_
        rintro e w3 ⟨z, rfl, hz, S3, m3⟩
        obtain ⟨hz0', hz1'⟩ := hz.lt (by omega)
        obtain ⟨zn, rfl⟩ := Int.eq_ofNat_of_zero_le hz0'
        have G3 := gr_mk ((mk_gr G2).trans m3)
        have own3 := own_gr own0 (gr_mk m3) hg
        clear HN own0 hua m3 hz G2
        go_wp2_with fail
        go_loopw [3, 6] (fun o n wr => ∃ (k : Nat) (l : List Dec), n = .int .i64 k ∧ l.length + k ≤ 81 ∧ (∀ d ∈ l, Shd d) ∧ wr.ownsRow w.heap.size 43 4 o l.length (l.flatMap Dec.cells) ∧ Src wr g A L c lo ∧ w.grownBy wr (some g)) (fun _ n _ => (intOf n).toNat)
        case atStart => exact ⟨80 + zn, [], by go_num, by simp; omega, by simp, own3, S3, G3⟩
        case round =>
          obtain ⟨k, l2, rfl, hk2, hsh2, own4, S4, G4⟩ := hrel
          have HS2 := Lib.hid hsh2
          clear hsh2 own3 S3 G3 HSH
          rcases k with _ | k
          · go_wp2
            go_ret
            exact ⟨_, l2, rfl, own4, HS2.out, by omega, S4, mk_gr G4⟩
          · have n1 : l2.length + 1 ≤ maxLen := by unfold maxLen; omega
            have n2 : (l2.length + 1) * 48 ≤ 140737488355328 := by omega
            obtain ⟨d, hd⟩ : ∃ d : Dec, d = ⟨⟨#[111, 110, 101]⟩, 0, ((k + 1 : Nat) : Int), ⟨#[97, 110, 110]⟩⟩ := ⟨_, rfl⟩
            have hsd : Shd d := by rw [hd]; exact ⟨(by decide : (3 : Nat) ≤ 10), (by decide : (3 : Nat) ≤ 10)⟩
            have ubx := Up.alloc wr (.cells #[.string ⟨#[111, 110, 101]⟩, .int .i64 0, .int .i64 ((k + 1 : Nat) : Int), .string ⟨#[97, 110, 110]⟩] 43)
            have ownx := own_up own4 ubx
            have hnews : ∀ j u, d.cells[j]? = some u → (wr.alloc (.cells #[.string ⟨#[111, 110, 101]⟩, .int .i64 0, .int .i64 ((k + 1 : Nat) : Int), .string ⟨#[97, 110, 110]⟩] 43)).cell? ((⟨wr.heap.size, 0, none⟩ : Addr).add j) = some u := by rw [hd]; exact (Dx.new wr ⟨⟨#[111, 110, 101]⟩, 0, ((k + 1 : Nat) : Int), ⟨#[97, 110, 110]⟩⟩).news
            have n3 : w.heap.size ≤ (wr.alloc (.cells #[.string ⟨#[111, 110, 101]⟩, .int .i64 0, .int .i64 ((k + 1 : Nat) : Int), .string ⟨#[97, 110, 110]⟩] 43)).heap.size := Nat.le_trans G4.size ubx.size
            have SX := Lib.hid (S4.up ubx (Nat.lt_of_lt_of_le hg G4.size))
            have GX := Lib.hid (gr_up G4 ubx)
            clear S4 G4 hd
            go_wp2_with ((at_builtin; refine wpList_append_own _ rfl _ _ 22 rfl w.heap.size 43 i0 _ 4 48 Tryz.underlying22 hi0 hz0 hz1 hz2 hzm (by decide) _ _ _ rfl ownx ⟨wr.heap.size, 0, none⟩ 1 1 d.cells rfl rfl hnews (dec_one d) n1 n2 n3 ?_))
            intro v' w9 hown' hgrow _
            have hlt : ∀ b, Value.ownBlock _ = some b → w.heap.size ≤ b := fun b hb => (ownx.lt b hb).1
            have S9 := SX.out.row ownx hgrow hg (Nat.lt_of_lt_of_le hg n3)
            have G9 := gr_row GX.out hgrow hlt
            have ho : w9.ownsRow w.heap.size 43 4 v' (l2 ++ [d]).length ((l2 ++ [d]).flatMap Dec.cells) := by simpa using hown'
            clear hown' hgrow ownx hlt
            go_wp2
            go_roundw
            case rel => exact ⟨k, l2 ++ [d], by go_num, by simp; omega, shd_snoc HS2.out hsd, ho, S9, G9⟩
            case measure => simp [intOf]
      · have hzb : (zx == 0) = false := by simpa using hzz
        clear hzz
        go_wp2
        go_ret
        exact ⟨_, l, rfl, own1, HSH.out, by omega, S1, mk_gr G1⟩
    · go_wp2_with fail
      refine (l26DrawOne_any A L c lo g wr HS.out hgr hL).mono ?_
      rintro e w1 ⟨d, rfl, hd1, hd2, S1, m1⟩
      have own1 := own_gr hown (gr_mk m1) hg
      have G1 := gr_mk ((mk_gr HG.out).trans m1)
      have hg1 := Nat.lt_of_lt_of_le hgr m1.size
      have hdok : d.ok := Shd.ok ⟨hd1, hd2⟩
      have hub := Up.alloc w1 (.cells #[.string d.deed, .int .i64 d.kind, .int .i64 d.day, .string d.by_] 43)
      have D2 := DB.new w1 d
      have own2 := own_up own1 hub
      have S2 := S1.up hub hg1
      have G2 := gr_up G1 hub
      obtain ⟨y0, y1, y2, y3, -, -, -, -⟩ := id D2
      clear own1 S1 G1 m1
      go_wp2_with fail
      generalize w1.alloc (.cells #[.string d.deed, .int .i64 d.kind, .int .i64 d.day, .string d.by_] 43) = w2 at *
      refine (l26Could_any d hdok w2).mono ?_
      rintro e w3 ⟨rfl, hup3⟩
      clear y0 y1 y2 y3
      have hg2 : g < w2.heap.size := Nat.lt_of_lt_of_le hg G2.size
      have D3 := D2.up hup3
      have own3 := own_up own2 hup3
      have S3 := S2.up hup3 hg2
      have G3 := gr_up G2 hup3
      have HD2g : w1.heap.size ≠ g := by omega
      obtain ⟨x0, x1, x2, x3, -, -, -, -⟩ := id D3
      clear own2 S2
      by_cases hc : decB d = true
      · obtain ⟨A', c', rfl, -, -, -, -⟩ := own_form own3
        have hrd : RdD w3 w.heap.size w3.heap.size A' l := Rd.own dec_len' own3
        go_wp2_with fail
        refine (l26May_any A' l c' w.heap.size w3.heap.size d w3 hrd (Nat.le_refl _) (by unfold maxLen; omega)).mono ?_
        rintro e w4 ⟨rfl, hup4⟩
        have D4 := D3.up hup4
        have own4 := own_up own3 hup4
        have S4 := S3.up hup4 (Nat.lt_of_lt_of_le hg G3.size)
        have G4 := gr_up G3 hup4
        clear own3 S3 hrd x0 x1 x2 x3
        by_cases hm : mayB l d = true
        · obtain ⟨x0, x1, x2, x3, -, -, -, -⟩ := id D4
          have n1 : l.length + 1 ≤ maxLen := by unfold maxLen; omega
          have n2 : (l.length + 1) * 48 ≤ 140737488355328 := by omega
          have ubx := Up.alloc w4 (.cells #[.string d.deed, .int .i64 d.kind, .int .i64 d.day, .string d.by_] 43)
          have ownx := own_up own4 ubx
          have hnews := (Dx.new w4 d).news
          have n3 : w.heap.size ≤ (w4.alloc (.cells #[.string d.deed, .int .i64 d.kind, .int .i64 d.day, .string d.by_] 43)).heap.size := Nat.le_trans G4.size ubx.size
          have SX := Lib.hid (S4.up ubx (Nat.lt_of_lt_of_le hg G4.size))
          have GX := Lib.hid (gr_up G4 ubx)
          clear S4 G4
          go_wp2_with ((at_builtin; refine wpList_append_own _ rfl _ _ 22 rfl w.heap.size 43 i0 _ 4 48 Tryz.underlying22 hi0 hz0 hz1 hz2 hzm (by decide) _ _ _ rfl ownx ⟨w4.heap.size, 0, none⟩ 1 1 d.cells rfl rfl hnews (dec_one d) n1 n2 n3 ?_))
          intro v' w9 hown' hgrow _
          have hlt : ∀ b, Value.ownBlock _ = some b → w.heap.size ≤ b := fun b hb => (ownx.lt b hb).1
          have S9 := SX.out.row ownx hgrow hg (Nat.lt_of_lt_of_le hg n3)
          have G9 := gr_row GX.out hgrow hlt
          have ho : w9.ownsRow w.heap.size 43 4 v' (l ++ [d]).length ((l ++ [d]).flatMap Dec.cells) := by simpa using hown'
          clear hown' hgrow ownx hlt
          go_wp2
          go_roundw
          case rel => exact ⟨k, l ++ [d], by go_num, by simp; omega, shd_snoc HSH.out ⟨hd1, hd2⟩, ho, S9, G9⟩
          case measure => simp [intOf]
        · have hm' : mayB l d = false := by simpa using hm
          clear hm
          go_wp2_with fail
          refine (l01Next_any A L c lo g 60 w4 S4 (Nat.lt_of_lt_of_le hg G4.size) hL (by omega)).mono ?_
          rintro e w6 ⟨zx, rfl, hzx, S6, m6⟩
          have own6 := own_gr own4 (gr_mk m6) hg
          have G6 := gr_mk ((mk_gr G4).trans m6)
          obtain ⟨u0, u1, u2, u3, -, -, -, -⟩ := D4.mk m6 (by have := G2.size; omega)
          clear own4 S4 G4 m6 hzx
          by_cases hzz : zx = 0
          · have hzb : (zx == 0) = true := by simpa using hzz
            clear hzz
            have n1 : l.length + 1 ≤ maxLen := by unfold maxLen; omega
            have n2 : (l.length + 1) * 48 ≤ 140737488355328 := by omega
            have ubx := Up.alloc w6 (.cells #[.string d.deed, .int .i64 d.kind, .int .i64 d.day, .string d.by_] 43)
            have ownx := own_up own6 ubx
            have hnews := (Dx.new w6 d).news
            have n3 : w.heap.size ≤ (w6.alloc (.cells #[.string d.deed, .int .i64 d.kind, .int .i64 d.day, .string d.by_] 43)).heap.size := Nat.le_trans G6.size ubx.size
            have SX := Lib.hid (S6.up ubx (Nat.lt_of_lt_of_le hg G6.size))
            have GX := Lib.hid (gr_up G6 ubx)
            clear S6 G6
            go_wp2_with ((at_builtin; refine wpList_append_own _ rfl _ _ 22 rfl w.heap.size 43 i0 _ 4 48 Tryz.underlying22 hi0 hz0 hz1 hz2 hzm (by decide) _ _ _ rfl ownx ⟨w6.heap.size, 0, none⟩ 1 1 d.cells rfl rfl hnews (dec_one d) n1 n2 n3 ?_))
            intro v' w9 hown' hgrow _
            have hlt : ∀ b, Value.ownBlock _ = some b → w.heap.size ≤ b := fun b hb => (ownx.lt b hb).1
            have S9 := SX.out.row ownx hgrow hg (Nat.lt_of_lt_of_le hg n3)
            have G9 := gr_row GX.out hgrow hlt
            have ho : w9.ownsRow w.heap.size 43 4 v' (l ++ [d]).length ((l ++ [d]).flatMap Dec.cells) := by simpa using hown'
            clear hown' hgrow ownx hlt
            go_wp2
            go_roundw
            case rel => exact ⟨k, l ++ [d], by go_num, by simp; omega, shd_snoc HSH.out ⟨hd1, hd2⟩, ho, S9, G9⟩
            case measure => simp [intOf]
          · have hzb : (zx == 0) = false := by simpa using hzz
            clear hzz
            go_wp2
            go_roundw
            case rel => exact ⟨k, l, by go_num, by omega, HSH.out, own6, S6, G6⟩
            case measure => simp [intOf]
      · have hc' : decB d = false := by simpa using hc
        clear hc
        go_wp2_with fail
        refine (l01Next_any A L c lo g 60 w3 S3 (Nat.lt_of_lt_of_le hg G3.size) hL (by omega)).mono ?_
        rintro e w6 ⟨zx, rfl, hzx, S6, m6⟩
        have own6 := own_gr own3 (gr_mk m6) hg
        have G6 := gr_mk ((mk_gr G3).trans m6)
        obtain ⟨u0, u1, u2, u3, -, -, -, -⟩ := D3.mk m6 (by have := G2.size; omega)
        clear own3 S3 G3 m6 hzx
        by_cases hzz : zx = 0
        · have hzb : (zx == 0) = true := by simpa using hzz
          clear hzz
          have n1 : l.length + 1 ≤ maxLen := by unfold maxLen; omega
          have n2 : (l.length + 1) * 48 ≤ 140737488355328 := by omega
          have ubx := Up.alloc w6 (.cells #[.string d.deed, .int .i64 d.kind, .int .i64 d.day, .string d.by_] 43)
          have ownx := own_up own6 ubx
          have hnews := (Dx.new w6 d).news
          have n3 : w.heap.size ≤ (w6.alloc (.cells #[.string d.deed, .int .i64 d.kind, .int .i64 d.day, .string d.by_] 43)).heap.size := Nat.le_trans G6.size ubx.size
          have SX := Lib.hid (S6.up ubx (Nat.lt_of_lt_of_le hg G6.size))
          have GX := Lib.hid (gr_up G6 ubx)
          clear S6 G6
          go_wp2_with ((at_builtin; refine wpList_append_own _ rfl _ _ 22 rfl w.heap.size 43 i0 _ 4 48 Tryz.underlying22 hi0 hz0 hz1 hz2 hzm (by decide) _ _ _ rfl ownx ⟨w6.heap.size, 0, none⟩ 1 1 d.cells rfl rfl hnews (dec_one d) n1 n2 n3 ?_))
          intro v' w9 hown' hgrow _
          have hlt : ∀ b, Value.ownBlock _ = some b → w.heap.size ≤ b := fun b hb => (ownx.lt b hb).1
          have S9 := SX.out.row ownx hgrow hg (Nat.lt_of_lt_of_le hg n3)
          have G9 := gr_row GX.out hgrow hlt
          have ho : w9.ownsRow w.heap.size 43 4 v' (l ++ [d]).length ((l ++ [d]).flatMap Dec.cells) := by simpa using hown'
          clear hown' hgrow ownx hlt
          go_wp2
          go_roundw
          case rel => exact ⟨k, l ++ [d], by go_num, by simp; omega, shd_snoc HSH.out ⟨hd1, hd2⟩, ho, S9, G9⟩
          case measure => simp [intOf]
        · have hzb : (zx == 0) = false := by simpa using hzz
          clear hzz
          go_wp2
          go_roundw
          case rel => exact ⟨k, l, by go_num, by omega, HSH.out, own6, S6, G6⟩
          case measure => simp [intOf]
end Go.Proofs.YtngananoidplmaaGreatDoor
