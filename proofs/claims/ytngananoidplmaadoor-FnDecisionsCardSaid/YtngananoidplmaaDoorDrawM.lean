/- Drawn logs with a deed, a name or a decision. -/
import Derived.Test.YtngananoidplmaaDoorDrawL
namespace Go.Proofs.YtngananoidplmaaDoor
open Go.RowKit Go.Sort

def OwnL (w w' : World) (v : Value) (l : List Dec) : Prop := w'.ownsRow w.heap.size 43 4 v l.length (l.flatMap Dec.cells) ∧ (∀ d ∈ l, Shd d) ∧ l.length ≤ 100

set_option maxRecDepth 100000 in
set_option maxHeartbeats 2000000 in
theorem drawStateOf_any (A : Option Addr) (L : List UInt8) (c lo hi : Nat) (w : World) (hr : RdY w lo hi A L) (hhi : hi ≤ w.heap.size) (hn : L.length ≤ 2000000) :
    Calls Tryd.prog 59 #[.slice A L.length c] w fun e w' => ∃ (v : Value) (l : List Dec) (s : ByteArray), e = .returned (.tuple #[v, .string s]) ∧ OwnL w w' v l ∧ s.size ≤ 5 ∧ Up w w' := by
  go_enter Tryd.func59, Tryd.ntmps59
  go_wp2_with fail
  refine (l01From_any A L c lo hi w hr hhi hn).mono ?_
  rintro e w1 ⟨rfl, h1, S1, u1⟩
  go_wp2_with fail
  refine (l26Draw_any A L c lo w.heap.size w1 S1 h1 hn).mono ?_
  rintro e w2 ⟨v, l, rfl, o2, hsh, hl, S2, m2⟩
  have h2 : w.heap.size < w2.heap.size := Nat.lt_of_lt_of_le h1 m2.size
  go_wp2_with fail
  refine (l26DrawName_any A L c lo w.heap.size w2 S2 h2 hn).mono ?_
  rintro e w3 ⟨s, rfl, hs, S3, m3⟩
  have o3 := own_base (own_gr o2 (gr_mk m3) h1) u1.size
  have u3 := (u1.mk m2 (Nat.le_refl _)).mk m3 (Nat.le_refl _)
  clear S1 S2 S3 m2 m3 o2
  have H3 := Lib.hid (show OwnL w w3 v l from ⟨o3, hsh, hl⟩)
  clear o3 hsh hl
  go_wp2
  go_ret2
  exact ⟨_, l, s, rfl, H3.out, hs, u3⟩

set_option maxRecDepth 100000 in
set_option maxHeartbeats 2000000 in
theorem drawDayOf_any (A : Option Addr) (L : List UInt8) (c lo hi : Nat) (w : World) (hr : RdY w lo hi A L) (hhi : hi ≤ w.heap.size) (hn : L.length ≤ 2000000) :
    Calls Tryd.prog 38 #[.slice A L.length c] w fun e w' => ∃ (v : Value) (l : List Dec) (s : ByteArray), e = .returned (.tuple #[v, .string s]) ∧ OwnL w w' v l ∧ s.size ≤ 5 ∧ Up w w' := by
  go_enter Tryd.func38, Tryd.ntmps38
  go_wp2_with fail
  refine (drawStateOf_any A L c lo hi w hr hhi hn).mono ?_
  rintro e w1 ⟨v, l, s, rfl, ho, hs, u1⟩
  have H3 := Lib.hid ho
  clear ho
  go_wp2
  go_ret2
  exact ⟨_, l, s, rfl, H3.out, hs, u1⟩

set_option maxRecDepth 100000 in
set_option maxHeartbeats 2000000 in
theorem drawDecideDeed_any (A : Option Addr) (L : List UInt8) (c lo hi : Nat) (w : World) (hr : RdY w lo hi A L) (hhi : hi ≤ w.heap.size) (hn : L.length ≤ 2000000) :
    Calls Tryd.prog 37 #[.slice A L.length c] w fun e w' => ∃ (v : Value) (l : List Dec) (d : Dec), e = .returned (.tuple #[v, d.val]) ∧ OwnL w w' v l ∧ Shd d ∧ Up w w' := by
  have hub := Up.alloc w (.cells #[.string ⟨#[]⟩, .int .i64 0, .int .i64 0, .string ⟨#[]⟩] 43)
  have R0 := DB.new w ⟨⟨#[]⟩, 0, 0, ⟨#[]⟩⟩
  have HF := Lib.hid (l01From_any A L c lo hi _ (hr.up hub hhi) (Nat.le_trans hhi hub.size) hn)
  go_enter Tryd.func37, Tryd.ntmps37
  go_wp2_with fail
  have hwa : w.heap.size < (w.alloc (.cells #[.string ⟨#[]⟩, .int .i64 0, .int .i64 0, .string ⟨#[]⟩] 43)).heap.size := by simp
  generalize w.alloc (.cells #[.string ⟨#[]⟩, .int .i64 0, .int .i64 0, .string ⟨#[]⟩] 43) = wa at *
  refine HF.out.mono ?_
  rintro e w1 ⟨rfl, h1, S1, u1⟩
  have R1 := R0.up u1
  clear HF R0
  go_wp2_with fail
  refine (l26Draw_any A L c lo wa.heap.size w1 S1 h1 hn).mono ?_
  rintro e w2 ⟨v, l, rfl, o2, hsh, hl, S2, m2⟩
  have h2 : wa.heap.size < w2.heap.size := Nat.lt_of_lt_of_le h1 m2.size
  have R2 := R1.mk m2 (Nat.ne_of_lt hwa)
  clear R1
  go_wp2_with fail
  refine (l26DrawOne_any A L c lo wa.heap.size w2 S2 h2 hn).mono ?_
  rintro e w3 ⟨d, rfl, hd1, hd2, S3, m3⟩
  have o3 := own_gr o2 (gr_mk m3) h1
  have hw1 : w.heap.size < w1.heap.size := Nat.lt_of_lt_of_le hwa u1.size
  have u3 := hub.trans ((u1.mk m2 (Nat.le_refl _)).mk m3 (Nat.le_refl _))
  obtain ⟨r0, r1, r2, r3, k0, k1, k2, k3⟩ := R2.mk m3 (Nat.ne_of_lt hwa)
  clear S1 S2 S3 m2 m3 o2
  have H3 := Lib.hid o3
  have HS := Lib.hid (And.intro hsh hl)
  clear o3 hsh hl R2
  go_wp2
  refine bodyPost_ret (v := .tuple #[v, d.val]) (by simp [results, Tryd.results37, go_sem, r0, r1, r2, r3]) rfl ⟨v, l, d, rfl, ⟨own_base (ownsRow_setCell_below (ownsRow_setCell_below (ownsRow_setCell_below (ownsRow_setCell_below H3.out (a := ⟨w.heap.size, 0, none⟩) hw1 _) (a := ⟨w.heap.size, 1, none⟩) hw1 _) (a := ⟨w.heap.size, 2, none⟩) hw1 _) (a := ⟨w.heap.size, 3, none⟩) hw1 _) (Nat.le_of_lt hw1), HS.out.1, HS.out.2⟩, ⟨hd1, hd2⟩,
    (((u3.setCell (Nat.le_refl _) _).setCell (Nat.le_refl _) _).setCell (Nat.le_refl _) _).setCell (Nat.le_refl _) _⟩

/-- three names in a row -/
def Nm3 (W : World) (b : Nat) : Prop := W.cell? ⟨b, 0, none⟩ = some (.string ⟨#[97, 110, 110]⟩) ∧ W.cell? ⟨b, 1, none⟩ = some (.string ⟨#[98, 111, 98]⟩) ∧ W.cell? ⟨b, 2, none⟩ = some (.string ⟨#[99, 97, 114, 108]⟩)
theorem Nm3.new (W : World) : Nm3 (W.alloc (.cells #[.string ⟨#[97, 110, 110]⟩, .string ⟨#[98, 111, 98]⟩, .string ⟨#[99, 97, 114, 108]⟩] 9)) W.heap.size := ⟨by go_simp, by go_simp, by go_simp⟩
theorem Nm3.mk {W W' : World} {b g : Nat} (h : Nm3 W b) (m : Mk g (g + 1) W W') (hb : g < b) : Nm3 W' b := ⟨m.cell h.1 (.inr hb), m.cell h.2.1 (.inr hb), m.cell h.2.2 (.inr hb)⟩
theorem Nm3.get {W : World} {b : Nat} (h : Nm3 W b) {z : Nat} (hz : z < 3) : ∃ s : ByteArray, W.cell? ⟨b, z, none⟩ = some (.string s) ∧ s.size ≤ 5 := by
  have h3 : z = 0 ∨ z = 1 ∨ z = 2 := by omega
  rcases h3 with rfl | rfl | rfl
  · exact ⟨_, h.1, by decide⟩
  · exact ⟨_, h.2.1, by decide⟩
  · exact ⟨_, h.2.2, by decide⟩

set_option maxRecDepth 100000 in
set_option maxHeartbeats 4000000 in
theorem drawCountBy_any (A : Option Addr) (L : List UInt8) (c lo hi : Nat) (w : World) (hr : RdY w lo hi A L) (hhi : hi ≤ w.heap.size) (hn : L.length ≤ 2000000) :
    Calls Tryd.prog 39 #[.slice A L.length c] w fun e w' => ∃ (v : Value) (l : List Dec) (s : ByteArray), e = .returned (.tuple #[v, .string s]) ∧ OwnL w w' v l ∧ s.size ≤ 5 ∧ Up w w' := by
  go_enter Tryd.func39, Tryd.ntmps39
  go_wp2_with fail
  refine (l01From_any A L c lo hi w hr hhi hn).mono ?_
  rintro e w1 ⟨rfl, h1, S1, u1⟩
  have hub : ∀ wx, Up wx (wx.alloc (.cells #[.string ⟨#[97, 110, 110]⟩, .string ⟨#[98, 111, 98]⟩, .string ⟨#[99, 97, 114, 108]⟩] 9)) := fun wx => Up.alloc _ _
  have ud1 : Up w1 w1.drew := (Up.refl w1).drew
  have S1d := S1.up ud1 h1
  have h1d := Nat.lt_of_lt_of_le h1 ud1.size
  have S1a := S1d.up (hub w1.drew) h1d
  have h1a := Nat.lt_of_lt_of_le h1d (hub w1.drew).size
  have HD := Lib.hid (l26Draw_any A L c lo w.heap.size w1.drew S1d h1d hn)
  have HDa := Lib.hid (l26Draw_any A L c lo w.heap.size _ S1a h1a hn)
  go_wp2_with fail
  go_region_law (first
    | (go_simp; go_at_call 57; refine HD.out.mono ?_; rintro e w2 ⟨v, l, rfl, o2, hsh, hl, S2, m2⟩)
    | (go_simp; go_at_call 57; refine HDa.out.mono ?_; rintro e w2 ⟨v, l, rfl, o2, hsh, hl, S2, m2⟩)
    | (go_simp; go_at_call 60; refine (l01Next_any A L c lo w.heap.size 3 w2 S2 (Nat.lt_of_lt_of_le h1 (Nat.le_trans (hub w1.drew).size m2.size)) hn (by omega)).mono ?_
       rintro e w3 ⟨zx, rfl, hzx, S3, m3⟩; obtain ⟨hz0, hz1⟩ := hzx.lt (by omega); obtain ⟨zn, rfl⟩ := Int.eq_ofNat_of_zero_le hz0
       obtain ⟨sx, hsx, hsl⟩ : ∃ s : ByteArray, w3.cell? ⟨w1.heap.size, zn, none⟩ = some (.string s) ∧ s.size ≤ 5 := (((Nm3.new w1.drew).mk m2 h1d).mk m3 h1d).get (z := zn) (by omega)
       have HF := Lib.hid (show OwnL w w3 v l ∧ Up w w3 from ⟨⟨own_base (own_gr o2 (gr_mk m3) h1a) (Nat.le_trans u1.size (hub w1.drew).size), hsh, hl⟩, (((u1.trans ud1).trans (hub w1.drew)).mk m2 (Nat.le_refl _)).mk m3 (Nat.le_refl _)⟩))
    | (go_simp; go_at_call 60; refine (l01Next_any A L c lo w.heap.size 3 w2 S2 (Nat.lt_of_lt_of_le h1 m2.size) hn (by omega)).mono ?_
       rintro e w3 ⟨zx, rfl, hzx, S3, m3⟩; obtain ⟨hz0, hz1⟩ := hzx.lt (by omega); obtain ⟨zn, rfl⟩ := Int.eq_ofNat_of_zero_le hz0
       obtain ⟨sx, hsx, hsl⟩ := (Nm3.new w3).get (z := zn) (by omega)
       have HF := Lib.hid (show OwnL w (w3.alloc (.cells #[.string ⟨#[97, 110, 110]⟩, .string ⟨#[98, 111, 98]⟩, .string ⟨#[99, 97, 114, 108]⟩] 9)) v l ∧ Up w (w3.alloc (.cells #[.string ⟨#[97, 110, 110]⟩, .string ⟨#[98, 111, 98]⟩, .string ⟨#[99, 97, 114, 108]⟩] 9)) from
         ⟨⟨own_up (own_base (own_gr o2 (gr_mk m3) h1d) u1.size) (hub w3), hsh, hl⟩, (((u1.trans ud1).mk m2 (Nat.le_refl _)).mk m3 (Nat.le_refl _)).trans (hub w3)⟩))
    | (go_simp; go_at_call 60; refine (l01Next_any A L c lo w.heap.size 3 _ (S2.up (hub w2) (Nat.lt_of_lt_of_le h1 m2.size)) (Nat.lt_of_lt_of_le (Nat.lt_of_lt_of_le h1 m2.size) (hub w2).size) hn (by omega)).mono ?_
       rintro e w3 ⟨zx, rfl, hzx, S3, m3⟩; obtain ⟨hz0, hz1⟩ := hzx.lt (by omega); obtain ⟨zn, rfl⟩ := Int.eq_ofNat_of_zero_le hz0
       obtain ⟨sx, hsx, hsl⟩ := ((Nm3.new w2).mk m3 (Nat.lt_of_lt_of_le h1 m2.size)).get (z := zn) (by omega)
       have HF := Lib.hid (show OwnL w w3 v l ∧ Up w w3 from ⟨⟨own_base (own_gr (own_up o2 (hub w2)) (gr_mk m3) h1d) u1.size, hsh, hl⟩, ((((u1.trans ud1).mk m2 (Nat.le_refl _)).trans (hub w2)).mk m3 (Nat.le_refl _))⟩)))
  all_goals
    clear HD HDa S2 S3 m2 m3 o2
    go_wp2
    go_ret2
    exact ⟨v, l, sx, rfl, HF.out.1, hsl, HF.out.2⟩
end Go.Proofs.YtngananoidplmaaDoor
