/- Copies of formulas that share nothing: the reference's and the program's. -/
import Derived.Test.YtblpjjcjnaigiaaGreatDoorWnA
namespace Go.Proofs.YtblpjjcjnaigiaaGreatDoor
open Go.RowKit Go.Sort

theorem fmZero : (Value.agg #[.slice none 0 0, .int .i64 0, .int .i64 0]).cells.size = 3 := rfl
theorem infoFmW : (Tryz.prog.info? 110).map (fun i => (i.zero, i.size, i.bytes)) = some (some (.agg #[.slice none 0 0, .int .i64 0, .int .i64 0]), 3, 40) := by kernel_rfl
theorem fmNews (W : World) (v : Value) (fr to_ : Int) : ∀ (j : Nat) u, [v, Value.int .i64 fr, .int .i64 to_][j]? = some u → (W.alloc (.cells #[v, .int .i64 fr, .int .i64 to_] 110)).cell? ((⟨W.heap.size, 0, none⟩ : Addr).add j) = some u := fun j u hu => by
  match j, hu with
  | 0, hu => simp at hu; subst hu; simp [Addr.add]
  | 1, hu => simp at hu; subst hu; simp [Addr.add]
  | 2, hu => simp at hu; subst hu; simp [Addr.add]
theorem takeMap {α β : Type} {f : α → β} {l : List α} {k : Nat} {d : α} (h : l[k]? = some d) : (l.take (k + 1)).map f = (l.take k).map f ++ [f d] := by
  obtain ⟨hk, e⟩ := List.getElem?_eq_some_iff.1 h
  rw [List.take_succ_eq_append_getElem hk, List.map_append, e]; rfl
theorem upKeep3 {w w' : World} {a b c : Addr} {x y z : Value} (h : Up w w') (ha : w.cell? a = some x) (hb : w.cell? b = some y) (hc : w.cell? c = some z) : Up w w' ∧ w'.cell? a = some x ∧ w'.cell? b = some y ∧ w'.cell? c = some z := ⟨h, h.cell ha, h.cell hb, h.cell hc⟩
/-- a list of formulas grew by one -/
theorem OwA.fmSnoc {w w1 w2 w' : World} {base : Nat} {g : Sl Fm} {y : Fm} {b cap : Nat} (h : OwA w base (rowsFm g)) (u : Up w w1) (hb : base ≤ w.heap.size) (hy : w1.ownsRow w.heap.size 9 1 y.sl y.ws.length (y.ws.flatMap strC)) (u2 : Up w1 w2)
    (hown : w'.ownsRow base 110 3 (.slice (some ⟨b, 0, none⟩) (g.l.length + 1) cap) (g.l.length + 1) (g.l.flatMap Fm.cells ++ y.cells)) (hg : w2.grownBy w' g.val.ownBlock)
    (hat : g.val.ownBlock = some b ∨ b = w2.heap.size) : OwA w' base (rowsFm ⟨some ⟨b, 0, none⟩, cap, g.l ++ [y]⟩) := by
  have h1 : OwA w2 base (rwForm g :: (g.l.map rwWords ++ [rwWords y])) := by
    have := (h.append (M := [rwWords y]) u hb (OwA.one (r := rwWords y) hy)).up u2
    simpa [rowsFm] using this
  have h2 := h1.push (r' := rwForm ⟨some ⟨b, 0, none⟩, cap, g.l ++ [y]⟩) (by
    show w'.ownsRow base 110 3 (.slice (some ⟨b, 0, none⟩) (g.l ++ [y]).length cap) (g.l ++ [y]).length ((g.l ++ [y]).flatMap Fm.cells)
    rw [List.length_append, List.flatMap_append]; simpa using hown) hg (by
    rcases hat with q | q
    · exact .inl q.symm
    · exact .inr (by show some b = _; rw [q]))
  simpa [rowsFm] using h2
theorem OwA.fmNil {w : World} {base : Nat} {A : Option Addr} {c : Nat} (h : w.ownsRow base 110 3 (.slice A 0 c) 0 []) : OwA w base (rowsFm ⟨A, c, []⟩) := OwA.one (r := rwForm ⟨A, c, []⟩) h

set_option maxRecDepth 100000 in
set_option maxHeartbeats 8000000 in
theorem l24OwnW_any (s : Sl Fm) (lo hi : Nat) (w : World) (h : SrF w lo hi s) :
    Calls Tryz.prog 17 #[.slice s.A s.l.length s.c] w fun e w' => ∃ g : Sl Fm, e = .returned (.slice g.A g.l.length g.c) ∧ OwA w' w.heap.size (rowsFm g) ∧ g.l.map Fm.p = s.l.map Fm.p ∧ Up w w' := by
  obtain ⟨A, c, l⟩ := s
  have hn : l.length ≤ 2000000 := h.len
  have hhi := h.hhi
  have hr : RdF w lo hi A l := h.rd
  have hs : ∀ x ∈ l, x.ws.length ≤ 2000000 := h.ws
  simp only at hr ⊢
  clear h
  obtain ⟨i0, hi0, hz0, hz1, hz2⟩ := info_parts infoStrW
  obtain ⟨i1, hi1, hy0, hy1, hy2⟩ := info_parts infoFmW
  have hlit := World.ownsRow_lit (base := w.heap.size) (e := 110) (size := 3) w #[] 0 (Nat.le_refl _) (by simp [maxLen]) rfl
  have hup0 := Up.alloc w (.cells #[] 110)
  have ST0 : OwA (w.alloc (.cells #[] 110)) w.heap.size (rowsFm ⟨some ⟨w.heap.size, 0, none⟩, 0, []⟩) := OwA.fmNil hlit
  clear hlit
  go_enter Tryz.func17, Tryz.ntmps17
  go_wp2
  obtain ⟨v0, hv0⟩ : ∃ v : Sl Fm, v = ⟨some ⟨w.heap.size, 0, none⟩, 0, []⟩ := ⟨_, rfl⟩
  rw [← hv0] at ST0
  rw [show Value.slice (some ⟨w.heap.size, 0, none⟩) 0 0 = Value.slice v0.A v0.l.length v0.c by rw [hv0]; rfl]
  have hv1 : v0.l = [] := by rw [hv0]
  generalize w.alloc (.cells #[] 110) = w2 at *
  clear hv0
  go_loopw [3, 4] (fun o i wr => ∃ (k : Nat) (g : Sl Fm), k ≤ l.length ∧ i = .int .i64 k ∧ o = .slice g.A g.l.length g.c ∧ g.l.length = k ∧ g.l.map Fm.p = (l.take k).map Fm.p ∧ OwA wr w.heap.size (rowsFm g) ∧ Up w wr) (fun _ i _ => l.length - (intOf i).toNat)
  case atStart => exact ⟨0, v0, Nat.zero_le _, rfl, rfl, by rw [hv1]; rfl, by rw [hv1]; rfl, ST0, hup0⟩
  case round =>
    clear ST0 hup0 hv1
    obtain ⟨k, g, hk, rfl, rfl, hL, hmap, hst, hup⟩ := hrel
    have HM := Lib.hid hmap
    have HL := Lib.hid hL
    clear hmap hL
    by_cases hlt : k < l.length
    · obtain ⟨b, off, d, rfl, -, -, hd, hrd, p0, p1, p2⟩ := hr.at_ hlt
      have q0 := hup.cell p0
      have q1 := hup.cell p1
      have q2 := hup.cell p2
      have hsz := hs d (List.mem_of_getElem? hd)
      have HD := Lib.hid hd
      clear hd
      obtain ⟨dA, dc, dws, dfr, dto⟩ := d
      simp only at hrd q0 q1 q2 p0 p1 p2 hsz
      have ua := Up.alloc wr (.cells #[] 9)
      have hlit := World.ownsRow_lit (base := wr.heap.size) (e := 9) (size := 1) wr #[] 0 (Nat.le_refl _) (by simp [maxLen]) rfl
      have HN := Lib.hid (hrd.up (hup.trans ua) hhi)
      have HLIT := Lib.hid hlit
      have n1 : 0 + dws.length ≤ maxLen := by unfold maxLen; omega
      have n2 : (0 + dws.length) * 16 ≤ 140737488355328 := by omega
      have n3 : wr.heap.size ≤ (wr.alloc (.cells #[] 9)).heap.size := ua.size
      have k1 : g.l.length + 1 ≤ maxLen := by have := HL.out; unfold maxLen; omega
      have k2 : (g.l.length + 1) * 40 ≤ 140737488355328 := by have := HL.out; omega
      have HST := Lib.hid hst
      have HUP := Lib.hid hup
      clear hlit hst
      go_wp2_with fail
      have hd1 : Up w wr.drew := HUP.out.drew
      have uaw := HUP.out.trans ua
      have uad := uaw.drew
      go_region_held_law (fun w' => Up w w' ∧ w'.cell? ⟨b, off + k * 3, none⟩ = some (.slice dA dws.length dc) ∧ w'.cell? ⟨b, off + k * 3 + 1, none⟩ = some (.int .i64 dfr) ∧ w'.cell? ⟨b, off + k * 3 + 2, none⟩ = some (.int .i64 dto))
        ((refine upKeep3 ?_ p0 p1 p2; first | assumption | exact hd1 | exact uaw | exact uad | exact HUP.out | exact Up.allocs (by assumption) _))
        ((first
        | (refine step_append_rd _ rfl (.tmp 13) (.tmp 18) 29 rfl wr.heap.size 9 i0 _ 1 16 Tryz.underlying29 hi0 hz0 hz1 hz2 rfl (by decide) (.slice (some ⟨wr.heap.size, 0, none⟩) 0 0) 0 [] (by simp [Act.eval]) HLIT.out strC strC_len one_str dA dws dc lo hi (by simp [Act.eval]) HN.out n1 n2 n3 ?_; intro v1 w1 hown1 hg1; have u1 : Up wr w1 := ua.drew.grown hg1 (fun k hk => (HLIT.out.lt k hk).1); have uw1 := HUP.out.trans u1; have hw1 : w1.ownsRow wr.heap.size 9 1 v1 dws.length (dws.flatMap strC) := (by simpa using hown1); obtain ⟨C1, c1, rfl, -⟩ := own_form hw1; have HOW := Lib.hid hw1; clear hown1 hg1 hw1)
        | (have ub := Up.alloc w1 (.cells #[.slice C1 dws.length c1, .int .i64 dfr, .int .i64 dto] 110); have hSB := (HST.out.up u1).up ub; have m3 : w.heap.size ≤ (w1.alloc (.cells #[.slice C1 dws.length c1, .int .i64 dfr, .int .i64 dto] 110)).heap.size := Nat.le_trans HUP.out.size (Nat.le_trans u1.size ub.size); have hrow := hSB.each (rwForm g) (by simp [rowsFm]); refine step_append_lies _ rfl (.tmp 12) (.tmp 31) 58 rfl w.heap.size 110 i1 _ 3 40 Tryz.underlying58 hi1 hy0 hy1 hy2 fmZero (by decide) _ g.l.length _ (by simp [Act.eval]) hrow ⟨w1.heap.size, 0, none⟩ 1 1 [.slice C1 dws.length c1, .int .i64 dfr, .int .i64 dto] (by simp [Act.eval]) rfl (fmNews w1 _ dfr dto) (by simp [Value.oneCell']) (by decide) k1 k2 m3 _ rfl ?_; intro g' cap w9 hown9 hg9 hat hlt9; have hUU := (uw1.trans ub).grown hg9 (fun b hb => (hrow.lt b hb).1))))
      all_goals
        have hSN := OwA.fmSnoc (y := ⟨C1, c1, dws, dfr, dto⟩) HST.out u1 HUP.out.size HOW.out ub hown9 hg9 hat
        have HSN := Lib.hid hSN
        clear hSN hSB hrow hown9 hg9 hat q0 q1 q2 p0 p1 p2 HUP
        go_wp2
        go_roundw
        case rel => exact ⟨k + 1, ⟨some ⟨g', 0, none⟩, cap, g.l ++ [⟨C1, c1, dws, dfr, dto⟩]⟩, by omega, by go_num, by rw [List.length_append]; rfl, by rw [List.length_append, HL.out]; rfl, by rw [List.map_append, HM.out, takeMap HD.out]; rfl, HSN.out, hUU⟩
        case measure => simp [intOf]; omega
    · obtain rfl : k = l.length := by omega
      have hm := HM.out
      rw [List.take_of_length_le (Nat.le_refl _)] at hm
      go_wp2
      go_ret
      exact ⟨g, rfl, hst, hm, hup⟩
set_option maxRecDepth 100000 in
set_option maxHeartbeats 8000000 in
theorem ownFormulasW_any (s : Sl Fm) (lo hi : Nat) (w : World) (h : SrF w lo hi s) :
    Calls Tryz.prog 25 #[.slice s.A s.l.length s.c] w fun e w' => ∃ g : Sl Fm, e = .returned (.slice g.A g.l.length g.c) ∧ OwA w' w.heap.size (rowsFm g) ∧ g.l.map Fm.p = s.l.map Fm.p ∧ Up w w' := by
  obtain ⟨A, c, l⟩ := s
  have hn : l.length ≤ 2000000 := h.len
  have hhi := h.hhi
  have hr : RdF w lo hi A l := h.rd
  have hs : ∀ x ∈ l, x.ws.length ≤ 2000000 := h.ws
  have hok : ∀ x ∈ l, x.ok := h.ok
  simp only at hr ⊢
  clear h
  obtain ⟨i1, hi1, hy0, hy1, hy2⟩ := info_parts infoFmW
  have hlit := World.ownsRow_lit (base := w.heap.size) (e := 110) (size := 3) w #[] 0 (Nat.le_refl _) (by simp [maxLen]) rfl
  have hup0 := Up.alloc w (.cells #[] 110)
  have ST0 : OwA (w.alloc (.cells #[] 110)) w.heap.size (rowsFm ⟨some ⟨w.heap.size, 0, none⟩, 0, []⟩) := OwA.fmNil hlit
  clear hlit
  go_enter Tryz.func25, Tryz.ntmps25
  go_wp2
  obtain ⟨v0, hv0⟩ : ∃ v : Sl Fm, v = ⟨some ⟨w.heap.size, 0, none⟩, 0, []⟩ := ⟨_, rfl⟩
  rw [← hv0] at ST0
  rw [show Value.slice (some ⟨w.heap.size, 0, none⟩) 0 0 = Value.slice v0.A v0.l.length v0.c by rw [hv0]; rfl]
  have hv1 : v0.l = [] := by rw [hv0]
  generalize w.alloc (.cells #[] 110) = w2 at *
  clear hv0
  go_loopw [3, 5, 9] (fun o _ i wr => ∃ (k : Nat) (g : Sl Fm), k ≤ l.length ∧ i = .int .i64 k ∧ o = .slice g.A g.l.length g.c ∧ g.l.length = k ∧ g.l.map Fm.p = (l.take k).map Fm.p ∧ OwA wr w.heap.size (rowsFm g) ∧ Up w wr) (fun _ _ i _ => l.length - (intOf i).toNat)
  case atStart => exact ⟨0, v0, Nat.zero_le _, rfl, rfl, by rw [hv1]; rfl, by rw [hv1]; rfl, ST0, hup0⟩
  case round =>
    clear ST0 hup0 hv1
    obtain ⟨k, g, hk, rfl, rfl, hL, hmap, hst, hup⟩ := hrel
    have HM := Lib.hid hmap
    have HL := Lib.hid hL
    clear hmap hL
    by_cases hlt : k < l.length
    · obtain ⟨b, off, d, rfl, -, -, hd, hrd, q0, q1, q2⟩ := (hr.up hup hhi).at_ hlt
      have hsz := hs d (List.mem_of_getElem? hd)
      have hdk := hok d (List.mem_of_getElem? hd)
      have HD := Lib.hid hd
      clear hd
      obtain ⟨dA, dc, dws, dfr, dto⟩ := d
      simp only at hrd q0 q1 q2 hsz
      have ua := Up.alloc wr (.cells #[.slice dA dws.length dc, .int .i64 dfr, .int .i64 dto] 110)
      have HC := Lib.hid (cloneStr_any ⟨dA, dc, dws⟩ lo hi (wr.alloc (.cells #[.slice dA dws.length dc, .int .i64 dfr, .int .i64 dto] 110)) ⟨hrd.up ua (Nat.le_trans hhi hup.size), Nat.le_trans (Nat.le_trans hhi hup.size) ua.size, hsz, hdk.1, hdk.2⟩)
      have f0 : (wr.alloc (.cells #[.slice dA dws.length dc, .int .i64 dfr, .int .i64 dto] 110)).frozen? ⟨wr.heap.size, 0, none⟩ = false := by go_simp
      have g1 : (wr.alloc (.cells #[.slice dA dws.length dc, .int .i64 dfr, .int .i64 dto] 110)).cell? ⟨wr.heap.size, 1, none⟩ = some (.int .i64 dfr) := by go_simp
      have g2 : (wr.alloc (.cells #[.slice dA dws.length dc, .int .i64 dfr, .int .i64 dto] 110)).cell? ⟨wr.heap.size, 2, none⟩ = some (.int .i64 dto) := by go_simp
      have g0 : (wr.alloc (.cells #[.slice dA dws.length dc, .int .i64 dfr, .int .i64 dto] 110)).cell? ⟨wr.heap.size, 0, none⟩ = some (.slice dA dws.length dc) := by go_simp
      have hsz1 : (wr.alloc (.cells #[.slice dA dws.length dc, .int .i64 dfr, .int .i64 dto] 110)).heap.size = wr.heap.size + 1 := by simp
      have HZ1 := Lib.hid hsz1
      clear hsz1
      go_wp2_with fail
      refine HC.out.mono ?_
      rintro e w1 ⟨tt, rfl, htt, hown1, u1⟩
      obtain ⟨C1, c1, L1⟩ := tt
      simp only at htt hown1 ⊢
      subst htt
      have hown1 : w1.ownsRow (wr.alloc (.cells #[.slice dA L1.length dc, .int .i64 dfr, .int .i64 dto] 110)).heap.size 9 1 (.slice C1 L1.length c1) L1.length (L1.flatMap strC) := hown1
      have e0 := u1.cell g0
      have e1 := u1.cell g1
      have e2 := u1.cell g2
      have e3 : w1.frozen? ⟨wr.heap.size, 0, none⟩ = false := (Below.frozen u1 (p := ⟨wr.heap.size, 0, none⟩) (block_lt_of_cell g0)).trans f0
      have uw : Up wr (w1.setCell ⟨wr.heap.size, 0, none⟩ (.slice C1 L1.length c1)) := (ua.trans u1).setCell (Nat.le_refl _) _
      have HOW := Lib.hid (show (w1.setCell ⟨wr.heap.size, 0, none⟩ (.slice C1 L1.length c1)).ownsRow wr.heap.size 9 1 (.slice C1 L1.length c1) L1.length (L1.flatMap strC) from own_base (ownsRow_setCell_below (own_base hown1 (Nat.le_of_eq HZ1.out.symm)) (Nat.lt_succ_self _) _) (Nat.le_succ _))
      have ub := Up.alloc (w1.setCell ⟨wr.heap.size, 0, none⟩ (.slice C1 L1.length c1)) (.cells #[.slice C1 L1.length c1, .int .i64 dfr, .int .i64 dto] 110)
      have hSB := (hst.up uw).up ub
      have hrow := hSB.each (rwForm g) (by simp [rowsFm])
      have hnews := fmNews (w1.setCell ⟨wr.heap.size, 0, none⟩ (.slice C1 L1.length c1)) (.slice C1 L1.length c1) dfr dto
      have hss : (w1.setCell ⟨wr.heap.size, 0, none⟩ (.slice C1 L1.length c1)).heap.size = w1.heap.size := by simp
      have HSS := Lib.hid hss
      rw [hss] at hnews
      have HNS := Lib.hid hnews
      have k1 : g.l.length + 1 ≤ maxLen := by have := HL.out; unfold maxLen; omega
      have k2 : (g.l.length + 1) * 40 ≤ 140737488355328 := by have := HL.out; omega
      have m3 := Nat.le_trans hup.size (uw.trans ub).size
      have HST := Lib.hid hst
      clear hown1 hnews hss hst f0 g0 g1 g2
      go_wp2_with ((at_builtin; refine wpList_append_lies (P := Tryz.prog) _ rfl _ _ 58 rfl w.heap.size 110 i1 _ 3 40 Tryz.underlying58 hi1 hy0 hy1 hy2 fmZero (by decide) _ _ _ rfl hrow ⟨w1.heap.size, 0, none⟩ 1 1 [.slice C1 L1.length c1, .int .i64 dfr, .int .i64 dto] rfl rfl HNS.out (by simp [Value.oneCell']) (by decide) k1 k2 m3 _ rfl ?_))
      intro g' cap w9 hown9 hg9 hat hlt9
      have hSN := OwA.fmSnoc (y := ⟨C1, c1, L1, dfr, dto⟩) HST.out uw hup.size HOW.out ub hown9 hg9 (hat.imp id (fun h => by rw [h]; simp))
      have hUU := (hup.trans (uw.trans ub)).grown hg9 (fun b hb => (hrow.lt b hb).1)
      have HSN := Lib.hid hSN
      clear hSN hSB hrow hown9 hg9 hat e0 e1 e2 e3 q0 q1 q2
      go_wp2
      go_roundw
      case rel => exact ⟨k + 1, ⟨some ⟨g', 0, none⟩, cap, g.l ++ [⟨C1, c1, L1, dfr, dto⟩]⟩, by omega, by go_num, by rw [List.length_append]; rfl, by rw [List.length_append, HL.out]; rfl, by rw [List.map_append, HM.out, takeMap HD.out]; rfl, HSN.out, hUU⟩
      case measure => simp [intOf]; omega
    · obtain rfl : k = l.length := by omega
      have hm := HM.out
      rw [List.take_of_length_le (Nat.le_refl _)] at hm
      go_wp2
      go_ret
      exact ⟨g, rfl, hst, hm, hup⟩
end Go.Proofs.YtblpjjcjnaigiaaGreatDoor
