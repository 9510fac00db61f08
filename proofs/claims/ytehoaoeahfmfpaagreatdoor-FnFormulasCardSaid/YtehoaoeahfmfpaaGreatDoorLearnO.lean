/- Own copies of words and formulas: slices.Clone over strings, the reference's l24Own, the program's ownFormulas. -/
import Derived.Test.YtehoaoeahfmfpaaGreatDoorStG
import Derived.Test.YtehoaoeahfmfpaaGreatDoorFormsIn
import Derived.Laws.AppendOwnNone
import Derived.Deep.AppendLies
import Derived.Deep.RegionLaw
import Derived.Deep.RegionHeldLaw
namespace Go.Proofs.YtehoaoeahfmfpaaGreatDoor
open Go.RowKit Go.Sort

section
variable {P : Program} (w : World)
/-- append onto a slice of the call's own, at a step of a region that draws its order -/
theorem step_append_ownL {ops : Array Oper} {o : Oper} {a : Act} {K : Act → World → Prop} {Q : Exit → Act → World → Prop} {E : Prop} (hgd : o.guard = none) (s x : Operand) (t : TypeId)
    (ho : o.op = .call { callee := .builtin .append, args := #[s, x], argTypes := #[t, t] })
    (base : Nat) (e : TypeId) (i : TypeInfo) (z : Value) (size bytes : Nat) (ht : P.underlying t = some (.slice e)) (hi : P.info? e = some i) (hz : i.zero = some z)
    (hsize : i.size = size) (hby : i.bytes = bytes) (hzs : z.cells.size = size) (hsz : 0 < size)
    (v : Value) (n : Nat) (xs : List Value) (hs : a.eval s = v) (hown : w.ownsRow base e size v n xs)
    (ad : Addr) (m c : Nat) (news : List Value) (hx : a.eval x = .slice (some ad) m c) (hl : news.length = m * size) (hnews : ∀ j u, news[j]? = some u → w.cell? (ad.add j) = some u) (h1 : ∀ u ∈ news, u.oneCell' = true)
    (h63 : n + m ≤ maxLen) (hbytes : (n + m) * bytes ≤ 140737488355328) (hbase : base ≤ w.heap.size)
    (h : ∀ v' w', w'.ownsRow base e size v' (n + m) (xs ++ news) → w.grownBy w' v.ownBlock → K (a.put o.dst v') w') :
    if Region.wanted o (yielded ops a.tmps) = true then Oper.wp P o a w K Q else E := by
  have hw : Region.wanted o (yielded ops a.tmps) = true := by simp [Region.wanted, hgd]
  rw [if_pos hw]
  exact wp_append_own w s x t ho base e i z size bytes ht hi hz hsize hby hzs hsz v n xs hs hown ad m c news hx hl hnews h1 h63 hbytes hbase (fun v' w' h2 h3 _ => h v' w' h2 h3)
end
theorem flat_invT : ∀ (l : List ByteArray) (j : Nat) (u : Value), (l.flatMap strC)[j]? = some u → ∃ x, l[j]? = some x ∧ u = .string x
  | [], j, u, h => by simp at h
  | y :: l, 0, u, h => by simp at h; exact ⟨y, rfl, h.symm⟩
  | y :: l, j + 1, u, h => by
    have h' : (l.flatMap strC)[j]? = some u := by simpa using h
    obtain ⟨x, h1, h2⟩ := flat_invT l j u h'
    exact ⟨x, by simpa using h1, h2⟩
theorem txt_news {w : World} {lo hi : Nat} {ad : Addr} {l : List ByteArray} (h : RdT w lo hi (some ad) l) : ∀ j u, (l.flatMap strC)[j]? = some u → w.cell? (ad.add j) = some u := by
  intro j u hu
  obtain ⟨x, h1, rfl⟩ := flat_invT l j u hu
  obtain ⟨b, off, e, -, -, h5⟩ := h (by rintro rfl; simp at hu)
  cases e
  rw [Go.WideShapes.add_plain]
  have := h5 j x h1 0 _ rfl
  rwa [Nat.mul_one, Nat.add_zero] at this
theorem txts_one (l : List ByteArray) : ∀ u ∈ l.flatMap strC, u.oneCell' = true := by
  intro u hu
  obtain ⟨x, _, hx⟩ := List.mem_flatMap.1 hu
  simp only [strC, List.mem_singleton] at hx
  subst hx; rfl
theorem infoStrL : (Tryz.prog.info? 9).map (fun i => (i.zero, i.size, i.bytes)) = some (some (.string ByteArray.empty), 1, 16) := by kernel_rfl

set_option maxRecDepth 100000 in
set_option maxHeartbeats 2000000 in
theorem cloneS_any (A : Option Addr) (l : List ByteArray) (c lo hi : Nat) (w : World) (hr : RdT w lo hi A l) (hhi : hi ≤ w.heap.size) (hn : l.length ≤ 2000000) :
    Calls Tryz.prog 45 #[.slice A l.length c] w fun e w' => ∃ v, e = .returned v ∧ w'.ownsRow w.heap.size 9 1 v l.length (l.flatMap strC) ∧ Up w w' := by
  obtain ⟨i0, hi0, hz0, hz1, hz2⟩ := info_parts infoStrL
  have h1 : ∀ (wx : World) n c, (binOp .eql 23 (.slice none n c) (.slice none 0 0)).run Tryz.prog wx = .ok (.bool true) wx := fun wx n c => Lib.run_eql_slice_nil wx 23 9 none n c 0 0 Tryz.underlying23
  have h2 : ∀ (wx : World) a n c, (binOp .eql 23 (.slice (some a) n c) (.slice none 0 0)).run Tryz.prog wx = .ok (.bool false) wx := fun wx a n c => Lib.run_eql_slice_nil wx 23 9 (some a) n c 0 0 Tryz.underlying23
  rcases A with _ | ad
  · go_enter Tryz.func45, Tryz.ntmps45
    go_wp2
    go_ret
    have hl : l = [] := by
      rcases l with _ | ⟨x, l⟩
      · rfl
      · obtain ⟨b, off, e, _⟩ := hr (by simp); cases e
    subst hl
    exact ⟨_, rfl, World.ownsRow_nil _ _ _ _, Up.refl _⟩
  · have hlit := World.ownsRow_lit (base := w.heap.size) (e := 9) (size := 1) w #[] 0 (Nat.le_refl _) (by simp [maxLen]) rfl
    have hup0 := Up.alloc w (.cells #[] 9)
    have hnews := txt_news (hr.up hup0 hhi)
    have n0 : (l.flatMap strC).length = l.length * 1 := flat_length _ 1 strC_len l
    have n1 : 0 + l.length ≤ maxLen := by unfold maxLen; omega
    have n2 : (0 + l.length) * 16 ≤ 140737488355328 := by omega
    have n3 : w.heap.size ≤ (w.alloc (.cells #[] 9)).heap.size := hup0.size
    have HN := Lib.hid hnews
    have HO := Lib.hid (txts_one l)
    have H0 := Lib.hid n0
    have HL := Lib.hid hlit
    clear hnews n0 hlit
    go_enter Tryz.func45, Tryz.ntmps45
    go_wp2_with ((at_builtin; refine wpList_append_own _ rfl _ _ 23 rfl w.heap.size 9 i0 _ 1 16 Tryz.underlying23 hi0 hz0 hz1 hz2 rfl (by decide) _ _ _ rfl HL.out ad l.length c (l.flatMap strC) rfl H0.out HN.out HO.out n1 n2 n3 ?_))
    intro v' w4 hown' hgrow _
    have hu := hup0.grown hgrow (fun k hk => (HL.out.lt k hk).1)
    have HW := Lib.hid (show w4.ownsRow w.heap.size 9 1 v' l.length (l.flatMap strC) by simpa using hown')
    clear hown' hgrow
    go_wp2
    go_ret
    exact ⟨v', rfl, HW.out, hu⟩

theorem fm_news (W : World) (v : Value) (fr to_ : Int) : ∀ (j : Nat) u, [v, Value.int .i64 fr, .int .i64 to_][j]? = some u → (W.alloc (.cells #[v, .int .i64 fr, .int .i64 to_] 51)).cell? ((⟨W.heap.size, 0, none⟩ : Addr).add j) = some u := fun j u hu => by
  match j, hu with
  | 0, hu => simp at hu; subst hu; simp [Addr.add]
  | 1, hu => simp at hu; subst hu; simp [Addr.add]
  | 2, hu => simp at hu; subst hu; simp [Addr.add]
theorem fm_zero : (Value.agg #[.slice none 0 0, .int .i64 0, .int .i64 0]).cells.size = 3 := rfl

theorem up_keep3L {w w' : World} {a b c : Addr} {x y z : Value} (h : Up w w') (ha : w.cell? a = some x) (hb : w.cell? b = some y) (hc : w.cell? c = some z) : Up w w' ∧ w'.cell? a = some x ∧ w'.cell? b = some y ∧ w'.cell? c = some z := ⟨h, h.cell ha, h.cell hb, h.cell hc⟩
theorem take_map_succ {α β : Type} {f : α → β} {l : List α} {k : Nat} {d : α} (h : l[k]? = some d) : (l.take (k + 1)).map f = (l.take k).map f ++ [f d] := by
  obtain ⟨hk, e⟩ := List.getElem?_eq_some_iff.1 h
  rw [List.take_succ_eq_append_getElem hk, List.map_append, e]; rfl

set_option maxRecDepth 100000 in
set_option maxHeartbeats 8000000 in
theorem l24Own_any (A : Option Addr) (l : List Fm) (c lo hi : Nat) (w : World) (hr : RdF w lo hi A l) (hhi : hi ≤ w.heap.size) (hs : SmF l) (hn : l.length ≤ 100) :
    Calls Tryz.prog 42 #[.slice A l.length c] w fun e w' => ∃ v L, e = .returned v ∧ StG w' w.heap.size v L ∧ L.map Fm.p = l.map Fm.p ∧ Up w w' := by
  obtain ⟨i0, hi0, hz0, hz1, hz2⟩ := info_parts infoStrL
  obtain ⟨i1, hi1, hy0, hy1, hy2⟩ := info_parts infoFm
  have hlit := World.ownsRow_lit (base := w.heap.size) (e := 51) (size := 3) w #[] 0 (Nat.le_refl _) (by simp [maxLen]) rfl
  have hup0 := Up.alloc w (.cells #[] 51)
  have ST0 : StG (w.alloc (.cells #[] 51)) w.heap.size (.slice (some ⟨w.heap.size, 0, none⟩) 0 0) [] := StG.nil_ hlit
  clear hlit
  go_enter Tryz.func42, Tryz.ntmps42
  go_wp2
  obtain ⟨v0, hv0⟩ : ∃ v, v = Value.slice (some ⟨w.heap.size, 0, none⟩) 0 0 := ⟨_, rfl⟩
  rw [← hv0] at ST0 ⊢
  generalize w.alloc (.cells #[] 51) = w2 at *
  clear hv0
  go_loopw [3, 4] (fun o i wr => ∃ (k : Nat) (L : List Fm), k ≤ l.length ∧ i = .int .i64 k ∧ L.length = k ∧ L.map Fm.p = (l.take k).map Fm.p ∧ StG wr w.heap.size o L ∧ Up w wr) (fun _ i _ => l.length - (intOf i).toNat)
  case atStart => exact ⟨0, [], Nat.zero_le _, rfl, rfl, by simp, ST0, hup0⟩
  case round =>
    clear ST0 hup0
    obtain ⟨k, L, hk, rfl, hL, hmap, hst, hup⟩ := hrel
    have HM := Lib.hid hmap
    have HL := Lib.hid hL
    clear hmap hL
    by_cases hlt : k < l.length
    · obtain ⟨b, off, d, rfl, -, -, hd, hrd, p0, p1, p2⟩ := hr.at_ hlt
      have q0 := hup.cell p0
      have q1 := hup.cell p1
      have q2 := hup.cell p2
      obtain ⟨hsz, h60, hpos⟩ := hs d (List.mem_of_getElem? hd)
      have HD := Lib.hid hd
      clear hd
      obtain ⟨dA, dc, dws, dfr, dto⟩ := d
      simp only at hrd q0 q1 q2 p0 p1 p2 hsz h60 hpos
      obtain ⟨bd, offd, rfl⟩ : ∃ b o, dA = some ⟨b, o, none⟩ := by
        obtain ⟨b, off, e, -⟩ := hrd (by intro e; rw [e] at hpos; simp at hpos)
        exact ⟨b, off, e⟩
      have ua := Up.alloc wr (.cells #[] 9)
      have hlit := World.ownsRow_lit (base := wr.heap.size) (e := 9) (size := 1) wr #[] 0 (Nat.le_refl _) (by simp [maxLen]) rfl
      have hnews := txt_news (hrd.up (hup.trans ua) hhi)
      have HN := Lib.hid hnews
      have HO := Lib.hid (txts_one dws)
      have H0 := Lib.hid (show (dws.flatMap strC).length = dws.length * 1 from flat_length _ 1 strC_len dws)
      have HLIT := Lib.hid hlit
      have n1 : 0 + dws.length ≤ maxLen := by unfold maxLen; omega
      have n2 : (0 + dws.length) * 16 ≤ 140737488355328 := by omega
      have n3 : wr.heap.size ≤ (wr.alloc (.cells #[] 9)).heap.size := ua.size
      have k1 : L.length + 1 ≤ maxLen := by have := HL.out; unfold maxLen; omega
      have k2 : (L.length + 1) * 40 ≤ 140737488355328 := by have := HL.out; omega
      have HST := Lib.hid hst
      have HUP := Lib.hid hup
      clear hnews hlit hst
      go_wp2_with fail
      have hd1 : Up w wr.drew := HUP.out.drew
      have uaw := HUP.out.trans ua
      have uad := uaw.drew
      go_region_held_law (fun w' => Up w w' ∧ w'.cell? ⟨b, off + k * 3, none⟩ = some (.slice (some ⟨bd, offd, none⟩) dws.length dc) ∧ w'.cell? ⟨b, off + k * 3 + 1, none⟩ = some (.int .i64 dfr) ∧ w'.cell? ⟨b, off + k * 3 + 2, none⟩ = some (.int .i64 dto))
        ((refine up_keep3L ?_ p0 p1 p2; first | assumption | exact hd1 | exact uaw | exact uad | exact HUP.out | exact Up.allocs (by assumption) _))
        ((first
        | (refine step_append_ownL _ rfl (.tmp 13) (.tmp 18) 23 rfl wr.heap.size 9 i0 _ 1 16 Tryz.underlying23 hi0 hz0 hz1 hz2 rfl (by decide) (.slice (some ⟨wr.heap.size, 0, none⟩) 0 0) 0 [] (by simp [Act.eval]) HLIT.out ⟨bd, offd, none⟩ dws.length dc (dws.flatMap strC) (by simp [Act.eval]) H0.out HN.out HO.out n1 n2 n3 ?_; intro v1 w1 hown1 hg1; have u1 : Up wr w1 := ua.drew.grown hg1 (fun k hk => (HLIT.out.lt k hk).1); have uw1 := HUP.out.trans u1; have hw1 : w1.ownsRow wr.heap.size 9 1 v1 dws.length (dws.flatMap strC) := (by simpa using hown1); obtain ⟨C1, c1, rfl, -⟩ := own_form hw1; have HOW := Lib.hid hw1; clear hown1 hg1 hw1)
        | (have ub := Up.alloc w1 (.cells #[.slice C1 dws.length c1, .int .i64 dfr, .int .i64 dto] 51); have hSB := (HST.out.up u1).up ub; have m3 : w.heap.size ≤ (w1.alloc (.cells #[.slice C1 dws.length c1, .int .i64 dfr, .int .i64 dto] 51)).heap.size := Nat.le_trans HUP.out.size (Nat.le_trans u1.size ub.size); refine step_append_lies _ rfl (.tmp 12) (.tmp 31) 26 rfl w.heap.size 51 i1 _ 3 40 Tryz.underlying26 hi1 hy0 hy1 hy2 fm_zero (by decide) _ L.length _ (by simp [Act.eval]) hSB.list ⟨w1.heap.size, 0, none⟩ 1 1 [.slice C1 dws.length c1, .int .i64 dfr, .int .i64 dto] (by simp [Act.eval]) rfl (fm_news w1 _ dfr dto) (by simp [Value.oneCell']) (by decide) k1 k2 m3 _ rfl ?_; intro g cap w9 hown9 hg9 hat hlt9; have hUU := (uw1.trans ub).grown hg9 (fun b hb => (hSB.list.lt b hb).1))))
      all_goals
        have hvb : (Value.slice (some ⟨g, 0, none⟩) (L.length + 1) cap).ownBlock = Value.ownBlock u3 ∨ (Value.slice (some ⟨g, 0, none⟩) (L.length + 1) cap).ownBlock = some (w1.alloc (.cells #[.slice C1 dws.length c1, .int .i64 dfr, .int .i64 dto] 51)).heap.size := by
          rcases hat with h | h
          · exact .inl h.symm
          · exact .inr (by rw [h]; simp [Value.ownBlock])
        have hlow : ∀ b, u3.ownBlock = some b ∨ (∃ x ∈ L, x.sl.ownBlock = some b) → ¬ (Fm.sl ⟨C1, c1, dws, dfr, dto⟩).ownBlock = some b := fun b hb e => by
          have h1 := HST.out.low (Nat.le_refl _) b hb
          have h2 := (HOW.out.lt b e).1
          omega
        have hSN := StG.snoc (y := ⟨C1, c1, dws, dfr, dto⟩) hSB hown9 hg9 hvb (own_up HOW.out ub) HUP.out.size hlow
        have HSN := Lib.hid hSN
        clear hSN hSB hown9 hg9 hat q0 q1 q2 p0 p1 p2 HUP
        go_wp2
        go_roundw
        case rel => exact ⟨k + 1, L ++ [⟨C1, c1, dws, dfr, dto⟩], by omega, by go_num, by rw [List.length_append, HL.out]; rfl, by rw [List.map_append, HM.out, take_map_succ HD.out]; rfl, HSN.out, hUU⟩
        case measure => simp [intOf]; omega
    · obtain rfl : k = l.length := by omega
      have hm := HM.out
      rw [List.take_of_length_le (Nat.le_refl _)] at hm
      go_wp2
      go_ret
      exact ⟨_, L, rfl, hst, hm, hup⟩

set_option maxRecDepth 100000 in
set_option maxHeartbeats 8000000 in
theorem ownFormulas_any (A : Option Addr) (l : List Fm) (c lo hi : Nat) (w : World) (hr : RdF w lo hi A l) (hhi : hi ≤ w.heap.size) (hs : SmF l) (hn : l.length ≤ 100) :
    Calls Tryz.prog 47 #[.slice A l.length c] w fun e w' => ∃ v L, e = .returned v ∧ StG w' w.heap.size v L ∧ L.map Fm.p = l.map Fm.p ∧ Up w w' := by
  obtain ⟨i1, hi1, hy0, hy1, hy2⟩ := info_parts infoFm
  have hlit := World.ownsRow_lit (base := w.heap.size) (e := 51) (size := 3) w #[] 0 (Nat.le_refl _) (by simp [maxLen]) rfl
  have hup0 := Up.alloc w (.cells #[] 51)
  have ST0 : StG (w.alloc (.cells #[] 51)) w.heap.size (.slice (some ⟨w.heap.size, 0, none⟩) 0 0) [] := StG.nil_ hlit
  clear hlit
  go_enter Tryz.func47, Tryz.ntmps47
  go_wp2
  obtain ⟨v0, hv0⟩ : ∃ v, v = Value.slice (some ⟨w.heap.size, 0, none⟩) 0 0 := ⟨_, rfl⟩
  rw [← hv0] at ST0 ⊢
  generalize w.alloc (.cells #[] 51) = w2 at *
  clear hv0
  go_loopw [3, 5, 9] (fun o _ i wr => ∃ (k : Nat) (L : List Fm), k ≤ l.length ∧ i = .int .i64 k ∧ L.length = k ∧ L.map Fm.p = (l.take k).map Fm.p ∧ StG wr w.heap.size o L ∧ Up w wr) (fun _ _ i _ => l.length - (intOf i).toNat)
  case atStart => exact ⟨0, [], Nat.zero_le _, rfl, rfl, by simp, ST0, hup0⟩
  case round =>
    clear ST0 hup0
    obtain ⟨k, L, hk, rfl, hL, hmap, hst, hup⟩ := hrel
    have HM := Lib.hid hmap
    have HL := Lib.hid hL
    clear hmap hL
    by_cases hlt : k < l.length
    · obtain ⟨b, off, d, rfl, -, -, hd, hrd, q0, q1, q2⟩ := (hr.up hup hhi).at_ hlt
      obtain ⟨hsz, h60, hpos⟩ := hs d (List.mem_of_getElem? hd)
      have HD := Lib.hid hd
      clear hd
      obtain ⟨dA, dc, dws, dfr, dto⟩ := d
      simp only at hrd q0 q1 q2 hsz h60 hpos
      have ua := Up.alloc wr (.cells #[.slice dA dws.length dc, .int .i64 dfr, .int .i64 dto] 51)
      have HC := Lib.hid (cloneS_any dA dws dc lo hi _ (hrd.up ua (Nat.le_trans hhi hup.size)) (Nat.le_trans (Nat.le_trans hhi hup.size) ua.size) (by omega))
      have f0 : (wr.alloc (.cells #[.slice dA dws.length dc, .int .i64 dfr, .int .i64 dto] 51)).frozen? ⟨wr.heap.size, 0, none⟩ = false := by go_simp
      have g1 : (wr.alloc (.cells #[.slice dA dws.length dc, .int .i64 dfr, .int .i64 dto] 51)).cell? ⟨wr.heap.size, 1, none⟩ = some (.int .i64 dfr) := by go_simp
      have g2 : (wr.alloc (.cells #[.slice dA dws.length dc, .int .i64 dfr, .int .i64 dto] 51)).cell? ⟨wr.heap.size, 2, none⟩ = some (.int .i64 dto) := by go_simp
      have g0 : (wr.alloc (.cells #[.slice dA dws.length dc, .int .i64 dfr, .int .i64 dto] 51)).cell? ⟨wr.heap.size, 0, none⟩ = some (.slice dA dws.length dc) := by go_simp
      have hsz1 : (wr.alloc (.cells #[.slice dA dws.length dc, .int .i64 dfr, .int .i64 dto] 51)).heap.size = wr.heap.size + 1 := by simp
      have HZ1 := Lib.hid hsz1
      clear hsz1
      go_wp2_with fail
      refine HC.out.mono ?_
      rintro e w1 ⟨v1, rfl, hown1, u1⟩
      obtain ⟨C1, c1, rfl, -⟩ := own_form hown1
      have e0 := u1.cell g0
      have e1 := u1.cell g1
      have e2 := u1.cell g2
      have e3 : w1.frozen? ⟨wr.heap.size, 0, none⟩ = false := (Below.frozen u1 (p := ⟨wr.heap.size, 0, none⟩) (block_lt_of_cell g0)).trans f0
      have uw : Up wr (w1.setCell ⟨wr.heap.size, 0, none⟩ (.slice C1 dws.length c1)) := (ua.trans u1).setCell (Nat.le_refl _) _
      have HOW := Lib.hid (show (w1.setCell ⟨wr.heap.size, 0, none⟩ (.slice C1 dws.length c1)).ownsRow (wr.heap.size + 1) 9 1 (.slice C1 dws.length c1) dws.length (dws.flatMap strC) from ownsRow_setCell_below (own_base hown1 (Nat.le_of_eq HZ1.out.symm)) (Nat.lt_succ_self _) _)
      have ub := Up.alloc (w1.setCell ⟨wr.heap.size, 0, none⟩ (.slice C1 dws.length c1)) (.cells #[.slice C1 dws.length c1, .int .i64 dfr, .int .i64 dto] 51)
      have hSB := (hst.up uw).up ub
      have hnews := fm_news (w1.setCell ⟨wr.heap.size, 0, none⟩ (.slice C1 dws.length c1)) (.slice C1 dws.length c1) dfr dto
      have hss : (w1.setCell ⟨wr.heap.size, 0, none⟩ (.slice C1 dws.length c1)).heap.size = w1.heap.size := by simp
      have HSS := Lib.hid hss
      rw [hss] at hnews
      have HNS := Lib.hid hnews
      have k1 : L.length + 1 ≤ maxLen := by have := HL.out; unfold maxLen; omega
      have k2 : (L.length + 1) * 40 ≤ 140737488355328 := by have := HL.out; omega
      have m3 := Nat.le_trans hup.size (uw.trans ub).size
      have hlow : ∀ b, u3.ownBlock = some b ∨ (∃ x ∈ L, x.sl.ownBlock = some b) → ¬ (Fm.sl ⟨C1, c1, dws, dfr, dto⟩).ownBlock = some b := fun b hb e => by
        have h1 := hst.low (Nat.le_refl _) b hb
        have h2 := (HOW.out.lt b e).1
        omega
      have HLW := Lib.hid hlow
      have HST := Lib.hid hst
      clear hown1 hnews hss hlow hst f0 g0 g1 g2
      go_wp2_with ((at_builtin; refine wpList_append_lies (P := Tryz.prog) _ rfl _ _ 26 rfl w.heap.size 51 i1 _ 3 40 Tryz.underlying26 hi1 hy0 hy1 hy2 fm_zero (by decide) _ _ _ rfl hSB.list ⟨w1.heap.size, 0, none⟩ 1 1 [.slice C1 dws.length c1, .int .i64 dfr, .int .i64 dto] rfl rfl HNS.out (by simp [Value.oneCell']) (by decide) k1 k2 m3 _ rfl ?_))
      intro g cap w9 hown9 hg9 hat hlt9
      have hvb : (Value.slice (some ⟨g, 0, none⟩) (L.length + 1) cap).ownBlock = Value.ownBlock u3 ∨ (Value.slice (some ⟨g, 0, none⟩) (L.length + 1) cap).ownBlock = some ((w1.setCell ⟨wr.heap.size, 0, none⟩ (.slice C1 dws.length c1)).alloc (.cells #[.slice C1 dws.length c1, .int .i64 dfr, .int .i64 dto] 51)).heap.size := by
        rcases hat with h | h
        · exact .inl h.symm
        · exact .inr (by rw [h]; simp [Value.ownBlock])
      have hSN := StG.snoc (y := ⟨C1, c1, dws, dfr, dto⟩) hSB hown9 hg9 hvb (own_up HOW.out ub) (Nat.le_trans hup.size (Nat.le_succ _)) HLW.out
      have hUU := (hup.trans (uw.trans ub)).grown hg9 (fun b hb => (hSB.list.lt b hb).1)
      have HSN := Lib.hid hSN
      clear hSN hSB hown9 hg9 hat hvb e0 e1 e2 e3 q0 q1 q2
      go_wp2
      go_roundw
      case rel => exact ⟨k + 1, L ++ [⟨C1, c1, dws, dfr, dto⟩], by omega, by go_num, by rw [List.length_append, HL.out]; rfl, by rw [List.map_append, HM.out, take_map_succ HD.out]; rfl, HSN.out, hUU⟩
      case measure => simp [intOf]; omega
    · obtain rfl : k = l.length := by omega
      have hm := HM.out
      rw [List.take_of_length_le (Nat.le_refl _)] at hm
      go_wp2
      go_ret
      exact ⟨_, L, rfl, hst, hm, hup⟩
end Go.Proofs.YtehoaoeahfmfpaaGreatDoor
