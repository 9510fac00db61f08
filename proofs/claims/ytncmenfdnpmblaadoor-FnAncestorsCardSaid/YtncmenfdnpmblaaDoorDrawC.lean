/- Drawn copies: originals and lists of copies. -/
import Derived.Test.YtncmenfdnpmblaaDoorSrc
import Derived.Test.YtncmenfdnpmblaaDoorCopy
import Derived.Laws.AppendOwnNone
import Derived.Deep.RegionLaw
import Derived.Deep.AppendLies
namespace Go.Proofs.YtncmenfdnpmblaaDoor
open Go.RowKit Go.Sort

theorem infoIntD : (Tryd.prog.info? 2).map (fun i => (i.zero, i.size, i.bytes)) = some (some (.int .i64 0), 1, 8) := by kernel_rfl
theorem infoCpD : (Tryd.prog.info? 49).map (fun i => (i.zero, i.size, i.bytes)) = some (some (.agg #[.string ByteArray.empty, .slice none 0 0]), 2, 40) := by kernel_rfl
theorem flat_invI : ∀ (l : List Int) (j : Nat) (u : Value), (l.flatMap intCells)[j]? = some u → ∃ x, l[j]? = some x ∧ u = .int .i64 x
  | [], j, u, h => by simp at h
  | y :: l, 0, u, h => by simp at h; exact ⟨y, rfl, h.symm⟩
  | y :: l, j + 1, u, h => by
    have h' : (l.flatMap intCells)[j]? = some u := by simpa using h
    obtain ⟨x, h1, h2⟩ := flat_invI l j u h'
    exact ⟨x, by simpa using h1, h2⟩
theorem int_news {w : World} {lo hi : Nat} {ad : Addr} {l : List Int} (h : RdI w lo hi (some ad) l) : ∀ j u, (l.flatMap intCells)[j]? = some u → w.cell? (ad.add j) = some u := by
  intro j u hu
  obtain ⟨x, h1, rfl⟩ := flat_invI l j u hu
  obtain ⟨b, off, e, -, -, h5⟩ := h (by rintro rfl; simp at hu)
  cases e
  rw [Go.WideShapes.add_plain]
  have := h5 j x h1 0 _ rfl
  rwa [Nat.mul_one, Nat.add_zero] at this
theorem ints_oneD (l : List Int) : ∀ u ∈ l.flatMap intCells, u.oneCell' = true := by
  intro u hu
  obtain ⟨x, _, hx⟩ := List.mem_flatMap.1 hu
  simp only [intCells, List.mem_singleton] at hx
  subst hx; rfl
set_option maxHeartbeats 2000000 in
theorem l01Own_any (A : Option Addr) (l : List Int) (c lo hi : Nat) (w : World) (hr : RdI w lo hi A l) (hhi : hi ≤ w.heap.size) (hn : l.length ≤ 2000000) (hz : A = none → c = 0) :
    Calls Tryd.prog 91 #[.slice A l.length c] w fun e w' => ∃ v, e = .returned v ∧ w'.ownsRow w.heap.size 2 1 v l.length (l.flatMap intCells) ∧ Up w w' := by
  obtain ⟨i0, hi0, hz0, hz1, hz2⟩ := info_parts infoIntD
  have hlit := World.ownsRow_lit (base := w.heap.size) (e := 2) (size := 1) w #[] 0 (Nat.le_refl _) (by simp [maxLen]) rfl
  have hup0 := Up.alloc w (.cells #[] 2)
  have HL := Lib.hid hlit
  clear hlit
  rcases A with _ | ad
  · have hl : l = [] := by
      rcases l with _ | ⟨x, l⟩
      · rfl
      · obtain ⟨b, off, e, _⟩ := hr (by simp); cases e
    subst hl
    obtain rfl : c = 0 := hz rfl
    go_enter Tryd.func91, Tryd.ntmps91
    go_wp2_with ((at_builtin; refine wpList_append_own_none rfl _ _ 25 rfl w.heap.size 2 i0 1 Tryd.underlying25 hi0 _ 0 [] rfl HL.out rfl ?_))
    go_ret
    exact ⟨_, rfl, HL.out, hup0⟩
  · have hnews := int_news (hr.up hup0 hhi)
    have n0 : (l.flatMap intCells).length = l.length * 1 := flat_length _ 1 int_len l
    have n1 : 0 + l.length ≤ maxLen := by unfold maxLen; omega
    have n2 : (0 + l.length) * 8 ≤ 140737488355328 := by omega
    have n3 : w.heap.size ≤ (w.alloc (.cells #[] 2)).heap.size := hup0.size
    have HN := Lib.hid hnews
    have HO := Lib.hid (ints_oneD l)
    have H0 := Lib.hid n0
    clear hnews n0
    go_enter Tryd.func91, Tryd.ntmps91
    go_wp2_with ((at_builtin; refine wpList_append_own _ rfl _ _ 25 rfl w.heap.size 2 i0 _ 1 8 Tryd.underlying25 hi0 hz0 hz1 hz2 rfl (by decide) _ _ _ rfl HL.out ad l.length c (l.flatMap intCells) rfl H0.out HN.out HO.out n1 n2 n3 ?_))
    intro v' w4 hown' hgrow _
    have hu := hup0.grown hgrow (fun k hk => (HL.out.lt k hk).1)
    have HW := Lib.hid (show w4.ownsRow w.heap.size 2 1 v' l.length (l.flatMap intCells) by simpa using hown')
    clear hown' hgrow
    go_wp2
    go_ret
    exact ⟨v', rfl, HW.out, hu⟩

/-- an original and a list of copies, each row in a block of its own -/
structure St (w : World) (B : Nat) (vo : Value) (o : List Int) (vl : Value) (L : List Cp) : Prop where
  orig : w.ownsRow B 2 1 vo o.length (o.flatMap intCells)
  list : w.ownsRow B 49 2 vl L.length (L.flatMap Cp.cells)
  each : ∀ y ∈ L, w.ownsRow B 2 1 y.sl y.rs.length (y.rs.flatMap intCells)
  apart : ∀ b, vo.ownBlock = some b → vl.ownBlock ≠ some b
  far : ∀ y ∈ L, ∀ b, y.sl.ownBlock = some b → vo.ownBlock ≠ some b ∧ vl.ownBlock ≠ some b
  dist : Dist L
def Fine (L : List Cp) : Prop := ∀ y ∈ L, y.ok' ∧ y.name.size ≤ 5 ∧ y.rs.length ≤ 40
theorem St.gr {w w' : World} {B g : Nat} {vo vl : Value} {o : List Int} {L : List Cp} (h : St w B vo o vl L) (hg : w.grownBy w' (some g)) (hlt : g < B) : St w' B vo o vl L :=
  ⟨own_gr h.orig hg hlt, own_gr h.list hg hlt, fun y hy => own_gr (h.each y hy) hg hlt, h.apart, h.far, h.dist⟩
theorem St.up {w w' : World} {B : Nat} {vo vl : Value} {o : List Int} {L : List Cp} (h : St w B vo o vl L) (hu : Up w w') : St w' B vo o vl L :=
  ⟨own_up h.orig hu, own_up h.list hu, fun y hy => own_up (h.each y hy) hu, h.apart, h.far, h.dist⟩
/-- one copy more -/
theorem St.snoc {w w' : World} {B B2 : Nat} {vo vl vl' : Value} {o : List Int} {L : List Cp} {y : Cp} (h : St w B vo o vl L) (hown' : w'.ownsRow B 49 2 vl' (L.length + 1) (L.flatMap Cp.cells ++ y.cells)) (hg : w.grownBy w' vl.ownBlock)
    (hv : vl'.ownBlock = vl.ownBlock ∨ vl'.ownBlock = some w.heap.size) (hy : w.ownsRow B2 2 1 y.sl y.rs.length (y.rs.flatMap intCells)) (hB : B ≤ B2) (hlow : ∀ b, vo.ownBlock = some b ∨ vl.ownBlock = some b ∨ (∃ x ∈ L, x.sl.ownBlock = some b) → b < B2) : St w' B vo o vl' (L ++ [y]) := by
  have hyb : ∀ b, y.sl.ownBlock = some b → B2 ≤ b ∧ b < w.heap.size := fun b hb => hy.lt b hb
  refine ⟨own_other h.orig hg (fun b hb => h.apart b hb), ?_, ?_, ?_, ?_, h.dist.snoc ?_⟩
  · rw [List.length_append, List.length_singleton, List.flatMap_append]; simpa using hown'
  · intro x hx
    rcases List.mem_append.1 hx with hx | hx
    · exact own_other (h.each x hx) hg (fun b hb => (h.far x hx b hb).2)
    · rw [List.mem_singleton.1 hx]
      exact own_base (own_other hy hg (fun b hb e => by have h1 := hlow b (.inr (.inl e)); have h2 := hyb b hb; omega)) hB
  · intro b hb
    rcases hv with hv | hv
    · rw [hv]; exact h.apart b hb
    · rw [hv]
      intro e
      have h1 := hlow b (.inl hb)
      have h2 := (h.orig.lt b hb).2
      have h3 : w.heap.size = b := by simpa using e
      omega
  · intro x hx b hb
    rcases List.mem_append.1 hx with hx | hx
    · refine ⟨(h.far x hx b hb).1, ?_⟩
      rcases hv with hv | hv
      · rw [hv]; exact (h.far x hx b hb).2
      · rw [hv]; intro e
        have h2 := ((h.each x hx).lt b hb).2
        have h3 : w.heap.size = b := by simpa using e
        omega
    · rw [List.mem_singleton.1 hx] at hb
      have h2 := hyb b hb
      refine ⟨fun e => by have := hlow b (.inl e); omega, fun e => ?_⟩
      rcases hv with hv | hv
      · rw [hv] at e; have := hlow b (.inr (.inl e)); omega
      · rw [hv] at e
        have h3 : w.heap.size = b := by simpa using e
        omega
  · intro x hx b hb e
    have h1 := hlow b (.inr (.inr ⟨x, hx, hb⟩))
    have h2 := hyb b e
    omega
theorem St.low {w : World} {B : Nat} {vo vl : Value} {o : List Int} {L : List Cp} (h : St w B vo o vl L) {B2 : Nat} (hB : w.heap.size ≤ B2) : ∀ b, vo.ownBlock = some b ∨ vl.ownBlock = some b ∨ (∃ x ∈ L, x.sl.ownBlock = some b) → b < B2 := by
  rintro b (hb | hb | ⟨x, hx, hb⟩)
  · have := (h.orig.lt b hb).2; omega
  · have := (h.list.lt b hb).2; omega
  · have := ((h.each x hx).lt b hb).2; omega
/-- a longer original -/
theorem St.orig_app {w w' : World} {B : Nat} {vo vo' vl : Value} {o o' : List Int} {L : List Cp} (h : St w B vo o vl L) (hown' : w'.ownsRow B 2 1 vo' o'.length (o'.flatMap intCells)) (hg : w.grownBy w' vo.ownBlock)
    (hv : vo'.ownBlock = vo.ownBlock ∨ vo'.ownBlock = some w.heap.size) : St w' B vo' o' vl L := by
  refine ⟨hown', own_other h.list hg (fun b hb e => h.apart b e hb), fun y hy => own_other (h.each y hy) hg (fun b hb => (h.far y hy b hb).1), ?_, ?_, h.dist⟩
  · intro b hb e
    rcases hv with hv | hv
    · rw [hv] at hb; exact h.apart b hb e
    · rw [hv] at hb
      have h2 := (h.list.lt b e).2
      have h3 : w.heap.size = b := by simpa using hb
      omega
  · intro y hy b hb
    refine ⟨?_, (h.far y hy b hb).2⟩
    rcases hv with hv | hv
    · rw [hv]; exact (h.far y hy b hb).1
    · rw [hv]; intro e
      have h2 := ((h.each y hy).lt b hb).2
      have h3 : w.heap.size = b := by simpa using e
      omega
theorem dist_cons {y y' : Cp} {L : List Cp} (h : Dist (y :: L)) (hy : ∀ x ∈ L, ∀ b, y'.sl.ownBlock = some b → x.sl.ownBlock ≠ some b) : Dist (y' :: L) := by
  intro i j x z hij hi hj b hb
  match i, j, hij with
  | 0, j + 1, _ =>
    simp at hi hj; subst hi
    exact hy z (List.mem_of_getElem? hj) b hb
  | i + 1, j + 1, hij =>
    exact h (i + 1) (j + 1) x z hij (by simpa using hi) (by simpa using hj) b hb
/-- the first copy with other readings -/
theorem St.head {w w1 : World} {B gl c : Nat} {vo : Value} {o : List Int} {y y' : Cp} {L : List Cp} (h : St w B vo o (.slice (some ⟨gl, 0, none⟩) (L.length + 1) c) (y :: L)) (hg : w.grownBy w1 y.sl.ownBlock)
    (hown : w1.ownsRow B 2 1 y'.sl y'.rs.length (y'.rs.flatMap intCells)) (hn : y'.name = y.name) (hv : y'.sl.ownBlock = y.sl.ownBlock ∨ y'.sl.ownBlock = some w.heap.size) :
    St (w1.setCell ⟨gl, 1, none⟩ y'.sl) B vo o (.slice (some ⟨gl, 0, none⟩) (L.length + 1) c) (y' :: L) := by
  have hlist : w1.ownsRow B 49 2 (.slice (some ⟨gl, 0, none⟩) (L.length + 1) c) (L.length + 1) ((y :: L).flatMap Cp.cells) := own_other h.list hg (fun b hb e => (h.far y (by simp) b e).2 hb)
  have hst := hlist.stored 1 y'.sl
  have hgs : (w1).grownBy (w1.setCell ⟨gl, 1, none⟩ y'.sl) (some gl) := grown_setA _ _ _
  have hvl : (Value.slice (some ⟨gl, 0, none⟩) (L.length + 1) c).ownBlock = some gl := rfl
  have hlo := h.list.lt gl hvl
  have hyb : ∀ b, y'.sl.ownBlock = some b → b ≠ gl := fun b hb e => by
    rcases hv with hv | hv
    · rw [hv] at hb; exact (h.far y (by simp) b hb).2 (by rw [hvl, e])
    · rw [hv] at hb
      have h3 : w.heap.size = b := by simpa using hb
      omega
  refine ⟨?_, ?_, ?_, ?_, ?_, ?_⟩
  · exact own_other (own_other h.orig hg (fun b hb e => (h.far y (by simp) b e).1 hb)) hgs (fun b hb e => h.apart b hb (by rw [hvl]; exact e))
  · have e : ((y :: L).flatMap Cp.cells).set 1 y'.sl = (y' :: L).flatMap Cp.cells := by
      rw [List.flatMap_cons, List.flatMap_cons]; simp [hn]
    rw [← e]; exact hst.1
  · intro x hx
    rcases List.mem_cons.1 hx with rfl | hx
    · exact own_other hown hgs (fun b hb e => hyb b hb (by simpa using e.symm))
    · have hxf := h.far x (by simp [hx])
      refine own_other (own_other (h.each x (by simp [hx])) hg (fun b hb e => ?_)) hgs (fun b hb e => (hxf b hb).2 (by rw [hvl]; exact e))
      obtain ⟨i, hi, he⟩ := List.getElem_of_mem hx
      exact h.dist 0 (i + 1) y x (by omega) rfl (by simp [List.getElem?_eq_getElem hi, he]) b e hb
  · exact h.apart
  · intro x hx b hb
    rcases List.mem_cons.1 hx with rfl | hx
    · rcases hv with hv | hv
      · rw [hv] at hb; exact h.far y (by simp) b hb
      · rw [hv] at hb
        have h3 : w.heap.size = b := by simpa using hb
        exact ⟨fun e => by have := (h.orig.lt b e).2; omega, fun e => by have := (h.list.lt b e).2; omega⟩
    · exact h.far x (by simp [hx]) b hb
  · refine dist_cons h.dist (fun x hx b hb e => ?_)
    rcases hv with hv | hv
    · rw [hv] at hb
      obtain ⟨i, hi, he⟩ := List.getElem_of_mem hx
      exact h.dist 0 (i + 1) y x (by omega) rfl (by simp [List.getElem?_eq_getElem hi, he]) b hb e
    · rw [hv] at hb
      have h3 : w.heap.size = b := by simpa using hb
      have := ((h.each x (by simp [hx])).lt b e).2
      omega
/-- the second copy with the first one's name -/
theorem St.second {w : World} {B gl c : Nat} {vo : Value} {o : List Int} {y0 y1 : Cp} {L : List Cp} (h : St w B vo o (.slice (some ⟨gl, 0, none⟩) (L.length + 1 + 1) c) (y0 :: y1 :: L)) :
    St (w.setCell ⟨gl, 2, none⟩ (.string y0.name)) B vo o (.slice (some ⟨gl, 0, none⟩) (L.length + 1 + 1) c) (y0 :: { y1 with name := y0.name } :: L) := by
  have hgs : w.grownBy (w.setCell ⟨gl, 2, none⟩ (.string y0.name)) (some gl) := grown_setA _ _ _
  have hvl : (Value.slice (some ⟨gl, 0, none⟩) (L.length + 1 + 1) c).ownBlock = some gl := rfl
  have hst := (h.list.stored 2 (.string y0.name)).1
  have hsl : ∀ x ∈ (y0 :: { y1 with name := y0.name } :: L), ∃ z ∈ (y0 :: y1 :: L), x.sl = z.sl ∧ x.rs = z.rs := by
    intro x hx
    rcases List.mem_cons.1 hx with rfl | hx
    · exact ⟨x, by simp, rfl, rfl⟩
    · rcases List.mem_cons.1 hx with rfl | hx
      · exact ⟨y1, by simp, rfl, rfl⟩
      · exact ⟨x, by simp [hx], rfl, rfl⟩
  refine ⟨own_other h.orig hgs (fun b hb e => h.apart b hb (by rw [hvl]; exact e)), ?_, ?_, h.apart, ?_, ?_⟩
  · have e : ((y0 :: y1 :: L).flatMap Cp.cells).set 2 (.string y0.name) = (y0 :: { y1 with name := y0.name } :: L).flatMap Cp.cells := by simp [List.flatMap_cons]
    rw [← e]; exact hst
  · intro x hx
    obtain ⟨z, hz, h1, h2⟩ := hsl x hx
    rw [h1, h2]
    exact own_other (h.each z hz) hgs (fun b hb e => (h.far z hz b hb).2 (by rw [hvl]; exact e))
  · intro x hx b hb
    obtain ⟨z, hz, h1, h2⟩ := hsl x hx
    rw [h1] at hb
    exact h.far z hz b hb
  · intro i j x z hij hi hj b hb
    have hh : ∀ (i : Nat) x, (y0 :: { y1 with name := y0.name } :: L)[i]? = some x → ∃ x', (y0 :: y1 :: L)[i]? = some x' ∧ x.sl = x'.sl := by
      intro i x hx
      match i, hx with
      | 0, hx => simp at hx; subst hx; exact ⟨y0, rfl, rfl⟩
      | 1, hx => simp at hx; subst hx; exact ⟨y1, rfl, rfl⟩
      | i + 2, hx => exact ⟨x, by simpa using hx, rfl⟩
    obtain ⟨x', hx', ex⟩ := hh i x hi
    obtain ⟨z', hz', ez⟩ := hh j z hj
    rw [ex] at hb
    rw [ez]
    exact h.dist i j x' z' hij hx' hz' b hb
theorem fine_snoc {L : List Cp} {y : Cp} (h : Fine L) (hy : y.ok' ∧ y.name.size ≤ 5 ∧ y.rs.length ≤ 40) : Fine (L ++ [y]) := fun x hx => by
  rcases List.mem_append.1 hx with h1 | h1
  · exact h x h1
  · rw [List.mem_singleton.1 h1]; exact hy
/-- a list of copies, read -/
theorem St.rdc {w : World} {B : Nat} {vo : Value} {o : List Int} {A : Option Addr} {c : Nat} {L : List Cp} (h : St w B vo o (.slice A L.length c) L) : RdC w B w.heap.size A L :=
  ⟨Rd.own cp_len h.list, fun x hx => Rd.own int_len (h.each x hx)⟩
/-- nine names in a row -/
def Nm9 (W : World) (b : Nat) : Prop := ∀ z : Nat, z < 9 → ∃ s : ByteArray, W.cell? ⟨b, z, none⟩ = some (.string s) ∧ s.size ≤ 5
theorem Nm9.up {W W' : World} {b : Nat} (h : Nm9 W b) (hu : Up W W') : Nm9 W' b := fun z hz => by
  obtain ⟨s, h1, h2⟩ := h z hz
  exact ⟨s, hu.cell h1, h2⟩
theorem Nm9.gr {W W' : World} {b g : Nat} (h : Nm9 W b) (hg : W.grownBy W' (some g)) (hne : b ≠ g) : Nm9 W' b := fun z hz => by
  obtain ⟨s, h1, h2⟩ := h z hz
  exact ⟨s, (hg.cell_far ⟨b, z, none⟩ (block_lt_of_cell h1) (fun e => hne (by cases e; rfl))).trans h1, h2⟩
theorem Nm9.other {W W' : World} {b : Nat} {row : Option Nat} (h : Nm9 W b) (hg : W.grownBy W' row) (hne : row ≠ some b) : Nm9 W' b := fun z hz => by
  obtain ⟨s, h1, h2⟩ := h z hz
  exact ⟨s, (hg.cell_far ⟨b, z, none⟩ (block_lt_of_cell h1) (fun e => hne e.symm)).trans h1, h2⟩
theorem Nm9.lt {W : World} {b : Nat} (h : Nm9 W b) : b + 1 ≤ W.heap.size := by
  obtain ⟨s, h1, h2⟩ := h 0 (by decide)
  exact block_lt_of_cell h1
theorem set_intD (rs : List Int) (j : Nat) (z : Int) : (rs.flatMap intCells).set j (.int .i64 z) = (rs.set j z).flatMap intCells := by
  induction rs generalizing j with
  | nil => simp
  | cons a r ih => cases j with
    | zero => simp
    | succ j => simp [ih]
end Go.Proofs.YtncmenfdnpmblaaDoor
