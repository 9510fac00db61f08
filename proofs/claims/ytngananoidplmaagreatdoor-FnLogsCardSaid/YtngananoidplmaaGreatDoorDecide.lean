/- DecideDeed: slices.Clone, and the program's and the reference's walks. -/
import Derived.Test.YtngananoidplmaaGreatDoorState
import Derived.Laws.AppendOwnNone
import Derived.Deep.RegionHeld3
import Derived.Deep.AppendLies
import Derived.Deep.RegionLaw
import Derived.Deep.RegionHeldLaw
namespace Go.Proofs.YtngananoidplmaaGreatDoor
open Go.RowKit Go.Sort

section
variable {P : Program} (w : World)
/-- append onto a slice of the call's own, at a step of a region that draws its order -/
theorem step_append_own {ops : Array Oper} {o : Oper} {a : Act} {K : Act → World → Prop} {Q : Exit → Act → World → Prop} {E : Prop} (hgd : o.guard = none) (s x : Operand) (t : TypeId)
    (ho : o.op = .call { callee := .builtin .append, args := #[s, x], argTypes := #[t, t] })
    (base : Nat) (e : TypeId) (i : TypeInfo) (z : Value) (size bytes : Nat) (ht : P.underlying t = some (.slice e)) (hi : P.info? e = some i) (hz : i.zero = some z)
    (hsize : i.size = size) (hby : i.bytes = bytes) (hzs : z.cells.size = size) (hsz : 0 < size)
    (v : Value) (n : Nat) (xs : List Value) (hs : a.eval s = v) (hown : w.ownsRow base e size v n xs)
    (ad : Addr) (m c : Nat) (news : List Value) (hx : a.eval x = .slice (some ad) m c) (hl : news.length = m * size) (hnews : ∀ j u, news[j]? = some u → w.cell? (ad.add j) = some u) (h1 : ∀ u ∈ news, u.oneCell' = true)
    (h63 : n + m ≤ maxLen) (hbytes : (n + m) * bytes ≤ 140737488355328) (hbase : base ≤ w.heap.size)
    (h : ∀ v' w', w'.ownsRow base e size v' (n + m) (xs ++ news) → w.grownBy w' v.ownBlock → K (a.put o.dst v') w') :
    if Region.wanted o (yielded ops a.tmps) = true then Oper.wp P o a w K Q else E := by
  have hw : Region.wanted o (yielded ops a.tmps) = true := by simp [Region.wanted, hgd]
  rw [if_pos hw]
  exact wp_append_own w s x t ho base e i z size bytes ht hi hz hsize hby hzs hsz v n xs hs hown ad m c news hx hl hnews h1 h63 hbytes hbase (fun v' w' h2 h3 _ => h v' w' h2 h3)
theorem step_append_none {ops : Array Oper} {o : Oper} {a : Act} {K : Act → World → Prop} {Q : Exit → Act → World → Prop} {E : Prop} (hgd : o.guard = none) (s x : Operand) (t : TypeId)
    (ho : o.op = .call { callee := .builtin .append, args := #[s, x], argTypes := #[t, t] })
    (base : Nat) (e : TypeId) (i : TypeInfo) (size : Nat) (ht : P.underlying t = some (.slice e)) (hi : P.info? e = some i)
    (v : Value) (n : Nat) (xs : List Value) (hs : a.eval s = v) (hown : w.ownsRow base e size v n xs) (hx : a.eval x = .slice none 0 0)
    (h : K (a.put o.dst v) w) :
    if Region.wanted o (yielded ops a.tmps) = true then Oper.wp P o a w K Q else E := by
  have hw : Region.wanted o (yielded ops a.tmps) = true := by simp [Region.wanted, hgd]
  rw [if_pos hw]
  have hrun := run_append_owned_none (P := P) (w := w) base t o.type e i size ht hi v n xs hown
  unfold Oper.wp
  simp [execOp, ho, resolve, invoke, builtin, hs, hx, hrun, Result.andThen]
  exact h
end
theorem dec_len' (d : Dec) : d.cells.length = 4 := rfl
theorem flat_inv {α : Type} (f : α → List Value) (size : Nat) (hf : ∀ x, (f x).length = size) : ∀ (l : List α) (j : Nat) (u : Value), (l.flatMap f)[j]? = some u → ∃ i x r, l[i]? = some x ∧ (f x)[r]? = some u ∧ j = i * size + r
  | [], j, u, h => by simp at h
  | y :: l, j, u, h => by
    rw [List.flatMap_cons] at h
    rcases Nat.lt_or_ge j (f y).length with hj | hj
    · rw [List.getElem?_append_left hj] at h
      exact ⟨0, y, j, rfl, h, by simp⟩
    · rw [List.getElem?_append_right hj] at h
      obtain ⟨i, x, r, h1, h2, h3⟩ := flat_inv f size hf l _ u h
      refine ⟨i + 1, x, r, by simpa using h1, h2, ?_⟩
      rw [hf] at hj h3
      rw [Nat.add_mul]; omega
/-- the cells that an append of the whole slice reads -/
theorem Rd.news {α : Type} {w : World} {lo hi size : Nat} {f : α → List Value} {ad : Addr} {l : List α} (hf : ∀ x, (f x).length = size) (h : Rd w lo hi size f (some ad) l) : ∀ j u, (l.flatMap f)[j]? = some u → w.cell? (ad.add j) = some u := by
  intro j u hu
  obtain ⟨i, x, r, h1, h2, h3⟩ := flat_inv f size hf l j u hu
  obtain ⟨b, off, e, -, -, h5⟩ := h (by rintro rfl; simp at hu)
  cases e
  rw [Go.WideShapes.add_plain, h3, ← Nat.add_assoc]
  exact h5 i x h1 r u h2

set_option maxRecDepth 100000 in
set_option maxHeartbeats 2000000 in
theorem cloneD_any (A : Option Addr) (l : List Dec) (c lo hi : Nat) (w : World) (hr : RdD w lo hi A l) (hhi : hi ≤ w.heap.size) (hn : l.length ≤ 2000000) :
    Calls Tryz.prog 27 #[.slice A l.length c] w fun e w' => ∃ v, e = .returned v ∧ w'.ownsRow w.heap.size 43 4 v l.length (l.flatMap Dec.cells) ∧ Up w w' := by
  obtain ⟨i0, hi0, hz0, hz1, hz2⟩ := info_parts infoDec
  have h1 : ∀ (wx : World) n c, (binOp .eql 22 (.slice none n c) (.slice none 0 0)).run Tryz.prog wx = .ok (.bool true) wx := fun wx n c => Lib.run_eql_slice_nil wx 22 43 none n c 0 0 Tryz.underlying22
  have h2 : ∀ (wx : World) a n c, (binOp .eql 22 (.slice (some a) n c) (.slice none 0 0)).run Tryz.prog wx = .ok (.bool false) wx := fun wx a n c => Lib.run_eql_slice_nil wx 22 43 (some a) n c 0 0 Tryz.underlying22
  rcases A with _ | ad
  · go_enter Tryz.func27, Tryz.ntmps27
    go_wp2
    go_ret
    have hl : l = [] := by
      rcases l with _ | ⟨x, l⟩
      · rfl
      · obtain ⟨b, off, e, _⟩ := hr (by simp); cases e
    subst hl
    exact ⟨_, rfl, World.ownsRow_nil _ _ _ _, Up.refl _⟩
  · have hlit := World.ownsRow_lit (base := w.heap.size) (e := 43) (size := 4) w #[] 0 (Nat.le_refl _) (by simp [maxLen]) rfl
    have hup0 := Up.alloc w (.cells #[] 43)
    have hnews := Rd.news dec_len' (hr.up hup0 hhi)
    have n0 : (l.flatMap Dec.cells).length = l.length * 4 := flat_length _ 4 dec_len' l
    have n1 : 0 + l.length ≤ maxLen := by unfold maxLen; omega
    have n2 : (0 + l.length) * 48 ≤ 140737488355328 := by omega
    have n3 : w.heap.size ≤ (w.alloc (.cells #[] 43)).heap.size := hup0.size
    have hone : ∀ u ∈ l.flatMap Dec.cells, u.oneCell' = true := by
      intro u hu
      obtain ⟨x, _, hx⟩ := List.mem_flatMap.1 hu
      simp only [Dec.cells, List.mem_cons, List.not_mem_nil, or_false] at hx
      rcases hx with rfl | rfl | rfl | rfl <;> rfl
    have HN := Lib.hid hnews
    have HO := Lib.hid hone
    have H0 := Lib.hid n0
    have HL := Lib.hid hlit
    clear hnews hone n0 hlit
    go_enter Tryz.func27, Tryz.ntmps27
    go_wp2_with ((at_builtin; refine wpList_append_own _ rfl _ _ 22 rfl w.heap.size 43 i0 _ 4 48 Tryz.underlying22 hi0 hz0 hz1 hz2 rfl (by decide) _ _ _ rfl HL.out ad l.length c (l.flatMap Dec.cells) rfl H0.out HN.out HO.out n1 n2 n3 ?_))
    intro v' w4 hown' hgrow _
    have hu := hup0.grown hgrow (fun k hk => (HL.out.lt k hk).1)
    have HW := Lib.hid hown'
    clear hown' hgrow
    go_wp2
    go_ret
    exact ⟨v', rfl, HW.out, hu⟩

/-- a decision in a block of its own -/
def Dx (w : World) (g : Nat) (d : Dec) : Prop := w.cell? ⟨g, 0, none⟩ = some (.string d.deed) ∧ w.cell? ⟨g, 1, none⟩ = some (.int .i64 d.kind) ∧ w.cell? ⟨g, 2, none⟩ = some (.int .i64 d.day) ∧ w.cell? ⟨g, 3, none⟩ = some (.string d.by_)
theorem Dx.lt {w : World} {g : Nat} {d : Dec} (h : Dx w g d) : g < w.heap.size := block_lt_of_cell h.1
theorem Dx.up {w w' : World} {g : Nat} {d : Dec} (h : Dx w g d) (hu : Up w w') : Dx w' g d := ⟨hu.cell h.1, hu.cell h.2.1, hu.cell h.2.2.1, hu.cell h.2.2.2⟩
theorem Dx.grown {w w' : World} {g : Nat} {d : Dec} {row : Option Nat} (h : Dx w g d) (hg : w.grownBy w' row) (hne : some g ≠ row) : Dx w' g d :=
  ⟨(hg.cell_far ⟨g, 0, none⟩ h.lt hne).trans h.1, (hg.cell_far ⟨g, 1, none⟩ h.lt hne).trans h.2.1, (hg.cell_far ⟨g, 2, none⟩ h.lt hne).trans h.2.2.1, (hg.cell_far ⟨g, 3, none⟩ h.lt hne).trans h.2.2.2⟩
theorem Dx.new (w : World) (d : Dec) : Dx (w.alloc (.cells #[.string d.deed, .int .i64 d.kind, .int .i64 d.day, .string d.by_] 43)) w.heap.size d := ⟨by go_simp, by go_simp, by go_simp, by go_simp⟩
theorem Dx.news {w : World} {g : Nat} {d : Dec} (h : Dx w g d) : ∀ j u, d.cells[j]? = some u → w.cell? ((⟨g, 0, none⟩ : Addr).add j) = some u := by
  intro j u hu
  rw [Go.WideShapes.add_plain, Nat.zero_add]
  match j, hu with
  | 0, hu => simp at hu; subst hu; exact h.1
  | 1, hu => simp at hu; subst hu; exact h.2.1
  | 2, hu => simp at hu; subst hu; exact h.2.2.1
  | 3, hu => simp at hu; subst hu; exact h.2.2.2
theorem dec_one (d : Dec) : ∀ u ∈ d.cells, u.oneCell' = true := by
  intro u hu
  simp only [Dec.cells, List.mem_cons, List.not_mem_nil, or_false] at hu
  rcases hu with rfl | rfl | rfl | rfl <;> rfl
theorem decs_one (l : List Dec) : ∀ u ∈ l.flatMap Dec.cells, u.oneCell' = true := by
  intro u hu
  obtain ⟨x, _, hx⟩ := List.mem_flatMap.1 hu
  exact dec_one x u hx

def ddE (l : List Dec) (d : Dec) : Int := if logB l = false then 1 else if decB d = false then 2 else if mayB l d = false then 5 else if l.length = 80 then 3 else 0
theorem ret_vD {v : Value} {k : IntKind} {a b : Int} (h : a = b) : Ending.returned (.tuple #[v, .int k a]) = .returned (.tuple #[v, .int k b]) := by rw [h]
def ddL (l : List Dec) (d : Dec) : List Dec := if ddE l d = 0 then l ++ [d] else []
theorem dd_1 {l : List Dec} {d : Dec} (h : logB l = false) : ddE l d = 1 ∧ ddL l d = [] := by simp [ddL, ddE, h]
theorem dd_2 {l : List Dec} {d : Dec} (h : logB l = true) (h2 : decB d = false) : ddE l d = 2 ∧ ddL l d = [] := by simp [ddL, ddE, h, h2]
theorem dd_5 {l : List Dec} {d : Dec} (h : logB l = true) (h2 : decB d = true) (h3 : mayB l d = false) : ddE l d = 5 ∧ ddL l d = [] := by simp [ddL, ddE, h, h2, h3]
theorem dd_3 {l : List Dec} {d : Dec} (h : logB l = true) (h2 : decB d = true) (h3 : mayB l d = true) (h4 : l.length = 80) : ddE l d = 3 ∧ ddL l d = [] := by simp [ddL, ddE, h, h2, h3, h4]
theorem dd_0 {l : List Dec} {d : Dec} (h : logB l = true) (h2 : decB d = true) (h3 : mayB l d = true) (h4 : ¬ l.length = 80) : ddE l d = 0 ∧ ddL l d = l ++ [d] := by simp [ddL, ddE, h, h2, h3, h4]

end Go.Proofs.YtngananoidplmaaGreatDoor
