/- append of a whole slice that can be read, nil or not; slices.Clone of lists of flat records; a list of own slices whose row grows. -/
import Derived.Test.YtblpjjcjnaigiaaGreatDoorWmE
import Derived.Laws.AppendOwnNone
import Derived.Deep.AppendLies
import Derived.Deep.RegionLaw
import Derived.Deep.RegionHeld3
import Derived.Deep.RegionHeldLaw
namespace Go.Proofs.YtblpjjcjnaigiaaGreatDoor
open Go.RowKit Go.Sort

section
variable {P : Program} (w : World)
theorem run_append_nilc (base : Nat) (t ty e : TypeId) (i : TypeInfo) (size : Nat) (ht : P.underlying t = some (.slice e)) (hi : P.info? e = some i)
    (v : Value) (n : Nat) (xs : List Value) (c : Nat) (hown : w.ownsRow base e size v n xs) :
    (Builtin.append_ #[t, t] ty #[v, .slice none 0 c]).run P w = .ok v w := by
  rcases hown.2 with ⟨rfl, rfl⟩ | ⟨g, cap, cur, rfl, _, _, hnc, _⟩
  · simp [Builtin.append_, run_underlying ht, sizeOf, typeInfo, hi, Builtin.lenOf, Builtin.firstCells]
  · simp [Builtin.append_, run_underlying ht, sizeOf, typeInfo, hi, Builtin.lenOf, Builtin.firstCells, hnc, storeCells]
theorem flatInv {α : Type} (f : α → List Value) (size : Nat) (hf : ∀ x, (f x).length = size) : ∀ (l : List α) (j : Nat) (u : Value), (l.flatMap f)[j]? = some u → ∃ i x r, l[i]? = some x ∧ (f x)[r]? = some u ∧ j = i * size + r
  | [], j, u, h => by simp at h
  | y :: l, j, u, h => by
    rw [List.flatMap_cons] at h
    rcases Nat.lt_or_ge j (f y).length with hj | hj
    · rw [List.getElem?_append_left hj] at h
      exact ⟨0, y, j, rfl, h, by simp⟩
    · rw [List.getElem?_append_right hj] at h
      obtain ⟨i, x, r, h1, h2, h3⟩ := flatInv f size hf l _ u h
      refine ⟨i + 1, x, r, by simpa using h1, h2, ?_⟩
      rw [hf] at hj h3
      rw [Nat.add_mul]; omega
theorem Rd.news {α : Type} {f : α → List Value} {size : Nat} (hf : ∀ x, (f x).length = size) {w : World} {lo hi : Nat} {ad : Addr} {l : List α} (h : Rd w lo hi size f (some ad) l) : ∀ j u, (l.flatMap f)[j]? = some u → w.cell? (ad.add j) = some u := fun j u hu => by
  obtain ⟨i, x, r, h1, h2, h3⟩ := flatInv f size hf l j u hu
  obtain ⟨b, off, e, -, -, h4⟩ := h (by rintro rfl; simp at h1)
  cases e
  have := h4 i x h1 r u h2
  rw [Go.WideShapes.add_plain, h3, ← Nat.add_assoc]; exact this
theorem flat_ones {α : Type} {f : α → List Value} (h1 : ∀ x, ∀ u ∈ f x, u.oneCell' = true) (l : List α) : ∀ u ∈ l.flatMap f, u.oneCell' = true := fun u hu => by
  obtain ⟨x, -, h⟩ := List.mem_flatMap.1 hu
  exact h1 x u h
theorem run_append_rd (base : Nat) (t ty e : TypeId) (i : TypeInfo) (z : Value) (size bytes : Nat) (ht : P.underlying t = some (.slice e)) (hi : P.info? e = some i) (hz : i.zero = some z)
    (hsize : i.size = size) (hby : i.bytes = bytes) (hzs : z.cells.size = size) (hsz : 0 < size)
    (v : Value) (n : Nat) (xs : List Value) (hown : w.ownsRow base e size v n xs)
    {α : Type} (f : α → List Value) (hf : ∀ x, (f x).length = size) (h1 : ∀ x, ∀ u ∈ f x, u.oneCell' = true) (A : Option Addr) (l : List α) (c lo hb : Nat) (hr : Rd w lo hb size f A l)
    (h63 : n + l.length ≤ maxLen) (hbytes : (n + l.length) * bytes ≤ 140737488355328) (hbase : base ≤ w.heap.size) :
    ∃ v' w', (Builtin.append_ #[t, t] ty #[v, .slice A l.length c]).run P w = .ok v' w' ∧ w'.ownsRow base e size v' (n + l.length) (xs ++ l.flatMap f) ∧ w.grownBy w' v.ownBlock := by
  rcases A with _ | ad
  · have hl : l = [] := by
      rcases l with _ | ⟨x, l⟩
      · rfl
      · obtain ⟨b, off, e, _⟩ := hr (by simp); cases e
    subst hl
    exact ⟨v, w, run_append_nilc w base t ty e i size ht hi v n xs c hown, by simpa using hown, World.grownBy.refl w _⟩
  · obtain ⟨v', w', q1, q2, q3, -⟩ := run_append_own (P := P) w base t ty e i z size bytes ht hi hz hsize hby hzs hsz v n xs hown ad l.length c (l.flatMap f) (flat_length f size hf l) (hr.news hf) (flat_ones h1 l) h63 hbytes hbase
    exact ⟨v', w', q1, q2, q3⟩
/-- append of a whole slice that can be read onto a slice of the call's own -/
theorem wp_append_rd {o : Oper} {a : Act} {K : Act → World → Prop} {Q : Exit → Act → World → Prop} (s x : Operand) (t : TypeId)
    (ho : o.op = .call { callee := .builtin .append, args := #[s, x], argTypes := #[t, t] })
    (base : Nat) (e : TypeId) (i : TypeInfo) (z : Value) (size bytes : Nat) (ht : P.underlying t = some (.slice e)) (hi : P.info? e = some i) (hz : i.zero = some z)
    (hsize : i.size = size) (hby : i.bytes = bytes) (hzs : z.cells.size = size) (hsz : 0 < size)
    (v : Value) (n : Nat) (xs : List Value) (hs : a.eval s = v) (hown : w.ownsRow base e size v n xs)
    {α : Type} (f : α → List Value) (hf : ∀ x, (f x).length = size) (h1 : ∀ x, ∀ u ∈ f x, u.oneCell' = true) (A : Option Addr) (l : List α) (c lo hb : Nat) (hx : a.eval x = .slice A l.length c) (hr : Rd w lo hb size f A l)
    (h63 : n + l.length ≤ maxLen) (hbytes : (n + l.length) * bytes ≤ 140737488355328) (hbase : base ≤ w.heap.size)
    (h : ∀ v' w', w'.ownsRow base e size v' (n + l.length) (xs ++ l.flatMap f) → w.grownBy w' v.ownBlock → K (a.put o.dst v') w') : o.wp P a w K Q := by
  obtain ⟨v', w', hq, h2, h3⟩ := run_append_rd (P := P) w base t o.type e i z size bytes ht hi hz hsize hby hzs hsz v n xs hown f hf h1 A l c lo hb hr h63 hbytes hbase
  unfold Oper.wp execOp
  simp only [ho, resolve, invoke, builtin, Sem.run_bind, Sem.run_pure, Result.andThen_ok, List.map_toArray, List.map_cons, List.map_nil, hs, hx, hq]
  exact h v' w' h2 h3
theorem wpList_append_rd {ops : Array Oper} {rest : List Oper} {o : Oper} {a : Act} {Q : Exit → Act → World → Prop} (hgd : o.guard = none) (s x : Operand) (t : TypeId)
    (ho : o.op = .call { callee := .builtin .append, args := #[s, x], argTypes := #[t, t] })
    (base : Nat) (e : TypeId) (i : TypeInfo) (z : Value) (size bytes : Nat) (ht : P.underlying t = some (.slice e)) (hi : P.info? e = some i) (hz : i.zero = some z)
    (hsize : i.size = size) (hby : i.bytes = bytes) (hzs : z.cells.size = size) (hsz : 0 < size)
    (v : Value) (n : Nat) (xs : List Value) (hs : a.eval s = v) (hown : w.ownsRow base e size v n xs)
    {α : Type} (f : α → List Value) (hf : ∀ x, (f x).length = size) (h1 : ∀ x, ∀ u ∈ f x, u.oneCell' = true) (A : Option Addr) (l : List α) (c lo hb : Nat) (hx : a.eval x = .slice A l.length c) (hr : Rd w lo hb size f A l)
    (h63 : n + l.length ≤ maxLen) (hbytes : (n + l.length) * bytes ≤ 140737488355328) (hbase : base ≤ w.heap.size)
    (h : ∀ v' w', w'.ownsRow base e size v' (n + l.length) (xs ++ l.flatMap f) → w.grownBy w' v.ownBlock → wpList P ops Q rest (a.put o.dst v') w') : wpList P ops Q (o :: rest) a w :=
  wpList_plain hgd fun _ hK => wp_append_rd w s x t ho base e i z size bytes ht hi hz hsize hby hzs hsz v n xs hs hown f hf h1 A l c lo hb hx hr h63 hbytes hbase fun v' w' h2 h3 => hK _ _ (h v' w' h2 h3)
theorem step_append_rd {ops : Array Oper} {o : Oper} {a : Act} {K : Act → World → Prop} {Q : Exit → Act → World → Prop} {E : Prop} (hgd : o.guard = none) (s x : Operand) (t : TypeId)
    (ho : o.op = .call { callee := .builtin .append, args := #[s, x], argTypes := #[t, t] })
    (base : Nat) (e : TypeId) (i : TypeInfo) (z : Value) (size bytes : Nat) (ht : P.underlying t = some (.slice e)) (hi : P.info? e = some i) (hz : i.zero = some z)
    (hsize : i.size = size) (hby : i.bytes = bytes) (hzs : z.cells.size = size) (hsz : 0 < size)
    (v : Value) (n : Nat) (xs : List Value) (hs : a.eval s = v) (hown : w.ownsRow base e size v n xs)
    {α : Type} (f : α → List Value) (hf : ∀ x, (f x).length = size) (h1 : ∀ x, ∀ u ∈ f x, u.oneCell' = true) (A : Option Addr) (l : List α) (c lo hb : Nat) (hx : a.eval x = .slice A l.length c) (hr : Rd w lo hb size f A l)
    (h63 : n + l.length ≤ maxLen) (hbytes : (n + l.length) * bytes ≤ 140737488355328) (hbase : base ≤ w.heap.size)
    (h : ∀ v' w', w'.ownsRow base e size v' (n + l.length) (xs ++ l.flatMap f) → w.grownBy w' v.ownBlock → K (a.put o.dst v') w') :
    if Region.wanted o (yielded ops a.tmps) = true then Oper.wp P o a w K Q else E := by
  have hw : Region.wanted o (yielded ops a.tmps) = true := by simp [Region.wanted, hgd]
  rw [if_pos hw]
  exact wp_append_rd w s x t ho base e i z size bytes ht hi hz hsize hby hzs hsz v n xs hs hown f hf h1 A l c lo hb hx hr h63 hbytes hbase h
end
/-- the first slice grew: the others lie apart from it as before -/
theorem OwA.push {w w' : World} {base : Nat} {r r' : Rw} {L : List Rw} (h : OwA w base (r :: L)) (h' : r'.own w' base) (hg : w.grownBy w' r.v.ownBlock) (hat : r'.v.ownBlock = r.v.ownBlock ∨ r'.v.ownBlock = some w.heap.size) : OwA w' base (r' :: L) := by
  obtain ⟨h1, h2⟩ := List.pairwise_cons.1 h.ap
  refine ⟨fun q hq => ?_, List.pairwise_cons.2 ⟨fun b hb g hg' e => ?_, h2⟩⟩
  · rcases List.mem_cons.1 hq with rfl | hq
    · exact h'
    · exact own_same (h.each q (by simp [hq])) fun g hgq => hg.block g (h.lt (by simp [hq]) hgq).2 (fun e => h1 q hq g e.symm hgq)
  · rcases hat with q | q
    · exact h1 b hb g (q ▸ hg') e
    · rw [q] at hg'
      have := (h.lt (r := b) (by simp [hb]) e).2
      cases hg'
      omega
theorem one_str : ∀ x, ∀ u ∈ strC x, u.oneCell' = true := by simp [strC, Value.oneCell']
theorem one_nm : ∀ x, ∀ u ∈ Nm.cells x, u.oneCell' = true := by simp [Nm.cells, Value.oneCell']
theorem one_tm : ∀ x, ∀ u ∈ Tm.cells x, u.oneCell' = true := by simp [Tm.cells, Value.oneCell']
theorem one_i3 : ∀ x, ∀ u ∈ I3.cells x, u.oneCell' = true := by simp [I3.cells, Value.oneCell']
theorem one_cl : ∀ x, ∀ u ∈ Cl.cells x, u.oneCell' = true := by simp [Cl.cells, Value.oneCell']
theorem one_wi : ∀ x, ∀ u ∈ Wi.cells x, u.oneCell' = true := by simp [Wi.cells, Value.oneCell']
theorem infoStrW : (Tryz.prog.info? 9).map (fun i => (i.zero, i.size, i.bytes)) = some (some (.string ByteArray.empty), 1, 16) := by kernel_rfl
set_option maxRecDepth 100000 in
set_option maxHeartbeats 2000000 in
theorem cloneStr_any (s : Sl ByteArray) (lo hi : Nat) (w : World) (h : SrSt w lo hi s) :
    Calls Tryz.prog 29 #[.slice s.A s.l.length s.c] w fun e w' => ∃ t : Sl ByteArray, e = .returned (.slice t.A t.l.length t.c) ∧ t.l = s.l ∧ (rwStr t).own w' w.heap.size ∧ Up w w' := by
  obtain ⟨A, c, l⟩ := s
  have hn : l.length ≤ 2000000 := h.len
  have hhi := h.hhi
  have hr := h.rd
  simp only at hr ⊢
  clear h
  obtain ⟨i0, hi0, hz0, hz1, hz2⟩ := info_parts infoStrW
  have h1 : ∀ (wx : World) n c, (binOp .eql 29 (.slice none n c) (.slice none 0 0)).run Tryz.prog wx = .ok (.bool true) wx := fun wx n c => Lib.run_eql_slice_nil wx 29 9 none n c 0 0 Tryz.underlying29
  have h2 : ∀ (wx : World) a n c, (binOp .eql 29 (.slice (some a) n c) (.slice none 0 0)).run Tryz.prog wx = .ok (.bool false) wx := fun wx a n c => Lib.run_eql_slice_nil wx 29 9 (some a) n c 0 0 Tryz.underlying29
  rcases A with _ | ad
  · go_enter Tryz.func29, Tryz.ntmps29
    go_wp2
    go_ret
    have hl : l = [] := by
      rcases l with _ | ⟨x, l⟩
      · rfl
      · obtain ⟨b, off, e, _⟩ := hr (by simp); cases e
    subst hl
    exact ⟨⟨none, 0, []⟩, rfl, rfl, World.ownsRow_nil _ _ _ _, Up.refl _⟩
  · have hlit := World.ownsRow_lit (base := w.heap.size) (e := 9) (size := 1) w #[] 0 (Nat.le_refl _) (by simp [maxLen]) rfl
    have hup0 := Up.alloc w (.cells #[] 9)
    have HR := Lib.hid (hr.up hup0 hhi)
    have n1 : 0 + l.length ≤ maxLen := by unfold maxLen; omega
    have n2 : (0 + l.length) * 16 ≤ 140737488355328 := by omega
    have n3 : w.heap.size ≤ (w.alloc (.cells #[] 9)).heap.size := hup0.size
    have HL := Lib.hid hlit
    clear hlit
    go_enter Tryz.func29, Tryz.ntmps29
    go_wp2_with ((at_builtin; refine wpList_append_rd (P := Tryz.prog) _ rfl _ _ 29 rfl w.heap.size 9 i0 _ 1 16 Tryz.underlying29 hi0 hz0 hz1 hz2 rfl (by decide) _ _ _ rfl HL.out strC strC_len one_str (some ad) l c lo hi rfl HR.out n1 n2 n3 ?_))
    intro v' w4 hown' hgrow
    have hu := hup0.grown hgrow (fun k hk => (HL.out.lt k hk).1)
    have hw : w4.ownsRow w.heap.size 9 1 v' l.length (l.flatMap strC) := by simpa using hown'
    obtain ⟨t, rfl, ht, -, -, ho⟩ := own_sl hw
    have HW := Lib.hid ho
    have HT := Lib.hid ht
    clear hown' hgrow hw ho ht
    go_wp2
    go_ret
    exact ⟨t, rfl, HT.out, HW.out, hu⟩
set_option maxRecDepth 100000 in
set_option maxHeartbeats 2000000 in
theorem cloneReign_any (s : Sl Nm) (lo hi : Nat) (w : World) (h : SrNm w lo hi s) :
    Calls Tryz.prog 62 #[.slice s.A s.l.length s.c] w fun e w' => ∃ t : Sl Nm, e = .returned (.slice t.A t.l.length t.c) ∧ t.l = s.l ∧ (rwReign t).own w' w.heap.size ∧ Up w w' := by
  obtain ⟨A, c, l⟩ := s
  have hn : l.length ≤ 2000000 := h.len
  have hhi := h.hhi
  have hr := h.rd
  simp only at hr ⊢
  clear h
  obtain ⟨i0, hi0, hz0, hz1, hz2⟩ := info_parts infoReign
  have h1 : ∀ (wx : World) n c, (binOp .eql 43 (.slice none n c) (.slice none 0 0)).run Tryz.prog wx = .ok (.bool true) wx := fun wx n c => Lib.run_eql_slice_nil wx 43 120 none n c 0 0 Tryz.underlying43
  have h2 : ∀ (wx : World) a n c, (binOp .eql 43 (.slice (some a) n c) (.slice none 0 0)).run Tryz.prog wx = .ok (.bool false) wx := fun wx a n c => Lib.run_eql_slice_nil wx 43 120 (some a) n c 0 0 Tryz.underlying43
  rcases A with _ | ad
  · go_enter Tryz.func62, Tryz.ntmps62
    go_wp2
    go_ret
    have hl : l = [] := by
      rcases l with _ | ⟨x, l⟩
      · rfl
      · obtain ⟨b, off, e, _⟩ := hr (by simp); cases e
    subst hl
    exact ⟨⟨none, 0, []⟩, rfl, rfl, World.ownsRow_nil _ _ _ _, Up.refl _⟩
  · have hlit := World.ownsRow_lit (base := w.heap.size) (e := 120) (size := 3) w #[] 0 (Nat.le_refl _) (by simp [maxLen]) rfl
    have hup0 := Up.alloc w (.cells #[] 120)
    have HR := Lib.hid (hr.up hup0 hhi)
    have n1 : 0 + l.length ≤ maxLen := by unfold maxLen; omega
    have n2 : (0 + l.length) * 32 ≤ 140737488355328 := by omega
    have n3 : w.heap.size ≤ (w.alloc (.cells #[] 120)).heap.size := hup0.size
    have HL := Lib.hid hlit
    clear hlit
    go_enter Tryz.func62, Tryz.ntmps62
    go_wp2_with ((at_builtin; refine wpList_append_rd (P := Tryz.prog) _ rfl _ _ 43 rfl w.heap.size 120 i0 _ 3 32 Tryz.underlying43 hi0 hz0 hz1 hz2 rfl (by decide) _ _ _ rfl HL.out Nm.cells Nm.len one_nm (some ad) l c lo hi rfl HR.out n1 n2 n3 ?_))
    intro v' w4 hown' hgrow
    have hu := hup0.grown hgrow (fun k hk => (HL.out.lt k hk).1)
    have hw : w4.ownsRow w.heap.size 120 3 v' l.length (l.flatMap Nm.cells) := by simpa using hown'
    obtain ⟨t, rfl, ht, -, -, ho⟩ := own_sl hw
    have HW := Lib.hid ho
    have HT := Lib.hid ht
    clear hown' hgrow hw ho ht
    go_wp2
    go_ret
    exact ⟨t, rfl, HT.out, HW.out, hu⟩
set_option maxRecDepth 100000 in
set_option maxHeartbeats 2000000 in
theorem clonePerson_any (s : Sl Nm) (lo hi : Nat) (w : World) (h : SrNm w lo hi s) :
    Calls Tryz.prog 63 #[.slice s.A s.l.length s.c] w fun e w' => ∃ t : Sl Nm, e = .returned (.slice t.A t.l.length t.c) ∧ t.l = s.l ∧ (rwPerson t).own w' w.heap.size ∧ Up w w' := by
  obtain ⟨A, c, l⟩ := s
  have hn : l.length ≤ 2000000 := h.len
  have hhi := h.hhi
  have hr := h.rd
  simp only at hr ⊢
  clear h
  obtain ⟨i0, hi0, hz0, hz1, hz2⟩ := info_parts infoPerson
  have h1 : ∀ (wx : World) n c, (binOp .eql 46 (.slice none n c) (.slice none 0 0)).run Tryz.prog wx = .ok (.bool true) wx := fun wx n c => Lib.run_eql_slice_nil wx 46 123 none n c 0 0 Tryz.underlying46
  have h2 : ∀ (wx : World) a n c, (binOp .eql 46 (.slice (some a) n c) (.slice none 0 0)).run Tryz.prog wx = .ok (.bool false) wx := fun wx a n c => Lib.run_eql_slice_nil wx 46 123 (some a) n c 0 0 Tryz.underlying46
  rcases A with _ | ad
  · go_enter Tryz.func63, Tryz.ntmps63
    go_wp2
    go_ret
    have hl : l = [] := by
      rcases l with _ | ⟨x, l⟩
      · rfl
      · obtain ⟨b, off, e, _⟩ := hr (by simp); cases e
    subst hl
    exact ⟨⟨none, 0, []⟩, rfl, rfl, World.ownsRow_nil _ _ _ _, Up.refl _⟩
  · have hlit := World.ownsRow_lit (base := w.heap.size) (e := 123) (size := 3) w #[] 0 (Nat.le_refl _) (by simp [maxLen]) rfl
    have hup0 := Up.alloc w (.cells #[] 123)
    have HR := Lib.hid (hr.up hup0 hhi)
    have n1 : 0 + l.length ≤ maxLen := by unfold maxLen; omega
    have n2 : (0 + l.length) * 32 ≤ 140737488355328 := by omega
    have n3 : w.heap.size ≤ (w.alloc (.cells #[] 123)).heap.size := hup0.size
    have HL := Lib.hid hlit
    clear hlit
    go_enter Tryz.func63, Tryz.ntmps63
    go_wp2_with ((at_builtin; refine wpList_append_rd (P := Tryz.prog) _ rfl _ _ 46 rfl w.heap.size 123 i0 _ 3 32 Tryz.underlying46 hi0 hz0 hz1 hz2 rfl (by decide) _ _ _ rfl HL.out Nm.cells Nm.len one_nm (some ad) l c lo hi rfl HR.out n1 n2 n3 ?_))
    intro v' w4 hown' hgrow
    have hu := hup0.grown hgrow (fun k hk => (HL.out.lt k hk).1)
    have hw : w4.ownsRow w.heap.size 123 3 v' l.length (l.flatMap Nm.cells) := by simpa using hown'
    obtain ⟨t, rfl, ht, -, -, ho⟩ := own_sl hw
    have HW := Lib.hid ho
    have HT := Lib.hid ht
    clear hown' hgrow hw ho ht
    go_wp2
    go_ret
    exact ⟨t, rfl, HT.out, HW.out, hu⟩
set_option maxRecDepth 100000 in
set_option maxHeartbeats 2000000 in
theorem cloneMark_any (s : Sl Nm) (lo hi : Nat) (w : World) (h : SrNm w lo hi s) :
    Calls Tryz.prog 67 #[.slice s.A s.l.length s.c] w fun e w' => ∃ t : Sl Nm, e = .returned (.slice t.A t.l.length t.c) ∧ t.l = s.l ∧ (rwMark t).own w' w.heap.size ∧ Up w w' := by
  obtain ⟨A, c, l⟩ := s
  have hn : l.length ≤ 2000000 := h.len
  have hhi := h.hhi
  have hr := h.rd
  simp only at hr ⊢
  clear h
  obtain ⟨i0, hi0, hz0, hz1, hz2⟩ := info_parts infoMark
  have h1 : ∀ (wx : World) n c, (binOp .eql 54 (.slice none n c) (.slice none 0 0)).run Tryz.prog wx = .ok (.bool true) wx := fun wx n c => Lib.run_eql_slice_nil wx 54 134 none n c 0 0 Tryz.underlying54
  have h2 : ∀ (wx : World) a n c, (binOp .eql 54 (.slice (some a) n c) (.slice none 0 0)).run Tryz.prog wx = .ok (.bool false) wx := fun wx a n c => Lib.run_eql_slice_nil wx 54 134 (some a) n c 0 0 Tryz.underlying54
  rcases A with _ | ad
  · go_enter Tryz.func67, Tryz.ntmps67
    go_wp2
    go_ret
    have hl : l = [] := by
      rcases l with _ | ⟨x, l⟩
      · rfl
      · obtain ⟨b, off, e, _⟩ := hr (by simp); cases e
    subst hl
    exact ⟨⟨none, 0, []⟩, rfl, rfl, World.ownsRow_nil _ _ _ _, Up.refl _⟩
  · have hlit := World.ownsRow_lit (base := w.heap.size) (e := 134) (size := 3) w #[] 0 (Nat.le_refl _) (by simp [maxLen]) rfl
    have hup0 := Up.alloc w (.cells #[] 134)
    have HR := Lib.hid (hr.up hup0 hhi)
    have n1 : 0 + l.length ≤ maxLen := by unfold maxLen; omega
    have n2 : (0 + l.length) * 32 ≤ 140737488355328 := by omega
    have n3 : w.heap.size ≤ (w.alloc (.cells #[] 134)).heap.size := hup0.size
    have HL := Lib.hid hlit
    clear hlit
    go_enter Tryz.func67, Tryz.ntmps67
    go_wp2_with ((at_builtin; refine wpList_append_rd (P := Tryz.prog) _ rfl _ _ 54 rfl w.heap.size 134 i0 _ 3 32 Tryz.underlying54 hi0 hz0 hz1 hz2 rfl (by decide) _ _ _ rfl HL.out Nm.cells Nm.len one_nm (some ad) l c lo hi rfl HR.out n1 n2 n3 ?_))
    intro v' w4 hown' hgrow
    have hu := hup0.grown hgrow (fun k hk => (HL.out.lt k hk).1)
    have hw : w4.ownsRow w.heap.size 134 3 v' l.length (l.flatMap Nm.cells) := by simpa using hown'
    obtain ⟨t, rfl, ht, -, -, ho⟩ := own_sl hw
    have HW := Lib.hid ho
    have HT := Lib.hid ht
    clear hown' hgrow hw ho ht
    go_wp2
    go_ret
    exact ⟨t, rfl, HT.out, HW.out, hu⟩
set_option maxRecDepth 100000 in
set_option maxHeartbeats 2000000 in
theorem cloneTerm_any (s : Sl Tm) (lo hi : Nat) (w : World) (h : SrTm w lo hi s) :
    Calls Tryz.prog 64 #[.slice s.A s.l.length s.c] w fun e w' => ∃ t : Sl Tm, e = .returned (.slice t.A t.l.length t.c) ∧ t.l = s.l ∧ (rwTerm t).own w' w.heap.size ∧ Up w w' := by
  obtain ⟨A, c, l⟩ := s
  have hn : l.length ≤ 2000000 := h.len
  have hhi := h.hhi
  have hr := h.rd
  simp only at hr ⊢
  clear h
  obtain ⟨i0, hi0, hz0, hz1, hz2⟩ := info_parts infoTerm
  have h1 : ∀ (wx : World) n c, (binOp .eql 47 (.slice none n c) (.slice none 0 0)).run Tryz.prog wx = .ok (.bool true) wx := fun wx n c => Lib.run_eql_slice_nil wx 47 126 none n c 0 0 Tryz.underlying47
  have h2 : ∀ (wx : World) a n c, (binOp .eql 47 (.slice (some a) n c) (.slice none 0 0)).run Tryz.prog wx = .ok (.bool false) wx := fun wx a n c => Lib.run_eql_slice_nil wx 47 126 (some a) n c 0 0 Tryz.underlying47
  rcases A with _ | ad
  · go_enter Tryz.func64, Tryz.ntmps64
    go_wp2
    go_ret
    have hl : l = [] := by
      rcases l with _ | ⟨x, l⟩
      · rfl
      · obtain ⟨b, off, e, _⟩ := hr (by simp); cases e
    subst hl
    exact ⟨⟨none, 0, []⟩, rfl, rfl, World.ownsRow_nil _ _ _ _, Up.refl _⟩
  · have hlit := World.ownsRow_lit (base := w.heap.size) (e := 126) (size := 4) w #[] 0 (Nat.le_refl _) (by simp [maxLen]) rfl
    have hup0 := Up.alloc w (.cells #[] 126)
    have HR := Lib.hid (hr.up hup0 hhi)
    have n1 : 0 + l.length ≤ maxLen := by unfold maxLen; omega
    have n2 : (0 + l.length) * 48 ≤ 140737488355328 := by omega
    have n3 : w.heap.size ≤ (w.alloc (.cells #[] 126)).heap.size := hup0.size
    have HL := Lib.hid hlit
    clear hlit
    go_enter Tryz.func64, Tryz.ntmps64
    go_wp2_with ((at_builtin; refine wpList_append_rd (P := Tryz.prog) _ rfl _ _ 47 rfl w.heap.size 126 i0 _ 4 48 Tryz.underlying47 hi0 hz0 hz1 hz2 rfl (by decide) _ _ _ rfl HL.out Tm.cells Tm.len one_tm (some ad) l c lo hi rfl HR.out n1 n2 n3 ?_))
    intro v' w4 hown' hgrow
    have hu := hup0.grown hgrow (fun k hk => (HL.out.lt k hk).1)
    have hw : w4.ownsRow w.heap.size 126 4 v' l.length (l.flatMap Tm.cells) := by simpa using hown'
    obtain ⟨t, rfl, ht, -, -, ho⟩ := own_sl hw
    have HW := Lib.hid ho
    have HT := Lib.hid ht
    clear hown' hgrow hw ho ht
    go_wp2
    go_ret
    exact ⟨t, rfl, HT.out, HW.out, hu⟩
set_option maxRecDepth 100000 in
set_option maxHeartbeats 2000000 in
theorem cloneWay_any (s : Sl I3) (lo hi : Nat) (w : World) (h : SrI3 w lo hi s) :
    Calls Tryz.prog 65 #[.slice s.A s.l.length s.c] w fun e w' => ∃ t : Sl I3, e = .returned (.slice t.A t.l.length t.c) ∧ t.l = s.l ∧ (rwWay t).own w' w.heap.size ∧ Up w w' := by
  obtain ⟨A, c, l⟩ := s
  have hn : l.length ≤ 2000000 := h.len
  have hhi := h.hhi
  have hr := h.rd
  simp only at hr ⊢
  clear h
  obtain ⟨i0, hi0, hz0, hz1, hz2⟩ := info_parts infoWay
  have h1 : ∀ (wx : World) n c, (binOp .eql 50 (.slice none n c) (.slice none 0 0)).run Tryz.prog wx = .ok (.bool true) wx := fun wx n c => Lib.run_eql_slice_nil wx 50 129 none n c 0 0 Tryz.underlying50
  have h2 : ∀ (wx : World) a n c, (binOp .eql 50 (.slice (some a) n c) (.slice none 0 0)).run Tryz.prog wx = .ok (.bool false) wx := fun wx a n c => Lib.run_eql_slice_nil wx 50 129 (some a) n c 0 0 Tryz.underlying50
  rcases A with _ | ad
  · go_enter Tryz.func65, Tryz.ntmps65
    go_wp2
    go_ret
    have hl : l = [] := by
      rcases l with _ | ⟨x, l⟩
      · rfl
      · obtain ⟨b, off, e, _⟩ := hr (by simp); cases e
    subst hl
    exact ⟨⟨none, 0, []⟩, rfl, rfl, World.ownsRow_nil _ _ _ _, Up.refl _⟩
  · have hlit := World.ownsRow_lit (base := w.heap.size) (e := 129) (size := 3) w #[] 0 (Nat.le_refl _) (by simp [maxLen]) rfl
    have hup0 := Up.alloc w (.cells #[] 129)
    have HR := Lib.hid (hr.up hup0 hhi)
    have n1 : 0 + l.length ≤ maxLen := by unfold maxLen; omega
    have n2 : (0 + l.length) * 24 ≤ 140737488355328 := by omega
    have n3 : w.heap.size ≤ (w.alloc (.cells #[] 129)).heap.size := hup0.size
    have HL := Lib.hid hlit
    clear hlit
    go_enter Tryz.func65, Tryz.ntmps65
    go_wp2_with ((at_builtin; refine wpList_append_rd (P := Tryz.prog) _ rfl _ _ 50 rfl w.heap.size 129 i0 _ 3 24 Tryz.underlying50 hi0 hz0 hz1 hz2 rfl (by decide) _ _ _ rfl HL.out I3.cells I3.len one_i3 (some ad) l c lo hi rfl HR.out n1 n2 n3 ?_))
    intro v' w4 hown' hgrow
    have hu := hup0.grown hgrow (fun k hk => (HL.out.lt k hk).1)
    have hw : w4.ownsRow w.heap.size 129 3 v' l.length (l.flatMap I3.cells) := by simpa using hown'
    obtain ⟨t, rfl, ht, -, -, ho⟩ := own_sl hw
    have HW := Lib.hid ho
    have HT := Lib.hid ht
    clear hown' hgrow hw ho ht
    go_wp2
    go_ret
    exact ⟨t, rfl, HT.out, HW.out, hu⟩
set_option maxRecDepth 100000 in
set_option maxHeartbeats 2000000 in
theorem cloneStay_any (s : Sl I3) (lo hi : Nat) (w : World) (h : SrI3 w lo hi s) :
    Calls Tryz.prog 66 #[.slice s.A s.l.length s.c] w fun e w' => ∃ t : Sl I3, e = .returned (.slice t.A t.l.length t.c) ∧ t.l = s.l ∧ (rwStay t).own w' w.heap.size ∧ Up w w' := by
  obtain ⟨A, c, l⟩ := s
  have hn : l.length ≤ 2000000 := h.len
  have hhi := h.hhi
  have hr := h.rd
  simp only at hr ⊢
  clear h
  obtain ⟨i0, hi0, hz0, hz1, hz2⟩ := info_parts infoStay
  have h1 : ∀ (wx : World) n c, (binOp .eql 53 (.slice none n c) (.slice none 0 0)).run Tryz.prog wx = .ok (.bool true) wx := fun wx n c => Lib.run_eql_slice_nil wx 53 132 none n c 0 0 Tryz.underlying53
  have h2 : ∀ (wx : World) a n c, (binOp .eql 53 (.slice (some a) n c) (.slice none 0 0)).run Tryz.prog wx = .ok (.bool false) wx := fun wx a n c => Lib.run_eql_slice_nil wx 53 132 (some a) n c 0 0 Tryz.underlying53
  rcases A with _ | ad
  · go_enter Tryz.func66, Tryz.ntmps66
    go_wp2
    go_ret
    have hl : l = [] := by
      rcases l with _ | ⟨x, l⟩
      · rfl
      · obtain ⟨b, off, e, _⟩ := hr (by simp); cases e
    subst hl
    exact ⟨⟨none, 0, []⟩, rfl, rfl, World.ownsRow_nil _ _ _ _, Up.refl _⟩
  · have hlit := World.ownsRow_lit (base := w.heap.size) (e := 132) (size := 3) w #[] 0 (Nat.le_refl _) (by simp [maxLen]) rfl
    have hup0 := Up.alloc w (.cells #[] 132)
    have HR := Lib.hid (hr.up hup0 hhi)
    have n1 : 0 + l.length ≤ maxLen := by unfold maxLen; omega
    have n2 : (0 + l.length) * 24 ≤ 140737488355328 := by omega
    have n3 : w.heap.size ≤ (w.alloc (.cells #[] 132)).heap.size := hup0.size
    have HL := Lib.hid hlit
    clear hlit
    go_enter Tryz.func66, Tryz.ntmps66
    go_wp2_with ((at_builtin; refine wpList_append_rd (P := Tryz.prog) _ rfl _ _ 53 rfl w.heap.size 132 i0 _ 3 24 Tryz.underlying53 hi0 hz0 hz1 hz2 rfl (by decide) _ _ _ rfl HL.out I3.cells I3.len one_i3 (some ad) l c lo hi rfl HR.out n1 n2 n3 ?_))
    intro v' w4 hown' hgrow
    have hu := hup0.grown hgrow (fun k hk => (HL.out.lt k hk).1)
    have hw : w4.ownsRow w.heap.size 132 3 v' l.length (l.flatMap I3.cells) := by simpa using hown'
    obtain ⟨t, rfl, ht, -, -, ho⟩ := own_sl hw
    have HW := Lib.hid ho
    have HT := Lib.hid ht
    clear hown' hgrow hw ho ht
    go_wp2
    go_ret
    exact ⟨t, rfl, HT.out, HW.out, hu⟩
set_option maxRecDepth 100000 in
set_option maxHeartbeats 2000000 in
theorem cloneClause_any (s : Sl Cl) (lo hi : Nat) (w : World) (h : SrCl w lo hi s) :
    Calls Tryz.prog 68 #[.slice s.A s.l.length s.c] w fun e w' => ∃ t : Sl Cl, e = .returned (.slice t.A t.l.length t.c) ∧ t.l = s.l ∧ (rwClause t).own w' w.heap.size ∧ Up w w' := by
  obtain ⟨A, c, l⟩ := s
  have hn : l.length ≤ 2000000 := h.len
  have hhi := h.hhi
  have hr := h.rd
  simp only at hr ⊢
  clear h
  obtain ⟨i0, hi0, hz0, hz1, hz2⟩ := info_parts infoClause
  have h1 : ∀ (wx : World) n c, (binOp .eql 74 (.slice none n c) (.slice none 0 0)).run Tryz.prog wx = .ok (.bool true) wx := fun wx n c => Lib.run_eql_slice_nil wx 74 137 none n c 0 0 Tryz.underlying74
  have h2 : ∀ (wx : World) a n c, (binOp .eql 74 (.slice (some a) n c) (.slice none 0 0)).run Tryz.prog wx = .ok (.bool false) wx := fun wx a n c => Lib.run_eql_slice_nil wx 74 137 (some a) n c 0 0 Tryz.underlying74
  rcases A with _ | ad
  · go_enter Tryz.func68, Tryz.ntmps68
    go_wp2
    go_ret
    have hl : l = [] := by
      rcases l with _ | ⟨x, l⟩
      · rfl
      · obtain ⟨b, off, e, _⟩ := hr (by simp); cases e
    subst hl
    exact ⟨⟨none, 0, []⟩, rfl, rfl, World.ownsRow_nil _ _ _ _, Up.refl _⟩
  · have hlit := World.ownsRow_lit (base := w.heap.size) (e := 137) (size := 8) w #[] 0 (Nat.le_refl _) (by simp [maxLen]) rfl
    have hup0 := Up.alloc w (.cells #[] 137)
    have HR := Lib.hid (hr.up hup0 hhi)
    have n1 : 0 + l.length ≤ maxLen := by unfold maxLen; omega
    have n2 : (0 + l.length) * 72 ≤ 140737488355328 := by omega
    have n3 : w.heap.size ≤ (w.alloc (.cells #[] 137)).heap.size := hup0.size
    have HL := Lib.hid hlit
    clear hlit
    go_enter Tryz.func68, Tryz.ntmps68
    go_wp2_with ((at_builtin; refine wpList_append_rd (P := Tryz.prog) _ rfl _ _ 74 rfl w.heap.size 137 i0 _ 8 72 Tryz.underlying74 hi0 hz0 hz1 hz2 rfl (by decide) _ _ _ rfl HL.out Cl.cells Cl.len one_cl (some ad) l c lo hi rfl HR.out n1 n2 n3 ?_))
    intro v' w4 hown' hgrow
    have hu := hup0.grown hgrow (fun k hk => (HL.out.lt k hk).1)
    have hw : w4.ownsRow w.heap.size 137 8 v' l.length (l.flatMap Cl.cells) := by simpa using hown'
    obtain ⟨t, rfl, ht, -, -, ho⟩ := own_sl hw
    have HW := Lib.hid ho
    have HT := Lib.hid ht
    clear hown' hgrow hw ho ht
    go_wp2
    go_ret
    exact ⟨t, rfl, HT.out, HW.out, hu⟩
set_option maxRecDepth 100000 in
set_option maxHeartbeats 2000000 in
theorem cloneWitness_any (s : Sl Wi) (lo hi : Nat) (w : World) (h : SrWi w lo hi s) :
    Calls Tryz.prog 69 #[.slice s.A s.l.length s.c] w fun e w' => ∃ t : Sl Wi, e = .returned (.slice t.A t.l.length t.c) ∧ t.l = s.l ∧ (rwWitness t).own w' w.heap.size ∧ Up w w' := by
  obtain ⟨A, c, l⟩ := s
  have hn : l.length ≤ 2000000 := h.len
  have hhi := h.hhi
  have hr := h.rd
  simp only at hr ⊢
  clear h
  obtain ⟨i0, hi0, hz0, hz1, hz2⟩ := info_parts infoWitness
  have h1 : ∀ (wx : World) n c, (binOp .eql 75 (.slice none n c) (.slice none 0 0)).run Tryz.prog wx = .ok (.bool true) wx := fun wx n c => Lib.run_eql_slice_nil wx 75 140 none n c 0 0 Tryz.underlying75
  have h2 : ∀ (wx : World) a n c, (binOp .eql 75 (.slice (some a) n c) (.slice none 0 0)).run Tryz.prog wx = .ok (.bool false) wx := fun wx a n c => Lib.run_eql_slice_nil wx 75 140 (some a) n c 0 0 Tryz.underlying75
  rcases A with _ | ad
  · go_enter Tryz.func69, Tryz.ntmps69
    go_wp2
    go_ret
    have hl : l = [] := by
      rcases l with _ | ⟨x, l⟩
      · rfl
      · obtain ⟨b, off, e, _⟩ := hr (by simp); cases e
    subst hl
    exact ⟨⟨none, 0, []⟩, rfl, rfl, World.ownsRow_nil _ _ _ _, Up.refl _⟩
  · have hlit := World.ownsRow_lit (base := w.heap.size) (e := 140) (size := 2) w #[] 0 (Nat.le_refl _) (by simp [maxLen]) rfl
    have hup0 := Up.alloc w (.cells #[] 140)
    have HR := Lib.hid (hr.up hup0 hhi)
    have n1 : 0 + l.length ≤ maxLen := by unfold maxLen; omega
    have n2 : (0 + l.length) * 32 ≤ 140737488355328 := by omega
    have n3 : w.heap.size ≤ (w.alloc (.cells #[] 140)).heap.size := hup0.size
    have HL := Lib.hid hlit
    clear hlit
    go_enter Tryz.func69, Tryz.ntmps69
    go_wp2_with ((at_builtin; refine wpList_append_rd (P := Tryz.prog) _ rfl _ _ 75 rfl w.heap.size 140 i0 _ 2 32 Tryz.underlying75 hi0 hz0 hz1 hz2 rfl (by decide) _ _ _ rfl HL.out Wi.cells Wi.len one_wi (some ad) l c lo hi rfl HR.out n1 n2 n3 ?_))
    intro v' w4 hown' hgrow
    have hu := hup0.grown hgrow (fun k hk => (HL.out.lt k hk).1)
    have hw : w4.ownsRow w.heap.size 140 2 v' l.length (l.flatMap Wi.cells) := by simpa using hown'
    obtain ⟨t, rfl, ht, -, -, ho⟩ := own_sl hw
    have HW := Lib.hid ho
    have HT := Lib.hid ht
    clear hown' hgrow hw ho ht
    go_wp2
    go_ret
    exact ⟨t, rfl, HT.out, HW.out, hu⟩
end Go.Proofs.YtblpjjcjnaigiaaGreatDoor
