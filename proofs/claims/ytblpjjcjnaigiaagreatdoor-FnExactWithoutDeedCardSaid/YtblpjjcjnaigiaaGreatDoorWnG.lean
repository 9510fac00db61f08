/- WithoutDeed, the reference's. -/
import Derived.Test.YtblpjjcjnaigiaaGreatDoorWnF
import Derived.Test.YtblpjjcjnaigiaaGreatDoorReg
namespace Go.Proofs.YtblpjjcjnaigiaaGreatDoor
open Go.RowKit Go.Sort

def wdP (nm : ByteArray) (d : Dd) : Pd := ⟨d.nm, d.da.l, d.wi.l, d.pl, d.se, d.ha, d.ci.l.filter fun z => !(z.toList == nm.toList)⟩
def wdN (l : List Dd) (i : Nat) : ByteArray := match l[i]? with | some d => d.nm | none => ByteArray.empty
/-- what WithoutDeed answers -/
structure WR (x : Wd) (s : Sl Dd) (g : Sl Fm) (q : Sl (Sl ByteArray)) (i c : Int) (y : Wd) (t : Sl Dd) (g' : Sl Fm) (q' : Sl (Sl ByteArray)) : Prop where
  bad : c ≠ 0 → y.p = ⟨[], 0, 0, [], [], [], [], [], [], []⟩ ∧ t.l = [] ∧ g'.l = [] ∧ q'.l = []
  good : c = 0 → y.p = x.p ∧ t.l.map Dd.p = (s.l.eraseIdx i.toNat).map (wdP (wdN s.l i.toNat)) ∧ g'.l.map Fm.p = g.l.map Fm.p ∧ phP q'.l = phP (q.l.eraseIdx i.toNat)
theorem owEvNil (w : World) (base : Nat) : OwA w base (rowsEv ⟨⟨none, 0, []⟩, 0, 0, ⟨none, 0, []⟩, ⟨none, 0, []⟩, ⟨none, 0, []⟩, ⟨none, 0, []⟩, ⟨none, 0, []⟩, ⟨none, 0, []⟩, ⟨none, 0, []⟩⟩ ⟨none, 0, []⟩ ⟨none, 0, []⟩ ⟨none, 0, []⟩) := by
  have hv : ∀ r ∈ rowsEv ⟨⟨none, 0, []⟩, 0, 0, ⟨none, 0, []⟩, ⟨none, 0, []⟩, ⟨none, 0, []⟩, ⟨none, 0, []⟩, ⟨none, 0, []⟩, ⟨none, 0, []⟩, ⟨none, 0, []⟩⟩ ⟨none, 0, []⟩ ⟨none, 0, []⟩ ⟨none, 0, []⟩, r.v = .slice none 0 0 ∧ r.n = 0 ∧ r.xs = [] := by
    intro r hr
    simp only [rowsEv, rowsW, rowsDd, rowsFm, rowsPh, List.flatMap_nil, List.map_nil, List.cons_append, List.nil_append, List.mem_cons, List.not_mem_nil, or_false] at hr
    rcases hr with rfl | rfl | rfl | rfl | rfl | rfl | rfl | rfl | rfl | rfl | rfl <;> exact ⟨rfl, rfl, rfl⟩
  refine ⟨fun r hr => ?_, ?_⟩
  · obtain ⟨h1, h2, h3⟩ := hv r hr
    unfold Rw.own
    rw [h1, h2, h3]
    exact World.ownsRow_nil _ _ _ _
  · refine List.pairwise_of_forall_mem_list ?_
    intro a ha b _ gg hg
    rw [(hv a ha).1] at hg
    cases hg
theorem evC_zero {b : Bool} {n : Nat} {i : Int} (h : evC b n i = 0) : b = true ∧ 0 ≤ i ∧ i < n := by
  unfold evC at h
  split at h
  · split at h
    · rename_i h1 h2
      rw [inB_iff] at h2
      exact ⟨h1, h2.1, by omega⟩
    · cases h
  · cases h
theorem nameAct {P : Program} {c : Code} {Q : Exit → Act → World → Prop} {a : Act} {w : World} (h : ∀ a0, a0 = a → c.wp P Q a0 w) : c.wp P Q a w := h a rfl
def Rb (b : Bool) (L : List Rw) : List Rw := if b = true then L else []
theorem OwA.ins {w w' : World} {b : Nat} {X N Z : List Rw} (h : OwA w b (X ++ Z)) (u : Up w w') (hb : b ≤ w.heap.size) (k : OwA w' w.heap.size N) : OwA w' b (X ++ (N ++ Z)) := by
  refine (h.append u hb k).perm ?_
  rw [List.append_assoc]
  exact List.Perm.append_left X List.perm_append_comm
theorem NB.ins {w w' : World} {K : Nat} {X N Z : List Rw} (h : NB (X ++ Z) K) (hK : K < w.heap.size) (k : OwA w' w.heap.size N) : NB (X ++ (N ++ Z)) K := fun r hr e => by
  rcases List.mem_append.1 hr with h1 | h1
  · exact h r (by simp [h1]) e
  · rcases List.mem_append.1 h1 with h2 | h2
    · have := (k.lt h2 e).1; omega
    · exact h r (by simp [h2]) e
theorem OwA.litDd (w : World) : OwA (w.alloc (.cells #[] 77)) w.heap.size (rowsDd ⟨some ⟨w.heap.size, 0, none⟩, 0, []⟩) :=
  OwA.one (r := rwDeed ⟨some ⟨w.heap.size, 0, none⟩, 0, []⟩) (World.ownsRow_lit w #[] 0 (Nat.le_refl _) (by simp [maxLen]) rfl)
theorem OwA.litPh (w : World) : OwA (w.alloc (.cells #[] 29)) w.heap.size (rowsPh ⟨some ⟨w.heap.size, 0, none⟩, 0, []⟩) :=
  OwA.one (r := rwPhr ⟨some ⟨w.heap.size, 0, none⟩, 0, []⟩) (World.ownsRow_lit w #[] 0 (Nat.le_refl _) (by simp [maxLen]) rfl)
theorem evB_len {x : Pw} {ds : List Pd} {fs : List Fm} {q : List (Sl ByteArray)} (h : evB x ds fs q = true) : q.length = ds.length := by
  unfold evB at h
  simp only [Bool.and_eq_true, decide_eq_true_eq] at h
  exact h.2.2.1
theorem evPerm (A B C D : List Rw) : (A ++ (B ++ (C ++ D))).Perm (C ++ (A ++ (D ++ B))) := by
  refine (List.Perm.append_left A (t₂ := C ++ (D ++ B)) ?_).trans (List.perm_append_comm_assoc A C _)
  have := List.perm_append_comm (l₁ := B) (l₂ := C ++ D)
  rwa [List.append_assoc] at this
theorem phZero : (Value.slice none 0 0).cells.size = 1 := rfl
theorem growCell {w w' : World} {row : Option Nat} {a : Addr} {v : Value} {B : Nat} (hg : w.grownBy w' row) (hrow : ∀ k, row = some k → B ≤ k) (hb : a.block < B) (h : w.cell? a = some v) : w'.cell? a = some v := by
  rw [World.cell?_of_block (hg.block a.block (block_lt_of_cell h) (fun e => by have := hrow _ e.symm; omega))]; exact h
theorem upKeepG {w w' : World} {row : Option Nat} {B : Nat} {a0 a1 a2 a3 a4 a5 a6 a7 a8 : Addr} {y0 y1 y2 y3 y4 y5 y6 y7 y8 : Value} (hg : w.grownBy w' row) (hrow : ∀ k, row = some k → B ≤ k) (b0 : a0.block < B) (b1 : a1.block < B) (b2 : a2.block < B) (b3 : a3.block < B) (b4 : a4.block < B) (b5 : a5.block < B) (b6 : a6.block < B) (b7 : a7.block < B) (b8 : a8.block < B) (h0 : w.cell? a0 = some y0) (h1 : w.cell? a1 = some y1) (h2 : w.cell? a2 = some y2) (h3 : w.cell? a3 = some y3) (h4 : w.cell? a4 = some y4) (h5 : w.cell? a5 = some y5) (h6 : w.cell? a6 = some y6) (h7 : w.cell? a7 = some y7) (h8 : w.cell? a8 = some y8) : w'.cell? a0 = some y0 ∧ w'.cell? a1 = some y1 ∧ w'.cell? a2 = some y2 ∧ w'.cell? a3 = some y3 ∧ w'.cell? a4 = some y4 ∧ w'.cell? a5 = some y5 ∧ w'.cell? a6 = some y6 ∧ w'.cell? a7 = some y7 ∧ w'.cell? a8 = some y8 := ⟨growCell hg hrow b0 h0, growCell hg hrow b1 h1, growCell hg hrow b2 h2, growCell hg hrow b3 h3, growCell hg hrow b4 h4, growCell hg hrow b5 h5, growCell hg hrow b6 h6, growCell hg hrow b7 h7, growCell hg hrow b8 h8⟩
theorem upKeepT {w w' : World} {row : Option Nat} {B : Nat} {a0 a1 a2 a3 a4 a5 a6 a7 a8 : Addr} {y0 y1 y2 y3 y4 y5 y6 y7 y8 : Value} (hg : w.grownBy w' row) (hrow : ∀ k, row = some k → B ≤ k) (b0 : a0.block < B) (b1 : a1.block < B) (b2 : a2.block < B) (b3 : a3.block < B) (b4 : a4.block < B) (b5 : a5.block < B) (b6 : a6.block < B) (b7 : a7.block < B) (b8 : a8.block < B) (h : w.cell? a0 = some y0 ∧ w.cell? a1 = some y1 ∧ w.cell? a2 = some y2 ∧ w.cell? a3 = some y3 ∧ w.cell? a4 = some y4 ∧ w.cell? a5 = some y5 ∧ w.cell? a6 = some y6 ∧ w.cell? a7 = some y7 ∧ w.cell? a8 = some y8) : w'.cell? a0 = some y0 ∧ w'.cell? a1 = some y1 ∧ w'.cell? a2 = some y2 ∧ w'.cell? a3 = some y3 ∧ w'.cell? a4 = some y4 ∧ w'.cell? a5 = some y5 ∧ w'.cell? a6 = some y6 ∧ w'.cell? a7 = some y7 ∧ w'.cell? a8 = some y8 := by
  obtain ⟨h0, h1, h2, h3, h4, h5, h6, h7, h8⟩ := h
  exact upKeepG hg hrow b0 b1 b2 b3 b4 b5 b6 b7 b8 h0 h1 h2 h3 h4 h5 h6 h7 h8
theorem upKeepF {w w' : World} {a0 a1 a2 a3 a4 a5 a6 a7 a8 : Addr} {y0 y1 y2 y3 y4 y5 y6 y7 y8 : Value} (h : Up w w') (h0 : w.cell? a0 = some y0) (h1 : w.cell? a1 = some y1) (h2 : w.cell? a2 = some y2) (h3 : w.cell? a3 = some y3) (h4 : w.cell? a4 = some y4) (h5 : w.cell? a5 = some y5) (h6 : w.cell? a6 = some y6) (h7 : w.cell? a7 = some y7) (h8 : w.cell? a8 = some y8) : w'.cell? a0 = some y0 ∧ w'.cell? a1 = some y1 ∧ w'.cell? a2 = some y2 ∧ w'.cell? a3 = some y3 ∧ w'.cell? a4 = some y4 ∧ w'.cell? a5 = some y5 ∧ w'.cell? a6 = some y6 ∧ w'.cell? a7 = some y7 ∧ w'.cell? a8 = some y8 := ⟨h.cell h0, h.cell h1, h.cell h2, h.cell h3, h.cell h4, h.cell h5, h.cell h6, h.cell h7, h.cell h8⟩
theorem ddNews (W : World) (d : Dd) : ∀ (j : Nat) u, d.cells[j]? = some u → (W.alloc (.cells #[.string d.nm, .slice d.da.A d.da.l.length d.da.c, .slice d.wi.A d.wi.l.length d.wi.c, .string d.pl, .string d.se, .string d.ha, .slice d.ci.A d.ci.l.length d.ci.c] 77)).cell? ((⟨W.heap.size, 0, none⟩ : Addr).add j) = some u := fun j u hu => by
  match j, hu with
  | 0, hu => simp at hu; subst hu; simp [Addr.add]
  | 1, hu => simp at hu; subst hu; simp [Addr.add]
  | 2, hu => simp at hu; subst hu; simp [Addr.add]
  | 3, hu => simp at hu; subst hu; simp [Addr.add]
  | 4, hu => simp at hu; subst hu; simp [Addr.add]
  | 5, hu => simp at hu; subst hu; simp [Addr.add]
  | 6, hu => simp at hu; subst hu; simp [Addr.add]
theorem ddOnes (d : Dd) : ∀ u ∈ d.cells, u.oneCell' = true := by simp [Dd.cells, Value.oneCell']
theorem ddZero : (Value.agg #[.string ByteArray.empty, .slice none 0 0, .slice none 0 0, .string ByteArray.empty, .string ByteArray.empty, .string ByteArray.empty, .slice none 0 0]).cells.size = 7 := rfl
theorem wdN_at {l : List Dd} {m : Nat} {d : Dd} (h : l[m]? = some d) : wdN l m = d.nm := by simp [wdN, h]
theorem erase_keep {α : Type} {l : List α} {k i : Nat} {d : α} (hd : l[k]? = some d) (hne : k ≠ i) : (l.take (k + 1)).eraseIdx i = (l.take k).eraseIdx i ++ [d] := by
  obtain ⟨hk, e⟩ := List.getElem?_eq_some_iff.1 hd
  rw [List.take_succ_eq_append_getElem hk, e]
  rcases Nat.lt_or_ge i k with h | h
  · rw [List.eraseIdx_append_of_lt_length (by rw [List.length_take]; omega)]
  · rw [List.eraseIdx_of_length_le (by simp; omega), List.eraseIdx_of_length_le (by rw [List.length_take]; omega)]
theorem erase_skip {α : Type} {l : List α} {i : Nat} (hi : i < l.length) : (l.take (i + 1)).eraseIdx i = (l.take i).eraseIdx i := by
  rw [List.take_succ_eq_append_getElem hi, List.eraseIdx_append_of_length_le (by rw [List.length_take]; omega)]
  rw [List.length_take, Nat.min_eq_left (by omega), Nat.sub_self]
  show _ ++ [] = _
  rw [List.append_nil, List.eraseIdx_of_length_le (by rw [List.length_take]; omega)]
set_option maxRecDepth 100000 in
set_option maxHeartbeats 8000000 in
theorem specWithoutDeed_any (x : Wd) (s : Sl Dd) (g : Sl Fm) (q : Sl (Sl ByteArray)) (i : Int) (lo hi : Nat) (w : World) (h : RdW w lo hi x) (h2 : RdDd w lo hi s) (h3 : SrF w lo hi g) (h4 : SrPh w lo hi q) :
    Calls Tryz.prog 5 #[.agg #[.slice x.rs.A x.rs.l.length x.rs.c, .int .i64 x.fr, .int .i64 x.to_, .slice x.ps.A x.ps.l.length x.ps.c, .slice x.ts.A x.ts.l.length x.ts.c, .slice x.pl.A x.pl.l.length x.pl.c, .slice x.ws.A x.ws.l.length x.ws.c, .slice x.st.A x.st.l.length x.st.c, .slice x.se.A x.se.l.length x.se.c, .slice x.ha.A x.ha.l.length x.ha.c, .slice s.A s.l.length s.c, .slice g.A g.l.length g.c, .slice q.A q.l.length q.c], .int .i64 i] w fun e w' => ∃ (y : Wd) (t : Sl Dd) (g' : Sl Fm) (q' : Sl (Sl ByteArray)), e = .returned (.tuple #[.agg #[.slice y.rs.A y.rs.l.length y.rs.c, .int .i64 y.fr, .int .i64 y.to_, .slice y.ps.A y.ps.l.length y.ps.c, .slice y.ts.A y.ts.l.length y.ts.c, .slice y.pl.A y.pl.l.length y.pl.c, .slice y.ws.A y.ws.l.length y.ws.c, .slice y.st.A y.st.l.length y.st.c, .slice y.se.A y.se.l.length y.se.c, .slice y.ha.A y.ha.l.length y.ha.c, .slice t.A t.l.length t.c, .slice g'.A g'.l.length g'.c, .slice q'.A q'.l.length q'.c], .int .i64 (evC (evB x.p (s.l.map Dd.p) g.l q.l) s.l.length i)]) ∧ WR x s g q i (evC (evB x.p (s.l.map Dd.p) g.l q.l) s.l.length i) y t g' q' ∧ OwA w' w.heap.size (rowsEv y t g' q') ∧ Up w w' := by
  have u : Up w ((w.alloc (.cells #[.slice x.rs.A x.rs.l.length x.rs.c, .int .i64 x.fr, .int .i64 x.to_, .slice x.ps.A x.ps.l.length x.ps.c, .slice x.ts.A x.ts.l.length x.ts.c, .slice x.pl.A x.pl.l.length x.pl.c, .slice x.ws.A x.ws.l.length x.ws.c, .slice x.st.A x.st.l.length x.st.c, .slice x.se.A x.se.l.length x.se.c, .slice x.ha.A x.ha.l.length x.ha.c, .slice s.A s.l.length s.c, .slice g.A g.l.length g.c, .slice q.A q.l.length q.c] 60)).alloc (.cells #[.slice none 0 0, .int .i64 0, .int .i64 0, .slice none 0 0, .slice none 0 0, .slice none 0 0, .slice none 0 0, .slice none 0 0, .slice none 0 0, .slice none 0 0, .slice none 0 0, .slice none 0 0, .slice none 0 0] 60)) := (Up.alloc _ _).allocs _
  have hA := (Bx.new w #[.slice x.rs.A x.rs.l.length x.rs.c, .int .i64 x.fr, .int .i64 x.to_, .slice x.ps.A x.ps.l.length x.ps.c, .slice x.ts.A x.ts.l.length x.ts.c, .slice x.pl.A x.pl.l.length x.pl.c, .slice x.ws.A x.ws.l.length x.ws.c, .slice x.st.A x.st.l.length x.st.c, .slice x.se.A x.se.l.length x.se.c, .slice x.ha.A x.ha.l.length x.ha.c, .slice s.A s.l.length s.c, .slice g.A g.l.length g.c, .slice q.A q.l.length q.c] 60).up (Up.alloc _ (.cells #[.slice none 0 0, .int .i64 0, .int .i64 0, .slice none 0 0, .slice none 0 0, .slice none 0 0, .slice none 0 0, .slice none 0 0, .slice none 0 0, .slice none 0 0, .slice none 0 0, .slice none 0 0, .slice none 0 0] 60))
  have hR : Bx ((w.alloc (.cells #[.slice x.rs.A x.rs.l.length x.rs.c, .int .i64 x.fr, .int .i64 x.to_, .slice x.ps.A x.ps.l.length x.ps.c, .slice x.ts.A x.ts.l.length x.ts.c, .slice x.pl.A x.pl.l.length x.pl.c, .slice x.ws.A x.ws.l.length x.ws.c, .slice x.st.A x.st.l.length x.st.c, .slice x.se.A x.se.l.length x.se.c, .slice x.ha.A x.ha.l.length x.ha.c, .slice s.A s.l.length s.c, .slice g.A g.l.length g.c, .slice q.A q.l.length q.c] 60)).alloc (.cells #[.slice none 0 0, .int .i64 0, .int .i64 0, .slice none 0 0, .slice none 0 0, .slice none 0 0, .slice none 0 0, .slice none 0 0, .slice none 0 0, .slice none 0 0, .slice none 0 0, .slice none 0 0, .slice none 0 0] 60)) (w.heap.size + 1) [.slice none 0 0, .int .i64 0, .int .i64 0, .slice none 0 0, .slice none 0 0, .slice none 0 0, .slice none 0 0, .slice none 0 0, .slice none 0 0, .slice none 0 0, .slice none 0 0, .slice none 0 0, .slice none 0 0] := by
    have := Bx.new (w.alloc (.cells #[.slice x.rs.A x.rs.l.length x.rs.c, .int .i64 x.fr, .int .i64 x.to_, .slice x.ps.A x.ps.l.length x.ps.c, .slice x.ts.A x.ts.l.length x.ts.c, .slice x.pl.A x.pl.l.length x.pl.c, .slice x.ws.A x.ws.l.length x.ws.c, .slice x.st.A x.st.l.length x.st.c, .slice x.se.A x.se.l.length x.se.c, .slice x.ha.A x.ha.l.length x.ha.c, .slice s.A s.l.length s.c, .slice g.A g.l.length g.c, .slice q.A q.l.length q.c] 60)) #[.slice none 0 0, .int .i64 0, .int .i64 0, .slice none 0 0, .slice none 0 0, .slice none 0 0, .slice none 0 0, .slice none 0 0, .slice none 0 0, .slice none 0 0, .slice none 0 0, .slice none 0 0, .slice none 0 0] 60
    simpa using this
  have hsz : w.heap.size + 2 ≤ ((w.alloc (.cells #[.slice x.rs.A x.rs.l.length x.rs.c, .int .i64 x.fr, .int .i64 x.to_, .slice x.ps.A x.ps.l.length x.ps.c, .slice x.ts.A x.ts.l.length x.ts.c, .slice x.pl.A x.pl.l.length x.pl.c, .slice x.ws.A x.ws.l.length x.ws.c, .slice x.st.A x.st.l.length x.st.c, .slice x.se.A x.se.l.length x.se.c, .slice x.ha.A x.ha.l.length x.ha.c, .slice s.A s.l.length s.c, .slice g.A g.l.length g.c, .slice q.A q.l.length q.c] 60)).alloc (.cells #[.slice none 0 0, .int .i64 0, .int .i64 0, .slice none 0 0, .slice none 0 0, .slice none 0 0, .slice none 0 0, .slice none 0 0, .slice none 0 0, .slice none 0 0, .slice none 0 0, .slice none 0 0, .slice none 0 0] 60)).heap.size := by simp
  obtain ⟨c, hc⟩ : ∃ z, z = evC (evB x.p (s.l.map Dd.p) g.l q.l) s.l.length i := ⟨_, rfl⟩
  have c1 := fun wx (u : Up w wx) => l25Code_any x s g q i lo hi wx (h.up u) (h2.up u) (h3.up u) (h4.up u)
  simp only [← hc] at c1 ⊢
  have K1 := Lib.hid c1
  have HC := Lib.hid hc
  clear c1 hc
  go_enter Tryz.func5, Tryz.ntmps5
  go_wp2_with fail
  generalize ((w.alloc (.cells #[.slice x.rs.A x.rs.l.length x.rs.c, .int .i64 x.fr, .int .i64 x.to_, .slice x.ps.A x.ps.l.length x.ps.c, .slice x.ts.A x.ts.l.length x.ts.c, .slice x.pl.A x.pl.l.length x.pl.c, .slice x.ws.A x.ws.l.length x.ws.c, .slice x.st.A x.st.l.length x.st.c, .slice x.se.A x.se.l.length x.se.c, .slice x.ha.A x.ha.l.length x.ha.c, .slice s.A s.l.length s.c, .slice g.A g.l.length g.c, .slice q.A q.l.length q.c] 60)).alloc (.cells #[.slice none 0 0, .int .i64 0, .int .i64 0, .slice none 0 0, .slice none 0 0, .slice none 0 0, .slice none 0 0, .slice none 0 0, .slice none 0 0, .slice none 0 0, .slice none 0 0, .slice none 0 0, .slice none 0 0] 60)) = W1 at *
  obtain ⟨a0, a1, a2, a3, a4, a5, a6, a7, a8, a9, a10, a11, a12⟩ := hA.c13
  refine (K1.out _ u).mono ?_
  rintro e W2 ⟨rfl, v⟩
  replace u := u.trans v
  replace hA := hA.up v
  replace hR := hR.up v
  replace hsz := Nat.le_trans hsz v.size
  clear v a0 a1 a2 a3 a4 a5 a6 a7 a8 a9 a10 a11 a12
  by_cases hc0 : c = 0
  rotate_left
  · have e1 : (c != 0) = true := by simpa using hc0
    have e2 : (!(c == 0)) = true := by simpa using hc0
    have e3 : (c == 0) = false := by simpa using hc0
    obtain ⟨z0, z1, z2, z3, z4, z5, z6, z7, z8, z9, z10, z11, z12⟩ := hR.c13
    obtain ⟨f0, f1, f2, f3, f4, f5, f6, f7, f8, f9, f10, f11, f12⟩ := hR.f13
    go_wp2
    refine bodyPost_ret (v := .tuple #[.agg #[.slice none 0 0, .int .i64 0, .int .i64 0, .slice none 0 0, .slice none 0 0, .slice none 0 0, .slice none 0 0, .slice none 0 0, .slice none 0 0, .slice none 0 0, .slice none 0 0, .slice none 0 0, .slice none 0 0], .int .i64 c]) (by simp [results, Tryz.results5, go_sem, z0, z1, z2, z3, z4, z5, z6, z7, z8, z9, z10, z11, z12]) rfl ?_
    refine ⟨⟨⟨none, 0, []⟩, 0, 0, ⟨none, 0, []⟩, ⟨none, 0, []⟩, ⟨none, 0, []⟩, ⟨none, 0, []⟩, ⟨none, 0, []⟩, ⟨none, 0, []⟩, ⟨none, 0, []⟩⟩, ⟨none, 0, []⟩, ⟨none, 0, []⟩, ⟨none, 0, []⟩, rfl, ⟨fun _ => ⟨rfl, rfl, rfl, rfl⟩, fun e => absurd e hc0⟩, owEvNil _ _, ?_⟩
    iterate 13 refine Up.setCell ?_ (by first | (simp; done) | (simp; omega)) _
    exact u
  have hcc := HC.out
  rw [hc0] at hcc
  obtain ⟨hb, hi0, hi1⟩ := evC_zero hcc.symm
  have hql : q.l.length = s.l.length := by have := evB_len hb; rwa [List.length_map] at this
  have HQL := Lib.hid hql
  clear hql
  have HCC := Lib.hid hcc
  clear hcc K1 HC hb
  subst hc0
  go_upto_region 4 with (fail)
  have cw := Lib.hid (fun wx (v : Up W2 wx) => l25World_any x lo hi wx ((h.up u).up v))
  have cf := Lib.hid (fun wx (v : Up W2 wx) => l24OwnW_any g lo hi wx ((h3.up u).up v))
  obtain ⟨a0, a1, a2, a3, a4, a5, a6, a7, a8, a9, a10, a11, a12⟩ := hA.c13
  have HA := Lib.hid hA
  have HR := Lib.hid hR
  have U := Lib.hid u
  have HSZ := Lib.hid hsz
  clear hA hR
  go_cut [7] (fun p wx => ∃ (Z : World) (bx : Nat) (y : Wd) (t : Sl Dd) (g' : Sl Fm) (q' : Sl (Sl ByteArray)), Z = wx ∧ p = .pointer (some ⟨bx, 0, none⟩) ∧ y.p = x.p ∧ t.l = [] ∧ g'.l.map Fm.p = g.l.map Fm.p ∧ q'.l = [] ∧ OwA Z (w.heap.size + 2) (rowsDd t ++ (rowsPh q' ++ (rowsW y ++ rowsFm g'))) ∧ NB (rowsDd t ++ (rowsPh q' ++ (rowsW y ++ rowsFm g'))) bx ∧ w.heap.size + 2 ≤ bx ∧ Bx Z bx [.slice y.rs.A y.rs.l.length y.rs.c, .int .i64 y.fr, .int .i64 y.to_, .slice y.ps.A y.ps.l.length y.ps.c, .slice y.ts.A y.ts.l.length y.ts.c, .slice y.pl.A y.pl.l.length y.pl.c, .slice y.ws.A y.ws.l.length y.ws.c, .slice y.st.A y.st.l.length y.st.c, .slice y.se.A y.se.l.length y.se.c, .slice y.ha.A y.ha.l.length y.ha.c, .slice t.A t.l.length t.c, .slice g'.A g'.l.length g'.c, .slice q'.A q'.l.length q'.c] ∧ Bx Z w.heap.size [.slice x.rs.A x.rs.l.length x.rs.c, .int .i64 x.fr, .int .i64 x.to_, .slice x.ps.A x.ps.l.length x.ps.c, .slice x.ts.A x.ts.l.length x.ts.c, .slice x.pl.A x.pl.l.length x.pl.c, .slice x.ws.A x.ws.l.length x.ws.c, .slice x.st.A x.st.l.length x.st.c, .slice x.se.A x.se.l.length x.se.c, .slice x.ha.A x.ha.l.length x.ha.c, .slice s.A s.l.length s.c, .slice g.A g.l.length g.c, .slice q.A q.l.length q.c] ∧ Bx Z (w.heap.size + 1) [.slice none 0 0, .int .i64 0, .int .i64 0, .slice none 0 0, .slice none 0 0, .slice none 0 0, .slice none 0 0, .slice none 0 0, .slice none 0 0, .slice none 0 0, .slice none 0 0, .slice none 0 0, .slice none 0 0] ∧ Up w Z)
  case first =>
    refine nameAct (fun a0 ha0 => ?_)
    obtain ⟨I, hI⟩ : ∃ I : Array Bool → Act → World → Prop, I = fun b a Z => ∃ (b0 b1 b2 b3 b4 b5 b6 b7 b8 b9 b10 : Bool) (u7 u16 u17 u18 u19 u20 u21 u22 u23 u24 : Value) (K7 : Nat) (y : Wd) (t : Sl Dd) (g' : Sl Fm) (q' : Sl (Sl ByteArray)), b = #[b0, b1, b2, b3, b4, b5, b6, b7, b8, b9, b10] ∧ a = ⟨#[.agg #[.slice x.rs.A x.rs.l.length x.rs.c, .int .i64 x.fr, .int .i64 x.to_, .slice x.ps.A x.ps.l.length x.ps.c, .slice x.ts.A x.ts.l.length x.ts.c, .slice x.pl.A x.pl.l.length x.pl.c, .slice x.ws.A x.ws.l.length x.ws.c, .slice x.st.A x.st.l.length x.st.c, .slice x.se.A x.se.l.length x.se.c, .slice x.ha.A x.ha.l.length x.ha.c, .slice s.A s.l.length s.c, .slice g.A g.l.length g.c, .slice q.A q.l.length q.c], .int .i64 i, .pointer (some ⟨w.heap.size, 0, none⟩), undef, .pointer (some ⟨w.heap.size + 1, 0, none⟩), .int .i64 0, .int .i64 0, u7, undef, .agg #[.slice x.rs.A x.rs.l.length x.rs.c, .int .i64 x.fr, .int .i64 x.to_, .slice x.ps.A x.ps.l.length x.ps.c, .slice x.ts.A x.ts.l.length x.ts.c, .slice x.pl.A x.pl.l.length x.pl.c, .slice x.ws.A x.ws.l.length x.ws.c, .slice x.st.A x.st.l.length x.st.c, .slice x.se.A x.se.l.length x.se.c, .slice x.ha.A x.ha.l.length x.ha.c, .slice s.A s.l.length s.c, .slice g.A g.l.length g.c, .slice q.A q.l.length q.c], .int .i64 i, .int .i64 0, .int .i64 0, .bool false, undef, undef, u16, u17, u18, u19, u20, u21, u22, u23, u24, undef, undef, undef, undef, undef, undef, undef, undef, undef, undef, undef, undef, undef, undef, undef, undef, undef, undef, undef, undef, undef, undef, undef, undef, undef, undef, undef, undef, undef, undef, undef, undef, undef, undef, undef, undef, undef, undef, undef, undef], []⟩ ∧ Hid (b0 = true → u16 = .pointer (some ⟨w.heap.size, 0, none⟩)) ∧ Hid (b1 = true → u17 = .agg #[.slice x.rs.A x.rs.l.length x.rs.c, .int .i64 x.fr, .int .i64 x.to_, .slice x.ps.A x.ps.l.length x.ps.c, .slice x.ts.A x.ts.l.length x.ts.c, .slice x.pl.A x.pl.l.length x.pl.c, .slice x.ws.A x.ws.l.length x.ws.c, .slice x.st.A x.st.l.length x.st.c, .slice x.se.A x.se.l.length x.se.c, .slice x.ha.A x.ha.l.length x.ha.c]) ∧ Hid (b2 = true → u18 = y.val ∧ y.p = x.p) ∧ Hid (b3 = true → u19 = t.val ∧ t.l = []) ∧ Hid (b4 = true → u20 = .pointer (some ⟨w.heap.size, 11, none⟩)) ∧ Hid (b5 = true → u21 = .slice g.A g.l.length g.c) ∧ Hid (b6 = true → u22 = .slice g'.A g'.l.length g'.c ∧ g'.l.map Fm.p = g.l.map Fm.p) ∧ Hid (b7 = true → u23 = q'.val ∧ q'.l = []) ∧ Hid (b8 = true → u24 = .agg #[.slice y.rs.A y.rs.l.length y.rs.c, .int .i64 y.fr, .int .i64 y.to_, .slice y.ps.A y.ps.l.length y.ps.c, .slice y.ts.A y.ts.l.length y.ts.c, .slice y.pl.A y.pl.l.length y.pl.c, .slice y.ws.A y.ws.l.length y.ws.c, .slice y.st.A y.st.l.length y.st.c, .slice y.se.A y.se.l.length y.se.c, .slice y.ha.A y.ha.l.length y.ha.c, .slice t.A t.l.length t.c, .slice g'.A g'.l.length g'.c, .slice q'.A q'.l.length q'.c]) ∧ Hid (b9 = true → u7 = .pointer (some ⟨K7, 0, none⟩) ∧ w.heap.size + 2 ≤ K7 ∧ W2.heap.size ≤ K7 ∧ K7 < Z.heap.size ∧ NB (Rb b3 (rowsDd t) ++ (Rb b7 (rowsPh q') ++ (Rb b2 (rowsW y) ++ Rb b6 (rowsFm g')))) K7) ∧ Hid (b9 = true → b10 = false → Bx Z K7 [.slice none 0 0, .int .i64 0, .int .i64 0, .slice none 0 0, .slice none 0 0, .slice none 0 0, .slice none 0 0, .slice none 0 0, .slice none 0 0, .slice none 0 0, .slice none 0 0, .slice none 0 0, .slice none 0 0]) ∧ Hid (b10 = true → b8 = true ∧ b9 = true ∧ Bx Z K7 [.slice y.rs.A y.rs.l.length y.rs.c, .int .i64 y.fr, .int .i64 y.to_, .slice y.ps.A y.ps.l.length y.ps.c, .slice y.ts.A y.ts.l.length y.ts.c, .slice y.pl.A y.pl.l.length y.pl.c, .slice y.ws.A y.ws.l.length y.ws.c, .slice y.st.A y.st.l.length y.st.c, .slice y.se.A y.se.l.length y.se.c, .slice y.ha.A y.ha.l.length y.ha.c, .slice t.A t.l.length t.c, .slice g'.A g'.l.length g'.c, .slice q'.A q'.l.length q'.c]) ∧ Hid (b8 = true → b2 = true ∧ b3 = true ∧ b6 = true ∧ b7 = true) ∧ Hid (OwA Z W2.heap.size (Rb b3 (rowsDd t) ++ (Rb b7 (rowsPh q') ++ (Rb b2 (rowsW y) ++ Rb b6 (rowsFm g'))))) ∧ Hid (Up W2 Z) := ⟨_, rfl⟩
    have HI := Lib.hid hI
    clear hI
    refine wp_region_inv (by kernel_rfl) (by kernel_rfl) I ?_ ?_ ?_
    · rw [ha0, HI.out]
      refine ⟨false, false, false, false, false, false, false, false, false, false, false, undef, undef, undef, undef, undef, undef, undef, undef, undef, undef, 0, ⟨⟨none, 0, []⟩, 0, 0, ⟨none, 0, []⟩, ⟨none, 0, []⟩, ⟨none, 0, []⟩, ⟨none, 0, []⟩, ⟨none, 0, []⟩, ⟨none, 0, []⟩, ⟨none, 0, []⟩⟩, ⟨none, 0, []⟩, ⟨none, 0, []⟩, ⟨none, 0, []⟩, rfl, rfl, Lib.hid ((fun h => absurd h (by simp))), Lib.hid ((fun h => absurd h (by simp))), Lib.hid ((fun h => absurd h (by simp))), Lib.hid ((fun h => absurd h (by simp))), Lib.hid ((fun h => absurd h (by simp))), Lib.hid ((fun h => absurd h (by simp))), Lib.hid ((fun h => absurd h (by simp))), Lib.hid ((fun h => absurd h (by simp))), Lib.hid ((fun h => absurd h (by simp))), Lib.hid ((fun h => absurd h (by simp))), Lib.hid ((fun h => absurd h (by simp))), Lib.hid ((fun h => absurd h (by simp))), Lib.hid ((fun h => absurd h (by simp))), Lib.hid (OwA.nil_ _ _), Lib.hid ((Up.refl _).drew)⟩
    · intro b a Z k hIb hk
      rw [HI.out] at hIb
      obtain ⟨b0, b1, b2, b3, b4, b5, b6, b7, b8, b9, b10, u7, u16, u17, u18, u19, u20, u21, u22, u23, u24, K7, y, t, g', q', rfl, rfl, H0, H1, H2, H3, H4, H5, H6, H7, H8, H9, H9b, H10, H8d, HO, HU⟩ := hIb
      have hk11 : k < 11 := by obtain ⟨-, o, ho, -⟩ := mem_ready.1 hk; exact (Array.getElem?_eq_some_iff.1 ho).1
      have hZ := HU.out.size
      obtain rfl | rfl | rfl | rfl | rfl | rfl | rfl | rfl | rfl | rfl | rfl := (show k = 0 ∨ k = 1 ∨ k = 2 ∨ k = 3 ∨ k = 4 ∨ k = 5 ∨ k = 6 ∨ k = 7 ∨ k = 8 ∨ k = 9 ∨ k = 10 by omega)
      · have hnot : b0 = false := (mem_ready.1 hk).1
        clear hk
        refine wpOp_plain (o := _) rfl rfl ?_
        go_simp
        rw [HI.out]
        exact ⟨true, b1, b2, b3, b4, b5, b6, b7, b8, b9, b10, u7, .pointer (some ⟨w.heap.size, 0, none⟩), u17, u18, u19, u20, u21, u22, u23, u24, K7, y, t, g', q', rfl, rfl, Lib.hid (fun _ => rfl), H1, H2, H3, H4, H5, H6, H7, H8, H9, H9b, H10, H8d, HO, HU⟩
      · have hnot : b1 = false := (mem_ready.1 hk).1
        have d0 : b0 = true := ready_edge hk (o := _) rfl 0 (e := _) rfl rfl
        clear hk
        subst d0
        obtain rfl := H0.out rfl
        obtain ⟨x0, x1, x2, x3, x4, x5, x6, x7, x8, x9, x10, x11, x12⟩ := (HA.out.up HU.out).c13
        refine wpOp_plain (o := _) rfl rfl ?_
        go_simp
        rw [HI.out]
        exact ⟨true, true, b2, b3, b4, b5, b6, b7, b8, b9, b10, u7, _, .agg #[.slice x.rs.A x.rs.l.length x.rs.c, .int .i64 x.fr, .int .i64 x.to_, .slice x.ps.A x.ps.l.length x.ps.c, .slice x.ts.A x.ts.l.length x.ts.c, .slice x.pl.A x.pl.l.length x.pl.c, .slice x.ws.A x.ws.l.length x.ws.c, .slice x.st.A x.st.l.length x.st.c, .slice x.se.A x.se.l.length x.se.c, .slice x.ha.A x.ha.l.length x.ha.c], u18, u19, u20, u21, u22, u23, u24, K7, y, t, g', q', rfl, rfl, H0, Lib.hid (fun _ => rfl), H2, H3, H4, H5, H6, H7, H8, H9, H9b, H10, H8d, HO, HU⟩
      · have hnot : b2 = false := (mem_ready.1 hk).1
        have d1 : b1 = true := ready_edge hk (o := _) rfl 0 (e := _) rfl rfl
        clear hk
        subst d1
        obtain rfl := H1.out rfl
        have hb8 : b8 = false := by
          cases b8 with
          | false => rfl
          | true => exact absurd (H8d.out rfl).1 (by rw [hnot]; simp)
        have hb10 : b10 = false := by
          cases b10 with
          | false => rfl
          | true => have := (H10.out rfl).1; rw [hb8] at this; cases this
        subst hb8 hb10 hnot
        refine wpOp_plain (o := _) rfl rfl ?_
        go_simp
        go_at_call 16
        refine (cw.out _ HU.out).mono ?_
        rintro e v1 ⟨y', rfl, ey, oy, UP⟩
        have HO' : OwA _ W2.heap.size _ := OwA.ins (X := Rb b3 (rowsDd t) ++ Rb b7 (rowsPh q')) (Z := Rb b6 (rowsFm g')) (N := rowsW y') (by simpa [Rb] using HO.out) UP hZ oy
        have H9' := fun h => (let ⟨p1, p2, p3, p4, p5⟩ := H9.out h; (⟨p1, p2, p3, Nat.lt_of_lt_of_le p4 UP.size, NB.ins (X := Rb b3 (rowsDd t) ++ Rb b7 (rowsPh q')) (Z := Rb b6 (rowsFm g')) (N := rowsW y') (by simpa [Rb] using p5) p4 oy⟩ : _ ∧ _ ∧ _ ∧ _ ∧ _))
        rw [HI.out]
        exact ⟨b0, true, true, b3, b4, b5, b6, b7, false, b9, false, u7, u16, _, y'.val, u19, u20, u21, u22, u23, u24, K7, y', t, g', q', rfl, rfl, H0, H1, Lib.hid (fun _ => ⟨rfl, ey⟩), H3, H4, H5, H6, H7, Lib.hid ((fun h => absurd h (by simp))), Lib.hid ((fun h => let ⟨p1, p2, p3, p4, p5⟩ := H9' h; ⟨p1, p2, p3, p4, by simpa [Rb] using p5⟩)), Lib.hid ((fun h h' => (H9b.out h h').up UP)), Lib.hid ((fun h => absurd h (by simp))), Lib.hid ((fun h => absurd h (by simp))), Lib.hid ((by simpa [Rb] using HO')), Lib.hid ((HU.out.trans UP))⟩
      · have hnot : b3 = false := (mem_ready.1 hk).1
        clear hk
        have hb8 : b8 = false := by
          cases b8 with
          | false => rfl
          | true => exact absurd (H8d.out rfl).2.1 (by rw [hnot]; simp)
        have hb10 : b10 = false := by
          cases b10 with
          | false => rfl
          | true => have := (H10.out rfl).1; rw [hb8] at this; cases this
        subst hb8 hb10 hnot
        have UP : Up Z (Z.alloc (.cells #[] 77)) := Up.alloc _ _
        have oy := OwA.litDd Z
        refine wpOp_plain (o := _) rfl rfl ?_
        go_simp
        have HO' : OwA _ W2.heap.size _ := OwA.ins (X := []) (Z := Rb b7 (rowsPh q') ++ (Rb b2 (rowsW y) ++ Rb b6 (rowsFm g'))) (N := rowsDd ⟨some ⟨Z.heap.size, 0, none⟩, 0, []⟩) (by simpa [Rb] using HO.out) UP hZ oy
        have H9' := fun h => (let ⟨p1, p2, p3, p4, p5⟩ := H9.out h; (⟨p1, p2, p3, Nat.lt_of_lt_of_le p4 UP.size, NB.ins (X := []) (Z := Rb b7 (rowsPh q') ++ (Rb b2 (rowsW y) ++ Rb b6 (rowsFm g'))) (N := rowsDd ⟨some ⟨Z.heap.size, 0, none⟩, 0, []⟩) (by simpa [Rb] using p5) p4 oy⟩ : _ ∧ _ ∧ _ ∧ _ ∧ _))
        rw [HI.out]
        exact ⟨b0, b1, b2, true, b4, b5, b6, b7, false, b9, false, u7, u16, u17, u18, .slice (some ⟨Z.heap.size, 0, none⟩) 0 0, u20, u21, u22, u23, u24, K7, y, ⟨some ⟨Z.heap.size, 0, none⟩, 0, []⟩, g', q', rfl, rfl, H0, H1, H2, Lib.hid (fun _ => ⟨rfl, rfl⟩), H4, H5, H6, H7, Lib.hid ((fun h => absurd h (by simp))), Lib.hid ((fun h => let ⟨p1, p2, p3, p4, p5⟩ := H9' h; ⟨p1, p2, p3, p4, by simpa [Rb] using p5⟩)), Lib.hid ((fun h h' => (H9b.out h h').up UP)), Lib.hid ((fun h => absurd h (by simp))), Lib.hid ((fun h => absurd h (by simp))), Lib.hid ((by simpa [Rb] using HO')), Lib.hid ((HU.out.trans UP))⟩
      · have hnot : b4 = false := (mem_ready.1 hk).1
        clear hk
        refine wpOp_plain (o := _) rfl rfl ?_
        go_simp
        rw [HI.out]
        exact ⟨b0, b1, b2, b3, true, b5, b6, b7, b8, b9, b10, u7, u16, u17, u18, u19, .pointer (some ⟨w.heap.size, 11, none⟩), u21, u22, u23, u24, K7, y, t, g', q', rfl, rfl, H0, H1, H2, H3, Lib.hid (fun _ => rfl), H5, H6, H7, H8, H9, H9b, H10, H8d, HO, HU⟩
      · have hnot : b5 = false := (mem_ready.1 hk).1
        have d4 : b4 = true := ready_edge hk (o := _) rfl 0 (e := _) rfl rfl
        clear hk
        subst d4
        obtain rfl := H4.out rfl
        obtain ⟨x0, x1, x2, x3, x4, x5, x6, x7, x8, x9, x10, x11, x12⟩ := (HA.out.up HU.out).c13
        refine wpOp_plain (o := _) rfl rfl ?_
        go_simp
        rw [HI.out]
        exact ⟨b0, b1, b2, b3, true, true, b6, b7, b8, b9, b10, u7, u16, u17, u18, u19, _, .slice g.A g.l.length g.c, u22, u23, u24, K7, y, t, g', q', rfl, rfl, H0, H1, H2, H3, H4, Lib.hid (fun _ => rfl), H6, H7, H8, H9, H9b, H10, H8d, HO, HU⟩
      · have hnot : b6 = false := (mem_ready.1 hk).1
        have d5 : b5 = true := ready_edge hk (o := _) rfl 0 (e := _) rfl rfl
        have d2 : b2 = true := ready_edge hk (o := _) rfl 1 (e := _) rfl rfl
        clear hk
        subst d5
        subst d2
        obtain rfl := H5.out rfl
        have hb8 : b8 = false := by
          cases b8 with
          | false => rfl
          | true => exact absurd (H8d.out rfl).2.2.1 (by rw [hnot]; simp)
        have hb10 : b10 = false := by
          cases b10 with
          | false => rfl
          | true => have := (H10.out rfl).1; rw [hb8] at this; cases this
        subst hb8 hb10 hnot
        refine wpOp_plain (o := _) rfl rfl ?_
        go_simp
        go_at_call 17
        refine (cf.out _ HU.out).mono ?_
        rintro e v1 ⟨g2, rfl, oy, eg, UP⟩
        have HO' : OwA _ W2.heap.size _ := OwA.ins (X := Rb b3 (rowsDd t) ++ (Rb b7 (rowsPh q') ++ Rb true (rowsW y))) (Z := []) (N := rowsFm g2) (by simpa [Rb] using HO.out) UP hZ oy
        have H9' := fun h => (let ⟨p1, p2, p3, p4, p5⟩ := H9.out h; (⟨p1, p2, p3, Nat.lt_of_lt_of_le p4 UP.size, NB.ins (X := Rb b3 (rowsDd t) ++ (Rb b7 (rowsPh q') ++ Rb true (rowsW y))) (Z := []) (N := rowsFm g2) (by simpa [Rb] using p5) p4 oy⟩ : _ ∧ _ ∧ _ ∧ _ ∧ _))
        rw [HI.out]
        exact ⟨b0, b1, true, b3, b4, true, true, b7, false, b9, false, u7, u16, u17, u18, u19, u20, _, .slice g2.A g2.l.length g2.c, u23, u24, K7, y, t, g2, q', rfl, rfl, H0, H1, H2, H3, H4, H5, Lib.hid (fun _ => ⟨rfl, eg⟩), H7, Lib.hid ((fun h => absurd h (by simp))), Lib.hid ((fun h => let ⟨p1, p2, p3, p4, p5⟩ := H9' h; ⟨p1, p2, p3, p4, by simpa [Rb] using p5⟩)), Lib.hid ((fun h h' => (H9b.out h h').up UP)), Lib.hid ((fun h => absurd h (by simp))), Lib.hid ((fun h => absurd h (by simp))), Lib.hid ((by simpa [Rb] using HO')), Lib.hid ((HU.out.trans UP))⟩
      · have hnot : b7 = false := (mem_ready.1 hk).1
        clear hk
        have hb8 : b8 = false := by
          cases b8 with
          | false => rfl
          | true => exact absurd (H8d.out rfl).2.2.2 (by rw [hnot]; simp)
        have hb10 : b10 = false := by
          cases b10 with
          | false => rfl
          | true => have := (H10.out rfl).1; rw [hb8] at this; cases this
        subst hb8 hb10 hnot
        have UP : Up Z (Z.alloc (.cells #[] 29)) := Up.alloc _ _
        have oy := OwA.litPh Z
        refine wpOp_plain (o := _) rfl rfl ?_
        go_simp
        have HO' : OwA _ W2.heap.size _ := OwA.ins (X := Rb b3 (rowsDd t)) (Z := Rb b2 (rowsW y) ++ Rb b6 (rowsFm g')) (N := rowsPh ⟨some ⟨Z.heap.size, 0, none⟩, 0, []⟩) (by simpa [Rb] using HO.out) UP hZ oy
        have H9' := fun h => (let ⟨p1, p2, p3, p4, p5⟩ := H9.out h; (⟨p1, p2, p3, Nat.lt_of_lt_of_le p4 UP.size, NB.ins (X := Rb b3 (rowsDd t)) (Z := Rb b2 (rowsW y) ++ Rb b6 (rowsFm g')) (N := rowsPh ⟨some ⟨Z.heap.size, 0, none⟩, 0, []⟩) (by simpa [Rb] using p5) p4 oy⟩ : _ ∧ _ ∧ _ ∧ _ ∧ _))
        rw [HI.out]
        exact ⟨b0, b1, b2, b3, b4, b5, b6, true, false, b9, false, u7, u16, u17, u18, u19, u20, u21, u22, .slice (some ⟨Z.heap.size, 0, none⟩) 0 0, u24, K7, y, t, g', ⟨some ⟨Z.heap.size, 0, none⟩, 0, []⟩, rfl, rfl, H0, H1, H2, H3, H4, H5, H6, Lib.hid (fun _ => ⟨rfl, rfl⟩), Lib.hid ((fun h => absurd h (by simp))), Lib.hid ((fun h => let ⟨p1, p2, p3, p4, p5⟩ := H9' h; ⟨p1, p2, p3, p4, by simpa [Rb] using p5⟩)), Lib.hid ((fun h h' => (H9b.out h h').up UP)), Lib.hid ((fun h => absurd h (by simp))), Lib.hid ((fun h => absurd h (by simp))), Lib.hid ((by simpa [Rb] using HO')), Lib.hid ((HU.out.trans UP))⟩
      · have hnot : b8 = false := (mem_ready.1 hk).1
        have d2 : b2 = true := ready_edge hk (o := _) rfl 0 (e := _) rfl rfl
        have d3 : b3 = true := ready_edge hk (o := _) rfl 1 (e := _) rfl rfl
        have d6 : b6 = true := ready_edge hk (o := _) rfl 2 (e := _) rfl rfl
        have d7 : b7 = true := ready_edge hk (o := _) rfl 3 (e := _) rfl rfl
        clear hk
        subst d2
        subst d3
        subst d6
        subst d7
        obtain ⟨rfl, _⟩ := H2.out rfl
        obtain ⟨rfl, _⟩ := H3.out rfl
        obtain ⟨rfl, _⟩ := H6.out rfl
        obtain ⟨rfl, _⟩ := H7.out rfl
        refine wpOp_plain (o := _) rfl rfl ?_
        go_simp
        rw [HI.out]
        exact ⟨b0, b1, true, true, b4, b5, true, true, true, b9, b10, u7, u16, u17, _, _, u20, u21, _, _, .agg #[.slice y.rs.A y.rs.l.length y.rs.c, .int .i64 y.fr, .int .i64 y.to_, .slice y.ps.A y.ps.l.length y.ps.c, .slice y.ts.A y.ts.l.length y.ts.c, .slice y.pl.A y.pl.l.length y.pl.c, .slice y.ws.A y.ws.l.length y.ws.c, .slice y.st.A y.st.l.length y.st.c, .slice y.se.A y.se.l.length y.se.c, .slice y.ha.A y.ha.l.length y.ha.c, .slice t.A t.l.length t.c, .slice g'.A g'.l.length g'.c, .slice q'.A q'.l.length q'.c], K7, y, t, g', q', rfl, rfl, H0, H1, H2, H3, H4, H5, H6, H7, Lib.hid (fun _ => rfl), H9, H9b, Lib.hid ((fun h => let ⟨p1, p2, p3⟩ := H10.out h; ⟨rfl, p2, p3⟩)), Lib.hid ((fun _ => ⟨rfl, rfl, rfl, rfl⟩)), HO, HU⟩
      · have hnot : b9 = false := (mem_ready.1 hk).1
        clear hk
        have UP : Up Z (Z.alloc (.cells #[.slice none 0 0, .int .i64 0, .int .i64 0, .slice none 0 0, .slice none 0 0, .slice none 0 0, .slice none 0 0, .slice none 0 0, .slice none 0 0, .slice none 0 0, .slice none 0 0, .slice none 0 0, .slice none 0 0] 60)) := Up.alloc _ _
        have hb10 : b10 = false := by
          cases b10 with
          | false => rfl
          | true => have := (H10.out rfl).2.1; rw [hnot] at this; cases this
        subst hb10
        have hBx := Bx.new Z #[.slice none 0 0, .int .i64 0, .int .i64 0, .slice none 0 0, .slice none 0 0, .slice none 0 0, .slice none 0 0, .slice none 0 0, .slice none 0 0, .slice none 0 0, .slice none 0 0, .slice none 0 0, .slice none 0 0] 60
        have hNB : NB _ Z.heap.size := HO.out.new (Nat.le_refl _)
        have hs1 : Z.heap.size < (Z.alloc (.cells #[.slice none 0 0, .int .i64 0, .int .i64 0, .slice none 0 0, .slice none 0 0, .slice none 0 0, .slice none 0 0, .slice none 0 0, .slice none 0 0, .slice none 0 0, .slice none 0 0, .slice none 0 0, .slice none 0 0] 60)).heap.size := by simp
        have hs2 := HSZ.out
        refine wpOp_plain (o := _) rfl rfl ?_
        go_simp
        rw [HI.out]
        exact ⟨b0, b1, b2, b3, b4, b5, b6, b7, b8, true, false, .pointer (some ⟨Z.heap.size, 0, none⟩), u16, u17, u18, u19, u20, u21, u22, u23, u24, Z.heap.size, y, t, g', q', rfl, rfl, H0, H1, H2, H3, H4, H5, H6, H7, H8, Lib.hid ((fun _ => ⟨rfl, by omega, hZ, hs1, hNB⟩)), Lib.hid ((fun _ _ => hBx)), Lib.hid ((fun h => absurd h (by simp))), H8d, Lib.hid ((HO.out.up UP)), Lib.hid ((HU.out.trans UP))⟩
      · have hnot : b10 = false := (mem_ready.1 hk).1
        have d9 : b9 = true := ready_edge hk (o := _) rfl 0 (e := _) rfl rfl
        have d8 : b8 = true := ready_edge hk (o := _) rfl 1 (e := _) rfl rfl
        clear hk
        subst d9
        subst d8
        obtain rfl := H8.out rfl
        obtain ⟨rfl, p2, p3, p4, p5⟩ := H9.out rfl
        have hBx := H9b.out rfl hnot
        obtain ⟨z0, z1, z2, z3, z4, z5, z6, z7, z8, z9, z10, z11, z12⟩ := hBx.c13
        obtain ⟨f0, f1, f2, f3, f4, f5, f6, f7, f8, f9, f10, f11, f12⟩ := hBx.f13
        have OO := HO.out
        have UU := HU.out
        have hBx := hBx.put 0 (.slice y.rs.A y.rs.l.length y.rs.c)
        have OO := OwA.putNe OO (p := ⟨K7, 0, none⟩) p5 (.slice y.rs.A y.rs.l.length y.rs.c)
        have UU := UU.setCell (p := ⟨K7, 0, none⟩) p3 (.slice y.rs.A y.rs.l.length y.rs.c)
        have hBx := hBx.put 1 (.int .i64 y.fr)
        have OO := OwA.putNe OO (p := ⟨K7, 1, none⟩) p5 (.int .i64 y.fr)
        have UU := UU.setCell (p := ⟨K7, 1, none⟩) p3 (.int .i64 y.fr)
        have hBx := hBx.put 2 (.int .i64 y.to_)
        have OO := OwA.putNe OO (p := ⟨K7, 2, none⟩) p5 (.int .i64 y.to_)
        have UU := UU.setCell (p := ⟨K7, 2, none⟩) p3 (.int .i64 y.to_)
        have hBx := hBx.put 3 (.slice y.ps.A y.ps.l.length y.ps.c)
        have OO := OwA.putNe OO (p := ⟨K7, 3, none⟩) p5 (.slice y.ps.A y.ps.l.length y.ps.c)
        have UU := UU.setCell (p := ⟨K7, 3, none⟩) p3 (.slice y.ps.A y.ps.l.length y.ps.c)
        have hBx := hBx.put 4 (.slice y.ts.A y.ts.l.length y.ts.c)
        have OO := OwA.putNe OO (p := ⟨K7, 4, none⟩) p5 (.slice y.ts.A y.ts.l.length y.ts.c)
        have UU := UU.setCell (p := ⟨K7, 4, none⟩) p3 (.slice y.ts.A y.ts.l.length y.ts.c)
        have hBx := hBx.put 5 (.slice y.pl.A y.pl.l.length y.pl.c)
        have OO := OwA.putNe OO (p := ⟨K7, 5, none⟩) p5 (.slice y.pl.A y.pl.l.length y.pl.c)
        have UU := UU.setCell (p := ⟨K7, 5, none⟩) p3 (.slice y.pl.A y.pl.l.length y.pl.c)
        have hBx := hBx.put 6 (.slice y.ws.A y.ws.l.length y.ws.c)
        have OO := OwA.putNe OO (p := ⟨K7, 6, none⟩) p5 (.slice y.ws.A y.ws.l.length y.ws.c)
        have UU := UU.setCell (p := ⟨K7, 6, none⟩) p3 (.slice y.ws.A y.ws.l.length y.ws.c)
        have hBx := hBx.put 7 (.slice y.st.A y.st.l.length y.st.c)
        have OO := OwA.putNe OO (p := ⟨K7, 7, none⟩) p5 (.slice y.st.A y.st.l.length y.st.c)
        have UU := UU.setCell (p := ⟨K7, 7, none⟩) p3 (.slice y.st.A y.st.l.length y.st.c)
        have hBx := hBx.put 8 (.slice y.se.A y.se.l.length y.se.c)
        have OO := OwA.putNe OO (p := ⟨K7, 8, none⟩) p5 (.slice y.se.A y.se.l.length y.se.c)
        have UU := UU.setCell (p := ⟨K7, 8, none⟩) p3 (.slice y.se.A y.se.l.length y.se.c)
        have hBx := hBx.put 9 (.slice y.ha.A y.ha.l.length y.ha.c)
        have OO := OwA.putNe OO (p := ⟨K7, 9, none⟩) p5 (.slice y.ha.A y.ha.l.length y.ha.c)
        have UU := UU.setCell (p := ⟨K7, 9, none⟩) p3 (.slice y.ha.A y.ha.l.length y.ha.c)
        have hBx := hBx.put 10 (.slice t.A t.l.length t.c)
        have OO := OwA.putNe OO (p := ⟨K7, 10, none⟩) p5 (.slice t.A t.l.length t.c)
        have UU := UU.setCell (p := ⟨K7, 10, none⟩) p3 (.slice t.A t.l.length t.c)
        have hBx := hBx.put 11 (.slice g'.A g'.l.length g'.c)
        have OO := OwA.putNe OO (p := ⟨K7, 11, none⟩) p5 (.slice g'.A g'.l.length g'.c)
        have UU := UU.setCell (p := ⟨K7, 11, none⟩) p3 (.slice g'.A g'.l.length g'.c)
        have hBx := hBx.put 12 (.slice q'.A q'.l.length q'.c)
        have OO := OwA.putNe OO (p := ⟨K7, 12, none⟩) p5 (.slice q'.A q'.l.length q'.c)
        have UU := UU.setCell (p := ⟨K7, 12, none⟩) p3 (.slice q'.A q'.l.length q'.c)
        refine wpOp_plain (o := _) rfl rfl ?_
        go_simp
        rw [HI.out]
        exact ⟨b0, b1, b2, b3, b4, b5, b6, b7, true, true, true, _, u16, u17, u18, u19, u20, u21, u22, u23, _, K7, y, t, g', q', rfl, rfl, H0, H1, H2, H3, H4, H5, H6, H7, H8, Lib.hid ((fun _ => ⟨rfl, p2, p3, by simpa using p4, p5⟩)), Lib.hid ((fun _ h => absurd h (by simp))), Lib.hid ((fun _ => ⟨rfl, rfl, hBx⟩)), H8d, Lib.hid (OO), Lib.hid (UU)⟩
    · intro b a Z hIb hall
      rw [HI.out] at hIb
      obtain ⟨b0, b1, b2, b3, b4, b5, b6, b7, b8, b9, b10, u7, u16, u17, u18, u19, u20, u21, u22, u23, u24, K7, y, t, g', q', rfl, rfl, H0, H1, H2, H3, H4, H5, H6, H7, H8, H9, H9b, H10, H8d, HO, HU⟩ := hIb
      obtain rfl : b0 = true := hall 0 (by decide)
      obtain rfl : b1 = true := hall 1 (by decide)
      obtain rfl : b2 = true := hall 2 (by decide)
      obtain rfl : b3 = true := hall 3 (by decide)
      obtain rfl : b4 = true := hall 4 (by decide)
      obtain rfl : b5 = true := hall 5 (by decide)
      obtain rfl : b6 = true := hall 6 (by decide)
      obtain rfl : b7 = true := hall 7 (by decide)
      obtain rfl : b8 = true := hall 8 (by decide)
      obtain rfl : b9 = true := hall 9 (by decide)
      obtain rfl : b10 = true := hall 10 (by decide)
      obtain rfl := H0.out rfl
      obtain rfl := H1.out rfl
      obtain ⟨rfl, ey⟩ := H2.out rfl
      obtain ⟨rfl, et⟩ := H3.out rfl
      obtain rfl := H4.out rfl
      obtain rfl := H5.out rfl
      obtain ⟨rfl, eg⟩ := H6.out rfl
      obtain ⟨rfl, eq⟩ := H7.out rfl
      obtain rfl := H8.out rfl
      obtain ⟨rfl, p2, p3, p4, p5⟩ := H9.out rfl
      have hBx := (H10.out rfl).2.2
      have hAz := HA.out.up HU.out
      have hRz := HR.out.up HU.out
      have uz := U.out.trans HU.out
      have HO2 : OwA Z (w.heap.size + 2) (rowsDd t ++ (rowsPh q' ++ (rowsW y ++ rowsFm g'))) := OwA.base (by simpa [Rb] using HO.out) HSZ.out
      have hN : NB (rowsDd t ++ (rowsPh q' ++ (rowsW y ++ rowsFm g'))) K7 := by simpa [Rb] using p5
      go_wp2_with fail
      go_meet
      exact ⟨Z, K7, y, t, g', q', rfl, rfl, ey, et, eg, eq, HO2, hN, p2, hBx, hAz, hRz, uz⟩
  obtain ⟨W3, bx, y, t0, g', q0, hZ, hp, ey, et, eg, eq, hO, hN, hbx, hB, hA, hR, u⟩ := hcut
  subst hZ
  subst hp
  have EY := Lib.hid ey
  have EG := Lib.hid eg
  have HBX := Lib.hid hbx
  clear ey eg hbx cw cf HA HR U HSZ a0 a1 a2 a3 a4 a5 a6 a7 a8 a9 a10 a11 a12
  obtain ⟨m, hm⟩ : ∃ m : Nat, i = (m : Int) := ⟨i.toNat, by omega⟩
  subst hm
  have hml : m < s.l.length := by omega
  have hsl := h2.len
  clear hi0 hi1
  have hbl : bx < W3.heap.size := block_lt_of_cell (hB 0 _ rfl).1
  go_upto_region 6 with (fail)
  go_loopw [8] (fun kk wr => ∃ (k : Nat) (t : Sl Dd) (q' : Sl (Sl ByteArray)), k ≤ s.l.length ∧ kk = .int .i64 k ∧ t.l.map Dd.p = ((s.l.take k).eraseIdx m).map (wdP (wdN s.l m)) ∧ phP q'.l = phP ((q.l.take k).eraseIdx m) ∧ OwA wr (w.heap.size + 2) (rowsDd t ++ (rowsPh q' ++ (rowsW y ++ rowsFm g'))) ∧ NB (rowsDd t ++ (rowsPh q' ++ (rowsW y ++ rowsFm g'))) bx ∧ Bx wr bx [.slice y.rs.A y.rs.l.length y.rs.c, .int .i64 y.fr, .int .i64 y.to_, .slice y.ps.A y.ps.l.length y.ps.c, .slice y.ts.A y.ts.l.length y.ts.c, .slice y.pl.A y.pl.l.length y.pl.c, .slice y.ws.A y.ws.l.length y.ws.c, .slice y.st.A y.st.l.length y.st.c, .slice y.se.A y.se.l.length y.se.c, .slice y.ha.A y.ha.l.length y.ha.c, .slice t.A t.l.length t.c, .slice g'.A g'.l.length g'.c, .slice q'.A q'.l.length q'.c] ∧ Bx wr w.heap.size [.slice x.rs.A x.rs.l.length x.rs.c, .int .i64 x.fr, .int .i64 x.to_, .slice x.ps.A x.ps.l.length x.ps.c, .slice x.ts.A x.ts.l.length x.ts.c, .slice x.pl.A x.pl.l.length x.pl.c, .slice x.ws.A x.ws.l.length x.ws.c, .slice x.st.A x.st.l.length x.st.c, .slice x.se.A x.se.l.length x.se.c, .slice x.ha.A x.ha.l.length x.ha.c, .slice s.A s.l.length s.c, .slice g.A g.l.length g.c, .slice q.A q.l.length q.c] ∧ Bx wr (w.heap.size + 1) [.slice none 0 0, .int .i64 0, .int .i64 0, .slice none 0 0, .slice none 0 0, .slice none 0 0, .slice none 0 0, .slice none 0 0, .slice none 0 0, .slice none 0 0, .slice none 0 0, .slice none 0 0, .slice none 0 0] ∧ Up w wr ∧ bx < wr.heap.size) (fun kk _ => s.l.length - (intOf kk).toNat)
  case atStart => exact ⟨0, t0, q0, Nat.zero_le _, rfl, by rw [et]; simp, by rw [eq]; simp, hO, hN, hB, hA, hR, u, hbl⟩
  case round =>
    clear hO hN hB hA hR u et eq hbl
    obtain ⟨k, t, q', hk, rfl, et, eq, hO, hN, hB, hA, hR, u, hbl⟩ := hrel
    have ET := Lib.hid et
    have EQ := Lib.hid eq
    have htl : t.l.length ≤ k := by have := congrArg List.length et; simp only [List.length_map] at this; rw [this]; exact Nat.le_trans (List.length_eraseIdx_le _ _) (by rw [List.length_take]; omega)
    have hqlk : q'.l.length ≤ k := by have := congrArg List.length eq; simp only [List.length_map] at this; rw [this]; exact Nat.le_trans (List.length_eraseIdx_le _ _) (by rw [List.length_take]; omega)
    clear et eq
    obtain ⟨x0, x1, x2, x3, x4, x5, x6, x7, x8, x9, x10, x11, x12⟩ := hA.c13
    obtain ⟨y0, y1, y2, y3, y4, y5, y6, y7, y8, y9, y10, y11, y12⟩ := hB.c13
    obtain ⟨f0, f1, f2, f3, f4, f5, f6, f7, f8, f9, f10, f11, f12⟩ := hB.f13
    by_cases hlt : k < s.l.length
    · by_cases hkm : k = m
      · subst hkm
        have HT := Lib.hid (erase_skip hlt)
        have HQT := Lib.hid (erase_skip (l := q.l) (i := k) (by rw [HQL.out]; exact hlt))
        go_wp2
        go_roundw
        case rel => exact ⟨k + 1, t, q', by omega, by go_num, by rw [HT.out]; exact ET.out, by rw [HQT.out]; exact EQ.out, hO, hN, hB, hA, hR, u, hbl⟩
        case measure => simp [intOf]; omega
      · have e1 : ((k : Int) == (m : Int)) = false := by simp; omega
        have e2 : (!((k : Int) == (m : Int))) = true := by rw [e1]; rfl
        have e3 : ((k : Int) != (m : Int)) = true := by simp; omega
        have hsz : w.heap.size + 2 ≤ wr.heap.size := by have := HBX.out; omega
        have r2 := (h2.up u).rd
        obtain ⟨b, off, d, hqA, -, hbh, hd, p0, p1, p2, p3, p4, p5, p6⟩ := r2.dd hlt
        obtain ⟨b', off', dm, hqA', -, -, hdm, r0, -⟩ := r2.dd hml
        obtain ⟨rfl, rfl⟩ : b = b' ∧ off = off' := by rw [hqA] at hqA'; simpa using hqA'
        rw [hqA] at x10
        have HD := Lib.hid hd
        have HDM := Lib.hid (wdN_at hdm)
        have HQA := Lib.hid hqA
        have hde := h2.each d (List.mem_of_getElem? hd)
        clear hd hdm hqA hqA' r2
        have CD := Lib.hid (fun wx (v : Up wr wx) => l25Deed_any d dm.nm lo hi wx ((hde.up u).up v))
        obtain ⟨i1, hi1, hy0, hy1, hy2⟩ := info_parts infoDeedW
        have n1 : t.l.length + 1 ≤ maxLen := by unfold maxLen; omega
        have n2 : (t.l.length + 1) * 136 ≤ 140737488355328 := by omega
        have HO := Lib.hid hO
        have HN := Lib.hid hN
        have HB := Lib.hid hB
        have HA := Lib.hid hA
        have HR := Lib.hid hR
        have U := Lib.hid u
        have HDE := Lib.hid hde
        clear hO hN hB hA hR u hde
        go_upto_region 9 with (fail)
        have hd0 : Up wr wr.drew := (Up.refl _).drew
        go_cut [51] (fun _ wx => ∃ (Z : World) (t1 : Sl Dd), Z = wx ∧ t1.l.map Dd.p = ((s.l.take (k + 1)).eraseIdx m).map (wdP (wdN s.l m)) ∧ OwA Z (w.heap.size + 2) (rowsDd t1 ++ (rowsPh q' ++ (rowsW y ++ rowsFm g'))) ∧ NB (rowsDd t1 ++ (rowsPh q' ++ (rowsW y ++ rowsFm g'))) bx ∧ Bx Z bx [.slice y.rs.A y.rs.l.length y.rs.c, .int .i64 y.fr, .int .i64 y.to_, .slice y.ps.A y.ps.l.length y.ps.c, .slice y.ts.A y.ts.l.length y.ts.c, .slice y.pl.A y.pl.l.length y.pl.c, .slice y.ws.A y.ws.l.length y.ws.c, .slice y.st.A y.st.l.length y.st.c, .slice y.se.A y.se.l.length y.se.c, .slice y.ha.A y.ha.l.length y.ha.c, .slice t1.A t1.l.length t1.c, .slice g'.A g'.l.length g'.c, .slice q'.A q'.l.length q'.c] ∧ Bx Z w.heap.size [.slice x.rs.A x.rs.l.length x.rs.c, .int .i64 x.fr, .int .i64 x.to_, .slice x.ps.A x.ps.l.length x.ps.c, .slice x.ts.A x.ts.l.length x.ts.c, .slice x.pl.A x.pl.l.length x.pl.c, .slice x.ws.A x.ws.l.length x.ws.c, .slice x.st.A x.st.l.length x.st.c, .slice x.se.A x.se.l.length x.se.c, .slice x.ha.A x.ha.l.length x.ha.c, .slice s.A s.l.length s.c, .slice g.A g.l.length g.c, .slice q.A q.l.length q.c] ∧ Bx Z (w.heap.size + 1) [.slice none 0 0, .int .i64 0, .int .i64 0, .slice none 0 0, .slice none 0 0, .slice none 0 0, .slice none 0 0, .slice none 0 0, .slice none 0 0, .slice none 0 0, .slice none 0 0, .slice none 0 0, .slice none 0 0] ∧ Up w Z ∧ bx < Z.heap.size)
        case first =>
          have hs0 : w.heap.size < w.heap.size + 2 := by omega
          have hs1 : b < w.heap.size + 2 := by have := h2.hhi; omega
          have hbs : bx ≠ w.heap.size := by have := HBX.out; omega
          have yb10' := hd0.cell (HB.out.c13).2.2.2.2.2.2.2.2.2.2.1
          have hHeld : wr.drew.cell? ⟨w.heap.size, 10, none⟩ = some (.slice (some ⟨b, off, none⟩) s.l.length s.c) ∧ wr.drew.cell? ⟨b, off + k * 7, none⟩ = some (.string d.nm) ∧ wr.drew.cell? ⟨b, off + k * 7 + 1, none⟩ = some (.slice d.da.A d.da.l.length d.da.c) ∧ wr.drew.cell? ⟨b, off + k * 7 + 2, none⟩ = some (.slice d.wi.A d.wi.l.length d.wi.c) ∧ wr.drew.cell? ⟨b, off + k * 7 + 3, none⟩ = some (.string d.pl) ∧ wr.drew.cell? ⟨b, off + k * 7 + 4, none⟩ = some (.string d.se) ∧ wr.drew.cell? ⟨b, off + k * 7 + 5, none⟩ = some (.string d.ha) ∧ wr.drew.cell? ⟨b, off + k * 7 + 6, none⟩ = some (.slice d.ci.A d.ci.l.length d.ci.c) ∧ wr.drew.cell? ⟨b, off + m * 7, none⟩ = some (.string dm.nm) ∧ wr.drew.cell? ⟨bx, 10, none⟩ = some (.slice t.A t.l.length t.c) := ⟨hd0.cell x10, hd0.cell p0, hd0.cell p1, hd0.cell p2, hd0.cell p3, hd0.cell p4, hd0.cell p5, hd0.cell p6, hd0.cell r0, yb10'⟩
          refine wp_region_last (S := fun w' => w'.cell? ⟨w.heap.size, 10, none⟩ = some (.slice (some ⟨b, off, none⟩) s.l.length s.c) ∧ w'.cell? ⟨b, off + k * 7, none⟩ = some (.string d.nm) ∧ w'.cell? ⟨b, off + k * 7 + 1, none⟩ = some (.slice d.da.A d.da.l.length d.da.c) ∧ w'.cell? ⟨b, off + k * 7 + 2, none⟩ = some (.slice d.wi.A d.wi.l.length d.wi.c) ∧ w'.cell? ⟨b, off + k * 7 + 3, none⟩ = some (.string d.pl) ∧ w'.cell? ⟨b, off + k * 7 + 4, none⟩ = some (.string d.se) ∧ w'.cell? ⟨b, off + k * 7 + 5, none⟩ = some (.string d.ha) ∧ w'.cell? ⟨b, off + k * 7 + 6, none⟩ = some (.slice d.ci.A d.ci.l.length d.ci.c) ∧ w'.cell? ⟨b, off + m * 7, none⟩ = some (.string dm.nm) ∧ w'.cell? ⟨bx, 10, none⟩ = some (.slice t.A t.l.length t.c)) 17 (by kernel_rfl) (by kernel_rfl) (by kernel_rfl) (by kernel_rfl) ?_
          refine wpAnyH_take (i := 0) (v := ?_) rfl (by kernel_rfl) (by kernel_rfl) (by kernel_rfl) (fun _ _ _ h => h) (Or.inl ⟨by rfl, ?_⟩) (by assumption) ?_
          rotate_left
          · (intro wS hSw; (try dsimp only at hSw); go_simp; try with_reducible rfl)
          try simp only [Act.put]
          try simp only [List.setIfInBounds_toArray]
          repeat (first | simp only [List.set_cons_succ] | simp only [List.set_cons_zero])
          refine wpAnyH_take (i := 1) (v := ?_) rfl (by kernel_rfl) (by kernel_rfl) (by kernel_rfl) (fun _ _ _ h => h) (Or.inl ⟨by rfl, ?_⟩) (by assumption) ?_
          rotate_left
          · (intro wS hSw; (try dsimp only at hSw); go_simp; try with_reducible rfl)
          try simp only [Act.put]
          try simp only [List.setIfInBounds_toArray]
          repeat (first | simp only [List.set_cons_succ] | simp only [List.set_cons_zero])
          refine wpAnyH_take (i := 2) (v := ?_) rfl (by kernel_rfl) (by kernel_rfl) (by kernel_rfl) (fun _ _ _ h => h) (Or.inl ⟨by rfl, ?_⟩) (by assumption) ?_
          rotate_left
          · (intro wS hSw; (try dsimp only at hSw); go_simp; try with_reducible rfl)
          try simp only [Act.put]
          try simp only [List.setIfInBounds_toArray]
          repeat (first | simp only [List.set_cons_succ] | simp only [List.set_cons_zero])
          refine wpAnyH_take (i := 3) (v := ?_) rfl (by kernel_rfl) (by kernel_rfl) (by kernel_rfl) (fun _ _ _ h => h) (Or.inl ⟨by rfl, ?_⟩) (by assumption) ?_
          rotate_left
          · (intro wS hSw; (try dsimp only at hSw); go_simp; try with_reducible rfl)
          try simp only [Act.put]
          try simp only [List.setIfInBounds_toArray]
          repeat (first | simp only [List.set_cons_succ] | simp only [List.set_cons_zero])
          refine wpAnyH_take (i := 4) (v := ?_) rfl (by kernel_rfl) (by kernel_rfl) (by kernel_rfl) (fun _ _ _ h => h) (Or.inl ⟨by rfl, ?_⟩) (by assumption) ?_
          rotate_left
          · (intro wS hSw; (try dsimp only at hSw); go_simp; try with_reducible rfl)
          try simp only [Act.put]
          try simp only [List.setIfInBounds_toArray]
          repeat (first | simp only [List.set_cons_succ] | simp only [List.set_cons_zero])
          refine wpAnyH_take (i := 5) (v := ?_) rfl (by kernel_rfl) (by kernel_rfl) (by kernel_rfl) (fun _ _ _ h => h) (Or.inl ⟨by rfl, ?_⟩) (by assumption) ?_
          rotate_left
          · (intro wS hSw; (try dsimp only at hSw); go_simp; try with_reducible rfl)
          try simp only [Act.put]
          try simp only [List.setIfInBounds_toArray]
          repeat (first | simp only [List.set_cons_succ] | simp only [List.set_cons_zero])
          refine wpAnyH_take (i := 6) (v := ?_) rfl (by kernel_rfl) (by kernel_rfl) (by kernel_rfl) (fun _ _ _ h => h) (Or.inl ⟨by rfl, ?_⟩) (by assumption) ?_
          rotate_left
          · (intro wS hSw; (try dsimp only at hSw); go_simp; try with_reducible rfl)
          try simp only [Act.put]
          try simp only [List.setIfInBounds_toArray]
          repeat (first | simp only [List.set_cons_succ] | simp only [List.set_cons_zero])
          refine wpAnyH_take (i := 7) (v := ?_) rfl (by kernel_rfl) (by kernel_rfl) (by kernel_rfl) (fun _ _ _ h => h) (Or.inl ⟨by rfl, ?_⟩) (by assumption) ?_
          rotate_left
          · (intro wS hSw; (try dsimp only at hSw); go_simp; try with_reducible rfl)
          try simp only [Act.put]
          try simp only [List.setIfInBounds_toArray]
          repeat (first | simp only [List.set_cons_succ] | simp only [List.set_cons_zero])
          refine wpAnyH_take (i := 8) (v := ?_) rfl (by kernel_rfl) (by kernel_rfl) (by kernel_rfl) (fun _ _ _ h => h) (Or.inl ⟨by rfl, ?_⟩) (by assumption) ?_
          rotate_left
          · (intro wS hSw; (try dsimp only at hSw); go_simp; try with_reducible rfl)
          try simp only [Act.put]
          try simp only [List.setIfInBounds_toArray]
          repeat (first | simp only [List.set_cons_succ] | simp only [List.set_cons_zero])
          refine wpAnyH_take (i := 9) (v := ?_) rfl (by kernel_rfl) (by kernel_rfl) (by kernel_rfl) (fun _ _ _ h => h) (Or.inl ⟨by rfl, ?_⟩) (by assumption) ?_
          rotate_left
          · (intro wS hSw; (try dsimp only at hSw); go_simp; try with_reducible rfl)
          try simp only [Act.put]
          try simp only [List.setIfInBounds_toArray]
          repeat (first | simp only [List.set_cons_succ] | simp only [List.set_cons_zero])
          refine wpAnyH_take (i := 10) (v := ?_) rfl (by kernel_rfl) (by kernel_rfl) (by kernel_rfl) (fun _ _ _ h => h) (Or.inl ⟨by rfl, ?_⟩) (by assumption) ?_
          rotate_left
          · (intro wS hSw; (try dsimp only at hSw); go_simp; try with_reducible rfl)
          try simp only [Act.put]
          try simp only [List.setIfInBounds_toArray]
          repeat (first | simp only [List.set_cons_succ] | simp only [List.set_cons_zero])
          refine wpAnyH_take (i := 11) (v := ?_) rfl (by kernel_rfl) (by kernel_rfl) (by kernel_rfl) (fun _ _ _ h => h) (Or.inl ⟨by rfl, ?_⟩) (by assumption) ?_
          rotate_left
          · (intro wS hSw; (try dsimp only at hSw); go_simp; try with_reducible rfl)
          try simp only [Act.put]
          try simp only [List.setIfInBounds_toArray]
          repeat (first | simp only [List.set_cons_succ] | simp only [List.set_cons_zero])
          refine wpAnyH_take (i := 12) (v := ?_) rfl (by kernel_rfl) (by kernel_rfl) (by kernel_rfl) (fun _ _ _ h => h) (Or.inl ⟨by rfl, ?_⟩) (by assumption) ?_
          rotate_left
          · (intro wS hSw; (try dsimp only at hSw); go_simp; try with_reducible rfl)
          try simp only [Act.put]
          try simp only [List.setIfInBounds_toArray]
          repeat (first | simp only [List.set_cons_succ] | simp only [List.set_cons_zero])
          refine wpAnyH_ready (rs := [13]) (by kernel_rfl) (by simp) ?_
          refine AllReadyH.cons rfl (fun K hK => ?_) AllReadyH.nil
          (go_simp; go_at_call 18; refine (CD.out _ hd0).mono ?_; rintro e v1 ⟨y1, rfl, e1', oy, u1⟩; have EY1 := Lib.hid e1'; clear e1'; have d1 := hd0.trans u1; have ub := Up.alloc v1 (.cells #[.string y1.nm, .slice y1.da.A y1.da.l.length y1.da.c, .slice y1.wi.A y1.wi.l.length y1.wi.c, .string y1.pl, .string y1.se, .string y1.ha, .slice y1.ci.A y1.ci.l.length y1.ci.c] 77); have dub := d1.trans ub; obtain ⟨ya0, ya1, ya2, ya3, ya4, ya5, ya6, ya7, ya8, ya9, ya10, ya11, ya12⟩ := (HB.out.up d1).c13; obtain ⟨yb0, yb1, yb2, yb3, yb4, yb5, yb6, yb7, yb8, yb9, yb10, yb11, yb12⟩ := (HB.out.up (d1.trans ub)).c13)
          refine hK.out _ _ ?_ (fun hHeld => ?_)
          · exact ⟨d1.cell x10, d1.cell p0, d1.cell p1, d1.cell p2, d1.cell p3, d1.cell p4, d1.cell p5, d1.cell p6, d1.cell r0, d1.cell (HB.out.c13).2.2.2.2.2.2.2.2.2.2.1⟩
          clear hK K
          try simp only [Act.put]
          try simp only [List.setIfInBounds_toArray]
          repeat (first | simp only [List.set_cons_succ] | simp only [List.set_cons_zero])
          refine wpAnyH_ready (rs := [14]) (by kernel_rfl) (by simp) ?_
          refine AllReadyH.cons rfl (fun K hK => ?_) AllReadyH.nil
          go_simp
          refine hK.out _ _ ?_ (fun hHeld => ?_)
          · exact ⟨dub.cell x10, dub.cell p0, dub.cell p1, dub.cell p2, dub.cell p3, dub.cell p4, dub.cell p5, dub.cell p6, dub.cell r0, dub.cell (HB.out.c13).2.2.2.2.2.2.2.2.2.2.1⟩
          clear hK K
          try simp only [Act.put]
          try simp only [List.setIfInBounds_toArray]
          repeat (first | simp only [List.set_cons_succ] | simp only [List.set_cons_zero])
          refine wpAnyH_ready (rs := [15]) (by kernel_rfl) (by simp) ?_
          refine AllReadyH.cons rfl (fun K hK => ?_) AllReadyH.nil
          (have hrow := (HO.out.up (d1.trans ub)).each (rwDeed t) (by simp [rowsDd]); have m3 : w.heap.size + 2 ≤ (v1.alloc (.cells #[.string y1.nm, .slice y1.da.A y1.da.l.length y1.da.c, .slice y1.wi.A y1.wi.l.length y1.wi.c, .string y1.pl, .string y1.se, .string y1.ha, .slice y1.ci.A y1.ci.l.length y1.ci.c] 77)).heap.size := Nat.le_trans hsz (d1.trans ub).size; refine step_append_lies _ rfl (.tmp 36) (.tmp 49) 57 rfl (w.heap.size + 2) 77 i1 _ 7 136 Tryz.underlying57 hi1 hy0 hy1 hy2 ddZero (by decide) (.slice t.A t.l.length t.c) t.l.length _ (by simp [Act.eval]) hrow ⟨v1.heap.size, 0, none⟩ 1 1 y1.cells (by simp [Act.eval]) rfl (ddNews v1 y1) (ddOnes y1) (by decide) n1 n2 m3 _ rfl ?_; intro gg cap w9 hown9 hg9 hat hlt9; have hB9 := (HB.out.up (d1.trans ub)).grown hg9 (HN.out (rwDeed t) (by simp [rowsDd])); obtain ⟨yc0, yc1, yc2, yc3, yc4, yc5, yc6, yc7, yc8, yc9, yc10, yc11, yc12⟩ := hB9.c13; obtain ⟨fc0, fc1, fc2, fc3, fc4, fc5, fc6, fc7, fc8, fc9, fc10, fc11, fc12⟩ := hB9.f13; have hlow : ∀ b', t.val.ownBlock = some b' → w.heap.size + 2 ≤ b' := fun b' e => (HO.out.lt (r := rwDeed t) (by simp [rowsDd]) e).1; have hA9 := (HA.out.up (d1.trans ub)).grown hg9 (fun e => by have := hlow _ e; omega); have u9 := ((U.out.trans d1).trans ub).grown hg9 (fun b hb => by have := hlow b hb; omega); have k9 : w9.cell? ⟨w.heap.size, 10, none⟩ = some (.slice (some ⟨b, off, none⟩) s.l.length s.c) ∧ w9.cell? ⟨b, off + k * 7, none⟩ = some (.string d.nm) ∧ w9.cell? ⟨b, off + k * 7 + 1, none⟩ = some (.slice d.da.A d.da.l.length d.da.c) ∧ w9.cell? ⟨b, off + k * 7 + 2, none⟩ = some (.slice d.wi.A d.wi.l.length d.wi.c) ∧ w9.cell? ⟨b, off + k * 7 + 3, none⟩ = some (.string d.pl) ∧ w9.cell? ⟨b, off + k * 7 + 4, none⟩ = some (.string d.se) ∧ w9.cell? ⟨b, off + k * 7 + 5, none⟩ = some (.string d.ha) ∧ w9.cell? ⟨b, off + k * 7 + 6, none⟩ = some (.slice d.ci.A d.ci.l.length d.ci.c) ∧ w9.cell? ⟨b, off + m * 7, none⟩ = some (.string dm.nm) := upKeepT hg9 hlow hs0 hs1 hs1 hs1 hs1 hs1 hs1 hs1 hs1 (upKeepF dub x10 p0 p1 p2 p3 p4 p5 p6 r0))
          refine hK.out _ _ ?_ (fun hHeld => ?_)
          · exact ⟨k9.1, k9.2.1, k9.2.2.1, k9.2.2.2.1, k9.2.2.2.2.1, k9.2.2.2.2.2.1, k9.2.2.2.2.2.2.1, k9.2.2.2.2.2.2.2.1, k9.2.2.2.2.2.2.2.2, yc10⟩
          clear hK K
          try simp only [Act.put]
          try simp only [List.setIfInBounds_toArray]
          repeat (first | simp only [List.set_cons_succ] | simp only [List.set_cons_zero])
          refine wpAnyH_take (i := 16) (v := ?_) rfl (by kernel_rfl) (by kernel_rfl) (by kernel_rfl) (fun _ _ _ h => h) (Or.inl ⟨by rfl, ?_⟩) (by assumption) ?_
          rotate_left
          · (intro wS hSw; (try dsimp only at hSw); go_simp; try with_reducible rfl)
          try simp only [Act.put]
          try simp only [List.setIfInBounds_toArray]
          repeat (first | simp only [List.set_cons_succ] | simp only [List.set_cons_zero])
          refine wpAnyH_done (by kernel_rfl) ?_ _
          refine lastQ_mk rfl rfl ?_
          go_simp
          all_goals
            have hS := OwA.ddSnoc HO.out HN.out d1 hsz hbl oy ub hown9 hg9 (by first | exact hat | exact hat.imp id (fun h => by rw [h]; simp))
            have hR9 := (HR.out.up (d1.trans ub)).grown hg9 (fun e => by have := hlow _ e; omega)
            have O9 := Lib.hid (hS.1.putNe (p := ⟨bx, 10, none⟩) hS.2 (.slice (some ⟨gg, 0, none⟩) (t.l.length + 1) cap))
            have N9 := Lib.hid hS.2
            have B9 := Lib.hid (hB9.put 10 (.slice (some ⟨gg, 0, none⟩) (t.l.length + 1) cap))
            have A9 := Lib.hid (hA9.other (b' := bx) (by have := HBX.out; omega) 10 (.slice (some ⟨gg, 0, none⟩) (t.l.length + 1) cap))
            have R9 := Lib.hid (hR9.other (b' := bx) (by have := HBX.out; omega) 10 (.slice (some ⟨gg, 0, none⟩) (t.l.length + 1) cap))
            have U9 := Lib.hid (u9.setCell (p := ⟨bx, 10, none⟩) (by have := HBX.out; show w.heap.size ≤ bx; omega) (.slice (some ⟨gg, 0, none⟩) (t.l.length + 1) cap))
            have hl9 : bx < w9.heap.size := Nat.lt_of_lt_of_le (Nat.lt_of_lt_of_le hbl (d1.trans ub).size) hg9.size
            clear hS hA9 hR9 u9 hB9 hlow
            go_wp2_with fail
            go_meet
            exact ⟨_, ⟨some ⟨gg, 0, none⟩, cap, t.l ++ [y1]⟩, rfl, by rw [erase_keep HD.out hkm, List.map_append, List.map_append, ET.out, HDM.out]; simp only [List.map_cons, List.map_nil, EY1.out]; rfl, O9.out, N9.out, by have := B9.out; simpa using this, A9.out, R9.out, U9.out, by simpa using hl9⟩
        obtain ⟨Z, t1, hZ, et1, hO, hN, hB, hA, hR, u, hbl⟩ := hcut
        subst hZ
        have ET1 := Lib.hid et1
        clear et1 HO HN HB HA HR U CD p0 p1 p2 p3 p4 p5 p6 r0 n1 n2 hsz hd0 HDE HQA x0 x1 x2 x3 x4 x5 x6 x7 x8 x9 x10 x11 x12 y0 y1 y2 y3 y4 y5 y6 y7 y8 y9 y10 y11 y12 f0 f1 f2 f3 f4 f5 f6 f7 f8 f9 f10 f11 f12
        obtain ⟨bq, offq, pz, hqq, -, hbq, hp, p0⟩ := (h4.up u).rd.ph (show k < q.l.length by rw [HQL.out]; exact hlt)
        have hpe := h4.each pz (List.mem_of_getElem? hp)
        obtain ⟨x0, x1, x2, x3, x4, x5, x6, x7, x8, x9, x10, x11, x12⟩ := hA.c13
        rw [hqq] at x12
        have hsz : w.heap.size + 2 ≤ Z.heap.size := by have := HBX.out; omega
        have hs0 : w.heap.size < w.heap.size + 2 := by omega
        have hs1 : bq < w.heap.size + 2 := by have := h4.hhi; omega
        have hkq : k < q.l.length := by rw [HQL.out]; exact hlt
        have HPZ := Lib.hid hp
        clear hp hqq
        have ua := Up.alloc Z (.cells #[] 9)
        have hlit := World.ownsRow_lit (base := Z.heap.size) (e := 9) (size := 1) Z #[] 0 (Nat.le_refl _) (by simp [maxLen]) rfl
        have HLIT := Lib.hid hlit
        have HPR := Lib.hid (hpe.rd.up (u.trans ua) hpe.hhi)
        have hpl := hpe.len
        have n1 : 0 + pz.l.length ≤ maxLen := by unfold maxLen; omega
        have n2 : (0 + pz.l.length) * 16 ≤ 140737488355328 := by omega
        have n3 : Z.heap.size ≤ (Z.alloc (.cells #[] 9)).heap.size := ua.size
        have n4 : q'.l.length + 1 ≤ maxLen := by unfold maxLen; omega
        have n5 : (q'.l.length + 1) * 24 ≤ 140737488355328 := by omega
        obtain ⟨i0, hi0, hz0, hz1, hz2⟩ := info_parts infoStrW
        obtain ⟨i2, hi2, hw0, hw1, hw2⟩ := info_parts infoStrSW
        have HO := Lib.hid (hO.perm (List.perm_append_comm_assoc _ _ _))
        have HN := Lib.hid (hN.perm (List.perm_append_comm_assoc _ _ _))
        have HB := Lib.hid hB
        have HA := Lib.hid hA
        have HR := Lib.hid hR
        have U := Lib.hid u
        obtain ⟨y0, y1, y2, y3, y4, y5, y6, y7, y8, y9, y10, y11, y12⟩ := hB.c13
        obtain ⟨ya0, ya1, ya2, ya3, ya4, ya5, ya6, ya7, ya8, ya9, ya10, ya11, ya12⟩ := (hB.up ua).c13
        clear hO hN hB hA hR u hlit hpe
        go_upto_region 10 with (fail)
        have hdZ : Up Z Z.drew := (Up.refl _).drew
        have hHeld : Z.drew.cell? ⟨w.heap.size, 12, none⟩ = some (.slice (some ⟨bq, offq, none⟩) q.l.length q.c) ∧ Z.drew.cell? ⟨bq, offq + k, none⟩ = some (.slice pz.A pz.l.length pz.c) ∧ Z.drew.cell? ⟨bx, 12, none⟩ = some (.slice q'.A q'.l.length q'.c) := ⟨hdZ.cell x12, hdZ.cell p0, hdZ.cell (HB.out.c13).2.2.2.2.2.2.2.2.2.2.2.2⟩
        refine wp_region_last (S := fun w' => w'.cell? ⟨w.heap.size, 12, none⟩ = some (.slice (some ⟨bq, offq, none⟩) q.l.length q.c) ∧ w'.cell? ⟨bq, offq + k, none⟩ = some (.slice pz.A pz.l.length pz.c) ∧ w'.cell? ⟨bx, 12, none⟩ = some (.slice q'.A q'.l.length q'.c)) 12 (by kernel_rfl) (by kernel_rfl) (by kernel_rfl) (by kernel_rfl) ?_
        refine wpAnyH_take (i := 0) (v := ?_) rfl (by kernel_rfl) (by kernel_rfl) (by kernel_rfl) (fun _ _ _ h => h) (Or.inl ⟨by rfl, ?_⟩) (by assumption) ?_
        rotate_left
        · (intro wS hSw; (try dsimp only at hSw); go_simp; try with_reducible rfl)
        try simp only [Act.put]
        try simp only [List.setIfInBounds_toArray]
        repeat (first | simp only [List.set_cons_succ] | simp only [List.set_cons_zero])
        refine wpAnyH_take (i := 1) (v := ?_) rfl (by kernel_rfl) (by kernel_rfl) (by kernel_rfl) (fun _ _ _ h => h) (Or.inl ⟨by rfl, ?_⟩) (by assumption) ?_
        rotate_left
        · (intro wS hSw; (try dsimp only at hSw); go_simp; try with_reducible rfl)
        try simp only [Act.put]
        try simp only [List.setIfInBounds_toArray]
        repeat (first | simp only [List.set_cons_succ] | simp only [List.set_cons_zero])
        refine wpAnyH_take (i := 3) (v := ?_) rfl (by kernel_rfl) (by kernel_rfl) (by kernel_rfl) (fun _ _ _ h => h) (Or.inl ⟨by rfl, ?_⟩) (by assumption) ?_
        rotate_left
        · (intro wS hSw; (try dsimp only at hSw); go_simp; try with_reducible rfl)
        try simp only [Act.put]
        try simp only [List.setIfInBounds_toArray]
        repeat (first | simp only [List.set_cons_succ] | simp only [List.set_cons_zero])
        refine wpAnyH_take (i := 4) (v := ?_) rfl (by kernel_rfl) (by kernel_rfl) (by kernel_rfl) (fun _ _ _ h => h) (Or.inl ⟨by rfl, ?_⟩) (by assumption) ?_
        rotate_left
        · (intro wS hSw; (try dsimp only at hSw); go_simp; try with_reducible rfl)
        try simp only [Act.put]
        try simp only [List.setIfInBounds_toArray]
        repeat (first | simp only [List.set_cons_succ] | simp only [List.set_cons_zero])
        refine wpAnyH_take (i := 5) (v := ?_) rfl (by kernel_rfl) (by kernel_rfl) (by kernel_rfl) (fun _ _ _ h => h) (Or.inl ⟨by rfl, ?_⟩) (by assumption) ?_
        rotate_left
        · (intro wS hSw; (try dsimp only at hSw); go_simp; try with_reducible rfl)
        try simp only [Act.put]
        try simp only [List.setIfInBounds_toArray]
        repeat (first | simp only [List.set_cons_succ] | simp only [List.set_cons_zero])
        refine wpAnyH_take (i := 6) (v := ?_) rfl (by kernel_rfl) (by kernel_rfl) (by kernel_rfl) (fun _ _ _ h => h) (Or.inl ⟨by rfl, ?_⟩) (by assumption) ?_
        rotate_left
        · (intro wS hSw; (try dsimp only at hSw); go_simp; try with_reducible rfl)
        try simp only [Act.put]
        try simp only [List.setIfInBounds_toArray]
        repeat (first | simp only [List.set_cons_succ] | simp only [List.set_cons_zero])
        refine wpAnyH_take (i := 7) (v := ?_) rfl (by kernel_rfl) (by kernel_rfl) (by kernel_rfl) (fun _ _ _ h => h) (Or.inl ⟨by rfl, ?_⟩) (by assumption) ?_
        rotate_left
        · (intro wS hSw; (try dsimp only at hSw); go_simp; try with_reducible rfl)
        try simp only [Act.put]
        try simp only [List.setIfInBounds_toArray]
        repeat (first | simp only [List.set_cons_succ] | simp only [List.set_cons_zero])
        refine wpAnyH_ready (rs := [2]) (by kernel_rfl) (by simp) ?_
        refine AllReadyH.cons rfl (fun K hK => ?_) AllReadyH.nil
        go_simp
        refine hK.out _ _ ?_ (fun hHeld => ?_)
        · exact ⟨ua.drew.cell x12, ua.drew.cell p0, ua.drew.cell (HB.out.c13).2.2.2.2.2.2.2.2.2.2.2.2⟩
        clear hK K
        try simp only [Act.put]
        try simp only [List.setIfInBounds_toArray]
        repeat (first | simp only [List.set_cons_succ] | simp only [List.set_cons_zero])
        refine wpAnyH_ready (rs := [8]) (by kernel_rfl) (by simp) ?_
        refine AllReadyH.cons rfl (fun K hK => ?_) AllReadyH.nil
        (refine step_append_rd _ rfl (.tmp 54) (.tmp 59) 29 rfl Z.heap.size 9 i0 _ 1 16 Tryz.underlying29 hi0 hz0 hz1 hz2 rfl (by decide) (.slice (some ⟨Z.heap.size, 0, none⟩) 0 0) 0 [] (by simp [Act.eval]) HLIT.out strC strC_len one_str pz.A pz.l pz.c lo hi (by simp [Act.eval]) HPR.out n1 n2 n3 ?_; intro v1 w1 hown1 hg1; have u1 : Up Z w1 := ua.drew.grown hg1 (fun k hk => (HLIT.out.lt k hk).1); have hw1' : w1.ownsRow Z.heap.size 9 1 v1 pz.l.length (pz.l.flatMap strC) := (by simpa using hown1); obtain ⟨y1, rfl, ey1, -, -, oy⟩ := own_sl hw1'; have EY1 := Lib.hid ey1; have OY := Lib.hid oy; clear ey1 oy hw1' hown1 hg1; have ub := Up.alloc w1 (.cells #[.slice y1.A y1.l.length y1.c] 29); have dub := u1.trans ub; obtain ⟨yb0, yb1, yb2, yb3, yb4, yb5, yb6, yb7, yb8, yb9, yb10, yb11, yb12⟩ := (HB.out.up u1).c13; obtain ⟨yc0, yc1, yc2, yc3, yc4, yc5, yc6, yc7, yc8, yc9, yc10, yc11, yc12⟩ := (HB.out.up dub).c13)
        refine hK.out _ _ ?_ (fun hHeld => ?_)
        · exact ⟨u1.cell x12, u1.cell p0, u1.cell (HB.out.c13).2.2.2.2.2.2.2.2.2.2.2.2⟩
        clear hK K
        try simp only [Act.put]
        try simp only [List.setIfInBounds_toArray]
        repeat (first | simp only [List.set_cons_succ] | simp only [List.set_cons_zero])
        refine wpAnyH_ready (rs := [9]) (by kernel_rfl) (by simp) ?_
        refine AllReadyH.cons rfl (fun K hK => ?_) AllReadyH.nil
        go_simp
        refine hK.out _ _ ?_ (fun hHeld => ?_)
        · exact ⟨dub.cell x12, dub.cell p0, dub.cell (HB.out.c13).2.2.2.2.2.2.2.2.2.2.2.2⟩
        clear hK K
        try simp only [Act.put]
        try simp only [List.setIfInBounds_toArray]
        repeat (first | simp only [List.set_cons_succ] | simp only [List.set_cons_zero])
        refine wpAnyH_ready (rs := [10]) (by kernel_rfl) (by simp) ?_
        refine AllReadyH.cons rfl (fun K hK => ?_) AllReadyH.nil
        (have hrow := (HO.out.up dub).each (rwPhr q') (by simp [rowsPh]); have m3 : w.heap.size + 2 ≤ (w1.alloc (.cells #[.slice y1.A y1.l.length y1.c] 29)).heap.size := Nat.le_trans hsz dub.size; refine step_append_lies _ rfl (.tmp 53) (.tmp 61) 39 rfl (w.heap.size + 2) 29 i2 _ 1 24 Tryz.underlying39 hi2 hw0 hw1 hw2 phZero (by decide) (.slice q'.A q'.l.length q'.c) q'.l.length _ (by simp [Act.eval]) hrow ⟨w1.heap.size, 0, none⟩ 1 1 (phC y1) (by simp [Act.eval]) rfl (cell_one_newW w1 _ _) (by simp [Value.oneCell']) (by decide) n4 n5 m3 _ rfl ?_; intro gg cap w9 hown9 hg9 hat hlt9; have hB9 := (HB.out.up dub).grown hg9 (HN.out (rwPhr q') (by simp [rowsPh])); obtain ⟨yd0, yd1, yd2, yd3, yd4, yd5, yd6, yd7, yd8, yd9, yd10, yd11, yd12⟩ := hB9.c13; obtain ⟨fd0, fd1, fd2, fd3, fd4, fd5, fd6, fd7, fd8, fd9, fd10, fd11, fd12⟩ := hB9.f13; have hlow : ∀ b', q'.val.ownBlock = some b' → w.heap.size + 2 ≤ b' := fun b' e => (HO.out.lt (r := rwPhr q') (by simp [rowsPh]) e).1; have hA9 := (HA.out.up dub).grown hg9 (fun e => by have := hlow _ e; omega); have u9 := (U.out.trans dub).grown hg9 (fun b hb => by have := hlow b hb; omega); have k9 : w9.cell? ⟨w.heap.size, 12, none⟩ = some (.slice (some ⟨bq, offq, none⟩) q.l.length q.c) ∧ w9.cell? ⟨bq, offq + k, none⟩ = some (.slice pz.A pz.l.length pz.c) := ⟨growCell hg9 hlow hs0 (dub.cell x12), growCell hg9 hlow hs1 (dub.cell p0)⟩)
        refine hK.out _ _ ?_ (fun hHeld => ?_)
        · exact ⟨k9.1, k9.2, yd12⟩
        clear hK K
        try simp only [Act.put]
        try simp only [List.setIfInBounds_toArray]
        repeat (first | simp only [List.set_cons_succ] | simp only [List.set_cons_zero])
        refine wpAnyH_take (i := 11) (v := ?_) rfl (by kernel_rfl) (by kernel_rfl) (by kernel_rfl) (fun _ _ _ h => h) (Or.inl ⟨by rfl, ?_⟩) (by assumption) ?_
        rotate_left
        · (intro wS hSw; (try dsimp only at hSw); go_simp; try with_reducible rfl)
        try simp only [Act.put]
        try simp only [List.setIfInBounds_toArray]
        repeat (first | simp only [List.set_cons_succ] | simp only [List.set_cons_zero])
        refine wpAnyH_done (by kernel_rfl) ?_ _
        refine lastQ_mk rfl rfl ?_
        go_simp
        all_goals
          have hS := OwA.phSnoc HO.out HN.out u1 hsz hbl OY.out ub hown9 hg9 (by first | exact hat | exact hat.imp id (fun h => by rw [h]; simp))
          have hR9 := (HR.out.up dub).grown hg9 (fun e => by have := hlow _ e; omega)
          have O9 := Lib.hid ((hS.1.putNe (p := ⟨bx, 12, none⟩) hS.2 (.slice (some ⟨gg, 0, none⟩) (q'.l.length + 1) cap)).perm (List.perm_append_comm_assoc _ _ _))
          have N9 := Lib.hid (hS.2.perm (List.perm_append_comm_assoc _ _ _))
          have B9 := Lib.hid (hB9.put 12 (.slice (some ⟨gg, 0, none⟩) (q'.l.length + 1) cap))
          have A9 := Lib.hid (hA9.other (b' := bx) (by have := HBX.out; omega) 12 (.slice (some ⟨gg, 0, none⟩) (q'.l.length + 1) cap))
          have R9 := Lib.hid (hR9.other (b' := bx) (by have := HBX.out; omega) 12 (.slice (some ⟨gg, 0, none⟩) (q'.l.length + 1) cap))
          have U9 := Lib.hid (u9.setCell (p := ⟨bx, 12, none⟩) (by have := HBX.out; show w.heap.size ≤ bx; omega) (.slice (some ⟨gg, 0, none⟩) (q'.l.length + 1) cap))
          have hl9 : bx < w9.heap.size := Nat.lt_of_lt_of_le (Nat.lt_of_lt_of_le hbl dub.size) hg9.size
          clear hS hA9 hR9 u9 hB9 hlow k9 x0 x1 x2 x3 x4 x5 x6 x7 x8 x9 x10 x11 x12 p0
          go_wp2
          go_roundw
          case rel => exact ⟨k + 1, t1, ⟨some ⟨gg, 0, none⟩, cap, q'.l ++ [y1]⟩, by omega, by go_num, ET1.out, by rw [erase_keep HPZ.out hkm, phP, List.map_append, phP, List.map_append]; have := EQ.out; simp only [phP] at this; rw [this]; simp only [List.map_cons, List.map_nil, EY1.out], O9.out, N9.out, by have := B9.out; simpa using this, A9.out, R9.out, U9.out, by simpa using hl9⟩
          case measure => simp [intOf]; omega
    · obtain rfl : k = s.l.length := by omega
      have et := ET.out
      have eq := EQ.out
      rw [List.take_of_length_le (Nat.le_refl _)] at et
      rw [List.take_of_length_le (Nat.le_of_eq HQL.out)] at eq
      have ET2 := Lib.hid et
      have EQ2 := Lib.hid eq
      clear et eq ET EQ
      obtain ⟨z0, z1, z2, z3, z4, z5, z6, z7, z8, z9, z10, z11, z12⟩ := hR.c13
      obtain ⟨g0, g1, g2, g3, g4, g5, g6, g7, g8, g9, g10, g11, g12⟩ := hR.f13
      go_wp2
      refine bodyPost_ret (v := .tuple #[.agg #[.slice y.rs.A y.rs.l.length y.rs.c, .int .i64 y.fr, .int .i64 y.to_, .slice y.ps.A y.ps.l.length y.ps.c, .slice y.ts.A y.ts.l.length y.ts.c, .slice y.pl.A y.pl.l.length y.pl.c, .slice y.ws.A y.ws.l.length y.ws.c, .slice y.st.A y.st.l.length y.st.c, .slice y.se.A y.se.l.length y.se.c, .slice y.ha.A y.ha.l.length y.ha.c, .slice t.A t.l.length t.c, .slice g'.A g'.l.length g'.c, .slice q'.A q'.l.length q'.c], .int .i64 0]) (by simp [results, Tryz.results5, go_sem, z0, z1, z2, z3, z4, z5, z6, z7, z8, z9, z10, z11, z12]) rfl ?_
      refine ⟨y, t, g', q', rfl, ⟨fun e => absurd rfl e, fun _ => ⟨EY.out, by rw [Int.toNat_natCast]; exact ET2.out, EG.out, by rw [Int.toNat_natCast]; exact EQ2.out⟩⟩, ?_, ?_⟩
      · refine OwA.base (b := w.heap.size + 2) ?_ (by omega)
        iterate 13 refine OwA.put ?_ (by first | (simp; done) | (simp; omega)) _
        exact hO.perm (evPerm _ _ _ _)
      · iterate 13 refine Up.setCell ?_ (by first | (simp; done) | (simp; omega)) _
        exact u
end Go.Proofs.YtblpjjcjnaigiaaGreatDoor
