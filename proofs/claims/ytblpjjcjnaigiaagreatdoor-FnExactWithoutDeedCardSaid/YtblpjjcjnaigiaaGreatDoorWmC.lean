/- Marks on chanceries, people, lands and worlds that the call itself made, and whether they are still held. -/
import Derived.Test.YtblpjjcjnaigiaaGreatDoorWmA
import Derived.Test.YtblpjjcjnaigiaaGreatDoorWmB
import Derived.Test.YtblpjjcjnaigiaaGreatDoorMarkF
namespace Go.Proofs.YtblpjjcjnaigiaaGreatDoor
open Go.RowKit Go.Sort

theorem Bx.mka {w w' : World} {b : Nat} {cs : List Value} {L L' : List Rw} (h : Bx w b cs) (m : MkA w w' L L') (hb : ∀ r ∈ L, r.v.ownBlock ≠ some b) : Bx w' b cs := fun j u hu => by
  have hlt := block_lt_of_cell (h j u hu).1
  have e := m.block b hlt hb
  exact ⟨by rw [World.cell?_of_block (a := ⟨b, j, none⟩) e]; exact (h j u hu).1, by rw [World.frozen?_of_block (a := ⟨b, j, none⟩) e]; exact (h j u hu).2⟩
/-- a block that is newer than the slices is none of theirs -/
theorem OwA.new {w : World} {base : Nat} {L : List Rw} (h : OwA w base L) {b : Nat} (hb : w.heap.size ≤ b) : ∀ r ∈ L, r.v.ownBlock ≠ some b := fun r hr e => by have := (h.lt hr e).2; omega
def mN (s : Sl Nm) (k : Int) : Sl Nm := ⟨s.A, s.c, mkNm k s.l.length⟩
theorem mN_len (s : Sl Nm) (k : Int) : (mN s k).l.length = s.l.length := by simp [mN, mkNm_len]
theorem rwReign_m (s : Sl Nm) (k : Int) : rwReign (mN s k) = ⟨120, 3, .slice s.A s.l.length s.c, s.l.length, (mkNm k s.l.length).flatMap Nm.cells⟩ := by simp [rwReign, mN, Sl.val, mkNm_len]
theorem markReign_s (s : Sl Nm) (k : Int) (w : World) (base : Nat) (h : (rwReign s).own w base) (hn : s.l.length ≤ 2000000) (h0 : 1 ≤ k) (hk : k ≤ 60000000) :
    Calls Tryz.prog 127 #[.slice s.A s.l.length s.c, .int .i64 k] w fun e w' => e = .returned (.int .i64 (k + 3 * s.l.length)) ∧ MkA w w' [rwReign s] [rwReign (mN s k)] :=
  (markReignS_any s.A s.l.length s.c base _ k w h hn h0 hk).mono fun _ _ ⟨h1, h2⟩ => ⟨h1, by rw [rwReign_m]; exact h2⟩
theorem heldReign_s (s : Sl Nm) (k : Int) (w : World) (lo hi : Nat) (h : SrNm w lo hi (mN s k)) (h0 : 1 ≤ k) (hk : k ≤ 60000000) :
    Calls Tryz.prog 131 #[.slice s.A s.l.length s.c, .int .i64 k] w fun e w' => e = .returned (.int .i64 (k + 3 * s.l.length)) ∧ Up w w' :=
  heldReignS_any s.A s.l.length s.c lo hi k w h.rd h.hhi (by have := h.len; rwa [mN_len] at this) h0 hk
theorem rwPerson_m (s : Sl Nm) (k : Int) : rwPerson (mN s k) = ⟨123, 3, .slice s.A s.l.length s.c, s.l.length, (mkNm k s.l.length).flatMap Nm.cells⟩ := by simp [rwPerson, mN, Sl.val, mkNm_len]
theorem markPerson_s (s : Sl Nm) (k : Int) (w : World) (base : Nat) (h : (rwPerson s).own w base) (hn : s.l.length ≤ 2000000) (h0 : 1 ≤ k) (hk : k ≤ 60000000) :
    Calls Tryz.prog 128 #[.slice s.A s.l.length s.c, .int .i64 k] w fun e w' => e = .returned (.int .i64 (k + 3 * s.l.length)) ∧ MkA w w' [rwPerson s] [rwPerson (mN s k)] :=
  (markPersonS_any s.A s.l.length s.c base _ k w h hn h0 hk).mono fun _ _ ⟨h1, h2⟩ => ⟨h1, by rw [rwPerson_m]; exact h2⟩
theorem heldPerson_s (s : Sl Nm) (k : Int) (w : World) (lo hi : Nat) (h : SrNm w lo hi (mN s k)) (h0 : 1 ≤ k) (hk : k ≤ 60000000) :
    Calls Tryz.prog 132 #[.slice s.A s.l.length s.c, .int .i64 k] w fun e w' => e = .returned (.int .i64 (k + 3 * s.l.length)) ∧ Up w w' :=
  heldPersonS_any s.A s.l.length s.c lo hi k w h.rd h.hhi (by have := h.len; rwa [mN_len] at this) h0 hk
theorem rwMark_m (s : Sl Nm) (k : Int) : rwMark (mN s k) = ⟨134, 3, .slice s.A s.l.length s.c, s.l.length, (mkNm k s.l.length).flatMap Nm.cells⟩ := by simp [rwMark, mN, Sl.val, mkNm_len]
theorem markMark_s (s : Sl Nm) (k : Int) (w : World) (base : Nat) (h : (rwMark s).own w base) (hn : s.l.length ≤ 2000000) (h0 : 1 ≤ k) (hk : k ≤ 60000000) :
    Calls Tryz.prog 83 #[.slice s.A s.l.length s.c, .int .i64 k] w fun e w' => e = .returned (.int .i64 (k + 3 * s.l.length)) ∧ MkA w w' [rwMark s] [rwMark (mN s k)] :=
  (markMarkS_any s.A s.l.length s.c base _ k w h hn h0 hk).mono fun _ _ ⟨h1, h2⟩ => ⟨h1, by rw [rwMark_m]; exact h2⟩
theorem heldMark_s (s : Sl Nm) (k : Int) (w : World) (lo hi : Nat) (h : SrNm w lo hi (mN s k)) (h0 : 1 ≤ k) (hk : k ≤ 60000000) :
    Calls Tryz.prog 92 #[.slice s.A s.l.length s.c, .int .i64 k] w fun e w' => e = .returned (.int .i64 (k + 3 * s.l.length)) ∧ Up w w' :=
  heldMarkS_any s.A s.l.length s.c lo hi k w h.rd h.hhi (by have := h.len; rwa [mN_len] at this) h0 hk
def mT (s : Sl Tm) (k : Int) : Sl Tm := ⟨s.A, s.c, mkTm k s.l.length⟩
theorem mT_len (s : Sl Tm) (k : Int) : (mT s k).l.length = s.l.length := by simp [mT, mkTm_len]
theorem rwTerm_m (s : Sl Tm) (k : Int) : rwTerm (mT s k) = ⟨126, 4, .slice s.A s.l.length s.c, s.l.length, (mkTm k s.l.length).flatMap Tm.cells⟩ := by simp [rwTerm, mT, Sl.val, mkTm_len]
theorem markTerm_s (s : Sl Tm) (k : Int) (w : World) (base : Nat) (h : (rwTerm s).own w base) (hn : s.l.length ≤ 2000000) (h0 : 1 ≤ k) (hk : k ≤ 60000000) :
    Calls Tryz.prog 129 #[.slice s.A s.l.length s.c, .int .i64 k] w fun e w' => e = .returned (.int .i64 (k + 4 * s.l.length)) ∧ MkA w w' [rwTerm s] [rwTerm (mT s k)] :=
  (markTermS_any s.A s.l.length s.c base _ k w h hn h0 hk).mono fun _ _ ⟨h1, h2⟩ => ⟨h1, by rw [rwTerm_m]; exact h2⟩
theorem heldTerm_s (s : Sl Tm) (k : Int) (w : World) (lo hi : Nat) (h : SrTm w lo hi (mT s k)) (h0 : 1 ≤ k) (hk : k ≤ 60000000) :
    Calls Tryz.prog 133 #[.slice s.A s.l.length s.c, .int .i64 k] w fun e w' => e = .returned (.int .i64 (k + 4 * s.l.length)) ∧ Up w w' :=
  heldTermS_any s.A s.l.length s.c lo hi k w h.rd h.hhi (by have := h.len; rwa [mT_len] at this) h0 hk
def mI (s : Sl I3) (k : Int) : Sl I3 := ⟨s.A, s.c, mkI3 k s.l.length⟩
theorem mI_len (s : Sl I3) (k : Int) : (mI s k).l.length = s.l.length := by simp [mI, mkI3_len]
theorem rwWay_m (s : Sl I3) (k : Int) : rwWay (mI s k) = ⟨129, 3, .slice s.A s.l.length s.c, s.l.length, (mkI3 k s.l.length).flatMap I3.cells⟩ := by simp [rwWay, mI, Sl.val, mkI3_len]
theorem markWay_s (s : Sl I3) (k : Int) (w : World) (base : Nat) (h : (rwWay s).own w base) (hn : s.l.length ≤ 2000000) (h0 : 1 ≤ k) (hk : k ≤ 60000000) :
    Calls Tryz.prog 130 #[.slice s.A s.l.length s.c, .int .i64 k] w fun e w' => e = .returned (.int .i64 (k + 3 * s.l.length)) ∧ MkA w w' [rwWay s] [rwWay (mI s k)] :=
  (markWayS_any s.A s.l.length s.c base _ k w h hn h0 hk).mono fun _ _ ⟨h1, h2⟩ => ⟨h1, by rw [rwWay_m]; exact h2⟩
theorem heldWay_s (s : Sl I3) (k : Int) (w : World) (lo hi : Nat) (h : SrI3 w lo hi (mI s k)) (h0 : 1 ≤ k) (hk : k ≤ 60000000) :
    Calls Tryz.prog 134 #[.slice s.A s.l.length s.c, .int .i64 k] w fun e w' => e = .returned (.int .i64 (k + 3 * s.l.length)) ∧ Up w w' :=
  heldWayS_any s.A s.l.length s.c lo hi k w h.rd h.hhi (by have := h.len; rwa [mI_len] at this) h0 hk
theorem rwStay_m (s : Sl I3) (k : Int) : rwStay (mI s k) = ⟨132, 3, .slice s.A s.l.length s.c, s.l.length, (mkI3 k s.l.length).flatMap I3.cells⟩ := by simp [rwStay, mI, Sl.val, mkI3_len]
theorem markStay_s (s : Sl I3) (k : Int) (w : World) (base : Nat) (h : (rwStay s).own w base) (hn : s.l.length ≤ 2000000) (h0 : 1 ≤ k) (hk : k ≤ 60000000) :
    Calls Tryz.prog 82 #[.slice s.A s.l.length s.c, .int .i64 k] w fun e w' => e = .returned (.int .i64 (k + 3 * s.l.length)) ∧ MkA w w' [rwStay s] [rwStay (mI s k)] :=
  (markStayS_any s.A s.l.length s.c base _ k w h hn h0 hk).mono fun _ _ ⟨h1, h2⟩ => ⟨h1, by rw [rwStay_m]; exact h2⟩
theorem heldStay_s (s : Sl I3) (k : Int) (w : World) (lo hi : Nat) (h : SrI3 w lo hi (mI s k)) (h0 : 1 ≤ k) (hk : k ≤ 60000000) :
    Calls Tryz.prog 91 #[.slice s.A s.l.length s.c, .int .i64 k] w fun e w' => e = .returned (.int .i64 (k + 3 * s.l.length)) ∧ Up w w' :=
  heldStayS_any s.A s.l.length s.c lo hi k w h.rd h.hhi (by have := h.len; rwa [mI_len] at this) h0 hk
def mC (s : Sl Cl) (k : Int) : Sl Cl := ⟨s.A, s.c, mkCl k s.l.length⟩
theorem mC_len (s : Sl Cl) (k : Int) : (mC s k).l.length = s.l.length := by simp [mC, mkCl_len]
theorem rwClause_m (s : Sl Cl) (k : Int) : rwClause (mC s k) = ⟨137, 8, .slice s.A s.l.length s.c, s.l.length, (mkCl k s.l.length).flatMap Cl.cells⟩ := by simp [rwClause, mC, Sl.val, mkCl_len]
theorem markClause_s (s : Sl Cl) (k : Int) (w : World) (base : Nat) (h : (rwClause s).own w base) (hn : s.l.length ≤ 2000000) (h0 : 1 ≤ k) (hk : k ≤ 60000000) :
    Calls Tryz.prog 85 #[.slice s.A s.l.length s.c, .int .i64 k] w fun e w' => e = .returned (.int .i64 (k + 8 * s.l.length)) ∧ MkA w w' [rwClause s] [rwClause (mC s k)] :=
  (markClauseS_any s.A s.l.length s.c base _ k w h hn h0 hk).mono fun _ _ ⟨h1, h2⟩ => ⟨h1, by rw [rwClause_m]; exact h2⟩
theorem heldClause_s (s : Sl Cl) (k : Int) (w : World) (lo hi : Nat) (h : SrCl w lo hi (mC s k)) (h0 : 1 ≤ k) (hk : k ≤ 60000000) :
    Calls Tryz.prog 93 #[.slice s.A s.l.length s.c, .int .i64 k] w fun e w' => e = .returned (.int .i64 (k + 8 * s.l.length)) ∧ Up w w' :=
  heldClauseS_any s.A s.l.length s.c lo hi k w h.rd h.hhi (by have := h.len; rwa [mC_len] at this) h0 hk
def mW (s : Sl Wi) (k : Int) : Sl Wi := ⟨s.A, s.c, mkWi k s.l.length⟩
theorem mW_len (s : Sl Wi) (k : Int) : (mW s k).l.length = s.l.length := by simp [mW, mkWi_len]
theorem rwWitness_m (s : Sl Wi) (k : Int) : rwWitness (mW s k) = ⟨140, 2, .slice s.A s.l.length s.c, s.l.length, (mkWi k s.l.length).flatMap Wi.cells⟩ := by simp [rwWitness, mW, Sl.val, mkWi_len]
theorem markWitness_s (s : Sl Wi) (k : Int) (w : World) (base : Nat) (h : (rwWitness s).own w base) (hn : s.l.length ≤ 2000000) (h0 : 1 ≤ k) (hk : k ≤ 60000000) :
    Calls Tryz.prog 86 #[.slice s.A s.l.length s.c, .int .i64 k] w fun e w' => e = .returned (.int .i64 (k + 2 * s.l.length)) ∧ MkA w w' [rwWitness s] [rwWitness (mW s k)] :=
  (markWitnessS_any s.A s.l.length s.c base _ k w h hn h0 hk).mono fun _ _ ⟨h1, h2⟩ => ⟨h1, by rw [rwWitness_m]; exact h2⟩
theorem heldWitness_s (s : Sl Wi) (k : Int) (w : World) (lo hi : Nat) (h : SrWi w lo hi (mW s k)) (h0 : 1 ≤ k) (hk : k ≤ 60000000) :
    Calls Tryz.prog 94 #[.slice s.A s.l.length s.c, .int .i64 k] w fun e w' => e = .returned (.int .i64 (k + 2 * s.l.length)) ∧ Up w w' :=
  heldWitnessS_any s.A s.l.length s.c lo hi k w h.rd h.hhi (by have := h.len; rwa [mW_len] at this) h0 hk
def mS (s : Sl ByteArray) (k : Int) : Sl ByteArray := ⟨s.A, s.c, mkS k s.l.length⟩
theorem mS_len (s : Sl ByteArray) (k : Int) : (mS s k).l.length = s.l.length := by simp [mS, mkS_len]
theorem rwStr_m (s : Sl ByteArray) (k : Int) : rwStr (mS s k) = ⟨9, 1, .slice s.A s.l.length s.c, s.l.length, (mkS k s.l.length).flatMap strC⟩ := by simp [rwStr, mS, Sl.val, mkS_len]
theorem markStr_s (s : Sl ByteArray) (k : Int) (w : World) (base : Nat) (h : (rwStr s).own w base) (hn : s.l.length ≤ 2000000) (h0 : 1 ≤ k) (hk : k ≤ 60000000) :
    Calls Tryz.prog 87 #[.slice s.A s.l.length s.c, .int .i64 k] w fun e w' => e = .returned (.int .i64 (k + s.l.length)) ∧ MkA w w' [rwStr s] [rwStr (mS s k)] :=
  (markStrW_any s.A s.l.length s.c base _ k w h hn h0 (by omega)).mono fun _ _ ⟨h1, h2, h3⟩ => ⟨h1, by rw [rwStr_m]; exact MkA.leaf (r := rwStr s) h h2 h3⟩
theorem heldStr_s (s : Sl ByteArray) (k : Int) (w : World) (lo hi : Nat) (h : SrSt w lo hi (mS s k)) (h0 : 1 ≤ k) (hk : k ≤ 60000000) :
    Calls Tryz.prog 95 #[.slice s.A s.l.length s.c, .int .i64 k] w fun e w' => e = .returned (.int .i64 (k + s.l.length)) ∧ Up w w' :=
  heldStringS_any s.A s.l.length s.c lo hi k w h.rd h.hhi (by have := h.len; rwa [mS_len] at this) h0 (by omega)
set_option maxRecDepth 20000 in
set_option maxHeartbeats 2000000 in
theorem markChancery_any (s : Sl Nm) (fr to_ : Int) (k : Int) (w : World) (base : Nat) (h : OwA w base ([rwReign s])) (hn : s.l.length ≤ 2000000) (h0 : 1 ≤ k) (hk : k + 3 * (s.l.length : Int) ≤ 60000000) :
    Calls Tryz.prog 79 #[.agg #[.slice s.A s.l.length s.c, .int .i64 fr, .int .i64 to_], .int .i64 k] w fun e w' => e = .returned (.int .i64 (k + 3 * (s.l.length : Int))) ∧ MkA w w' ([rwReign s]) ([rwReign (mN s k)]) := by
  have qO : OwA w base ([rwReign s]) := h
  have hnew := qO.new (Nat.le_refl w.heap.size)
  have hB := Bx.new w #[.slice s.A s.l.length s.c, .int .i64 fr, .int .i64 to_] 45
  have u := Up.alloc w (.cells #[.slice s.A s.l.length s.c, .int .i64 fr, .int .i64 to_] 45)
  replace qO := qO.up u
  go_enter Tryz.func79, Tryz.ntmps79
  go_wp2_with fail
  generalize w.alloc (.cells #[.slice s.A s.l.length s.c, .int .i64 fr, .int .i64 to_] 45) = w0 at *
  obtain ⟨x0, x1, x2⟩ := hB.c3
  refine (markReign_s s (k) _ base (qO.each _ (by simp)) (by omega) (by omega) (by omega)).mono ?_
  rintro e w1 ⟨rfl, v1⟩
  replace hB := hB.mka v1 (fun r hr => hnew r hr)
  go_wp2
  go_ret
  exact ⟨ret_int (by omega), (MkA.up u).trans v1⟩
set_option maxRecDepth 20000 in
set_option maxHeartbeats 2000000 in
theorem markPeople_any (s : Sl Nm) (t : Sl Tm) (k : Int) (w : World) (base : Nat) (h : OwA w base ([rwPerson s, rwTerm t])) (hn : s.l.length ≤ 2000000) (hm : t.l.length ≤ 2000000) (h0 : 1 ≤ k) (hk : k + (3 * (s.l.length : Int) + 4 * (t.l.length : Int)) ≤ 60000000) :
    Calls Tryz.prog 80 #[.agg #[.slice s.A s.l.length s.c, .slice t.A t.l.length t.c], .int .i64 k] w fun e w' => e = .returned (.int .i64 (k + (3 * (s.l.length : Int) + 4 * (t.l.length : Int)))) ∧ MkA w w' ([rwPerson s, rwTerm t]) ([rwPerson (mN s k), rwTerm (mT t (k + 3 * (s.l.length : Int)))]) := by
  have qO : OwA w base ([rwPerson s] ++ ([rwTerm t])) := h
  have hnew := qO.new (Nat.le_refl w.heap.size)
  have hB := Bx.new w #[.slice s.A s.l.length s.c, .slice t.A t.l.length t.c] 49
  have u := Up.alloc w (.cells #[.slice s.A s.l.length s.c, .slice t.A t.l.length t.c] 49)
  replace qO := qO.up u
  go_enter Tryz.func80, Tryz.ntmps80
  go_wp2_with fail
  generalize w.alloc (.cells #[.slice s.A s.l.length s.c, .slice t.A t.l.length t.c] 49) = w0 at *
  obtain ⟨x0, x1⟩ := hB.c2
  refine (markPerson_s s (k) _ base (qO.left.each _ (by simp)) (by omega) (by omega) (by omega)).mono ?_
  rintro e w1 ⟨rfl, v1⟩
  replace hB := hB.mka v1 (fun r hr => hnew r (List.mem_append_left _ hr))
  replace qO := ((v1.left ([rwTerm t])).own qO).right
  obtain ⟨x0, x1⟩ := hB.c2
  go_wp2_with fail
  refine (markTerm_s t (k + 3 * (s.l.length : Int)) _ base (qO.each _ (by simp)) (by omega) (by omega) (by omega)).mono ?_
  rintro e w2 ⟨rfl, v2⟩
  replace hB := hB.mka v2 (fun r hr => hnew r (List.mem_append_right _ hr))
  go_wp2
  go_ret
  exact ⟨ret_int (by omega), (MkA.up u).trans (v1.both v2)⟩
set_option maxRecDepth 20000 in
set_option maxHeartbeats 2000000 in
theorem markLand_any (s : Sl ByteArray) (t : Sl I3) (k : Int) (w : World) (base : Nat) (h : OwA w base ([rwStr s, rwWay t])) (hn : s.l.length ≤ 2000000) (hm : t.l.length ≤ 2000000) (h0 : 1 ≤ k) (hk : k + ((s.l.length : Int) + 3 * (t.l.length : Int)) ≤ 60000000) :
    Calls Tryz.prog 81 #[.agg #[.slice s.A s.l.length s.c, .slice t.A t.l.length t.c], .int .i64 k] w fun e w' => e = .returned (.int .i64 (k + ((s.l.length : Int) + 3 * (t.l.length : Int)))) ∧ MkA w w' ([rwStr s, rwWay t]) ([rwStr (mS s k), rwWay (mI t (k + (s.l.length : Int)))]) := by
  have qO : OwA w base ([rwStr s] ++ ([rwWay t])) := h
  have hnew := qO.new (Nat.le_refl w.heap.size)
  have hB := Bx.new w #[.slice s.A s.l.length s.c, .slice t.A t.l.length t.c] 52
  have u := Up.alloc w (.cells #[.slice s.A s.l.length s.c, .slice t.A t.l.length t.c] 52)
  replace qO := qO.up u
  go_enter Tryz.func81, Tryz.ntmps81
  go_wp2_with fail
  generalize w.alloc (.cells #[.slice s.A s.l.length s.c, .slice t.A t.l.length t.c] 52) = w0 at *
  obtain ⟨x0, x1⟩ := hB.c2
  refine (markStr_s s (k) _ base (qO.left.each _ (by simp)) (by omega) (by omega) (by omega)).mono ?_
  rintro e w1 ⟨rfl, v1⟩
  replace hB := hB.mka v1 (fun r hr => hnew r (List.mem_append_left _ hr))
  replace qO := ((v1.left ([rwWay t])).own qO).right
  obtain ⟨x0, x1⟩ := hB.c2
  go_wp2_with fail
  refine (markWay_s t (k + (s.l.length : Int)) _ base (qO.each _ (by simp)) (by omega) (by omega) (by omega)).mono ?_
  rintro e w2 ⟨rfl, v2⟩
  replace hB := hB.mka v2 (fun r hr => hnew r (List.mem_append_right _ hr))
  go_wp2
  go_ret
  exact ⟨ret_int (by omega), (MkA.up u).trans (v1.both v2)⟩
def cW (x : Wd) : Int := 3 * (x.rs.l.length : Int) + (3 * (x.ps.l.length : Int) + 4 * (x.ts.l.length : Int)) + ((x.pl.l.length : Int) + 3 * (x.ws.l.length : Int)) + 3 * (x.st.l.length : Int) + 3 * (x.se.l.length : Int) + 3 * (x.ha.l.length : Int)
def mWd (x : Wd) (k : Int) : Wd := ⟨mN x.rs k, x.fr, x.to_, mN x.ps (k + 3 * (x.rs.l.length : Int)), mT x.ts (k + 3 * (x.rs.l.length : Int) + 3 * (x.ps.l.length : Int)), mS x.pl (k + 3 * (x.rs.l.length : Int) + (3 * (x.ps.l.length : Int) + 4 * (x.ts.l.length : Int))), mI x.ws (k + 3 * (x.rs.l.length : Int) + (3 * (x.ps.l.length : Int) + 4 * (x.ts.l.length : Int)) + (x.pl.l.length : Int)), mI x.st (k + 3 * (x.rs.l.length : Int) + (3 * (x.ps.l.length : Int) + 4 * (x.ts.l.length : Int)) + ((x.pl.l.length : Int) + 3 * (x.ws.l.length : Int))), mN x.se (k + 3 * (x.rs.l.length : Int) + (3 * (x.ps.l.length : Int) + 4 * (x.ts.l.length : Int)) + ((x.pl.l.length : Int) + 3 * (x.ws.l.length : Int)) + 3 * (x.st.l.length : Int)), mN x.ha (k + 3 * (x.rs.l.length : Int) + (3 * (x.ps.l.length : Int) + 4 * (x.ts.l.length : Int)) + ((x.pl.l.length : Int) + 3 * (x.ws.l.length : Int)) + 3 * (x.st.l.length : Int) + 3 * (x.se.l.length : Int))⟩
theorem cW_nn (x : Wd) : 0 ≤ cW x := by unfold cW; omega
set_option maxRecDepth 20000 in
set_option maxHeartbeats 2000000 in
theorem markWorld_any (x : Wd) (k : Int) (w : World) (base : Nat) (h : OwA w base (rowsW x)) (hs : SmW x) (h0 : 1 ≤ k) (hk : k + cW x ≤ 60000000) :
    Calls Tryz.prog 34 #[.agg #[.slice x.rs.A x.rs.l.length x.rs.c, .int .i64 x.fr, .int .i64 x.to_, .slice x.ps.A x.ps.l.length x.ps.c, .slice x.ts.A x.ts.l.length x.ts.c, .slice x.pl.A x.pl.l.length x.pl.c, .slice x.ws.A x.ws.l.length x.ws.c, .slice x.st.A x.st.l.length x.st.c, .slice x.se.A x.se.l.length x.se.c, .slice x.ha.A x.ha.l.length x.ha.c], .int .i64 k] w fun e w' => e = .returned (.int .i64 (k + cW x)) ∧ MkA w w' (rowsW x) (rowsW (mWd x k)) := by
  unfold cW at hk ⊢
  obtain ⟨s1, ⟨s2, s3⟩, ⟨s4, s5⟩, s6, s7, s8⟩ := hs
  have qO : OwA w base ([rwReign x.rs] ++ ([rwPerson x.ps, rwTerm x.ts] ++ ([rwStr x.pl, rwWay x.ws] ++ ([rwStay x.st] ++ ([rwMark x.se] ++ ([rwMark x.ha])))))) := h
  have hnew := qO.new (Nat.le_refl w.heap.size)
  have hB := Bx.new w #[.slice x.rs.A x.rs.l.length x.rs.c, .int .i64 x.fr, .int .i64 x.to_, .slice x.ps.A x.ps.l.length x.ps.c, .slice x.ts.A x.ts.l.length x.ts.c, .slice x.pl.A x.pl.l.length x.pl.c, .slice x.ws.A x.ws.l.length x.ws.c, .slice x.st.A x.st.l.length x.st.c, .slice x.se.A x.se.l.length x.se.c, .slice x.ha.A x.ha.l.length x.ha.c] 56
  have u := Up.alloc w (.cells #[.slice x.rs.A x.rs.l.length x.rs.c, .int .i64 x.fr, .int .i64 x.to_, .slice x.ps.A x.ps.l.length x.ps.c, .slice x.ts.A x.ts.l.length x.ts.c, .slice x.pl.A x.pl.l.length x.pl.c, .slice x.ws.A x.ws.l.length x.ws.c, .slice x.st.A x.st.l.length x.st.c, .slice x.se.A x.se.l.length x.se.c, .slice x.ha.A x.ha.l.length x.ha.c] 56)
  replace qO := qO.up u
  go_enter Tryz.func34, Tryz.ntmps34
  go_wp2_with fail
  generalize w.alloc (.cells #[.slice x.rs.A x.rs.l.length x.rs.c, .int .i64 x.fr, .int .i64 x.to_, .slice x.ps.A x.ps.l.length x.ps.c, .slice x.ts.A x.ts.l.length x.ts.c, .slice x.pl.A x.pl.l.length x.pl.c, .slice x.ws.A x.ws.l.length x.ws.c, .slice x.st.A x.st.l.length x.st.c, .slice x.se.A x.se.l.length x.se.c, .slice x.ha.A x.ha.l.length x.ha.c] 56) = w0 at *
  obtain ⟨x0, x1, x2, x3, x4, x5, x6, x7, x8, x9⟩ := hB.c10
  refine (markChancery_any x.rs x.fr x.to_ (k) _ base qO.left (by omega) (by omega) (by omega)).mono ?_
  rintro e w1 ⟨rfl, v1⟩
  replace hB := hB.mka v1 (fun r hr => hnew r (List.mem_append_left _ hr))
  replace qO := ((v1.left ([rwPerson x.ps, rwTerm x.ts] ++ ([rwStr x.pl, rwWay x.ws] ++ ([rwStay x.st] ++ ([rwMark x.se] ++ ([rwMark x.ha])))))).own qO).right
  obtain ⟨x0, x1, x2, x3, x4, x5, x6, x7, x8, x9⟩ := hB.c10
  go_wp2_with fail
  refine (markPeople_any x.ps x.ts (k + 3 * (x.rs.l.length : Int)) _ base qO.left (by omega) (by omega) (by omega) (by omega)).mono ?_
  rintro e w2 ⟨rfl, v2⟩
  replace hB := hB.mka v2 (fun r hr => hnew r (List.mem_append_right _ (List.mem_append_left _ hr)))
  replace qO := ((v2.left ([rwStr x.pl, rwWay x.ws] ++ ([rwStay x.st] ++ ([rwMark x.se] ++ ([rwMark x.ha]))))).own qO).right
  obtain ⟨x0, x1, x2, x3, x4, x5, x6, x7, x8, x9⟩ := hB.c10
  go_wp2_with fail
  refine (markLand_any x.pl x.ws (k + 3 * (x.rs.l.length : Int) + (3 * (x.ps.l.length : Int) + 4 * (x.ts.l.length : Int))) _ base qO.left (by omega) (by omega) (by omega) (by omega)).mono ?_
  rintro e w3 ⟨rfl, v3⟩
  replace hB := hB.mka v3 (fun r hr => hnew r (List.mem_append_right _ (List.mem_append_right _ (List.mem_append_left _ hr))))
  replace qO := ((v3.left ([rwStay x.st] ++ ([rwMark x.se] ++ ([rwMark x.ha])))).own qO).right
  obtain ⟨x0, x1, x2, x3, x4, x5, x6, x7, x8, x9⟩ := hB.c10
  go_wp2_with fail
  refine (markStay_s x.st (k + 3 * (x.rs.l.length : Int) + (3 * (x.ps.l.length : Int) + 4 * (x.ts.l.length : Int)) + ((x.pl.l.length : Int) + 3 * (x.ws.l.length : Int))) _ base (qO.left.each _ (by simp)) (by omega) (by omega) (by omega)).mono ?_
  rintro e w4 ⟨rfl, v4⟩
  replace hB := hB.mka v4 (fun r hr => hnew r (List.mem_append_right _ (List.mem_append_right _ (List.mem_append_right _ (List.mem_append_left _ hr)))))
  replace qO := ((v4.left ([rwMark x.se] ++ ([rwMark x.ha]))).own qO).right
  obtain ⟨x0, x1, x2, x3, x4, x5, x6, x7, x8, x9⟩ := hB.c10
  go_wp2_with fail
  refine (markMark_s x.se (k + 3 * (x.rs.l.length : Int) + (3 * (x.ps.l.length : Int) + 4 * (x.ts.l.length : Int)) + ((x.pl.l.length : Int) + 3 * (x.ws.l.length : Int)) + 3 * (x.st.l.length : Int)) _ base (qO.left.each _ (by simp)) (by omega) (by omega) (by omega)).mono ?_
  rintro e w5 ⟨rfl, v5⟩
  replace hB := hB.mka v5 (fun r hr => hnew r (List.mem_append_right _ (List.mem_append_right _ (List.mem_append_right _ (List.mem_append_right _ (List.mem_append_left _ hr))))))
  replace qO := ((v5.left ([rwMark x.ha])).own qO).right
  obtain ⟨x0, x1, x2, x3, x4, x5, x6, x7, x8, x9⟩ := hB.c10
  go_wp2_with fail
  refine (markMark_s x.ha (k + 3 * (x.rs.l.length : Int) + (3 * (x.ps.l.length : Int) + 4 * (x.ts.l.length : Int)) + ((x.pl.l.length : Int) + 3 * (x.ws.l.length : Int)) + 3 * (x.st.l.length : Int) + 3 * (x.se.l.length : Int)) _ base (qO.each _ (by simp)) (by omega) (by omega) (by omega)).mono ?_
  rintro e w6 ⟨rfl, v6⟩
  replace hB := hB.mka v6 (fun r hr => hnew r (List.mem_append_right _ (List.mem_append_right _ (List.mem_append_right _ (List.mem_append_right _ (List.mem_append_right _ hr))))))
  go_wp2
  go_ret
  exact ⟨ret_int (by omega), (MkA.up u).trans (v1.both (v2.both (v3.both (v4.both (v5.both v6)))))⟩
set_option maxRecDepth 20000 in
set_option maxHeartbeats 2000000 in
theorem heldChancery_any (s : Sl Nm) (fr to_ : Int) (k : Int) (w : World) (lo hi : Nat) (h : SrNm w lo hi (mN s k)) (h0 : 1 ≤ k) (hk : k + 3 * (s.l.length : Int) ≤ 60000000) :
    Calls Tryz.prog 88 #[.agg #[.slice s.A s.l.length s.c, .int .i64 fr, .int .i64 to_], .int .i64 k] w fun e w' => e = .returned (.int .i64 (k + 3 * (s.l.length : Int))) ∧ Up w w' := by
  have hB := Bx.new w #[.slice s.A s.l.length s.c, .int .i64 fr, .int .i64 to_] 45
  have u := Up.alloc w (.cells #[.slice s.A s.l.length s.c, .int .i64 fr, .int .i64 to_] 45)
  go_enter Tryz.func88, Tryz.ntmps88
  go_wp2_with fail
  generalize w.alloc (.cells #[.slice s.A s.l.length s.c, .int .i64 fr, .int .i64 to_] 45) = w0 at *
  obtain ⟨x0, x1, x2⟩ := hB.c3
  refine (heldReign_s s (k) _ lo hi (h.up u) (by omega) (by omega)).mono ?_
  rintro e w1 ⟨rfl, v⟩
  replace u := u.trans v
  replace hB := hB.up v
  clear v
  have hd0 : decide (k + 3 * (s.l.length : Int) < 0) = false := by simp; omega
  obtain ⟨x0, x1, x2⟩ := hB.c3
  go_wp2
  go_ret
  exact ⟨ret_int (by omega), u⟩
set_option maxRecDepth 20000 in
set_option maxHeartbeats 2000000 in
theorem heldPeople_any (s : Sl Nm) (t : Sl Tm) (k : Int) (w : World) (lo hi : Nat) (h : SrNm w lo hi (mN s k)) (h2 : SrTm w lo hi (mT t (k + 3 * (s.l.length : Int)))) (h0 : 1 ≤ k) (hk : k + (3 * (s.l.length : Int) + 4 * (t.l.length : Int)) ≤ 60000000) :
    Calls Tryz.prog 89 #[.agg #[.slice s.A s.l.length s.c, .slice t.A t.l.length t.c], .int .i64 k] w fun e w' => e = .returned (.int .i64 (k + (3 * (s.l.length : Int) + 4 * (t.l.length : Int)))) ∧ Up w w' := by
  have hB := Bx.new w #[.slice s.A s.l.length s.c, .slice t.A t.l.length t.c] 49
  have u := Up.alloc w (.cells #[.slice s.A s.l.length s.c, .slice t.A t.l.length t.c] 49)
  go_enter Tryz.func89, Tryz.ntmps89
  go_wp2_with fail
  generalize w.alloc (.cells #[.slice s.A s.l.length s.c, .slice t.A t.l.length t.c] 49) = w0 at *
  obtain ⟨x0, x1⟩ := hB.c2
  refine (heldPerson_s s (k) _ lo hi (h.up u) (by omega) (by omega)).mono ?_
  rintro e w1 ⟨rfl, v⟩
  replace u := u.trans v
  replace hB := hB.up v
  clear v
  have hd0 : decide (k + 3 * (s.l.length : Int) < 0) = false := by simp; omega
  obtain ⟨x0, x1⟩ := hB.c2
  go_wp2_with fail
  refine (heldTerm_s t (k + 3 * (s.l.length : Int)) _ lo hi (h2.up u) (by omega) (by omega)).mono ?_
  rintro e w2 ⟨rfl, v⟩
  replace u := u.trans v
  replace hB := hB.up v
  clear v
  have hd1 : decide (k + 3 * (s.l.length : Int) + 4 * (t.l.length : Int) < 0) = false := by simp; omega
  obtain ⟨x0, x1⟩ := hB.c2
  go_wp2
  go_ret
  exact ⟨ret_int (by omega), u⟩
set_option maxRecDepth 20000 in
set_option maxHeartbeats 2000000 in
theorem heldLand_any (s : Sl ByteArray) (t : Sl I3) (k : Int) (w : World) (lo hi : Nat) (h : SrSt w lo hi (mS s k)) (h2 : SrI3 w lo hi (mI t (k + (s.l.length : Int)))) (h0 : 1 ≤ k) (hk : k + ((s.l.length : Int) + 3 * (t.l.length : Int)) ≤ 60000000) :
    Calls Tryz.prog 90 #[.agg #[.slice s.A s.l.length s.c, .slice t.A t.l.length t.c], .int .i64 k] w fun e w' => e = .returned (.int .i64 (k + ((s.l.length : Int) + 3 * (t.l.length : Int)))) ∧ Up w w' := by
  have hB := Bx.new w #[.slice s.A s.l.length s.c, .slice t.A t.l.length t.c] 52
  have u := Up.alloc w (.cells #[.slice s.A s.l.length s.c, .slice t.A t.l.length t.c] 52)
  go_enter Tryz.func90, Tryz.ntmps90
  go_wp2_with fail
  generalize w.alloc (.cells #[.slice s.A s.l.length s.c, .slice t.A t.l.length t.c] 52) = w0 at *
  obtain ⟨x0, x1⟩ := hB.c2
  refine (heldStr_s s (k) _ lo hi (h.up u) (by omega) (by omega)).mono ?_
  rintro e w1 ⟨rfl, v⟩
  replace u := u.trans v
  replace hB := hB.up v
  clear v
  have hd0 : decide (k + (s.l.length : Int) < 0) = false := by simp; omega
  obtain ⟨x0, x1⟩ := hB.c2
  go_wp2_with fail
  refine (heldWay_s t (k + (s.l.length : Int)) _ lo hi (h2.up u) (by omega) (by omega)).mono ?_
  rintro e w2 ⟨rfl, v⟩
  replace u := u.trans v
  replace hB := hB.up v
  clear v
  have hd1 : decide (k + (s.l.length : Int) + 3 * (t.l.length : Int) < 0) = false := by simp; omega
  obtain ⟨x0, x1⟩ := hB.c2
  go_wp2
  go_ret
  exact ⟨ret_int (by omega), u⟩
set_option maxRecDepth 20000 in
set_option maxHeartbeats 2000000 in
theorem heldWorld_any (x : Wd) (k : Int) (w : World) (lo hi : Nat) (h : RdW w lo hi (mWd x k)) (h0 : 1 ≤ k) (hk : k + cW x ≤ 60000000) :
    Calls Tryz.prog 38 #[.agg #[.slice x.rs.A x.rs.l.length x.rs.c, .int .i64 x.fr, .int .i64 x.to_, .slice x.ps.A x.ps.l.length x.ps.c, .slice x.ts.A x.ts.l.length x.ts.c, .slice x.pl.A x.pl.l.length x.pl.c, .slice x.ws.A x.ws.l.length x.ws.c, .slice x.st.A x.st.l.length x.st.c, .slice x.se.A x.se.l.length x.se.c, .slice x.ha.A x.ha.l.length x.ha.c], .int .i64 k] w fun e w' => e = .returned (.int .i64 (k + cW x)) ∧ Up w w' := by
  unfold cW at hk ⊢
  have hB := Bx.new w #[.slice x.rs.A x.rs.l.length x.rs.c, .int .i64 x.fr, .int .i64 x.to_, .slice x.ps.A x.ps.l.length x.ps.c, .slice x.ts.A x.ts.l.length x.ts.c, .slice x.pl.A x.pl.l.length x.pl.c, .slice x.ws.A x.ws.l.length x.ws.c, .slice x.st.A x.st.l.length x.st.c, .slice x.se.A x.se.l.length x.se.c, .slice x.ha.A x.ha.l.length x.ha.c] 56
  have u := Up.alloc w (.cells #[.slice x.rs.A x.rs.l.length x.rs.c, .int .i64 x.fr, .int .i64 x.to_, .slice x.ps.A x.ps.l.length x.ps.c, .slice x.ts.A x.ts.l.length x.ts.c, .slice x.pl.A x.pl.l.length x.pl.c, .slice x.ws.A x.ws.l.length x.ws.c, .slice x.st.A x.st.l.length x.st.c, .slice x.se.A x.se.l.length x.se.c, .slice x.ha.A x.ha.l.length x.ha.c] 56)
  go_enter Tryz.func38, Tryz.ntmps38
  go_wp2_with fail
  generalize w.alloc (.cells #[.slice x.rs.A x.rs.l.length x.rs.c, .int .i64 x.fr, .int .i64 x.to_, .slice x.ps.A x.ps.l.length x.ps.c, .slice x.ts.A x.ts.l.length x.ts.c, .slice x.pl.A x.pl.l.length x.pl.c, .slice x.ws.A x.ws.l.length x.ws.c, .slice x.st.A x.st.l.length x.st.c, .slice x.se.A x.se.l.length x.se.c, .slice x.ha.A x.ha.l.length x.ha.c] 56) = w0 at *
  obtain ⟨x0, x1, x2, x3, x4, x5, x6, x7, x8, x9⟩ := hB.c10
  refine (heldChancery_any x.rs x.fr x.to_ (k) _ lo hi (h.rs.up u) (by omega) (by omega)).mono ?_
  rintro e w1 ⟨rfl, v⟩
  replace u := u.trans v
  replace hB := hB.up v
  clear v
  have hd0 : decide (k + 3 * (x.rs.l.length : Int) < 0) = false := by simp; omega
  obtain ⟨x0, x1, x2, x3, x4, x5, x6, x7, x8, x9⟩ := hB.c10
  go_wp2_with fail
  refine (heldPeople_any x.ps x.ts (k + 3 * (x.rs.l.length : Int)) _ lo hi (h.ps.up u) (h.ts.up u) (by omega) (by omega)).mono ?_
  rintro e w2 ⟨rfl, v⟩
  replace u := u.trans v
  replace hB := hB.up v
  clear v
  have hd1 : decide (k + 3 * (x.rs.l.length : Int) + (3 * (x.ps.l.length : Int) + 4 * (x.ts.l.length : Int)) < 0) = false := by simp; omega
  obtain ⟨x0, x1, x2, x3, x4, x5, x6, x7, x8, x9⟩ := hB.c10
  go_wp2_with fail
  refine (heldLand_any x.pl x.ws (k + 3 * (x.rs.l.length : Int) + (3 * (x.ps.l.length : Int) + 4 * (x.ts.l.length : Int))) _ lo hi (h.pl.up u) (h.ws.up u) (by omega) (by omega)).mono ?_
  rintro e w3 ⟨rfl, v⟩
  replace u := u.trans v
  replace hB := hB.up v
  clear v
  have hd2 : decide (k + 3 * (x.rs.l.length : Int) + (3 * (x.ps.l.length : Int) + 4 * (x.ts.l.length : Int)) + ((x.pl.l.length : Int) + 3 * (x.ws.l.length : Int)) < 0) = false := by simp; omega
  obtain ⟨x0, x1, x2, x3, x4, x5, x6, x7, x8, x9⟩ := hB.c10
  go_wp2_with fail
  refine (heldStay_s x.st (k + 3 * (x.rs.l.length : Int) + (3 * (x.ps.l.length : Int) + 4 * (x.ts.l.length : Int)) + ((x.pl.l.length : Int) + 3 * (x.ws.l.length : Int))) _ lo hi (h.st.up u) (by omega) (by omega)).mono ?_
  rintro e w4 ⟨rfl, v⟩
  replace u := u.trans v
  replace hB := hB.up v
  clear v
  have hd3 : decide (k + 3 * (x.rs.l.length : Int) + (3 * (x.ps.l.length : Int) + 4 * (x.ts.l.length : Int)) + ((x.pl.l.length : Int) + 3 * (x.ws.l.length : Int)) + 3 * (x.st.l.length : Int) < 0) = false := by simp; omega
  obtain ⟨x0, x1, x2, x3, x4, x5, x6, x7, x8, x9⟩ := hB.c10
  go_wp2_with fail
  refine (heldMark_s x.se (k + 3 * (x.rs.l.length : Int) + (3 * (x.ps.l.length : Int) + 4 * (x.ts.l.length : Int)) + ((x.pl.l.length : Int) + 3 * (x.ws.l.length : Int)) + 3 * (x.st.l.length : Int)) _ lo hi (h.se.up u) (by omega) (by omega)).mono ?_
  rintro e w5 ⟨rfl, v⟩
  replace u := u.trans v
  replace hB := hB.up v
  clear v
  have hd4 : decide (k + 3 * (x.rs.l.length : Int) + (3 * (x.ps.l.length : Int) + 4 * (x.ts.l.length : Int)) + ((x.pl.l.length : Int) + 3 * (x.ws.l.length : Int)) + 3 * (x.st.l.length : Int) + 3 * (x.se.l.length : Int) < 0) = false := by simp; omega
  obtain ⟨x0, x1, x2, x3, x4, x5, x6, x7, x8, x9⟩ := hB.c10
  go_wp2_with fail
  refine (heldMark_s x.ha (k + 3 * (x.rs.l.length : Int) + (3 * (x.ps.l.length : Int) + 4 * (x.ts.l.length : Int)) + ((x.pl.l.length : Int) + 3 * (x.ws.l.length : Int)) + 3 * (x.st.l.length : Int) + 3 * (x.se.l.length : Int)) _ lo hi (h.ha.up u) (by omega) (by omega)).mono ?_
  rintro e w6 ⟨rfl, v⟩
  replace u := u.trans v
  replace hB := hB.up v
  clear v
  have hd5 : decide (k + 3 * (x.rs.l.length : Int) + (3 * (x.ps.l.length : Int) + 4 * (x.ts.l.length : Int)) + ((x.pl.l.length : Int) + 3 * (x.ws.l.length : Int)) + 3 * (x.st.l.length : Int) + 3 * (x.se.l.length : Int) + 3 * (x.ha.l.length : Int) < 0) = false := by simp; omega
  obtain ⟨x0, x1, x2, x3, x4, x5, x6, x7, x8, x9⟩ := hB.c10
  go_wp2
  go_ret
  exact ⟨ret_int (by omega), u⟩
end Go.Proofs.YtblpjjcjnaigiaaGreatDoor
