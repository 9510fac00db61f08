/- Normal forms of words, plainly. -/
import Derived.Test.YtehoaoeahfmfpaaGreatDoorProg
import Derived.Test.YtehoaoeahfmfpaaGreatDoorLib
import Derived.Laws.IdiomStrings
namespace Go.Proofs.YtehoaoeahfmfpaaGreatDoor
open Go.RowKit

/-- what stands for one byte -/
def rep1 (b : UInt8) : List UInt8 := if b = 118 then [117] else if b = 106 then [105] else if b = 121 then [105] else if b = 119 then [117, 117] else [b]
def wideL (l : List UInt8) : List UInt8 := l.flatMap rep1
/-- the first k bytes without those that repeat the byte before -/
def sqK (l : List UInt8) (k : Nat) : List UInt8 := (List.range k).flatMap fun i => if i = 0 ∨ l[i]? ≠ l[i - 1]? then l[i]?.toList else []
def chopL (l : List UInt8) : List UInt8 := if 3 ≤ l.length ∧ l[l.length - 1]? = some 101 then l.take (l.length - 1) else l
def nrmL (l : List UInt8) : List UInt8 := chopL (sqK (wideL l) (wideL l).length)
/-- the normal form of a word -/
def nrm (s : ByteArray) : ByteArray := ⟨(nrmL s.data.toList).toArray⟩

theorem rep1_len (b : UInt8) : (rep1 b).length ≤ 2 := by unfold rep1; repeat' split
                                                         all_goals simp
theorem wideL_len : ∀ l : List UInt8, (wideL l).length ≤ 2 * l.length
  | [] => by simp [wideL]
  | b :: l => by
    have := wideL_len l
    have h := rep1_len b
    unfold wideL at this ⊢
    rw [List.flatMap_cons, List.length_append, List.length_cons]; omega
theorem wideL_succ {l : List UInt8} {k : Nat} {b : UInt8} (h : l[k]? = some b) : wideL (l.take (k + 1)) = wideL (l.take k) ++ rep1 b := by
  have hk : k < l.length := (List.getElem?_eq_some_iff.1 h).1
  unfold wideL
  rw [List.take_succ_eq_append_getElem hk, List.flatMap_append]
  simp [(List.getElem?_eq_some_iff.1 h).2]
theorem sqK_zero (l : List UInt8) : sqK l 0 = [] := rfl
theorem sqK_skip {l : List UInt8} {k : Nat} (hk : k ≠ 0) (h : l[k]? = l[k - 1]?) : sqK l (k + 1) = sqK l k := by
  unfold sqK; rw [List.range_succ, List.flatMap_append]; simp [hk, h]
theorem sqK_take {l : List UInt8} {k : Nat} {b : UInt8} (hb : l[k]? = some b) (h : k = 0 ∨ l[k]? ≠ l[k - 1]?) : sqK l (k + 1) = sqK l k ++ [b] := by
  unfold sqK; rw [List.range_succ, List.flatMap_append]; simp only [List.flatMap_cons, List.flatMap_nil, List.append_nil]
  rw [if_pos h, hb]; rfl
theorem sqK_len (l : List UInt8) : ∀ k, (sqK l k).length ≤ k
  | 0 => by simp [sqK]
  | k + 1 => by
    have := sqK_len l k
    unfold sqK at this ⊢
    rw [List.range_succ, List.flatMap_append, List.length_append]
    have h2 : (if k = 0 ∨ l[k]? ≠ l[k - 1]? then l[k]?.toList else []).length ≤ 1 := by
      split
      · cases l[k]? <;> simp
      · simp
    simp only [List.flatMap_cons, List.flatMap_nil, List.append_nil]
    exact Nat.add_le_add this h2

/-- bytes as cells -/
abbrev bytC (b : UInt8) : List Value := [.int .u8 (b.toNat : Int)]
theorem bytC_len (b : UInt8) : (bytC b).length = 1 := rfl
abbrev RdY (w : World) (lo hi : Nat) (A : Option Addr) (l : List UInt8) : Prop := Rd w lo hi 1 bytC A l
theorem Rd.byt {w : World} {lo hi : Nat} {A : Option Addr} {l : List UInt8} (h : RdY w lo hi A l) {k : Nat} (hk : k < l.length) :
    ∃ b off z, A = some ⟨b, off, none⟩ ∧ lo ≤ b ∧ b < hi ∧ l[k]? = some z ∧ w.cell? ⟨b, off + k, none⟩ = some (.int .u8 (z.toNat : Int)) := by
  obtain ⟨b, off, d, e, h1, h2, h3, h4⟩ := Rd.at_ h hk
  have := h4 0 _ rfl
  rw [Nat.mul_one] at this
  exact ⟨b, off, d, e, h1, h2, h3, this⟩
theorem Rd.byt0 {w : World} {lo hi C : Nat} {l : List UInt8} (h : RdY w lo hi (some ⟨C, 0, none⟩) l) {k : Nat} (hk : k < l.length) :
    ∃ z, l[k]? = some z ∧ w.cell? ⟨C, k, none⟩ = some (.int .u8 (z.toNat : Int)) := by
  obtain ⟨b, off, z, e1, -, -, hz, z0⟩ := h.byt hk
  simp only [Option.some.injEq, Addr.mk.injEq] at e1
  obtain ⟨rfl, rfl, -⟩ := e1
  rw [Nat.zero_add] at z0
  exact ⟨z, hz, z0⟩
theorem cells_new2 (w : World) (u v : Value) (e : TypeId) : ∀ j x, [u, v][j]? = some x → (w.alloc (.cells #[u, v] e)).cell? (Addr.add ⟨w.heap.size, 0, none⟩ j) = some x := by
  intro j x hx
  match j, hx with
  | 0, hx => simp at hx; subst hx; simp [Addr.add]
  | 1, hx => simp at hx; subst hx; simp [Addr.add]
theorem infoByt : (Tryz.prog.info? 5).map (fun i => (i.zero, i.size, i.bytes)) = some (some (.int .u8 0), 1, 1) := by kernel_rfl
theorem byt_flat (l : List UInt8) : l.flatMap bytC = l.map fun b => Value.int .u8 (b.toNat : Int) := by
  induction l with
  | nil => rfl
  | cons b l ih => rw [List.flatMap_cons, ih]; rfl
theorem byt_step {w' : World} {base : Nat} {T : TypeId} {v' : Value} {l l' m : List UInt8} {n : Nat} (ho : w'.ownsRow base T 1 v' n (l.flatMap bytC ++ m.flatMap bytC)) (e : l' = l ++ m) (hn : n = l'.length) : w'.ownsRow base T 1 v' l'.length (l'.flatMap bytC) := by
  subst e; rw [List.flatMap_append, ← hn]; exact ho
theorem u8_bool {a b : UInt8} : ((a.toNat : Int) == (b.toNat : Int)) = decide (a = b) := by
  by_cases h : a = b
  · subst h; simp
  · rw [decide_eq_false h, beq_eq_false_iff_ne]; intro e; exact h (UInt8.toNat_inj.1 (by omega))
/-- string(b) of an owned row of bytes -/
theorem run_strOf {P : Program} {src dst e : TypeId} (hs : P.underlying src = some (.slice e)) (he : P.underlying e = some (.int .u8)) (hd : P.underlying dst = some .string) (wx : World) {lo hi : Nat} {C : Nat} {l : List UInt8} {cap : Nat} (hr : RdY wx lo hi (some ⟨C, 0, none⟩) l) :
    (convert src dst (.slice (some ⟨C, 0, none⟩) l.length cap)).run P wx = .ok (.string ⟨l.toArray⟩) wx :=
  run_convert_bytes_back wx src dst e _ cap l hs he hd (fun j hj => by
    obtain ⟨b, off, z, e1, -, -, hz, hc⟩ := hr.byt hj
    cases e1
    rw [Nat.zero_add] at hc
    have : l[j] = z := by rw [List.getElem?_eq_getElem hj] at hz; exact Option.some.inj hz
    rw [this]
    rw [show (⟨C, 0, none⟩ : Addr).add j = ⟨C, j, none⟩ by cases j <;> simp [Addr.add]]; exact hc)
end Go.Proofs.YtehoaoeahfmfpaaGreatDoor
