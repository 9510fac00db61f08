/- Formulas and phrases that can be read. -/
import Derived.Test.YtblpjjcjnaigiaaGreatDoorVa
import Derived.Test.YtblpjjcjnaigiaaGreatDoorFormA
namespace Go.Proofs.YtblpjjcjnaigiaaGreatDoor
open Go.RowKit Go.Sort

abbrev phC (x : Sl ByteArray) : List Value := [.slice x.A x.l.length x.c]
theorem phC_len (x : Sl ByteArray) : (phC x).length = 1 := rfl
theorem Rd.ph {w : World} {lo hi : Nat} {A : Option Addr} {l : List (Sl ByteArray)} (h : Rd w lo hi 1 phC A l) {k : Nat} (hk : k < l.length) :
    ∃ b off d, A = some ⟨b, off, none⟩ ∧ lo ≤ b ∧ b < hi ∧ l[k]? = some d ∧ w.cell? ⟨b, off + k, none⟩ = some (.slice d.A d.l.length d.c) := by
  obtain ⟨b, off, d, e, h1, h2, h3, h4⟩ := Rd.at_ h hk
  have := h4 0 _ rfl
  rw [Nat.mul_one] at this
  exact ⟨b, off, d, e, h1, h2, h3, this⟩
/-- formulas that can be read -/
structure SrF (w : World) (lo hi : Nat) (g : Sl Fm) : Prop where
  rd : RdF w lo hi g.A g.l
  hhi : hi ≤ w.heap.size
  len : g.l.length ≤ 2000000
  ok : ∀ x ∈ g.l, x.ok
  ws : ∀ x ∈ g.l, x.ws.length ≤ 2000000
  cap : g.l.length ≤ g.c ∧ g.c ≤ maxLen
theorem SrF.up {w w' : World} {lo hi : Nat} {g : Sl Fm} (h : SrF w lo hi g) (u : Up w w') : SrF w' lo hi g := ⟨h.rd.up u h.hhi, Nat.le_trans h.hhi u.size, h.len, h.ok, h.ws, h.cap⟩
/-- phrases that can be read -/
structure SrPh (w : World) (lo hi : Nat) (q : Sl (Sl ByteArray)) : Prop where
  rd : Rd w lo hi 1 phC q.A q.l
  hhi : hi ≤ w.heap.size
  len : q.l.length ≤ 2000000
  each : ∀ p ∈ q.l, SrSt w lo hi p
  cap : q.l.length ≤ q.c ∧ q.c ≤ maxLen
theorem SrPh.up {w w' : World} {lo hi : Nat} {g : Sl (Sl ByteArray)} (h : SrPh w lo hi g) (u : Up w w') : SrPh w' lo hi g := ⟨h.rd.up u h.hhi, Nat.le_trans h.hhi u.size, h.len, fun p hp => (h.each p hp).up u, h.cap⟩
/-- phrases that can be read, not yet known to be small -/
structure RawPh (w : World) (lo hi : Nat) (q : Sl (Sl ByteArray)) : Prop where
  rd : Rd w lo hi 1 phC q.A q.l
  hhi : hi ≤ w.heap.size
  len : q.l.length ≤ maxLen
  each : ∀ p ∈ q.l, SqSt w lo hi p
  cap : q.l.length ≤ q.c ∧ q.c ≤ maxLen
theorem RawPh.up {w w' : World} {lo hi : Nat} {g : Sl (Sl ByteArray)} (h : RawPh w lo hi g) (u : Up w w') : RawPh w' lo hi g := ⟨h.rd.up u h.hhi, Nat.le_trans h.hhi u.size, h.len, fun p hp => (h.each p hp).up u, h.cap⟩
def SmPh (q : Sl (Sl ByteArray)) : Prop := q.l.length ≤ 2000000 ∧ ∀ p ∈ q.l, p.l.length ≤ 2000000
theorem RawPh.sr {w : World} {lo hi : Nat} {q : Sl (Sl ByteArray)} (h : RawPh w lo hi q) (k : SmPh q) : SrPh w lo hi q := ⟨h.rd, h.hhi, k.1, fun p hp => (h.each p hp).sr (k.2 p hp), h.cap⟩
/-- formulas that can be read, not yet known to be small -/
structure RawF (w : World) (lo hi : Nat) (g : Sl Fm) : Prop where
  rd : RdF w lo hi g.A g.l
  hhi : hi ≤ w.heap.size
  len : g.l.length ≤ maxLen
  ok : ∀ x ∈ g.l, x.ok
  cap : g.l.length ≤ g.c ∧ g.c ≤ maxLen
theorem RawF.up {w w' : World} {lo hi : Nat} {g : Sl Fm} (h : RawF w lo hi g) (u : Up w w') : RawF w' lo hi g := ⟨h.rd.up u h.hhi, Nat.le_trans h.hhi u.size, h.len, h.ok, h.cap⟩
def SmFm (g : Sl Fm) : Prop := g.l.length ≤ 2000000 ∧ ∀ x ∈ g.l, x.ws.length ≤ 2000000
theorem RawF.sr {w : World} {lo hi : Nat} {g : Sl Fm} (h : RawF w lo hi g) (k : SmFm g) : SrF w lo hi g := ⟨h.rd, h.hhi, k.1, h.ok, k.2, h.cap⟩

abbrev phP (q : List (Sl ByteArray)) : List (List ByteArray) := q.map fun p => p.l
/-- toFormulaS as the laws use it: formulas in fresh memory that say the same -/
theorem toForS (A : Option Addr) (l : List Fm) (c lo hi : Nat) (w : World) (hr : RdF w lo hi A l) (hhi : hi ≤ w.heap.size) (hn : l.length ≤ 2000000) (hws : ∀ x ∈ l, x.ws.length ≤ 2000000) :
    Calls Tryz.prog 21 #[.slice A l.length c] w fun e w' => ∃ A' c' L, e = .returned (.slice A' L.length c') ∧ L.length = l.length ∧ L.map Fm.p = l.map Fm.p ∧ L.length ≤ c' ∧ c' ≤ maxLen ∧ (∀ y ∈ L, y.ok') ∧ RdF w' w.heap.size w'.heap.size A' L ∧ OwnF w' w.heap.size A' L.length c' L ∧ Up w w' :=
  (toFormulaS_any A l c lo hi w hr hhi hn hws).mono fun e w' ⟨A', c', L, he, h1, h2, h3, h4, h5, h6⟩ => by
    rw [← h1] at he h3 h5
    have h7 : ∀ y ∈ L, y.ok' := by obtain ⟨g, -, -, h, -, -⟩ := h5; exact fun y hy => (h y hy).1
    exact ⟨A', c', L, he, h1, h2, h3, h4, h7, h5.rd, h5, h6⟩
/-- what holds of the formulas' words holds of formulas that say the same -/
theorem same_ws {L l : List Fm} (h : L.map Fm.p = l.map Fm.p) {q : List ByteArray → Prop} (hq : ∀ x ∈ l, q x.ws) : ∀ x ∈ L, q x.ws := fun x hx => by
  have h1 : x.p ∈ l.map Fm.p := by rw [← h]; exact List.mem_map_of_mem hx
  obtain ⟨y, hy, e⟩ := List.mem_map.1 h1
  have := hq y hy
  simp only [Fm.p, Prod.mk.injEq] at e
  rw [← e.1]; exact this
theorem same_ok {L l : List Fm} (h : L.map Fm.p = l.map Fm.p) (h' : ∀ y ∈ L, y.ok') (hq : ∀ x ∈ l, x.ok) : ∀ x ∈ L, x.ok :=
  fun x hx => ⟨same_ws (q := fun ws => ∀ s ∈ ws, s.size ≤ maxLen) h (fun y hy => (hq y hy).1) x hx, h' x hx⟩
end Go.Proofs.YtblpjjcjnaigiaaGreatDoor
