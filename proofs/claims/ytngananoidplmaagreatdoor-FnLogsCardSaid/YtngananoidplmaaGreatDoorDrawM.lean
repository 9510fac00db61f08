/- Drawn logs with a deed, a name or a decision. -/
import Derived.Test.YtngananoidplmaaGreatDoorDrawL
namespace Go.Proofs.YtngananoidplmaaGreatDoor
open Go.RowKit Go.Sort

def OwnL (w w' : World) (v : Value) (l : List Dec) : Prop := w'.ownsRow w.heap.size 43 4 v l.length (l.flatMap Dec.cells) ∧ (∀ d ∈ l, Shd d) ∧ l.length ≤ 100

/-- three names in a row -/
def Nm3 (W : World) (b : Nat) : Prop := W.cell? ⟨b, 0, none⟩ = some (.string ⟨#[97, 110, 110]⟩) ∧ W.cell? ⟨b, 1, none⟩ = some (.string ⟨#[98, 111, 98]⟩) ∧ W.cell? ⟨b, 2, none⟩ = some (.string ⟨#[99, 97, 114, 108]⟩)
theorem Nm3.new (W : World) : Nm3 (W.alloc (.cells #[.string ⟨#[97, 110, 110]⟩, .string ⟨#[98, 111, 98]⟩, .string ⟨#[99, 97, 114, 108]⟩] 9)) W.heap.size := ⟨by go_simp, by go_simp, by go_simp⟩
theorem Nm3.mk {W W' : World} {b g : Nat} (h : Nm3 W b) (m : Mk g (g + 1) W W') (hb : g < b) : Nm3 W' b := ⟨m.cell h.1 (.inr hb), m.cell h.2.1 (.inr hb), m.cell h.2.2 (.inr hb)⟩
theorem Nm3.get {W : World} {b : Nat} (h : Nm3 W b) {z : Nat} (hz : z < 3) : ∃ s : ByteArray, W.cell? ⟨b, z, none⟩ = some (.string s) ∧ s.size ≤ 5 := by
  have h3 : z = 0 ∨ z = 1 ∨ z = 2 := by omega
  rcases h3 with rfl | rfl | rfl
  · exact ⟨_, h.1, by decide⟩
  · exact ⟨_, h.2.1, by decide⟩
  · exact ⟨_, h.2.2, by decide⟩

end Go.Proofs.YtngananoidplmaaGreatDoor
