/- What the laws over words and formulas use: sizes and copies of lists of words, worlds and all. -/
import Derived.Test.YtcmhgjldkgnblaaGreatDoorFormS
namespace Go.Proofs.YtcmhgjldkgnblaaGreatDoor
open Go.RowKit Go.Sort

theorem szStrU (A : Option Addr) (l : List ByteArray) (c lo hi : Nat) (left : Int) (w : World) (hr : RdT w lo hi A l) (_hhi : hi ≤ w.heap.size) (hsz : ∀ x ∈ l, x.size ≤ maxLen) (h0 : 0 ≤ left) (hl : left ≤ 2000000) (hn : l.length ≤ maxLen) :
    Calls Tryz.prog 5 #[.slice A l.length c, .int .i64 left] w fun e w' => e = .returned (.int .i64 (szSL l left)) ∧ Up w w' :=
  (szStringS_any A l c lo hi left w hr hsz hn h0 hl).mono fun e w' ⟨h, h2⟩ => ⟨h, by rw [← h2]; exact Up.refl _⟩
theorem toStrU (A : Option Addr) (l : List ByteArray) (c lo hi : Nat) (w : World) (hr : RdT w lo hi A l) (hhi : hi ≤ w.heap.size) (hn : l.length ≤ 2000000) :
    Calls Tryz.prog 7 #[.slice A l.length c] w fun e w' => ∃ A' c', e = .returned (.slice A' l.length c') ∧ l.length ≤ c' ∧ c' ≤ maxLen ∧ RdT w' w.heap.size w'.heap.size A' l ∧ w'.ownsRow w.heap.size 9 1 (.slice A' l.length c') l.length (l.flatMap strC) ∧ Up w w' :=
  (toStringS_any A l c lo hi w hr hhi hn).mono fun e w' ⟨v, h, ho, hu⟩ => by
    obtain ⟨A', c', rfl, h1, h2, -, -⟩ := own_form ho
    exact ⟨A', c', h, h1, h2, Rd.own strC_len ho, ho, hu⟩
end Go.Proofs.YtcmhgjldkgnblaaGreatDoor
