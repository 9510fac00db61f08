/- What the laws over copies and integers want beside their callees' contracts. -/
import Derived.Test.YtcmhgjldkgnblaaDoorCopLaw
namespace Go.Proofs.YtcmhgjldkgnblaaDoor
open Go.RowKit Go.Sort

abbrev okI (z : Int) : Prop := (Lit.int .i64 z).wf = true
theorem toIntS (A : Option Addr) (l : List Int) (c lo hi : Nat) (w : World) (hr : RdI w lo hi A l) (hhi : hi ≤ w.heap.size) (hn : l.length ≤ 2000000) :
    Calls Tryd.prog 16 #[.slice A l.length c] w fun e w' => ∃ A' c', e = .returned (.slice A' l.length c') ∧ l.length ≤ c' ∧ c' ≤ maxLen ∧ RdI w' w.heap.size w'.heap.size A' l ∧ w'.ownsRow w.heap.size 2 1 (.slice A' l.length c') l.length (l.flatMap intCells) ∧ Up w w' :=
  (toInt64S_any A l c lo hi w hr hhi hn).mono fun e w' ⟨v, he, hown, hup⟩ => by
    obtain ⟨A', c', rfl, h1, h2, -, -⟩ := own_form hown
    exact ⟨A', c', he, h1, h2, Rd.own int_len hown, hown, hup⟩
end Go.Proofs.YtcmhgjldkgnblaaDoor
