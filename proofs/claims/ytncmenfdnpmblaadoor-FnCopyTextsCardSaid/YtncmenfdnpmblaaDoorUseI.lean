/- UselessCopies: the program's walk (turned out of the reference side). -/
import Derived.Test.YtncmenfdnpmblaaDoorUse
namespace Go.Proofs.YtncmenfdnpmblaaDoor
open Go.RowKit Go.Sort

theorem uc_len (o : List Int) (P : List PC) : (ucL o P).length ≤ P.length := by
  unfold ucL
  split
  · exact pl_len _ _
  · simp
end Go.Proofs.YtncmenfdnpmblaaDoor
