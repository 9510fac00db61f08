/- The walk of the law FnExactIsLog: whatever the list, it returns true and changes nothing that was there. -/
import Derived.Test.YtngananoidplmaaGreatDoorLog
namespace Go.Proofs.YtngananoidplmaaGreatDoor
open Go.RowKit Go.Sort

theorem dec_len (d : Dec) : d.cells.length = 4 := rfl
theorem szDL_len {l : List Dec} {left : Int} (h : ¬ szDL l left < 0) : (l.length : Int) ≤ left := by
  unfold szDL at h
  split at h
  · exact absurd (by omega) h
  · omega

end Go.Proofs.YtngananoidplmaaGreatDoor
