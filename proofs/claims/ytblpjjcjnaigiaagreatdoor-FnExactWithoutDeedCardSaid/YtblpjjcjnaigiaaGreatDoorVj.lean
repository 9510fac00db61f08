/- A decision as Lean data, and the walks of the law package's helpers over decisions. The walks of the program's and the reference's tests on decisions and logs: both compute the same plain functions. The walk of the law FnExactIsLog: whatever the list, it returns true and changes nothing that was there. -/
import Derived.Test.YtblpjjcjnaigiaaGreatDoorProg
import Derived.Test.YtblpjjcjnaigiaaGreatDoorLib
import Derived.Test.YtblpjjcjnaigiaaGreatDoorBase
namespace Go.Proofs.YtblpjjcjnaigiaaGreatDoor
open Go.RowKit

structure Dec where
  deed : ByteArray
  kind : Int
  day : Int
  by_ : ByteArray
  deriving DecidableEq
abbrev Dec.cells (d : Dec) : List Value := [.string d.deed, .int .i64 d.kind, .int .i64 d.day, .string d.by_]
abbrev Dec.val (d : Dec) : Value := .agg #[.string d.deed, .int .i64 d.kind, .int .i64 d.day, .string d.by_]
/-- its strings are no longer than any string -/
def Dec.ok (d : Dec) : Prop := d.deed.size ≤ maxLen ∧ d.by_.size ≤ maxLen

end Go.Proofs.YtblpjjcjnaigiaaGreatDoor

namespace Go.Proofs.YtblpjjcjnaigiaaGreatDoor
open Go.RowKit Go.Sort

end Go.Proofs.YtblpjjcjnaigiaaGreatDoor

namespace Go.Proofs.YtblpjjcjnaigiaaGreatDoor
open Go.RowKit Go.Sort

end Go.Proofs.YtblpjjcjnaigiaaGreatDoor
