/- StateOf and DayOf: the program's and the reference's walks, and the walks of both laws. -/
import Derived.Test.YtngananoidplmaaGreatDoorIsLog
namespace Go.Proofs.YtngananoidplmaaGreatDoor
open Go.RowKit Go.Sort

def stA (l : List Dec) (s : ByteArray) : Int := if logB l = true then stateOf l s else 0
def stE (l : List Dec) : Int := if logB l = true then 0 else 1
theorem st_yes {l : List Dec} (h : logB l = true) (s : ByteArray) : stA l s = stateOf l s ∧ stE l = 0 := by simp [stA, stE, h]
theorem st_no {l : List Dec} (h : logB l = false) (s : ByteArray) : stA l s = 0 ∧ stE l = 1 := by simp [stA, stE, h]
theorem ret_int2 {k k' : IntKind} {a b a' b' : Int} (h : a = b) (h' : a' = b') : Ending.returned (.tuple #[.int k a, .int k' a']) = .returned (.tuple #[.int k b, .int k' b']) := by rw [h, h']

end Go.Proofs.YtngananoidplmaaGreatDoor
