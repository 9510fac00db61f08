/- markText: the law package's text of a number. -/
import Derived.Test.YtncmenfdnpmblaaDoorProg
import Derived.Test.YtncmenfdnpmblaaDoorLib
namespace Go.Proofs.YtncmenfdnpmblaaDoor
open Go.RowKit Go.Sort

/-- the decimal digits of a number above 0 -/
def digs : Nat → Nat → List UInt8
  | 0, _ => []
  | f + 1, n => if n = 0 then [] else digs f (n / 10) ++ [48 + UInt8.ofNat (n % 10)]
def mtext (k : Int) : ByteArray := ⟨(109 :: digs 20 k.toNat).toArray⟩

end Go.Proofs.YtncmenfdnpmblaaDoor
