/- The errors of a copy: the program's and the reference's walks. -/
import Derived.Test.YtncmenfdnpmblaaDoorDiff
import Derived.Test.YtncmenfdnpmblaaDoorOrig
namespace Go.Proofs.YtncmenfdnpmblaaDoor
open Go.RowKit Go.Sort

end Go.Proofs.YtncmenfdnpmblaaDoor
