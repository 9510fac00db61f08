/- placesWith, differ, differences and the codes of copies and indices. -/
import Derived.Test.YtncmenfdnpmblaaDoorAre
import Derived.StillTailTactics
import Derived.Test.YtncmenfdnpmblaaDoorPl
namespace Go.Proofs.YtncmenfdnpmblaaDoor
open Go.RowKit Go.Sort

def dfI (x y : Int) : Bool := (x != 0 && y != 0) && x != y
theorem differ_any (x y : Int) (w : World) :
    Calls Tryd.prog 97 #[.int .i64 x, .int .i64 y] w fun e w' => e = .returned (.bool (dfI x y)) ∧ Up w w' := by
  by_cases h1 : x = 0
  · have h1' : (x != 0) = false := by simpa using h1
    have H := Lib.hid h1
    clear h1
    go_enter Tryd.func97, Tryd.ntmps97
    go_wp2
    go_ret
    exact ⟨ret_bool (by simp [dfI, H.out]), Up.refl _⟩
  · have h1' : (x != 0) = true := by simpa using h1
    by_cases h2 : y = 0
    · have h2' : (y != 0) = false := by simpa using h2
      have H2 := Lib.hid h2
      clear h2 h1
      go_enter Tryd.func97, Tryd.ntmps97
      go_wp2
      go_ret
      exact ⟨ret_bool (by simp [dfI, H2.out]), Up.refl _⟩
    · have h2' : (y != 0) = true := by simpa using h2
      clear h2 h1
      go_enter Tryd.func97, Tryd.ntmps97
      go_wp2
      go_ret
      exact ⟨ret_bool (by simp [dfI, h1', h2']), Up.refl _⟩
def dfB (a b : List Int) (j : Nat) : Bool := match a[j]?, b[j]? with | some x, some y => dfI x y | _, _ => false
theorem dfB_of {a b : List Int} {j : Nat} {x y : Int} (hx : a[j]? = some x) (hy : b[j]? = some y) : dfB a b j = dfI x y := by simp [dfB, hx, hy]
end Go.Proofs.YtncmenfdnpmblaaDoor
