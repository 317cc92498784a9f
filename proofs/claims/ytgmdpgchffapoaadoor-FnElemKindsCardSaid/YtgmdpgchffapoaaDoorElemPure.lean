/-
  An operand as it is printed, and as three numbers.
  Conditions: none.
-/
import Derived.Test.YtgmdpgchffapoaaDoorElemC
import Derived.Test.YtgmdpgchffapoaaDoorCutEkx1
namespace Go.Proofs.YtgmdpgchffapoaaDoor.dev
open Go Go.RowKit Go.Proofs.YtgmdpgchffapoaaDoor.CutEk
set_option linter.unusedVariables false
set_option linter.unusedSimpArgs false

def tr (x : S31) : Tri := (x.f0, x.f1, x.f2)
theorem rd0 (x : S31) (l : List S31) : rd_T31 (x :: l) 0 = x := rfl
theorem rd1 (x y : S31) (l : List S31) : rd_T31 (x :: y :: l) 1 = y := rfl
end Go.Proofs.YtgmdpgchffapoaaDoor.dev
