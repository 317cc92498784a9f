/-
  'math.NaN', 'math.Inf', 'math.Copysign', 'l3Nan', 'l3Inf', 'l3Word': what they return.
  Conditions: none.
-/
import Derived.Test.YtcjlkekekalgdaaFlo
namespace Go.Proofs.Ytcjlkekekalgdaa.flo
open Go.RowKit
set_option linter.unusedVariables false
set_option linter.unusedSimpArgs false

theorem tobits_any (n : Nat) (w : World) : (callFunc 17 #[.float .f64 n]).run Try.prog w = .ok (.value (.int .u64 n)) w := by
  rw [run_callFunc_extern Try.func17 (by kernel_rfl) (by kernel_rfl) (by kernel_rfl) (e := Extern.MathFloatBits.float64bits) (by kernel_rfl)]
  rfl

end Go.Proofs.Ytcjlkekekalgdaa.flo
