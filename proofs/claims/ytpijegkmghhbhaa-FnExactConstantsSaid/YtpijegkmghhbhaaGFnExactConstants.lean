/-
  The walk of 'FnExactConstants': it returns true.
  Conditions: none.
-/
import Derived.Test.YtpijegkmghhbhaaKit
namespace Go.Proofs.Ytpijegkmghhbhaa.fnExactConstants
open Go.RowKit
set_option linter.unusedVariables false
set_option maxRecDepth 100000 in
set_option maxHeartbeats 1000000 in
theorem walk (W : World) (base : Nat) : Calls Try.prog 3 #[] W fun e w' => e = .returned (.bool true) ∧ Below W.heap.size W w' := by
  go_enter Try.func3, Try.ntmps3
  go_wp2
  go_ret
  exact ⟨rfl, Below.refl _ _⟩
end Go.Proofs.Ytpijegkmghhbhaa.fnExactConstants
