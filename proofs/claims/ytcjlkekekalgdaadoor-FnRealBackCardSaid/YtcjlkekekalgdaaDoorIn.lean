/-
  'impl.in': what it returns.
  Conditions: none.
-/
import Derived.Test.YtcjlkekekalgdaaDoorKit
import Derived.WalkLawsBesides
namespace Go.Proofs.YtcjlkekekalgdaaDoor.dev
open Go.RowKit
set_option linter.unusedVariables false
def inB (n lo hi : Int) : Bool := decide (lo ≤ n ∧ n ≤ hi)
theorem inB_true {n lo hi : Int} (h : lo ≤ n ∧ n ≤ hi) : inB n lo hi = true := decide_eq_true h
theorem inB_false {n lo hi : Int} (h : ¬ (lo ≤ n ∧ n ≤ hi)) : inB n lo hi = false := decide_eq_false h
theorem in_any (n lo hi : Int) (w : World) : Calls Tryd.prog 31 #[.int .i64 n, .int .i64 lo, .int .i64 hi] w fun e w' => e = .returned (.bool (inB n lo hi)) ∧ w = w' := by
  go_enter Tryd.func31, Tryd.ntmps31
  go_wp2
  · go_ret
    refine ⟨kit.ret_bool ?_, rfl⟩
    unfold inB
    rw [decide_eq_decide]
    omega
  · go_ret
    exact ⟨kit.ret_bool (inB_false (by omega)).symm, rfl⟩

end Go.Proofs.YtcjlkekekalgdaaDoor.dev
