/-
  'l3Nan' and 'l3Inf': what they return.
  Conditions: none.
-/
import Derived.Test.YtcjlkekekalgdaaDoorFlo
namespace Go.Proofs.YtcjlkekekalgdaaDoor.flo
open Go.RowKit
set_option linter.unusedVariables false
set_option linter.unusedSimpArgs false

/-- The call returns a word of which P holds; what was there stays. -/
def Flt (P : Nat → Prop) (w : World) (e : Ending) (w' : World) : Prop := ∃ x, e = .returned (.float .f64 x) ∧ P x ∧ Below w.heap.size w w'
theorem below_drew (w : World) : Below w.heap.size w w.drew := (Below.refl _ _).drew
theorem l3Nan_any (w : World) : Calls Tryd.prog 22 #[] w (Flt (fun x => isNan x = true) w) := by
  have h0 : floatBits .quo .f64 0 0 = none := by decide +kernel
  have rq := run_nan (P := Tryd.prog) .quo 22 0 0 (by decide) h0
  clear h0
  go_enter Tryd.func22, Tryd.ntmps22
  go_wp2
  go_ret
  exact ⟨_, rfl, nanAt_nan _ _ _, below_drew w⟩
theorem l3Inf_any (w : World) : Calls Tryd.prog 23 #[] w fun e w' => e = .returned (.float .f64 9218868437227405312) ∧ w = w' := by
  have h0 : floatBits .quo .f64 4607182418800017408 0 = some 9218868437227405312 := by decide +kernel
  have rq := fun (w : World) => run_float_arith (P := Tryd.prog) w .quo 22 .f64 _ _ _ h0
  clear h0
  go_enter Tryd.func23, Tryd.ntmps23
  go_wp2
  go_ret
  exact ⟨rfl, rfl⟩
theorem run_neg (x : Nat) (w : World) : (Op.unary .neg (.float .f64 x)).run Tryd.prog w = .ok (.float .f64 (Op.negFloat .f64 x)) w := rfl
end Go.Proofs.YtcjlkekekalgdaaDoor.flo
