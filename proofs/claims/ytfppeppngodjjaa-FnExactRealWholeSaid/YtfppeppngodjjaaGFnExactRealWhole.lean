/-
  The walk of 'FnExactRealWhole': it returns true, whatever the number.
  Conditions: none.
-/
import Derived.Test.YtfppeppngodjjaaRealWhole
namespace Go.Proofs.Ytfppeppngodjjaa.fnExactRealWhole
open Go.RowKit Go.Proofs.Ytfppeppngodjjaa.flo
set_option linter.unusedVariables false
theorem walk (W : World) (base : Nat) (v0 : Value) (o0 : Value.okWide Try.prog W .any base 22 v0) :
    Calls Try.prog 4 #[v0] W fun e w' => e = .returned (.bool true) ∧ Below W.heap.size W w' := by
  obtain ⟨x, rfl, _⟩ := kit.ok_float Try.underlying22 o0
  clear o0
  go_enter Try.func4, Try.ntmps4
  go_wp2_with fail
  refine (spec_whole _ _).mono ?_
  rintro e w1 ⟨rfl, rfl⟩
  go_wp2_with fail
  refine (impl_whole _ _).mono ?_
  rintro e w2 ⟨rfl, h2⟩
  go_wp2_with fail
  go_ret
  exact ⟨rfl, h2⟩
end Go.Proofs.Ytfppeppngodjjaa.fnExactRealWhole
