/-
  The walk of 'FnExactRealCalc': it returns true, whatever the calculation and the two numbers.
  Conditions: none.
-/
import Derived.Test.YtfppeppngodjjaaRealCalc
namespace Go.Proofs.Ytfppeppngodjjaa.fnExactRealCalc
open Go.RowKit Go.Proofs.Ytfppeppngodjjaa.flo
set_option linter.unusedVariables false
theorem walk (W : World) (base : Nat) (v0 v1 v2 : Value) (o0 : Value.okWide Try.prog W .any base 3 v0) (o1 : Value.okWide Try.prog W .any base 22 v1) (o2 : Value.okWide Try.prog W .any base 22 v2) :
    Calls Try.prog 3 #[v0, v1, v2] W fun e w' => e = .returned (.bool true) ∧ Below W.heap.size W w' := by
  obtain ⟨op, rfl, _, _⟩ := kit.ok_int Try.underlying3 o0
  obtain ⟨a, rfl, _⟩ := kit.ok_float Try.underlying22 o1
  obtain ⟨b, rfl, _⟩ := kit.ok_float Try.underlying22 o2
  clear o0 o1 o2
  go_enter Try.func3, Try.ntmps3
  go_wp2_with fail
  refine (spec_rcalc _ _ _ _).mono ?_
  rintro e w1 ⟨x, rfl, hx, h1⟩
  have Hx := Lib.hid hx
  clear hx
  go_wp2_with fail
  refine (impl_rcalc _ _ _ _).mono ?_
  rintro e w2 ⟨y, rfl, hy, h2⟩
  have Hy := Lib.hid hy
  clear hy
  go_wp2_with fail
  refine (same_any _ _ _ (Hx.out.same Hy.out)).mono ?_
  rintro e w3 ⟨rfl, rfl⟩
  go_wp2_with fail
  go_ret
  exact ⟨rfl, h1.trans (h2.mono h1.size)⟩
end Go.Proofs.Ytfppeppngodjjaa.fnExactRealCalc
