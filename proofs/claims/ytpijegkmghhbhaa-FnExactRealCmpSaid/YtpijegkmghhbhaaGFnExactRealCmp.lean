/-
  The walk of 'FnExactRealCmp': it returns true, whatever the test and the two numbers.
  Conditions: none.
-/
import Derived.Test.YtpijegkmghhbhaaKit
import Derived.WalkLawsBesides
namespace Go.Proofs.Ytpijegkmghhbhaa.fnExactRealCmp
open Go.RowKit
set_option linter.unusedVariables false
theorem walkI (op : Int) (a b : Nat) (W : World) : Calls Try.prog 7 #[.int .i64 op, .float .f64 a, .float .f64 b] W fun e w' => e = .returned (.bool true) ∧ Below W.heap.size W w' := by
  by_cases h1 : op = 1
  · subst h1
    go_enter Try.func7, Try.ntmps7
    go_wp2
    go_ret
    exact ⟨rfl, Below.refl _ _⟩
  by_cases h2 : op = 2
  · subst h2
    go_enter Try.func7, Try.ntmps7
    go_wp2
    go_ret
    exact ⟨rfl, Below.refl _ _⟩
  by_cases h3 : op = 3
  · subst h3
    go_enter Try.func7, Try.ntmps7
    go_wp2
    go_ret
    exact ⟨rfl, Below.refl _ _⟩
  by_cases h4 : op = 4
  · subst h4
    go_enter Try.func7, Try.ntmps7
    go_wp2
    go_ret
    exact ⟨rfl, Below.refl _ _⟩
  by_cases h5 : op = 5
  · subst h5
    go_enter Try.func7, Try.ntmps7
    go_wp2
    go_ret
    exact ⟨rfl, Below.refl _ _⟩
  by_cases h6 : op = 6
  · subst h6
    go_enter Try.func7, Try.ntmps7
    go_wp2
    go_ret
    exact ⟨rfl, Below.refl _ _⟩
  have b1 : (op == 1) = false := beq_eq_false_iff_ne.2 h1
  have b2 : (op == 2) = false := beq_eq_false_iff_ne.2 h2
  have b3 : (op == 3) = false := beq_eq_false_iff_ne.2 h3
  have b4 : (op == 4) = false := beq_eq_false_iff_ne.2 h4
  have b5 : (op == 5) = false := beq_eq_false_iff_ne.2 h5
  have b6 : (op == 6) = false := beq_eq_false_iff_ne.2 h6
  clear h1 h2 h3 h4 h5 h6
  go_enter Try.func7, Try.ntmps7
  go_wp2
  go_ret
  exact ⟨rfl, Below.refl _ _⟩

theorem walk (W : World) (base : Nat) (v0 v1 v2 : Value) (o0 : Value.okWide Try.prog W .any base 3 v0) (o1 : Value.okWide Try.prog W .any base 38 v1) (o2 : Value.okWide Try.prog W .any base 38 v2) :
    Calls Try.prog 7 #[v0, v1, v2] W fun e w' => e = .returned (.bool true) ∧ Below W.heap.size W w' := by
  obtain ⟨op, rfl, _, _⟩ := kit.ok_int Try.underlying3 o0
  obtain ⟨a, rfl, _⟩ := kit.ok_float Try.underlying38 o1
  obtain ⟨b, rfl, _⟩ := kit.ok_float Try.underlying38 o2
  exact walkI op a b W
end Go.Proofs.Ytpijegkmghhbhaa.fnExactRealCmp
