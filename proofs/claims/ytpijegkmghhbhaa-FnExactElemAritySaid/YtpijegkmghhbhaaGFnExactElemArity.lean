/-
  The walk of 'FnExactElemArity': it returns true, whatever the number.
  Conditions: none.
-/
import Derived.Test.YtpijegkmghhbhaaKit
import Derived.WalkLawsBesides
namespace Go.Proofs.Ytpijegkmghhbhaa.fnExactElemArity
open Go.RowKit
set_option linter.unusedVariables false
def arity (op : Int) : Int := if op < 1 then 0 else if op ≤ 2 then 1 else if op ≤ 10 then 2 else if op < 21 then 0 else if op ≤ 23 then 1 else if op = 25 then 1 else if op < 31 then 2 else if op ≤ 35 then 3 else if op ≤ 37 then 2 else 0

theorem impl_arity (op : Int) (w : World) : Calls Try.prog 17 #[.int .i64 op] w fun e w' => e = .returned (.int .i64 (arity op)) ∧ w = w' := by
  go_enter Try.func17, Try.ntmps17
  go_wp2
  all_goals
    go_ret
    refine ⟨kit.ret_int ?_, rfl⟩
    simp only [beq_iff_eq, beq_eq_false_iff_ne, ne_eq] at *
    unfold arity
    (repeat' split) <;> omega

set_option maxHeartbeats 2000000 in
theorem spec_arity (op : Int) (w : World) : Calls Try.prog 16 #[.int .i64 op] w fun e w' => e = .returned (.int .i64 (arity op)) ∧ w = w' := by
  go_enter Try.func16, Try.ntmps16
  go_wp2
  all_goals
    go_ret
    refine ⟨kit.ret_int ?_, rfl⟩
    simp only [beq_iff_eq, beq_eq_false_iff_ne, ne_eq] at *
    unfold arity
    (repeat' split) <;> omega

theorem walkI (op : Int) (W : World) : Calls Try.prog 6 #[.int .i64 op] W fun e w' => e = .returned (.bool true) ∧ Below W.heap.size W w' := by
  go_enter Try.func6, Try.ntmps6
  go_wp2_with fail
  refine (spec_arity _ _).mono ?_
  rintro e w' ⟨rfl, rfl⟩
  go_wp2_with fail
  refine (impl_arity _ _).mono ?_
  rintro e w' ⟨rfl, rfl⟩
  go_wp2
  go_ret
  exact ⟨rfl, Below.refl _ _⟩

theorem walk (W : World) (base : Nat) (v0 : Value) (o0 : Value.okWide Try.prog W .any base 3 v0) :
    Calls Try.prog 6 #[v0] W fun e w' => e = .returned (.bool true) ∧ Below W.heap.size W w' := by
  obtain ⟨op, rfl, _, _⟩ := kit.ok_int Try.underlying3 o0
  exact walkI op W
end Go.Proofs.Ytpijegkmghhbhaa.fnExactElemArity
