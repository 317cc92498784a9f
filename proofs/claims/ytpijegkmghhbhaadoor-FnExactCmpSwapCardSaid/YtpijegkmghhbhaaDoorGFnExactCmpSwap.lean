/-
  The walk of 'FnExactCmpSwap': it returns true, whatever the test.
  Conditions: the listed variable holds its numbers.
-/
import Derived.Test.YtpijegkmghhbhaaDoorCmp
namespace Go.Proofs.YtpijegkmghhbhaaDoor.fnExactCmpSwap
open Go.RowKit
set_option linter.unusedVariables false
theorem walk (W : World) (base : Nat) (v0 : Value) (o0 : Value.okWide Tryd.prog W .any base 3 v0) (hL : laidMetH Tryd.prog Rows.fnExactCmpSwapRow.laid W) :
    Calls Tryd.prog 6 #[v0] W fun e w' => e = .returned (.bool true) ∧ Below W.heap.size W w' := by
  obtain ⟨k, rfl, _, _⟩ := kit.ok_int Tryd.underlying3 o0
  have hs : cmp.Seven 3 cmp.swaps W := kit.laid_ints (zs := cmp.swaps) (k := .i64) (n := "loop.example/stile/impl.cmpSwaps") hL (by kernel_rfl) (List.Mem.head _) (by kernel_rfl) (by kernel_rfl) Tryd.underlying27 Tryd.underlying3 (by kernel_rfl) (by decide)
  clear o0 hL
  go_enter Tryd.func6, Tryd.ntmps6
  go_wp2_with fail
  refine (cmp.spec_swap _ _).mono ?_
  rintro e w1 ⟨rfl, rfl⟩
  go_wp2_with fail
  refine (cmp.impl_swap _ _ hs).mono ?_
  rintro e w' ⟨rfl, rfl⟩
  go_wp2_with fail
  go_ret
  exact ⟨rfl, Below.refl _ _⟩
end Go.Proofs.YtpijegkmghhbhaaDoor.fnExactCmpSwap
