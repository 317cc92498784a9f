/-
  The walk of 'FnExactCmpFlip': it returns true, whatever the test.
  Conditions: the listed variable holds its numbers.
-/
import Derived.Test.YtpijegkmghhbhaaDoorCmp
namespace Go.Proofs.YtpijegkmghhbhaaDoor.fnExactCmpFlip
open Go.RowKit
set_option linter.unusedVariables false
theorem walk (W : World) (base : Nat) (v0 : Value) (o0 : Value.okWide Tryd.prog W .any base 3 v0) (hL : laidMetH Tryd.prog Rows.fnExactCmpFlipRow.laid W) :
    Calls Tryd.prog 4 #[v0] W fun e w' => e = .returned (.bool true) ∧ Below W.heap.size W w' := by
  obtain ⟨k, rfl, _, _⟩ := kit.ok_int Tryd.underlying3 o0
  have hs : cmp.Seven 1 cmp.flips W := kit.laid_ints (zs := cmp.flips) (k := .i64) (n := "loop.example/stile/impl.cmpFlips") hL (by kernel_rfl) (List.Mem.head _) (by kernel_rfl) (by kernel_rfl) Tryd.underlying27 Tryd.underlying3 (by kernel_rfl) (by decide)
  clear o0 hL
  go_enter Tryd.func4, Tryd.ntmps4
  go_wp2_with fail
  refine (cmp.spec_flip _ _).mono ?_
  rintro e w1 ⟨rfl, h1⟩
  have hs1 : cmp.Seven 1 cmp.flips w1 := cmp.seven_below hs h1
  go_wp2_with fail
  refine (cmp.impl_flip _ _ hs1).mono ?_
  rintro e w' ⟨rfl, rfl⟩
  go_wp2_with fail
  go_ret
  exact ⟨rfl, h1⟩
end Go.Proofs.YtpijegkmghhbhaaDoor.fnExactCmpFlip
