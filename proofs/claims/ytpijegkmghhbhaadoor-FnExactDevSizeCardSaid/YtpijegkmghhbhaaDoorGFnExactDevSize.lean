/-
  The walk of 'FnExactDevSize': it returns true, whatever the kind.
  Conditions: the listed variable holds its numbers.
-/
import Derived.Test.YtpijegkmghhbhaaDoorDevSize
namespace Go.Proofs.YtpijegkmghhbhaaDoor.fnExactDevSize
open Go.RowKit
set_option linter.unusedVariables false
theorem walk (W : World) (base : Nat) (v0 : Value) (o0 : Value.okWide Tryd.prog W .any base 3 v0) (hL : laidMetH Tryd.prog Rows.fnExactDevSizeRow.laid W) :
    Calls Tryd.prog 7 #[v0] W fun e w' => e = .returned (.bool true) ∧ Below W.heap.size W w' := by
  obtain ⟨k, rfl, _, _⟩ := kit.ok_int Tryd.underlying3 o0
  have hs : dev.Sizes W := kit.laid_ints (zs := dev.sizes) (k := .i64) (n := "loop.example/stile/impl.devSizes") hL (by kernel_rfl) (List.Mem.head _) (by kernel_rfl) (by kernel_rfl) Tryd.underlying27 Tryd.underlying3 (by kernel_rfl) (by decide)
  clear o0 hL
  go_enter Tryd.func7, Tryd.ntmps7
  go_wp2_with fail
  refine (dev.spec_size _ _).mono ?_
  rintro e w' ⟨rfl, rfl⟩
  go_wp2_with fail
  refine (dev.impl_size _ _ hs).mono ?_
  rintro e w' ⟨rfl, rfl⟩
  go_wp2_with fail
  go_ret
  exact ⟨rfl, Below.refl _ _⟩
end Go.Proofs.YtpijegkmghhbhaaDoor.fnExactDevSize
