/-
  The walk of FnWrap, for the row: the printed walk over the plain law.
  Conditions: none.
-/
import Derived.Test.YtfppeppngodjjaaBytes
import Derived.Test.YtfppeppngodjjaaPureFnWrap
namespace Go.Proofs.Ytfppeppngodjjaa.fnWrap
open Go.RowKit

theorem walk (W : World) (base : Nat) (v0 : Value) (_ : Value.okWide Try.prog W .any base 30 v0) (b0 : kit.Bytes W v0) :
    Calls Try.prog 5 #[v0] W fun e w' => e = .returned (.bool true) ∧ Below W.heap.size W w' := by
  obtain ⟨a, len, cap, zs, rfl, h, y⟩ := b0
  exact PFnWrap.laws_FnWrap.walk Pure.FnWrap a len cap zs W h y

end Go.Proofs.Ytfppeppngodjjaa.fnWrap
