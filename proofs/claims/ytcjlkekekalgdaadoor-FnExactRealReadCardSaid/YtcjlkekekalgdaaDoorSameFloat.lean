/-
  'laws.sameFloat' of two words that are one value: it returns true.
  Conditions: the words are one value.
-/
import Derived.Test.YtcjlkekekalgdaaDoorFlo
namespace Go.Proofs.YtcjlkekekalgdaaDoor.flo
open Go.RowKit
set_option linter.unusedVariables false
set_option linter.unusedSimpArgs false

theorem same_nan (x y : Nat) (w : World) (hx : isNan x = true) (hy : isNan y = true) : Calls Tryd.prog 10 #[.float .f64 x, .float .f64 y] w fun e w' => e = .returned (.bool true) ∧ w = w' := by
  have ox := order_nan_left (y := x) hx
  have oy := order_nan_left (y := y) hy
  clear hx hy
  go_enter Tryd.func10, Tryd.ntmps10
  go_wp2
  go_ret
  exact ⟨rfl, rfl⟩

theorem same_num (x : Nat) (w : World) (hx : isNan x = false) : Calls Tryd.prog 10 #[.float .f64 x, .float .f64 x] w fun e w' => e = .returned (.bool true) ∧ w = w' := by
  have ox := order_self hx
  obtain ⟨c, hc⟩ := order_num (y := 0) hx (by decide +kernel)
  clear hx
  cases c with
  | eq =>
    obtain ⟨q, hq⟩ := one_by_zero hc
    have rq := fun (w : World) => run_float_arith (P := Tryd.prog) w .quo 22 .f64 _ _ _ hq
    clear hq
    go_enter Tryd.func10, Tryd.ntmps10
    go_wp2
    go_ret
    exact ⟨rfl, rfl⟩
  | lt =>
    go_enter Tryd.func10, Tryd.ntmps10
    go_wp2
    go_ret
    exact ⟨rfl, rfl⟩
  | gt =>
    go_enter Tryd.func10, Tryd.ntmps10
    go_wp2
    go_ret
    exact ⟨rfl, rfl⟩

theorem same_any (x y : Nat) (w : World) (h : Same x y) : Calls Tryd.prog 10 #[.float .f64 x, .float .f64 y] w fun e w' => e = .returned (.bool true) ∧ w = w' := by
  rcases h with ⟨hx, hy⟩ | rfl
  · exact same_nan x y w hx hy
  · cases hx : isNan x with
    | true => exact same_nan x x w hx hx
    | false => exact same_num x w hx
end Go.Proofs.YtcjlkekekalgdaaDoor.flo
