/-
  Floats in a walk: what the operations give where they are valid; a NaN where they are not; two words that are one value.
  Conditions: none.
-/
import Derived.Test.YtcjlkekekalgdaaDoorKit
import Derived.Test.YtcjlkekekalgdaaDoorFl
import Derived.WalkLawsBesides
import Derived.Laws.FloatArith
namespace Go.Proofs.YtcjlkekekalgdaaDoor.flo
open Go.RowKit
set_option linter.unusedVariables false
set_option linter.unusedSimpArgs false

/-- A word that is no number. -/
def isNan (x : Nat) : Bool := (Ieee.double.read x).isNaN

/-- The word that the model draws for an operation without an answer. -/
def nanAt (x y : Nat) (w : World) : Nat := (Question.nanBits .f64 x y).cut (w.tape w.drawn (.nanBits .f64 x y))

theorem read_nan {x : Nat} (h : fl.INF < x % 2 ^ 63) : isNan x = true := by
  have h1 : ¬ x % 2 ^ 63 < 2 ^ 52 := by unfold fl.INF at h; omega
  have h2 : ¬ x % 2 ^ 63 < fl.INF := by omega
  have h3 : ¬ x % 2 ^ 63 = fl.INF := by omega
  unfold isNan
  rw [fl.read_eq, if_neg h1, if_neg h2, if_neg h3]
  rfl

theorem nanAt_nan (x y : Nat) (w : World) : isNan (nanAt x y w) = true := by
  apply read_nan
  have key : ∀ a u : Nat, u < 2 ^ 52 - 1 → fl.INF < (a * 2 ^ 63 + (0x7ff0000000000000 + 1 + u)) % 2 ^ 63 := by
    intro a u hu
    rw [Nat.mul_add_mod_self_right]
    unfold fl.INF
    omega
  have e := key (w.tape w.drawn (Question.nanBits .f64 x y) % 2) ((w.tape w.drawn (Question.nanBits .f64 x y) / 2) % (2 ^ 52 - 1)) (Nat.mod_lt _ (by decide))
  unfold nanAt Question.cut
  simp only [Nat.add_assoc] at e ⊢
  exact e

theorem run_nan {P : Program} (op : BinOp) (t : TypeId) (x y : Nat) (hop : op = .add ∨ op = .sub ∨ op = .mul ∨ op = .quo) (h : floatBits op .f64 x y = none) (w : World) :
    (binOp op t (.float .f64 x) (.float .f64 y)).run P w = .ok (.float .f64 (nanAt x y w)) w.drew := by
  unfold floatBits at h
  rcases hop with rfl | rfl | rfl | rfl
  all_goals
    simp only at h
    simp [binOp, Op.floatArith, h, nanAt, Question.forced]

theorem order_nan_left {x y : Nat} (h : isNan x = true) : FloatKind.f64.format.order x y = none := by
  unfold isNan at h
  show (Ieee.double.read x).order (Ieee.double.read y) = none
  revert h
  cases Ieee.double.read x <;> simp [Ieee.Datum.isNaN, Ieee.Datum.order]
theorem order_nan_right {x y : Nat} (h : isNan y = true) : FloatKind.f64.format.order x y = none := by
  unfold isNan at h
  show (Ieee.double.read x).order (Ieee.double.read y) = none
  revert h
  cases Ieee.double.read y <;> cases Ieee.double.read x <;> simp [Ieee.Datum.isNaN, Ieee.Datum.order]

theorem order_self {x : Nat} (h : isNan x = false) : FloatKind.f64.format.order x x = some .eq := by
  unfold isNan at h
  show (Ieee.double.read x).order (Ieee.double.read x) = some .eq
  revert h
  cases Ieee.double.read x <;> simp [Ieee.Datum.isNaN, Ieee.Datum.order]

theorem order_num {x y : Nat} (hx : isNan x = false) (hy : isNan y = false) : ∃ c, FloatKind.f64.format.order x y = some c := by
  unfold isNan at hx hy
  show ∃ c, (Ieee.double.read x).order (Ieee.double.read y) = some c
  revert hx hy
  cases Ieee.double.read y <;> cases Ieee.double.read x <;> simp [Ieee.Datum.isNaN, Ieee.Datum.order]

/-- 1 by a zero is an infinity. -/
theorem one_by_zero {x : Nat} (h : FloatKind.f64.format.order x 0 = some .eq) : ∃ q, floatBits .quo .f64 4607182418800017408 x = some q := by
  have h0 : Ieee.double.read 0 = .number false 0 (-1074) := by decide +kernel
  have h1 : Ieee.double.read 4607182418800017408 = .number false 4503599627370496 (-52) := by decide +kernel
  change (Ieee.double.read x).order (Ieee.double.read 0) = some .eq at h
  show ∃ q, ((Ieee.double.read 4607182418800017408).quotient (Ieee.double.fractionBits + 2) (Ieee.double.read x)).map Ieee.double.write = some q
  rw [h0] at h
  rw [h1]
  revert h
  cases Ieee.double.read x with
  | nan _ _ => simp [Ieee.Datum.order]
  | infinity s => cases s <;> simp [Ieee.Datum.order]
  | number s m i =>
    intro h
    simp only [Ieee.Datum.order, Option.some.injEq] at h
    have hm : m = 0 := by
      have h2 := Std.compare_eq_iff_eq.1 h
      unfold Ieee.signed at h2
      simp only [fl.shl, Nat.zero_mul] at h2
      have hp : (2 : Int) ^ (i - min i (-1074)).toNat > 0 := Int.pow_pos (by decide)
      revert h2
      cases s <;> simp
      all_goals
        intro h2
        rcases Int.mul_eq_zero.1 h2 with e | e
        · omega
        · omega
    subst hm
    simp [Ieee.Datum.quotient]

/-- Two words that are one value: both no number, or the same word. -/
def Same (x y : Nat) : Prop := (isNan x = true ∧ isNan y = true) ∨ x = y
theorem Same.refl (x : Nat) : Same x x := .inr rfl
end Go.Proofs.YtcjlkekekalgdaaDoor.flo
