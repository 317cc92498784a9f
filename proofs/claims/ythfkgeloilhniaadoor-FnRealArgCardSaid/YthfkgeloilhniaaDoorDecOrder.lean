/-
  Two decimals, and the floats that they become: the order is kept.
  Conditions: none.
-/
import Derived.Test.YthfkgeloilhniaaDoorRealArg
import Derived.Test.YthfkgeloilhniaaDoorFlQuo
namespace Go.Proofs.YthfkgeloilhniaaDoor.flo
open Go Go.RowKit Go.Proofs.YthfkgeloilhniaaDoor.dev Go.Proofs.YthfkgeloilhniaaDoor.fl
set_option linter.unusedVariables false
set_option linter.unusedSimpArgs false
set_option maxRecDepth 20000

/-- A decimal in millionths. -/
def wr (n : Int) (q : Nat) : Int := n * ten (6 - q)
theorem ten_nat (k : Nat) : ten k = ((10 ^ k : Nat) : Int) := by unfold ten; push_cast; rfl
theorem ten_abs (k : Nat) : (ten k).natAbs = 10 ^ k := by rw [ten_nat]; rfl
theorem wr_abs (n : Int) (q : Nat) : n.natAbs * 10 ^ (6 - q) = (wr n q).natAbs := by rw [wr, Int.natAbs_mul, ten_abs]
theorem ten_six {q : Nat} (h : q ≤ 6) : 10 ^ q * 10 ^ (6 - q) = 1000000 := by rw [← Nat.pow_add, show q + (6 - q) = 6 by omega]
theorem ten_lt {q : Nat} (h : q ≤ 6) : 0 < 10 ^ q ∧ 10 ^ q < 2 ^ 30 := by
  have := ten_le h
  rw [ten_nat] at this
  omega
theorem wr_lt {n : Int} {q : Nat} (hn : -999999999 ≤ n ∧ n ≤ 999999999) (hq : 1 ≤ q ∧ q ≤ 6) : (wr n q).natAbs < 2 ^ 47 := by
  have h : 6 - q = 0 ∨ 6 - q = 1 ∨ 6 - q = 2 ∨ 6 - q = 3 ∨ 6 - q = 4 ∨ 6 - q = 5 := by omega
  rw [← wr_abs]
  rcases h with h | h | h | h | h | h <;> rw [h] <;> omega
theorem wr_inj {n m : Int} {p q : Nat} (hp : 1 ≤ p ∧ p ≤ 6) (hq : 1 ≤ q ∧ q ≤ 6) (cp : p = 1 ∨ n.tmod 10 ≠ 0) (cq : q = 1 ∨ m.tmod 10 ≠ 0) (h : wr n p = wr m q) : n = m ∧ p = q := by
  have t0 : ten 0 = 1 := rfl
  have t1 : ten 1 = 10 := rfl
  have t2 : ten 2 = 100 := rfl
  have t3 : ten 3 = 1000 := rfl
  have t4 : ten 4 = 10000 := rfl
  have t5 : ten 5 = 100000 := rfl
  have d1 : n.tmod 10 ≠ 0 → ¬ (10 : Int) ∣ n := fun a b => a (Int.tmod_eq_zero_of_dvd b)
  have d2 : m.tmod 10 ≠ 0 → ¬ (10 : Int) ∣ m := fun a b => a (Int.tmod_eq_zero_of_dvd b)
  have cp2 : p = 1 ∨ ¬ (10 : Int) ∣ n := cp.imp id d1
  have cq2 : q = 1 ∨ ¬ (10 : Int) ∣ m := cq.imp id d2
  clear cp cq d1 d2
  unfold wr at h
  have hp2 : p = 1 ∨ p = 2 ∨ p = 3 ∨ p = 4 ∨ p = 5 ∨ p = 6 := by omega
  have hq2 : q = 1 ∨ q = 2 ∨ q = 3 ∨ q = 4 ∨ q = 5 ∨ q = 6 := by omega
  rcases hp2 with rfl | rfl | rfl | rfl | rfl | rfl <;> rcases hq2 with rfl | rfl | rfl | rfl | rfl | rfl <;> simp only [Nat.reduceSub, t0, t1, t2, t3, t4, t5] at h <;> omega

theorem compare_eq_of_eq {a b : Int} (h : a = b) : compare a b = .eq := by simp [compare, compareOfLessAndEq, h]
theorem compare_lt_of_lt {a b : Int} (h : a < b) : compare a b = .lt := by simp [compare, compareOfLessAndEq, h]
theorem compare_gt_of_gt {a b : Int} (h : b < a) : compare a b = .gt := by
  have h1 : ¬ a < b := by omega
  have h2 : a ≠ b := by omega
  simp [compare, compareOfLessAndEq, h1, h2]
/-- What is known of the float of a decimal. -/
def Near (n : Int) (q x : Nat) : Prop := ∃ v : Nat, mag x < INF ∧ sv x = (if n < 0 then -(v : Int) else v) ∧ 2251799813685248 * (v * 10 ^ q) ≤ 2251799813685249 * (n.natAbs * ONE) ∧ 2251799813685247 * (n.natAbs * ONE) ≤ 2251799813685248 * (v * 10 ^ q)
theorem near_of {n : Int} {q x : Nat} (hn : -999999999 ≤ n ∧ n ≤ 999999999) (hq : 1 ≤ q ∧ q ≤ 6) (hd : dok 12 n q = true) (hx : Arg 12 n q x) :
    floatBits .quo .f64 (floatOfInt .f64 n) (floatOfInt .f64 (ten q)) = some x ∧ Near n q x := by
  obtain ⟨a, b⟩ := ten_lt hq.2
  obtain ⟨x', v, h1, h2, h3, h4, h5⟩ := quo_val n (10 ^ q) (by omega) a b
  rw [← ten_nat] at h1
  have e : x = x' := by
    rw [Arg, if_pos hd, if_pos rfl, Int.toNat_natCast] at hx
    unfold Res at hx
    rw [h1] at hx
    exact hx
  subst e
  exact ⟨h1, v, h2, h3, h4, h5⟩
theorem pos_of {v D N : Nat} (h0 : 0 < N) (h : 2251799813685247 * (N * ONE) ≤ 2251799813685248 * (v * D)) : 0 < v := by
  rcases Nat.eq_zero_or_pos v with e | e
  · subst e
    have := Nat.mul_pos h0 ONE_pos
    rw [Nat.zero_mul] at h
    omega
  · exact e
theorem sv_less {n m : Int} {p q x y : Nat} (hn : -999999999 ≤ n ∧ n ≤ 999999999) (hm : -999999999 ≤ m ∧ m ≤ 999999999) (hp : 1 ≤ p ∧ p ≤ 6) (hq : 1 ≤ q ∧ q ≤ 6) (hx : Near n p x) (hy : Near m q y) (h : wr n p < wr m q) : sv x < sv y := by
  obtain ⟨v, _, h3, h4, h5⟩ := hx
  obtain ⟨u, _, k3, k4, k5⟩ := hy
  rw [h3, k3]
  have tp := ten_le (k := 6 - p) (by omega)
  have tq := ten_le (k := 6 - q) (by omega)
  have s1 : n < 0 → wr n p < 0 := fun a => Int.mul_neg_of_neg_of_pos a (by omega)
  have s2 : ¬ n < 0 → 0 ≤ wr n p := fun a => Int.mul_nonneg (by omega) (by omega)
  have s3 : m < 0 → wr m q < 0 := fun a => Int.mul_neg_of_neg_of_pos a (by omega)
  have s4 : ¬ m < 0 → 0 ≤ wr m q := fun a => Int.mul_nonneg (by omega) (by omega)
  have w1 := wr_lt hn hp
  have w2 := wr_lt hm hq
  by_cases a : n < 0
  · rw [if_pos a]
    by_cases b : m < 0
    · rw [if_pos b]
      have := near_lt u v (10 ^ q) (10 ^ p) _ _ (10 ^ (6 - q)) (10 ^ (6 - p)) m.natAbs n.natAbs ONE (wr_abs m q) (wr_abs n p) (ten_six hq.2) (ten_six hp.2) (by have := s1 a; have := s3 b; omega) w2 ONE_pos k4 h5
      omega
    · rw [if_neg b]
      have := pos_of (by omega) h5
      omega
  · rw [if_neg a]
    by_cases b : m < 0
    · have := s2 a; have := s3 b; omega
    · rw [if_neg b]
      have := near_lt v u (10 ^ p) (10 ^ q) _ _ (10 ^ (6 - p)) (10 ^ (6 - q)) n.natAbs m.natAbs ONE (wr_abs n p) (wr_abs m q) (ten_six hp.2) (ten_six hq.2) (by have := s2 a; have := s4 b; omega) w1 ONE_pos h4 k5
      omega
theorem dec_order {n m : Int} {p q x y : Nat} (hdn : dok 12 n p = true) (hdm : dok 12 m q = true) (hx : Arg 12 n p x) (hy : Arg 12 m q y) : FloatKind.f64.format.order x y = some (compare (wr n p) (wr m q)) := by
  have hn := hdn
  have hm := hdm
  rw [dok12, decide_eq_true_iff] at hn hm
  obtain ⟨n1, n2, n3, n4, n5⟩ := hn
  obtain ⟨m1, m2, m3, m4, m5⟩ := hm
  have hp : 1 ≤ p ∧ p ≤ 6 := by omega
  have hq : 1 ≤ q ∧ q ≤ 6 := by omega
  obtain ⟨bx, X⟩ := near_of ⟨n1, n2⟩ hp hdn hx
  obtain ⟨by_, Y⟩ := near_of ⟨m1, m2⟩ hq hdm hy
  obtain ⟨v, X1, _⟩ := id X
  obtain ⟨u, Y1, _⟩ := id Y
  show Ieee.double.order x y = _
  rw [order_fin X1 Y1]
  congr 1
  by_cases e : wr n p = wr m q
  · obtain ⟨rfl, rfl⟩ := wr_inj hp hq (n5.imp (by omega) id) (m5.imp (by omega) id) e
    have : x = y := Option.some.inj (bx.symm.trans by_)
    subst this
    rw [compare_eq_of_eq rfl, compare_eq_of_eq rfl]
  · by_cases l : wr n p < wr m q
    · have := sv_less ⟨n1, n2⟩ ⟨m1, m2⟩ hp hq X Y l
      rw [compare_lt_of_lt l, compare_lt_of_lt this]
    · have l2 : wr m q < wr n p := by omega
      have := sv_less ⟨m1, m2⟩ ⟨n1, n2⟩ hq hp Y X l2
      rw [compare_gt_of_gt l2, compare_gt_of_gt this]
end Go.Proofs.YthfkgeloilhniaaDoor.flo
