/-
  Halves and doubles of a float above 0; its order beside another; how far a power of two goes.
  No program stands here.
-/
import Derived.Test.YtcjlkekekalgdaaDoorTxt
namespace Go.Proofs.YtcjlkekekalgdaaDoor.txt
open Go Ieee Go.Proofs.YtcjlkekekalgdaaDoor.fl Go.Proofs.YtcjlkekekalgdaaDoor.flo Go.Lib
set_option linter.unusedVariables false
set_option linter.unusedSimpArgs false
set_option maxRecDepth 20000

theorem small_mag {r : Nat} (h : r ≤ INF) : mag r = r ∧ neg r = false := by
  unfold mag neg
  unfold INF at h
  have a : r / 2 ^ 63 % 2 = 0 := by omega
  exact ⟨by omega, by rw [a]; rfl⟩
theorem word_small (r : Nat) : double.word false r = r := rfl
theorem scale_exact (s : Bool) (m a b : Nat) (p : Int) (r : Nat) (hr : r < INF) (hV : V r = m * 2 ^ b) (h : (a : Int) + p + 1074 = b) : double.nearest s (m * 2 ^ a) p = double.word s r := by
  refine nearest_exact s _ p r hr ?_
  rw [hV, Nat.mul_assoc, Nat.mul_assoc, ← Nat.pow_add, ← Nat.pow_add]
  congr 2
  omega
theorem two_read : double.read 4611686018427387904 = .number false (2 ^ 52) (-51) := by decide +kernel
theorem read_big {r : Nat} (h : r < INF) (h1 : 2 ^ 52 ≤ r) : double.read r = .number false (2 ^ 52 + r % 2 ^ 52) (-1074 + ((r / 2 ^ 52 - 1 : Nat) : Int)) := by
  have hm : r % 2 ^ 63 = r := (small_mag (Nat.le_of_lt h)).1
  have hn : (r / 2 ^ 63 % 2 == 1) = false := (small_mag (Nat.le_of_lt h)).2
  rw [read_eq, hm, hn, if_neg (by omega), if_pos h]
theorem read_sub {r : Nat} (h : r < 2 ^ 52) : double.read r = .number false r (-1074) := by
  have hm : r % 2 ^ 63 = r := by omega
  have hn : (r / 2 ^ 63 % 2 == 1) = false := by
    have : r / 2 ^ 63 % 2 = 0 := by omega
    rw [this]; rfl
  rw [read_eq, hm, hn, if_pos h]
theorem half {r : Nat} (h : r < INF) (h1 : 2 * 2 ^ 52 ≤ r) : floatBits .quo .f64 r 4611686018427387904 = some (r - 2 ^ 52) := by
  show ((double.read r).quotient (double.fractionBits + 2) (double.read 4611686018427387904)).map double.write = _
  rw [read_big h (by omega), two_read, frac_eq]
  have hm : 2 ^ 52 ≤ 2 ^ 52 + r % 2 ^ 52 ∧ 2 ^ 52 + r % 2 ^ 52 < 2 ^ 53 := by omega
  have lm : (2 ^ 52 + r % 2 ^ 52).log2 = 52 := (Nat.log2_eq_iff (by omega)).2 hm
  have l2 : (2 ^ 52).log2 = 52 := Nat.log2_two_pow
  simp only [Datum.quotient]
  rw [if_neg (by decide), lm, l2]
  simp only [Option.map_some, Format.write, shl]
  rw [show 52 + 2 + 52 - 52 = 54 from rfl]
  obtain ⟨m, hmm⟩ : ∃ m, 2 ^ 52 + r % 2 ^ 52 = m := ⟨_, rfl⟩
  rw [hmm]
  have e1 : m * 2 ^ 54 / 2 ^ 52 = m * 4 := by
    rw [show m * 2 ^ 54 = m * 4 * 2 ^ 52 by omega, Nat.mul_div_cancel _ (by decide)]
  have e2 : m * 2 ^ 54 % 2 ^ 52 = 0 := by omega
  rw [e1, e2]
  have e3 : 2 * (m * 4) + (0 != 0 : Bool).toNat = m * 2 ^ 3 := by simp; omega
  rw [e3]
  have hV : V (r - 2 ^ 52) = m * 2 ^ (r / 2 ^ 52 - 2) := by
    unfold V
    rw [if_neg (by omega), ← hmm, show (r - 2 ^ 52) % 2 ^ 52 = r % 2 ^ 52 by omega, show (r - 2 ^ 52) / 2 ^ 52 - 1 = r / 2 ^ 52 - 2 by omega]
  rw [scale_exact _ m 3 (r / 2 ^ 52 - 2) _ (r - 2 ^ 52) (by omega) hV (by omega), Bool.false_xor, word_small]
/-- The rung of the double. -/
def dblR (r : Nat) : Nat := if r < 2 ^ 52 then 2 * r else r + 2 ^ 52
theorem dbl_V {r : Nat} (h0 : 0 < r) : V (dblR r) = 2 * V r := by
  unfold dblR
  split
  · rename_i h
    by_cases h2 : 2 * r < 2 ^ 52
    · unfold V; rw [if_pos h2, if_pos h]
    · unfold V
      rw [if_neg h2, if_pos h, show 2 * r / 2 ^ 52 - 1 = 0 by omega, Nat.pow_zero, Nat.mul_one]
      omega
  · rename_i h
    have e : 2 ^ ((r + 2 ^ 52) / 2 ^ 52 - 1) = 2 ^ (r / 2 ^ 52 - 1) * 2 := by
      rw [show 2 ^ (r / 2 ^ 52 - 1) * 2 = 2 ^ (r / 2 ^ 52 - 1) * 2 ^ 1 from rfl, ← Nat.pow_add, show r / 2 ^ 52 - 1 + 1 = (r + 2 ^ 52) / 2 ^ 52 - 1 by omega]
    unfold V
    rw [if_neg (by omega), if_neg h, e, show (r + 2 ^ 52) % 2 ^ 52 = r % 2 ^ 52 by omega]
    generalize 2 ^ (r / 2 ^ 52 - 1) = z
    rw [← Nat.mul_assoc, Nat.mul_comm]
theorem dbl {r : Nat} (h0 : 0 < r) (h : r + 2 ^ 52 < INF) : floatBits .mul .f64 r 4611686018427387904 = some (dblR r) := by
  show ((double.read r).product (double.read 4611686018427387904)).map double.write = _
  have hlt : dblR r < INF := by unfold dblR; unfold INF at *; split <;> omega
  have hV := dbl_V h0
  by_cases hb : r < 2 ^ 52
  · rw [read_sub hb, two_read]
    simp only [Datum.product, Option.map_some, Format.write]
    have : V r = r := by unfold V; rw [if_pos hb]
    rw [scale_exact _ r 52 1 _ (dblR r) hlt (by rw [hV, this]; omega) (by omega), Bool.false_xor, word_small]
  · rw [read_big (by omega) (by omega), two_read]
    simp only [Datum.product, Option.map_some, Format.write]
    have : V (dblR r) = (2 ^ 52 + r % 2 ^ 52) * 2 ^ (r / 2 ^ 52) := by
      have e : dblR r = r + 2 ^ 52 := by unfold dblR; rw [if_neg hb]
      rw [e]
      unfold V
      rw [if_neg (by omega), show (r + 2 ^ 52) % 2 ^ 52 = r % 2 ^ 52 by omega, show (r + 2 ^ 52) / 2 ^ 52 - 1 = r / 2 ^ 52 by omega]
    rw [scale_exact _ (2 ^ 52 + r % 2 ^ 52) 52 (r / 2 ^ 52) _ (dblR r) hlt this (by omega), Bool.false_xor, word_small]
theorem order_pos {r s : Nat} (hr : r < INF) (hs : s < INF) : FloatKind.f64.format.order r s = some (compare (r : Int) (s : Int)) := by
  obtain ⟨m1, n1⟩ := small_mag (Nat.le_of_lt hr)
  obtain ⟨m2, n2⟩ := small_mag (Nat.le_of_lt hs)
  show double.order r s = _
  rw [order_fin (by rw [m1]; exact hr) (by rw [m2]; exact hs)]
  congr 1
  unfold sv
  rw [n1, n2, m1, m2]
  exact V_cmp r s
theorem order_inf {s : Nat} (hs : s < INF) : FloatKind.f64.format.order INF s = some .gt := by
  show (double.read INF).order (double.read s) = _
  obtain ⟨m, e, h, _⟩ := read_fin (x := s) (by rw [(small_mag (Nat.le_of_lt hs)).1]; exact hs)
  rw [h, show double.read INF = .infinity false by decide +kernel]
  rfl
theorem cmp_lt {a b : Int} (h : a < b) : compare a b = .lt := by simp [compare, compareOfLessAndEq, h]
theorem cmp_gt {a b : Int} (h : b < a) : compare a b = .gt := by
  have h1 : ¬ a < b := by omega
  have h2 : a ≠ b := by omega
  simp [compare, compareOfLessAndEq, h1, h2]
theorem cmp_eq (a : Int) : compare a a = .eq := by simp [compare, compareOfLessAndEq]
theorem ord_lt {r s : Nat} (hs : s < INF) (h : r < s) : FloatKind.f64.format.order r s = some .lt := by
  rw [order_pos (Nat.lt_trans h hs) hs, cmp_lt (by omega)]
theorem ord_ge {r s : Nat} (hr : r < INF) (hs : s < INF) (h : s ≤ r) : FloatKind.f64.format.order r s = some .gt ∨ FloatKind.f64.format.order r s = some .eq := by
  rw [order_pos hr hs]
  rcases Nat.eq_or_lt_of_le h with e | e
  · subst e; right; rw [cmp_eq]
  · left; rw [cmp_gt (by omega)]

/-! ### powers kept behind a name -/
def KK : Nat := 2000
def K98 : Nat := 53 + 2045
theorem K98_eq : K98 = 2098 := rfl
theorem mul_lt_pow {v a b c : Nat} (hc : c = a + b) (h : v < 2 ^ a * 2 ^ b) : v < 2 ^ c := by
  subst hc
  rw [Nat.pow_add]
  exact h
theorem V_bd {r : Nat} (h : r < INF) : V r < 2 ^ K98 := mul_lt_pow (a := 53) (b := 2045) rfl (V_lt h)
/-- A value is at least 1 and at most 2^b: how far the exponent may go down. -/
theorem exp_low {v N E b : Nat} (hv : v < 2 ^ b) (h0 : 0 < N) (h : v * 2 ^ E = N * 2 ^ KK) : KK < E + b := by
  rcases Nat.lt_or_ge KK (E + b) with l | l
  · exact l
  · exfalso
    have a : v * 2 ^ E < 2 ^ b * 2 ^ E := Nat.mul_lt_mul_of_pos_right hv (Nat.two_pow_pos E)
    rw [← Nat.pow_add, h] at a
    have c : 2 ^ (b + E) ≤ 2 ^ KK := Nat.pow_le_pow_right (by omega) (by omega)
    have d : 2 ^ KK ≤ N * 2 ^ KK := Nat.le_mul_of_pos_left _ h0
    omega
theorem exp_high {v N E b : Nat} (hN : N < 2 ^ b) (h0 : 0 < v) (h : v * 2 ^ E = N * 2 ^ KK) : E < KK + b := by
  rcases Nat.lt_or_ge E (KK + b) with l | l
  · exact l
  · exfalso
    have a : N * 2 ^ KK < 2 ^ b * 2 ^ KK := Nat.mul_lt_mul_of_pos_right hN (Nat.two_pow_pos KK)
    rw [← Nat.pow_add, ← h] at a
    have c : 2 ^ (b + KK) ≤ 2 ^ E := Nat.pow_le_pow_right (by omega) (by omega)
    have d : 2 ^ E ≤ v * 2 ^ E := Nat.le_mul_of_pos_left _ h0
    omega
theorem odd_of {n E N : Nat} (hn : n % 2 = 1) (h : n * 2 ^ E = N * 2 ^ KK) : KK ≤ E ∧ Odd n (E - KK) N := by
  rcases Nat.lt_or_ge E KK with l | l
  · exfalso
    have e : n = N * 2 ^ (KK - E) := by
      apply Nat.eq_of_mul_eq_mul_right (Nat.two_pow_pos E)
      rw [h, Nat.mul_assoc, ← Nat.pow_add, show KK - E + E = KK by omega]
    have e2 : 2 ^ (KK - E) = 2 ^ (KK - E - 1) * 2 := by
      rw [show 2 ^ (KK - E - 1) * 2 = 2 ^ (KK - E - 1) * 2 ^ 1 from rfl, ← Nat.pow_add, show KK - E - 1 + 1 = KK - E by omega]
    rw [e2, ← Nat.mul_assoc] at e
    omega
  · refine ⟨l, hn, ?_⟩
    apply Nat.eq_of_mul_eq_mul_right (Nat.two_pow_pos KK)
    rw [← h, Nat.mul_assoc, ← Nat.pow_add, show E - KK + KK = E by omega]
theorem pow_up (v E : Nat) : 2 * v * 2 ^ E = v * 2 ^ (E + 1) := by
  rw [Nat.pow_add, Nat.pow_one]
  generalize 2 ^ E = z
  rw [Nat.mul_comm z 2, ← Nat.mul_assoc, Nat.mul_comm v 2]
end Go.Proofs.YtcjlkekekalgdaaDoor.txt
