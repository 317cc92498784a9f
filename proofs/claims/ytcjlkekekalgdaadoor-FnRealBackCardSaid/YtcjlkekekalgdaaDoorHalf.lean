/-
  A whole number as a float; a float halved, where the half is a value; a float doubled past the greatest.
  Conditions: named at each.
-/
import Derived.Test.YtcjlkekekalgdaaDoorPlainS
namespace Go.Proofs.YtcjlkekekalgdaaDoor.txt
open Ieee Go Go.Proofs.YtcjlkekekalgdaaDoor.fl
set_option linter.unusedVariables false
set_option linter.unusedSimpArgs false

theorem int_nat (n : Nat) (hn : n < 2 ^ 53) : ∃ r, r < INF ∧ floatOfInt .f64 (n : Int) = r ∧ V r = n * ONE ∧ (0 < n → 2 ^ 52 ≤ r) ∧ (n = 0 → r = 0) := by
  obtain ⟨r, hr, hv⟩ := rep n K74 hn (by unfold K74; omega)
  refine ⟨r, hr, ?_, hv, fun h => ?_, fun h => ?_⟩
  · show double.nearest (decide ((n : Int) < 0)) (n : Int).natAbs 0 = _
    rw [decide_eq_false (by omega), Int.natAbs_natCast, nearest_exact false n 0 r hr ?_]
    · exact word_small r
    rw [hv, show ((0 : Int) + 1074).toNat = K74 from rfl, show ((-1074 : Int) - 0).toNat = 0 from rfl, Nat.pow_zero, Nat.mul_one]
  · apply Nat.le_of_not_lt
    intro hlt
    have e : V r = r := by unfold V; rw [if_pos hlt]
    have h2 : 2 ^ 52 ≤ ONE := Nat.pow_le_pow_right (by decide) (by unfold K74; omega)
    have h3 : ONE ≤ n * ONE := Nat.le_mul_of_pos_left _ h
    have h4 : n * ONE = r := by rw [← e, hv]; rfl
    omega
  · rw [h, Nat.zero_mul] at hv
    apply Nat.eq_zero_of_not_pos
    intro hp
    have := V_pos hp
    omega
theorem halfG {r s : Nat} (h0 : 0 < r) (h : r < INF) (hs : s < INF) (hv : V r = 2 * V s) : floatBits .quo .f64 r 4611686018427387904 = some s := by
  obtain ⟨hm1, hn1⟩ := small_mag (Nat.le_of_lt h)
  obtain ⟨m, e, e1, e2, e3, e4⟩ := read_fin (x := r) (by rw [hm1]; exact h)
  rw [hn1] at e1
  rw [hm1] at e3
  have hm : 0 < m := by
    apply Nat.pos_of_ne_zero
    intro z
    subst z
    have := V_pos h0
    rw [Nat.zero_mul] at e3
    omega
  have hl : m.log2 ≤ 52 := by
    have := Nat.log2_lt (n := m) (k := 53) (by omega)
    have := this.2 e4
    omega
  show ((double.read r).quotient (double.fractionBits + 2) (double.read 4611686018427387904)).map double.write = _
  rw [e1, two_read, frac_eq]
  have l2 : (2 ^ 52).log2 = 52 := Nat.log2_two_pow
  simp only [Datum.quotient]
  rw [if_neg (by decide), l2]
  simp only [Option.map_some, Format.write, shl]
  obtain ⟨l, hlv⟩ : ∃ l, m.log2 = l := ⟨_, rfl⟩
  rw [hlv] at hl ⊢
  rw [show 52 + 2 + 52 - l = 52 + (54 - l) by omega]
  have q1 : m * 2 ^ (52 + (54 - l)) / 2 ^ 52 = m * 2 ^ (54 - l) := by
    rw [Nat.pow_add, Nat.mul_left_comm, Nat.mul_div_cancel_left _ (Nat.two_pow_pos 52)]
  have q2 : m * 2 ^ (52 + (54 - l)) % 2 ^ 52 = 0 := by
    rw [Nat.pow_add, Nat.mul_left_comm, Nat.mul_mod_right]
  rw [q1, q2]
  have q3 : 2 * (m * 2 ^ (54 - l)) + (0 != 0 : Bool).toNat = m * 2 ^ (55 - l) := by
    rw [show 55 - l = (54 - l) + 1 by omega, Nat.pow_succ]
    simp
    rw [Nat.mul_comm 2, Nat.mul_assoc]
  rw [q3, Bool.false_xor, nearest_exact false _ _ s hs ?_]
  · rw [word_small]
  rw [show (e - -51 - ((52 + (54 - l) : Nat) : Int) - 1 + 1074).toNat = (e + 1074 - (56 - l : Nat)).toNat by omega, show (-1074 - (e - -51 - ((52 + (54 - l) : Nat) : Int) - 1)).toNat = (((56 - l : Nat) : Int) - (e + 1074)).toNat by omega]
  obtain ⟨E, hE⟩ : ∃ E, (e + 1074).toNat = E := ⟨_, rfl⟩
  rw [show e + 1074 = (E : Int) by omega]
  rw [hE, hv] at e3
  by_cases hc : 56 - l ≤ E
  · rw [show ((E : Int) - ((56 - l : Nat) : Int)).toNat = E - (56 - l) by omega, show (((56 - l : Nat) : Int) - (E : Int)).toNat = 0 by omega, Nat.pow_zero, Nat.mul_one, Nat.mul_assoc, ← Nat.pow_add, show 55 - l + (E - (56 - l)) = E - 1 by omega]
    apply Nat.eq_of_mul_eq_mul_left (show 0 < 2 by decide)
    rw [← e3, Nat.mul_left_comm, ← Nat.pow_succ', show (E - 1).succ = E by omega]
  · rw [show ((E : Int) - ((56 - l : Nat) : Int)).toNat = 0 by omega, show (((56 - l : Nat) : Int) - (E : Int)).toNat = 56 - l - E by omega, Nat.pow_zero, Nat.mul_one]
    apply Nat.eq_of_mul_eq_mul_right (Nat.two_pow_pos E)
    rw [Nat.mul_right_comm, e3, Nat.mul_assoc (V s), ← Nat.pow_add, show 56 - l - E + E = (55 - l) + 1 by omega, Nat.pow_succ, Nat.mul_comm (2 ^ (55 - l)) 2, ← Nat.mul_assoc, Nat.mul_comm (V s) 2]
theorem dbl_inf : floatBits .mul .f64 INF 4611686018427387904 = some INF := by decide +kernel
theorem dbl_over {r : Nat} (h : r < INF) (h2 : INF ≤ r + 2 ^ 52) : floatBits .mul .f64 r 4611686018427387904 = some INF := by
  have hI : INF = 2047 * 2 ^ 52 := rfl
  show ((double.read r).product (double.read 4611686018427387904)).map double.write = _
  rw [read_big h (by omega), two_read, show r / 2 ^ 52 - 1 = 2045 by omega]
  obtain ⟨m, hm⟩ : ∃ m, 2 ^ 52 + r % 2 ^ 52 = m := ⟨_, rfl⟩
  have hm2 : 2 ^ 52 ≤ m ∧ m < 2 ^ 53 := by omega
  rw [hm]
  simp only [Datum.product, Option.map_some, Format.write, Bool.false_xor]
  have lm : m.log2 = 52 := (Nat.log2_eq_iff (by omega)).2 hm2
  have ll : (m * 2 ^ 52).log2 = 104 := by rw [log2_shift (by omega), lm]
  unfold Format.nearest
  rw [if_neg (by have := Nat.mul_pos (show 0 < m by omega) (Nat.two_pow_pos 52); omega), ll, frac_eq, least_eq, binade_eq, inf_eq]
  have hlast : max ((-1074 + ((2045 : Nat) : Int)) + -51 + ((104 : Nat) : Int) - ((52 : Nat) : Int)) (-1074) = 972 := by decide
  simp only [hlast]
  rw [show ((-1074 + ((2045 : Nat) : Int)) + -51 - 972).toNat = 0 by decide, show ((972 : Int) - ((-1074 + ((2045 : Nat) : Int)) + -51)).toNat = 52 by decide, Nat.shiftLeft_zero, cut_exact, Nat.min_eq_right (by rw [hI, show ((972 : Int) - -1074).toNat = 2046 by decide]; omega)]
  exact congrArg some (word_small INF)
end Go.Proofs.YtcjlkekekalgdaaDoor.txt
