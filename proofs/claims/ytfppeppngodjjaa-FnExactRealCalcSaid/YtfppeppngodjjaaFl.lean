/-
  Plain facts on the double format: a word's value in units of 2^-1074, what 'nearest' gives of a value that the format has, the order of two numbers.
  No program stands here.
-/
import Ieee.Arith
namespace Go.Proofs.Ytfppeppngodjjaa.fl
open Ieee

/-- The value of a rung, in units of 2^-1074. -/
def V (r : Nat) : Nat := if r < 2 ^ 52 then r else (2 ^ 52 + r % 2 ^ 52) * 2 ^ (r / 2 ^ 52 - 1)
def INF : Nat := 2047 * 2 ^ 52

theorem binade_eq : double.binade = 2 ^ 52 := rfl
theorem inf_eq : double.infRung = INF := rfl
theorem sign_eq : double.signWeight = 2 ^ 63 := rfl
theorem least_eq : double.leastPlace = -1074 := rfl
theorem frac_eq : double.fractionBits = 52 := rfl

theorem read_eq (x : Nat) : double.read x =
    if x % 2 ^ 63 < 2 ^ 52 then .number (x / 2 ^ 63 % 2 == 1) (x % 2 ^ 63) (-1074)
    else if x % 2 ^ 63 < INF then .number (x / 2 ^ 63 % 2 == 1) (2 ^ 52 + x % 2 ^ 63 % 2 ^ 52) (-1074 + ((x % 2 ^ 63 / 2 ^ 52 - 1 : Nat) : Int))
    else if x % 2 ^ 63 = INF then .infinity (x / 2 ^ 63 % 2 == 1)
    else .nan (x / 2 ^ 63 % 2 == 1) (x % 2 ^ 63 - INF) := rfl

theorem shl (n k : Nat) : n <<< k = n * 2 ^ k := Nat.shiftLeft_eq n k

theorem cut_exact (neg : Bool) (c drop : Nat) : Toward.even.cut neg (c * 2 ^ drop) drop = c := by
  have hpos : 0 < 2 ^ drop := Nat.two_pow_pos drop
  rcases Nat.eq_zero_or_pos c with h | h
  · subst h
    simp only [Nat.zero_mul, Toward.cut, shl, Nat.zero_mod, Nat.zero_div]
    simp
  · have hl : drop ≤ (c * 2 ^ drop).log2 := by
      rw [Nat.le_log2 (by have := Nat.mul_pos h hpos; omega)]
      exact Nat.le_mul_of_pos_left _ h
    simp only [Toward.cut, shl]
    rw [Nat.min_eq_left (by omega)]
    simp only [Nat.one_mul, Nat.mul_mod_left, Nat.mul_div_cancel _ hpos]
    have : (2 ^ drop == 0) = false := by simp
    simp [this]

theorem log2_shift {m k : Nat} (h : 0 < m) : (m * 2 ^ k).log2 = m.log2 + k := by
  rw [Nat.log2_eq_iff (by have := Nat.mul_pos h (Nat.two_pow_pos k); omega)]
  have h1 := (Nat.le_log2 (n := m) (k := m.log2) (by omega)).1 (Nat.le_refl _)
  have h2 := (Nat.log2_lt (n := m) (k := m.log2 + 1) (by omega)).1 (by omega)
  constructor
  · rw [Nat.pow_add]; exact Nat.mul_le_mul_right _ h1
  · rw [show m.log2 + k + 1 = (m.log2 + 1) + k by omega, Nat.pow_add]; exact Nat.mul_lt_mul_of_pos_right h2 (Nat.two_pow_pos k)

theorem V_pos {r : Nat} (h : 0 < r) : 0 < V r := by
  unfold V
  split
  · exact h
  · exact Nat.mul_pos (by omega) (Nat.two_pow_pos _)

theorem V_log2_small {r : Nat} (h0 : 0 < r) (h : r < 2 ^ 52) : (V r).log2 < 52 := by
  unfold V
  rw [if_pos h]
  exact (Nat.log2_lt (by omega)).2 h

theorem V_log2_big {r : Nat} (h : ¬ r < 2 ^ 52) : (V r).log2 = 52 + (r / 2 ^ 52 - 1) := by
  unfold V
  rw [if_neg h, log2_shift (by omega)]
  congr 1
  rw [Nat.log2_eq_iff (by omega)]
  omega

/-- WHAT 'nearest' GIVES OF A VALUE THAT THE FORMAT HAS. 'mag * 2^up = V r * 2^down' with 'place = up - down - 1074'. -/
theorem nearest_exact (neg : Bool) (mag : Nat) (place : Int) (r : Nat) (hr : r < INF) (hv : mag * 2 ^ (place + 1074).toNat = V r * 2 ^ (-1074 - place).toNat) : double.nearest neg mag place = double.word neg r := by
  unfold Format.nearest
  rcases Nat.eq_zero_or_pos mag with h | h
  · subst h
    rw [if_pos rfl]
    rcases Nat.eq_zero_or_pos r with h | h
    · rw [h]
    · have := Nat.mul_pos (V_pos h) (Nat.two_pow_pos (-1074 - place).toNat)
      omega
  · rw [if_neg (by omega)]
    have hr0 : 0 < r := by
      rcases Nat.eq_zero_or_pos r with e | e
      · subst e
        have h1 := Nat.mul_pos h (Nat.two_pow_pos (place + 1074).toNat)
        have : V 0 = 0 := rfl
        rw [this] at hv
        omega
      · exact e
    have hl : mag.log2 + (place + 1074).toNat = (V r).log2 + (-1074 - place).toNat := by
      rw [← log2_shift h, ← log2_shift (V_pos hr0), hv]
    rw [frac_eq, least_eq, binade_eq, inf_eq]
    have hq : max (place + (mag.log2 : Int) - (52 : Nat)) (-1074) = (((V r).log2 - 52 : Nat) : Int) - 1074 := by omega
    rw [hq]
    generalize hL : (V r).log2 - 52 = q
    have e1 : ((q : Int) - 1074 - (-1074)).toNat = q := by omega
    simp only [e1]
    -- the digits that are kept
    have keep : ∃ c, V r = c * 2 ^ q ∧ q * 2 ^ 52 + c = r := by
      by_cases hs : r < 2 ^ 52
      · have := V_log2_small hr0 hs
        have hq0 : q = 0 := by omega
        subst hq0
        refine ⟨r, ?_, by rw [Nat.zero_mul, Nat.zero_add]⟩
        unfold V; rw [if_pos hs]; simp
      · have := V_log2_big hs
        have hq0 : q = r / 2 ^ 52 - 1 := by omega
        refine ⟨2 ^ 52 + r % 2 ^ 52, ?_, ?_⟩
        · unfold V; rw [if_neg hs, hq0]
        · rw [hq0]; omega
    obtain ⟨c, hc1, hc2⟩ := keep
    have hcut : Toward.even.cut neg (mag <<< (place - ((q : Int) - 1074)).toNat) ((q : Int) - 1074 - place).toNat = c := by
      rw [shl]
      have hx : mag * 2 ^ (place - ((q : Int) - 1074)).toNat = c * 2 ^ ((q : Int) - 1074 - place).toNat := by
        rw [hc1] at hv
        by_cases hp : 0 ≤ place + 1074
        · have e2 : (-1074 - place).toNat = 0 := by omega
          rw [e2, Nat.pow_zero, Nat.mul_one] at hv
          by_cases hp2 : (q : Int) ≤ place + 1074
          · have e3 : ((q : Int) - 1074 - place).toNat = 0 := by omega
            rw [e3, Nat.pow_zero, Nat.mul_one]
            have e4 : (place + 1074).toNat = (place - ((q : Int) - 1074)).toNat + q := by omega
            rw [e4, Nat.pow_add, ← Nat.mul_assoc] at hv
            exact Nat.eq_of_mul_eq_mul_right (Nat.two_pow_pos q) hv
          · have e3 : (place - ((q : Int) - 1074)).toNat = 0 := by omega
            rw [e3, Nat.pow_zero, Nat.mul_one]
            have e4 : q = ((q : Int) - 1074 - place).toNat + (place + 1074).toNat := by omega
            have e5 : c * 2 ^ q = c * 2 ^ ((q : Int) - 1074 - place).toNat * 2 ^ (place + 1074).toNat := by
              rw [Nat.mul_assoc, ← Nat.pow_add, ← e4]
            rw [e5] at hv
            exact Nat.eq_of_mul_eq_mul_right (Nat.two_pow_pos _) hv
        · have e2 : (place + 1074).toNat = 0 := by omega
          rw [e2, Nat.pow_zero, Nat.mul_one] at hv
          have e3 : (place - ((q : Int) - 1074)).toNat = 0 := by omega
          rw [e3, Nat.pow_zero, Nat.mul_one, hv, Nat.mul_assoc, ← Nat.pow_add]
          congr 2
          omega
      rw [hx, cut_exact]
    rw [hcut]
    rw [hc2, Nat.min_eq_left (Nat.le_of_lt hr)]

end Go.Proofs.Ytfppeppngodjjaa.fl
