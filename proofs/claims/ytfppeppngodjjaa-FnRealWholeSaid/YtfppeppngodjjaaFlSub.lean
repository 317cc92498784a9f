/-
  A difference that is a value is exact; a whole number as a float.
  Conditions: finite words.
-/
import Derived.Test.YtfppeppngodjjaaRealWhole
namespace Go.Proofs.Ytfppeppngodjjaa.fl
open Ieee Go
set_option linter.unusedVariables false
set_option linter.unusedSimpArgs false

theorem scale (s : Bool) {q a : Nat} {l k : Int} (hk : -1074 ≤ k) (hl : k ≤ l) (ha : q * 2 ^ (l + 1074).toNat = a) :
    signed s q (l - k).toNat * 2 ^ (k + 1074).toNat = if s then -(a : Int) else a := by
  rw [signed_eq, Int.mul_assoc, ← Int.pow_add, show (l - k).toNat + (k + 1074).toNat = (l + 1074).toNat by omega, ← ha]
  cases s <;> simp [Int.neg_mul]

theorem sub_exact {x y : Nat} (hx : mag x < INF) (hy : mag y < INF) {t : Int} (ht : sv x - sv y = t) {r : Nat} (hr : r < INF) (hv : V r = t.natAbs) :
    ∃ z, double.sub x y = some z ∧ mag z < INF ∧ sv z = t := by
  obtain ⟨m, i, e1, h1, h2, _⟩ := read_fin hx
  obtain ⟨n, j, e2, h3, h4, _⟩ := read_fin hy
  have es : double.sub x y = some (double.write (.number (if signed (neg x) m (i - min i j).toNat + signed (!neg y) n (j - min i j).toNat = 0 then neg x && !neg y else decide (signed (neg x) m (i - min i j).toNat + signed (!neg y) n (j - min i j).toNat < 0)) (signed (neg x) m (i - min i j).toNat + signed (!neg y) n (j - min i j).toNat).natAbs (min i j))) := by
    unfold Format.sub
    rw [e1, e2]
    rfl
  have hk : -1074 ≤ min i j := by omega
  have s1 := scale (neg x) hk (show min i j ≤ i by omega) h2
  have s2 := scale (!neg y) hk (show min i j ≤ j by omega) h4
  generalize min i j = k at *
  generalize signed (neg x) m (i - k).toNat = a at *
  generalize signed (!neg y) n (j - k).toNat = b at *
  have hab : (a + b) * 2 ^ (k + 1074).toNat = t := by
    rw [Int.add_mul, s1, s2, ← ht]
    unfold sv
    cases neg x <;> cases neg y <;> simp <;> omega
  have hp : 0 < (2 : Int) ^ (k + 1074).toNat := Int.pow_pos (by decide)
  have hw : ∀ s, double.write (.number s (a + b).natAbs k) = double.word s r := by
    intro s
    show double.nearest s (a + b).natAbs k = _
    refine nearest_exact s _ _ r hr ?_
    rw [show (-1074 - k).toNat = 0 by omega, Nat.pow_zero, Nat.mul_one, hv, ← hab, Int.natAbs_mul]
    congr 1
  rw [hw] at es
  refine ⟨_, es, ?_, ?_⟩
  · rw [word_mag _ (Nat.le_of_lt hr)]; exact hr
  · unfold sv
    rw [word_mag _ (Nat.le_of_lt hr), word_neg _ (Nat.le_of_lt hr), hv]
    generalize hz : a + b = c at *
    by_cases h0 : c = 0
    · have : t = 0 := by rw [← hab, h0, Int.zero_mul]
      subst this
      simp
    · rw [if_neg h0]
      by_cases hc : c < 0
      · have : t < 0 := by rw [← hab]; exact Int.mul_neg_of_neg_of_pos hc hp
        simp only [hc, decide_true, if_true]
        omega
      · have : 0 < t := by rw [← hab]; exact Int.mul_pos (by omega) hp
        simp only [hc, decide_false, Bool.false_eq_true, if_false]
        omega

/-- A value as digits and a power of two. -/
theorem V_form {r : Nat} (h : r < INF) : ∃ c k, V r = c * 2 ^ k ∧ c < 2 ^ 53 ∧ k ≤ 2045 := by
  unfold V
  unfold INF at h
  split
  · exact ⟨r, 0, by simp, by omega, by omega⟩
  · exact ⟨_, _, rfl, by omega, by omega⟩

/-- What is left of a value without its whole part is a value. -/
theorem part_rung {r : Nat} (h : r < INF) : ∃ q, q < INF ∧ V q = V r % ONE := by
  obtain ⟨c, k, e, hc, hk⟩ := V_form h
  by_cases hK : K74 ≤ k
  · refine ⟨0, by unfold INF; omega, ?_⟩
    rw [e, show k = (k - K74) + K74 by omega, Nat.pow_add, ← Nat.mul_assoc]
    unfold ONE
    rw [Nat.mul_mod_left]
    rfl
  · have e2 : ONE = 2 ^ (K74 - k) * 2 ^ k := by unfold ONE; rw [← Nat.pow_add]; congr 1; omega
    obtain ⟨q, hq, hv⟩ := rep (c % 2 ^ (K74 - k)) k (Nat.lt_of_le_of_lt (Nat.mod_le _ _) hc) hk
    exact ⟨q, hq, by rw [hv, e, e2, Nat.mul_mod_mul_right]⟩

theorem sv_part (x : Nat) : sv x - tr x * ONE = if neg x then -((V (mag x) % ONE : Nat) : Int) else ((V (mag x) % ONE : Nat) : Int) := by
  have h := Nat.div_add_mod (V (mag x)) ONE
  unfold sv tr
  generalize V (mag x) / ONE = a at *
  generalize V (mag x) % ONE = b at *
  rw [← h, Nat.mul_comm]
  split
  · rw [Int.neg_mul]; push_cast; omega
  · push_cast; omega

theorem int_float (n : Int) (hn : n.natAbs < 2 ^ 53) : mag (floatOfInt .f64 n) < INF ∧ sv (floatOfInt .f64 n) = n * ONE ∧ tr (floatOfInt .f64 n) = n := by
  obtain ⟨r, hr, hv⟩ := rep n.natAbs K74 hn (by unfold K74; omega)
  have hw : floatOfInt .f64 n = double.word (decide (n < 0)) r := by
    show double.nearest (decide (n < 0)) n.natAbs 0 = _
    refine nearest_exact _ _ _ r hr ?_
    rw [hv, show ((0 : Int) + 1074).toNat = K74 from rfl, show ((-1074 : Int) - 0).toNat = 0 from rfl, Nat.pow_zero, Nat.mul_one]
  have hm := word_mag (decide (n < 0)) (Nat.le_of_lt hr)
  have hs := word_neg (decide (n < 0)) (Nat.le_of_lt hr)
  rw [hw]
  refine ⟨by rw [hm]; exact hr, ?_, ?_⟩
  · unfold sv
    rw [hm, hs, hv]
    show _ = n * ((2 ^ K74 : Nat) : Int)
    generalize (2 ^ K74 : Nat) = o
    by_cases h : n < 0
    · simp only [h, decide_true, if_true]
      rw [show n = -(n.natAbs : Int) by omega, Int.neg_mul]; simp
    · simp only [h, decide_false, Bool.false_eq_true, if_false]
      rw [show n = (n.natAbs : Int) by omega]; simp
  · unfold tr
    rw [hm, hs, hv]
    have : n.natAbs * 2 ^ K74 / ONE = n.natAbs := Nat.mul_div_cancel _ ONE_pos
    rw [this]
    by_cases h : n < 0
    · simp only [h, decide_true, if_true]; omega
    · simp only [h, decide_false, Bool.false_eq_true, if_false]; omega
end Go.Proofs.Ytfppeppngodjjaa.fl
