/-
  Plain facts on the double format: a word's value in units of 2^-1074, what 'nearest' gives of a value that the format has, the order of two numbers.
  No program stands here.
-/
import Ieee.Arith
namespace Go.Proofs.YtcjlkekekalgdaaDoor.fl
open Ieee

/-- The value of a rung, in units of 2^-1074. -/
def V (r : Nat) : Nat := if r < 2 ^ 52 then r else (2 ^ 52 + r % 2 ^ 52) * 2 ^ (r / 2 ^ 52 - 1)
def INF : Nat := 2047 * 2 ^ 52

theorem binade_eq : double.binade = 2 ^ 52 := rfl
theorem inf_eq : double.infRung = INF := rfl
theorem sign_eq : double.signWeight = 2 ^ 63 := rfl
theorem least_eq : double.leastPlace = -1074 := rfl
theorem frac_eq : double.fractionBits = 52 := rfl

theorem read_eq (x : Nat) : double.read x =
    if x % 2 ^ 63 < 2 ^ 52 then .number (x / 2 ^ 63 % 2 == 1) (x % 2 ^ 63) (-1074)
    else if x % 2 ^ 63 < INF then .number (x / 2 ^ 63 % 2 == 1) (2 ^ 52 + x % 2 ^ 63 % 2 ^ 52) (-1074 + ((x % 2 ^ 63 / 2 ^ 52 - 1 : Nat) : Int))
    else if x % 2 ^ 63 = INF then .infinity (x / 2 ^ 63 % 2 == 1)
    else .nan (x / 2 ^ 63 % 2 == 1) (x % 2 ^ 63 - INF) := rfl

theorem shl (n k : Nat) : n <<< k = n * 2 ^ k := Nat.shiftLeft_eq n k

theorem cut_exact (neg : Bool) (c drop : Nat) : Toward.even.cut neg (c * 2 ^ drop) drop = c := by
  have hpos : 0 < 2 ^ drop := Nat.two_pow_pos drop
  rcases Nat.eq_zero_or_pos c with h | h
  · subst h
    simp only [Nat.zero_mul, Toward.cut, shl, Nat.zero_mod, Nat.zero_div]
    simp
  · have hl : drop ≤ (c * 2 ^ drop).log2 := by
      rw [Nat.le_log2 (by have := Nat.mul_pos h hpos; omega)]
      exact Nat.le_mul_of_pos_left _ h
    simp only [Toward.cut, shl]
    rw [Nat.min_eq_left (by omega)]
    simp only [Nat.one_mul, Nat.mul_mod_left, Nat.mul_div_cancel _ hpos]
    have : (2 ^ drop == 0) = false := by simp
    simp [this]

theorem log2_shift {m k : Nat} (h : 0 < m) : (m * 2 ^ k).log2 = m.log2 + k := by
  rw [Nat.log2_eq_iff (by have := Nat.mul_pos h (Nat.two_pow_pos k); omega)]
  have h1 := (Nat.le_log2 (n := m) (k := m.log2) (by omega)).1 (Nat.le_refl _)
  have h2 := (Nat.log2_lt (n := m) (k := m.log2 + 1) (by omega)).1 (by omega)
  constructor
  · rw [Nat.pow_add]; exact Nat.mul_le_mul_right _ h1
  · rw [show m.log2 + k + 1 = (m.log2 + 1) + k by omega, Nat.pow_add]; exact Nat.mul_lt_mul_of_pos_right h2 (Nat.two_pow_pos k)

theorem V_pos {r : Nat} (h : 0 < r) : 0 < V r := by
  unfold V
  split
  · exact h
  · exact Nat.mul_pos (by omega) (Nat.two_pow_pos _)

theorem V_log2_small {r : Nat} (h0 : 0 < r) (h : r < 2 ^ 52) : (V r).log2 < 52 := by
  unfold V
  rw [if_pos h]
  exact (Nat.log2_lt (by omega)).2 h

theorem V_log2_big {r : Nat} (h : ¬ r < 2 ^ 52) : (V r).log2 = 52 + (r / 2 ^ 52 - 1) := by
  unfold V
  rw [if_neg h, log2_shift (by omega)]
  congr 1
  rw [Nat.log2_eq_iff (by omega)]
  omega

/-- WHAT 'nearest' GIVES OF A VALUE THAT THE FORMAT HAS. 'mag * 2^up = V r * 2^down' with 'place = up - down - 1074'. -/
theorem nearest_exact (neg : Bool) (mag : Nat) (place : Int) (r : Nat) (hr : r < INF) (hv : mag * 2 ^ (place + 1074).toNat = V r * 2 ^ (-1074 - place).toNat) : double.nearest neg mag place = double.word neg r := by
  unfold Format.nearest
  rcases Nat.eq_zero_or_pos mag with h | h
  · subst h
    rw [if_pos rfl]
    rcases Nat.eq_zero_or_pos r with h | h
    · rw [h]
    · have := Nat.mul_pos (V_pos h) (Nat.two_pow_pos (-1074 - place).toNat)
      omega
  · rw [if_neg (by omega)]
    have hr0 : 0 < r := by
      rcases Nat.eq_zero_or_pos r with e | e
      · subst e
        have h1 := Nat.mul_pos h (Nat.two_pow_pos (place + 1074).toNat)
        have : V 0 = 0 := rfl
        rw [this] at hv
        omega
      · exact e
    have hl : mag.log2 + (place + 1074).toNat = (V r).log2 + (-1074 - place).toNat := by
      rw [← log2_shift h, ← log2_shift (V_pos hr0), hv]
    rw [frac_eq, least_eq, binade_eq, inf_eq]
    have hq : max (place + (mag.log2 : Int) - (52 : Nat)) (-1074) = (((V r).log2 - 52 : Nat) : Int) - 1074 := by omega
    rw [hq]
    generalize hL : (V r).log2 - 52 = q
    have e1 : ((q : Int) - 1074 - (-1074)).toNat = q := by omega
    simp only [e1]
    -- the digits that are kept
    have keep : ∃ c, V r = c * 2 ^ q ∧ q * 2 ^ 52 + c = r := by
      by_cases hs : r < 2 ^ 52
      · have := V_log2_small hr0 hs
        have hq0 : q = 0 := by omega
        subst hq0
        refine ⟨r, ?_, by rw [Nat.zero_mul, Nat.zero_add]⟩
        unfold V; rw [if_pos hs]; simp
      · have := V_log2_big hs
        have hq0 : q = r / 2 ^ 52 - 1 := by omega
        refine ⟨2 ^ 52 + r % 2 ^ 52, ?_, ?_⟩
        · unfold V; rw [if_neg hs, hq0]
        · rw [hq0]; omega
    obtain ⟨c, hc1, hc2⟩ := keep
    have hcut : Toward.even.cut neg (mag <<< (place - ((q : Int) - 1074)).toNat) ((q : Int) - 1074 - place).toNat = c := by
      rw [shl]
      have hx : mag * 2 ^ (place - ((q : Int) - 1074)).toNat = c * 2 ^ ((q : Int) - 1074 - place).toNat := by
        rw [hc1] at hv
        by_cases hp : 0 ≤ place + 1074
        · have e2 : (-1074 - place).toNat = 0 := by omega
          rw [e2, Nat.pow_zero, Nat.mul_one] at hv
          by_cases hp2 : (q : Int) ≤ place + 1074
          · have e3 : ((q : Int) - 1074 - place).toNat = 0 := by omega
            rw [e3, Nat.pow_zero, Nat.mul_one]
            have e4 : (place + 1074).toNat = (place - ((q : Int) - 1074)).toNat + q := by omega
            rw [e4, Nat.pow_add, ← Nat.mul_assoc] at hv
            exact Nat.eq_of_mul_eq_mul_right (Nat.two_pow_pos q) hv
          · have e3 : (place - ((q : Int) - 1074)).toNat = 0 := by omega
            rw [e3, Nat.pow_zero, Nat.mul_one]
            have e4 : q = ((q : Int) - 1074 - place).toNat + (place + 1074).toNat := by omega
            have e5 : c * 2 ^ q = c * 2 ^ ((q : Int) - 1074 - place).toNat * 2 ^ (place + 1074).toNat := by
              rw [Nat.mul_assoc, ← Nat.pow_add, ← e4]
            rw [e5] at hv
            exact Nat.eq_of_mul_eq_mul_right (Nat.two_pow_pos _) hv
        · have e2 : (place + 1074).toNat = 0 := by omega
          rw [e2, Nat.pow_zero, Nat.mul_one] at hv
          have e3 : (place - ((q : Int) - 1074)).toNat = 0 := by omega
          rw [e3, Nat.pow_zero, Nat.mul_one, hv, Nat.mul_assoc, ← Nat.pow_add]
          congr 2
          omega
      rw [hx, cut_exact]
    rw [hcut]
    rw [hc2, Nat.min_eq_left (Nat.le_of_lt hr)]


/-! ### a finite word, its value, the order -/
/-- A word of 64 bits. -/
def neg (x : Nat) : Bool := x / 2 ^ 63 % 2 == 1
def mag (x : Nat) : Nat := x % 2 ^ 63
/-- The value of a finite word, in units of 2^-1074, with its sign. -/
def sv (x : Nat) : Int := if neg x then -(V (mag x) : Int) else V (mag x)

theorem read_fin {x : Nat} (h : mag x < INF) : ∃ m e, double.read x = .number (neg x) m e ∧ -1074 ≤ e ∧ m * 2 ^ (e + 1074).toNat = V (mag x) ∧ m < 2 ^ 53 := by
  rw [read_eq]
  by_cases h1 : x % 2 ^ 63 < 2 ^ 52
  · rw [if_pos h1]
    refine ⟨_, _, rfl, by omega, ?_, by omega⟩
    unfold V mag
    rw [if_pos h1]
    simp
  · rw [if_neg h1, if_pos (show x % 2 ^ 63 < INF from h)]
    refine ⟨_, _, rfl, by omega, ?_, by omega⟩
    unfold V mag
    rw [if_neg h1]
    congr 2
    omega

theorem compare_mul {a b : Int} {c : Int} (hc : 0 < c) : compare (a * c) (b * c) = compare a b := by
  simp only [compare, compareOfLessAndEq]
  have h1 : a * c < b * c ↔ a < b := Int.mul_lt_mul_right hc
  have h2 : a * c = b * c ↔ a = b := ⟨fun h => Int.eq_of_mul_eq_mul_right (by omega) h, fun h => by rw [h]⟩
  simp only [h1, h2]

theorem signed_eq (s : Bool) (m up : Nat) : signed s m up = (if s then -(m : Int) else m) * 2 ^ up := by
  unfold signed
  rw [shl]
  cases s <;> simp [Int.neg_mul]

theorem order_num {s t : Bool} {m n : Nat} {i j : Int} {a b : Nat} (hi : -1074 ≤ i) (hj : -1074 ≤ j) (ha : m * 2 ^ (i + 1074).toNat = a) (hb : n * 2 ^ (j + 1074).toNat = b) :
    (Datum.number s m i).order (.number t n j) = some (compare (if s then -(a : Int) else a) (if t then -(b : Int) else b)) := by
  simp only [Datum.order, Option.some.injEq, signed_eq]
  generalize hk : min i j = k
  have hk1 : -1074 ≤ k := by omega
  rw [← compare_mul (c := 2 ^ (k + 1074).toNat) (Int.pow_pos (by decide))]
  have e1 : ∀ (u : Bool) (q : Nat) (l : Int), k ≤ l → (if u then -(q : Int) else q) * 2 ^ (l - k).toNat * 2 ^ (k + 1074).toNat = if u then -((q * 2 ^ (l + 1074).toNat : Nat) : Int) else ((q * 2 ^ (l + 1074).toNat : Nat) : Int) := by
    intro u q l hl
    rw [Int.mul_assoc, ← Int.pow_add, show (l - k).toNat + (k + 1074).toNat = (l + 1074).toNat by omega]
    cases u <;> simp [Int.neg_mul]
  rw [e1 s m i (by omega), e1 t n j (by omega), ha, hb]

theorem order_fin {x y : Nat} (hx : mag x < INF) (hy : mag y < INF) : double.order x y = some (compare (sv x) (sv y)) := by
  obtain ⟨m, i, e1, h1, h2, _⟩ := read_fin hx
  obtain ⟨n, j, e2, h3, h4, _⟩ := read_fin hy
  unfold Format.order
  rw [e1, e2, order_num h1 h3 h2 h4]
  rfl

/-- Every whole number of fewer than 54 digits, times a power of two, is a value. -/
theorem rep (c k : Nat) (hc : c < 2 ^ 53) (hk : k ≤ 2045) : ∃ r, r < INF ∧ V r = c * 2 ^ k := by
  by_cases hs : c * 2 ^ k < 2 ^ 52
  · refine ⟨c * 2 ^ k, by unfold INF; omega, ?_⟩
    unfold V
    rw [if_pos hs]
  · have hc0 : 0 < c := by
      rcases Nat.eq_zero_or_pos c with e | e
      · subst e; simp at hs
      · exact e
    have l1 := (Nat.le_log2 (n := c) (k := c.log2) (by omega)).1 (Nat.le_refl _)
    have l2 := (Nat.log2_lt (n := c) (k := c.log2 + 1) (by omega)).1 (by omega)
    have l3 : c.log2 < 53 := (Nat.log2_lt (by omega)).2 hc
    have l4 : 52 ≤ c.log2 + k := by
      have h := (Nat.le_log2 (n := c * 2 ^ k) (k := 52) (by have := Nat.mul_pos hc0 (Nat.two_pow_pos k); omega)).2 (by omega)
      rw [log2_shift hc0] at h
      exact h
    generalize c.log2 = L at *
    have p1 : 2 ^ 52 ≤ c * 2 ^ (52 - L) := by
      have := Nat.mul_le_mul_right (2 ^ (52 - L)) l1
      rw [← Nat.pow_add, show L + (52 - L) = 52 by omega] at this
      exact this
    have p2 : c * 2 ^ (52 - L) < 2 ^ 53 := by
      have := Nat.mul_lt_mul_of_pos_right l2 (Nat.two_pow_pos (52 - L))
      rw [← Nat.pow_add, show L + 1 + (52 - L) = 53 by omega] at this
      exact this
    have p3 : c * 2 ^ k = (c * 2 ^ (52 - L)) * 2 ^ (k - (52 - L)) := by
      rw [Nat.mul_assoc, ← Nat.pow_add, show 52 - L + (k - (52 - L)) = k by omega]
    generalize c * 2 ^ (52 - L) = d at *
    refine ⟨(k - (52 - L) + 1) * 2 ^ 52 + (d - 2 ^ 52), by unfold INF; omega, ?_⟩
    unfold V
    rw [if_neg (by omega), p3]
    have q1 : ((k - (52 - L) + 1) * 2 ^ 52 + (d - 2 ^ 52)) / 2 ^ 52 = k - (52 - L) + 1 := by omega
    have q2 : ((k - (52 - L) + 1) * 2 ^ 52 + (d - 2 ^ 52)) % 2 ^ 52 = d - 2 ^ 52 := by omega
    rw [q1, q2, show 2 ^ 52 + (d - 2 ^ 52) = d by omega, show k - (52 - L) + 1 - 1 = k - (52 - L) by omega]

/-- Cutting towards zero. -/
theorem cut_zero (s : Bool) (n drop : Nat) : Toward.zero.cut s n drop = n / 2 ^ drop := by
  unfold Toward.cut
  simp only [shl, Nat.one_mul, Bool.toNat_false, Nat.add_zero]
  by_cases h : drop ≤ n.log2 + 2
  · rw [Nat.min_eq_left h]
  · rw [Nat.min_eq_right (by omega)]
    have l2 : n < 2 ^ (n.log2 + 2) := by
      rcases Nat.eq_zero_or_pos n with e | e
      · rw [e]; exact Nat.two_pow_pos _
      · exact (Nat.log2_lt (by omega)).1 (by omega)
    have l3 : n < 2 ^ drop := Nat.lt_of_lt_of_le l2 (Nat.pow_le_pow_right (by omega) (by omega))
    rw [Nat.div_eq_of_lt l2, Nat.div_eq_of_lt l3]

theorem trunc_gen (s : Bool) {K m : Nat} {e : Int} {a : Nat} (he : -(K : Int) ≤ e) (ha : m * 2 ^ (e + K).toNat = a) : Toward.zero.cut s (m <<< e.toNat) (-e).toNat = a / 2 ^ K := by
  rw [cut_zero, shl]
  by_cases h : 0 ≤ e
  · rw [show (-e).toNat = 0 by omega, Nat.pow_zero, Nat.div_one, ← ha, show (e + K).toNat = e.toNat + K by omega, Nat.pow_add, ← Nat.mul_assoc, Nat.mul_div_cancel _ (Nat.two_pow_pos K)]
  · rw [show e.toNat = 0 by omega, Nat.pow_zero, Nat.mul_one, ← ha]
    have h1 : (2 : Nat) ^ K = 2 ^ (-e).toNat * 2 ^ (e + K).toNat := by rw [← Nat.pow_add]; congr 1; omega
    rw [h1, Nat.mul_div_mul_right _ _ (Nat.two_pow_pos _)]

/-- 2^1074, kept behind a name. -/
def K74 : Nat := 1074
def ONE : Nat := 2 ^ K74
theorem ONE_pos : 0 < ONE := Nat.two_pow_pos K74
theorem trunc_val (s : Bool) {m : Nat} {e : Int} {a : Nat} (he : -1074 ≤ e) (ha : m * 2 ^ (e + 1074).toNat = a) : Toward.zero.cut s (m <<< e.toNat) (-e).toNat = a / ONE :=
  trunc_gen (K := K74) s he ha

/-- A finite word cut towards zero: the integer, and the word of it. -/
theorem toInt_fin {x : Nat} (h : mag x < INF) : (double.read x).toInt .zero = some (if neg x then -((V (mag x) / ONE : Nat) : Int) else ((V (mag x) / ONE : Nat) : Int)) := by
  obtain ⟨m, e, e1, h1, h2, _⟩ := read_fin h
  unfold Datum.toInt Datum.integral
  rw [e1]
  simp only [trunc_val _ h1 h2, signed_eq, Int.pow_zero, Int.mul_one]

theorem V_lt {r : Nat} (h : r < INF) : V r < 2 ^ 53 * 2 ^ 2045 := by
  unfold V
  unfold INF at h
  split
  · have := Nat.mul_le_mul_left (2 ^ 52) (Nat.two_pow_pos 2045)
    omega
  · have h1 : r / 2 ^ 52 - 1 ≤ 2045 := by omega
    have h2 := Nat.pow_le_pow_right (n := 2) (by omega) h1
    have h3 : 2 ^ 52 + r % 2 ^ 52 < 2 ^ 53 := by omega
    calc (2 ^ 52 + r % 2 ^ 52) * 2 ^ (r / 2 ^ 52 - 1) < 2 ^ 53 * 2 ^ (r / 2 ^ 52 - 1) := Nat.mul_lt_mul_of_pos_right h3 (Nat.two_pow_pos _)
      _ ≤ 2 ^ 53 * 2 ^ 2045 := Nat.mul_le_mul_left _ h2

/-- The integer that a finite word is cut to. -/
def tr (x : Nat) : Int := if neg x then -((V (mag x) / ONE : Nat) : Int) else ((V (mag x) / ONE : Nat) : Int)

theorem word_neg (s : Bool) {r : Nat} (h : r ≤ INF) : neg (double.word s r) = s := by
  unfold neg Format.word
  rw [sign_eq]
  unfold INF at h
  cases s
  · simp only [Bool.false_eq_true, if_false]
    have : r / 2 ^ 63 % 2 = 0 := by omega
    rw [this]; rfl
  · simp only [if_true]
    have : (2 ^ 63 + r) / 2 ^ 63 % 2 = 1 := by omega
    rw [this]; rfl
theorem word_mag (s : Bool) {r : Nat} (h : r ≤ INF) : mag (double.word s r) = r := by
  unfold mag Format.word
  rw [sign_eq]
  unfold INF at h
  cases s
  · simp only [Bool.false_eq_true, if_false]; omega
  · simp only [if_true]; omega

theorem whole_rung {r : Nat} (h : r < INF) : ∃ q, q < INF ∧ V q = V r / ONE * ONE := by
  by_cases hs : V r / ONE < 2 ^ 53
  · exact rep (V r / ONE) K74 hs (by unfold K74; omega)
  · refine ⟨r, h, ?_⟩
    have h1 : 2 ^ 53 * ONE ≤ V r := by
      have := Nat.div_mul_le_self (V r) ONE
      have h2 := Nat.mul_le_mul_right ONE (Nat.not_lt.1 hs)
      exact Nat.le_trans h2 this
    have hb : ¬ r < 2 ^ 52 := by
      intro hb
      unfold V at h1
      rw [if_pos hb] at h1
      have := Nat.mul_le_mul_left (2 ^ 53) ONE_pos
      omega
    have e : V r = (2 ^ 52 + r % 2 ^ 52) * 2 ^ (r / 2 ^ 52 - 1) := by unfold V; rw [if_neg hb]
    have h3 : K74 ≤ r / 2 ^ 52 - 1 := by
      rcases Nat.lt_or_ge (r / 2 ^ 52 - 1) K74 with hk | hk
      · exfalso
        rw [e] at h1
        have h4 : 2 ^ 52 + r % 2 ^ 52 < 2 ^ 53 := by omega
        have h5 := Nat.pow_le_pow_right (n := 2) (by omega) (Nat.le_of_lt hk)
        have h6 : (2 ^ 52 + r % 2 ^ 52) * 2 ^ (r / 2 ^ 52 - 1) < 2 ^ 53 * 2 ^ K74 := Nat.mul_lt_mul_of_lt_of_le h4 h5 (Nat.two_pow_pos _)
        unfold ONE at h1
        omega
      · exact hk
    have h7 : ∃ c, V r = c * ONE := by
      refine ⟨(2 ^ 52 + r % 2 ^ 52) * 2 ^ (r / 2 ^ 52 - 1 - K74), ?_⟩
      rw [e]
      unfold ONE
      rw [Nat.mul_assoc, ← Nat.pow_add, Nat.sub_add_cancel h3]
    obtain ⟨c, hc⟩ := h7
    rw [hc, Nat.mul_div_cancel _ ONE_pos]

/-- 'math.Trunc' of a finite word: a finite word of the same sign; its value is the whole part. -/
theorem trunc_word {x : Nat} (h : mag x < INF) : ∃ y, double.write ((double.read x).integral .zero) = y ∧ mag y < INF ∧ neg y = neg x ∧ V (mag y) = V (mag x) / ONE * ONE := by
  obtain ⟨m, e, e1, h1, h2, _⟩ := read_fin h
  obtain ⟨q, hq, hv⟩ := whole_rung h
  have hw : double.write ((double.read x).integral .zero) = double.word (neg x) q := by
    rw [e1]
    unfold Datum.integral Format.write
    simp only [trunc_val _ h1 h2]
    refine nearest_exact _ _ _ q hq ?_
    rw [hv, show ((0 : Int) + 1074).toNat = K74 from rfl, show ((-1074 : Int) - 0).toNat = 0 from rfl, Nat.pow_zero, Nat.mul_one]
    generalize V (mag x) / ONE = u
    unfold ONE
    rfl
  refine ⟨_, hw, ?_, word_neg _ (Nat.le_of_lt hq), ?_⟩
  · rw [word_mag _ (Nat.le_of_lt hq)]; exact hq
  · rw [word_mag _ (Nat.le_of_lt hq), hv]

theorem sv_whole {x y : Nat} (hn : neg y = neg x) (hv : V (mag y) = V (mag x) / ONE * ONE) : sv y = tr x * ONE := by
  unfold sv tr
  rw [hn, hv]
  cases neg x <;> simp [Int.neg_mul]
theorem tr_whole {x y : Nat} (hn : neg y = neg x) (hv : V (mag y) = V (mag x) / ONE * ONE) : tr y = tr x := by
  unfold tr
  rw [hn, hv, Nat.mul_div_cancel _ ONE_pos]

/-- Against a whole number: the value and its whole part. -/
theorem sv_lt {x : Nat} {n : Int} (hn : 0 < n) : sv x < n * ONE ↔ tr x < n := by
  have hp := ONE_pos
  have e : ((V (mag x) / ONE : Nat) : Int) = (V (mag x) : Int) / ONE := by simp
  have h0 : 0 ≤ (V (mag x) : Int) / ONE := Int.ediv_nonneg (by omega) (by omega)
  unfold sv tr
  split
  · rw [e]
    constructor
    · intro _
      omega
    · intro _
      have : 0 < n * (ONE : Int) := Int.mul_pos hn (by omega)
      omega
  · rw [e]
    exact (Int.ediv_lt_iff_lt_mul (by omega)).symm
theorem lt_sv {x : Nat} {n : Int} (hn : n < 0) : n * ONE < sv x ↔ n < tr x := by
  have hp := ONE_pos
  have e : ((V (mag x) / ONE : Nat) : Int) = (V (mag x) : Int) / ONE := by simp
  have h0 : 0 ≤ (V (mag x) : Int) / ONE := Int.ediv_nonneg (by omega) (by omega)
  unfold sv tr
  split
  · rw [e]
    have := Int.ediv_lt_iff_lt_mul (a := (V (mag x) : Int)) (b := -n) (c := (ONE : Int)) (by omega)
    rw [Int.neg_mul] at this
    omega
  · rw [e]
    constructor
    · intro _
      omega
    · intro _
      have : 0 < -n * (ONE : Int) := Int.mul_pos (by omega) (by omega)
      rw [Int.neg_mul] at this
      omega
end Go.Proofs.YtcjlkekekalgdaaDoor.fl
