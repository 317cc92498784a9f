/-
  Bits of a word by shifts and by halving; a bit put by masks and by adding.
  Conditions: none.
-/
import Derived.Test.YtnffgafofkknoaaDoorKit
namespace Go.Proofs.YtnffgafofkknoaaDoor.bitm
open Go Go.RowKit
set_option linter.unusedVariables false
set_option linter.unusedSimpArgs false

/-- Bit j of a word. -/
def bitAt (x : Int) (j : Nat) : Bool := x / 2 ^ j % 2 == 1
/-- A word with bit j put. -/
def turned (x : Int) (j : Nat) (b : Bool) : Int := if bitAt x j = b then x else if b then x + 2 ^ j else x - 2 ^ j

theorem split_at (x j : Nat) : ∃ a c d, x = 2 ^ j * (2 * a + c) + d ∧ d < 2 ^ j ∧ c < 2 ∧ x / 2 ^ j % 2 = c ∧ x / 2 ^ j / 2 = a ∧ x % 2 ^ j = d := by
  have hp : 0 < 2 ^ j := Nat.two_pow_pos j
  refine ⟨x / 2 ^ j / 2, x / 2 ^ j % 2, x % 2 ^ j, ?_, Nat.mod_lt _ hp, Nat.mod_lt _ (by decide), rfl, rfl, rfl⟩
  rw [Nat.div_add_mod (x / 2 ^ j) 2]
  exact (Nat.div_add_mod x (2 ^ j)).symm
theorem test_split {a c d j : Nat} (hd : d < 2 ^ j) (hc : c < 2) (i : Nat) : (2 ^ j * (2 * a + c) + d).testBit i = if i < j then d.testBit i else if i = j then decide (c = 1) else a.testBit (i - j - 1) := by
  rw [Nat.testBit_two_pow_mul_add _ hd]
  by_cases h : i < j
  · rw [if_pos h, if_pos h]
  · rw [if_neg h, if_neg h]
    by_cases h2 : i = j
    · subst h2
      rw [if_pos rfl, Nat.sub_self, Nat.testBit_zero]
      congr 1
      exact propext ⟨fun h => by omega, fun h => by omega⟩
    · rw [if_neg h2]
      obtain ⟨m, hm⟩ : ∃ m, i - j = m + 1 := ⟨i - j - 1, by omega⟩
      rw [hm, Nat.testBit_succ, show (2 * a + c) / 2 = a by omega]
      congr 1
theorem put_nat (B x j : Nat) (b : Bool) (hx : x < 2 ^ B) (hj : j < B) {a c d : Nat} (e : x = 2 ^ j * (2 * a + c) + d) (hd : d < 2 ^ j) (hc : c < 2) :
    (x &&& (2 ^ B - (2 ^ j + 1))) ||| (b.toNat * 2 ^ j) = 2 ^ j * (2 * a + b.toNat) + d := by
  have hlt : 2 ^ j < 2 ^ B := Nat.pow_lt_pow_right (by decide) hj
  apply Nat.eq_of_testBit_eq
  intro i
  rw [test_split hd (by cases b <;> decide), Nat.testBit_or, Nat.testBit_and, Nat.testBit_two_pow_sub_succ hlt, Nat.testBit_two_pow]
  have hb : (b.toNat * 2 ^ j).testBit i = (b && decide (j = i)) := by
    cases b
    · simp
    · simp only [Bool.toNat_true, Nat.one_mul, Nat.testBit_two_pow, Bool.true_and]
  have hx2 := test_split (a := a) hd hc i
  rw [← e] at hx2
  rw [hb, hx2]
  by_cases hi : i < B
  · by_cases h1 : i < j
    · have : ¬ j = i := by omega
      simp [h1, this, hi]
    · by_cases h2 : i = j
      · subst h2
        cases b <;> simp
      · have : ¬ j = i := by omega
        simp [h1, h2, this, hi]
  · have h1 : ¬ i < j := by omega
    have h2 : ¬ i = j := by omega
    have h3 : ¬ j = i := by omega
    have h0 : x.testBit i = false := Nat.testBit_lt_two_pow (Nat.lt_of_lt_of_le hx (Nat.pow_le_pow_right (by decide) (by omega)))
    rw [hx2, if_neg h1, if_neg h2] at h0
    simp [h1, h2, h3, h0]
theorem pow_cast (j : Nat) : ((2 ^ j : Nat) : Int) = 2 ^ j := by simp
theorem bitAt_nat {x j a c d : Nat} (e : x = 2 ^ j * (2 * a + c) + d) (hd : d < 2 ^ j) (hc : c < 2) : bitAt (x : Int) j = decide (c = 1) := by
  unfold bitAt
  have hp : 0 < 2 ^ j := Nat.two_pow_pos j
  rw [← pow_cast, ← Int.natCast_ediv, show ((2 : Int)) = ((2 : Nat) : Int) from rfl, ← Int.natCast_emod]
  have : x / 2 ^ j % 2 = c := by
    rw [e, Nat.mul_add_div hp, Nat.div_eq_of_lt hd]
    omega
  rw [this]
  have hcc : c = 0 ∨ c = 1 := by omega
  rcases hcc with rfl | rfl <;> rfl
theorem turned_nat {x j a c d : Nat} (b : Bool) (e : x = 2 ^ j * (2 * a + c) + d) (hd : d < 2 ^ j) (hc : c < 2) : turned (x : Int) j b = ((2 ^ j * (2 * a + b.toNat) + d : Nat) : Int) := by
  unfold turned
  rw [bitAt_nat e hd hc, ← pow_cast, e]
  have hcc : c = 0 ∨ c = 1 := by omega
  generalize 2 ^ j = p
  rcases hcc with rfl | rfl <;> cases b <;> simp [Nat.mul_add] <;> omega

theorem ofInt_nat (B x : Nat) (h : x < 2 ^ B) : (BitVec.ofInt B (x : Int)).toNat = x := by
  rw [BitVec.ofInt_natCast, BitVec.toNat_ofNat]; exact Nat.mod_eq_of_lt h

/-- The kinds without a sign. -/
def un (k : IntKind) : Prop := k = .u16 ∨ k = .u32 ∨ k = .u64
theorem wrap_un {k : IntKind} (hk : un k) (x : Nat) (h : x < 2 ^ k.bits) : k.wrap (x : Int) = x := by
  rcases hk with rfl | rfl | rfl <;> simp [IntKind.wrap, IntKind.bits, IntKind.signed] at h ⊢ <;> omega
theorem and_one {k : IntKind} (hk : un k) (x : Nat) (h : x < 2 ^ k.bits) : bits .and k (x : Int) 1 = ((x % 2 : Nat) : Int) := by
  have h1 : (BitVec.ofInt k.bits (1 : Int)).toNat = 1 := by rcases hk with rfl | rfl | rfl <;> decide
  have h2 : x % 2 < 2 ^ k.bits := Nat.lt_of_le_of_lt (Nat.mod_le _ _) h
  show k.wrap ((BitVec.ofInt k.bits (x : Int) &&& BitVec.ofInt k.bits 1).toNat : Int) = _
  rw [BitVec.toNat_and, ofInt_nat _ _ h, h1, Nat.and_one_is_mod]
  exact wrap_un hk _ h2
/-- The test of a bit by a shift. -/
theorem shr_bit {k : IntKind} (hk : un k) (x : Int) (j : Nat) (h0 : 0 ≤ x) (h : x < 2 ^ k.bits) : (bits .and k (x / 2 ^ j) 1 == 1) = bitAt x j := by
  obtain ⟨x, rfl⟩ := Int.eq_ofNat_of_zero_le h0
  rw [← pow_cast] at h
  have h' : x < 2 ^ k.bits := by exact_mod_cast h
  rw [← pow_cast, ← Int.natCast_ediv, and_one hk _ (Nat.lt_of_le_of_lt (Nat.div_le_self _ _) h')]
  unfold bitAt
  rw [← pow_cast, ← Int.natCast_ediv]
  rfl
/-- A bit put by masks. -/
theorem mask_put {k : IntKind} (hk : un k) (x : Int) (j : Nat) (b : Bool) (h0 : 0 ≤ x) (h : x < 2 ^ k.bits) (hj : j < k.bits) :
    bits .or k (bits .andNot k x (2 ^ j)) ((b.toNat : Int) * 2 ^ j) = turned x j b := by
  obtain ⟨x, rfl⟩ := Int.eq_ofNat_of_zero_le h0
  rw [← pow_cast] at h
  have h' : x < 2 ^ k.bits := by exact_mod_cast h
  obtain ⟨a, c, d, e, hd, hc, _⟩ := split_at x j
  have hlt : 2 ^ j < 2 ^ k.bits := Nat.pow_lt_pow_right (by decide) hj
  have hb : b.toNat * 2 ^ j < 2 ^ k.bits := by cases b <;> simp <;> omega
  have hand : bits .andNot k (x : Int) (2 ^ j) = ((x &&& (2 ^ k.bits - (2 ^ j + 1)) : Nat) : Int) := by
    show k.wrap ((BitVec.ofInt k.bits (x : Int) &&& ~~~BitVec.ofInt k.bits (2 ^ j)).toNat : Int) = _
    rw [← pow_cast j, BitVec.toNat_and, BitVec.toNat_not, ofInt_nat _ _ h', ofInt_nat _ _ hlt, show 2 ^ k.bits - 1 - 2 ^ j = 2 ^ k.bits - (2 ^ j + 1) by omega]
    exact wrap_un hk _ (Nat.lt_of_le_of_lt Nat.and_le_left h')
  have hor := put_nat k.bits x j b h' hj e hd hc
  rw [hand, turned_nat b e hd hc, ← hor]
  show k.wrap ((BitVec.ofInt k.bits (((x &&& (2 ^ k.bits - (2 ^ j + 1)) : Nat)) : Int) ||| BitVec.ofInt k.bits ((b.toNat : Int) * 2 ^ j)).toNat : Int) = _
  rw [← pow_cast j, ← Int.natCast_mul, BitVec.toNat_or, ofInt_nat _ _ (Nat.lt_of_le_of_lt Nat.and_le_left h'), ofInt_nat _ _ hb]
  exact wrap_un hk _ (Nat.or_lt_two_pow (Nat.lt_of_le_of_lt Nat.and_le_left h') hb)
theorem turned_in (B : Nat) (x : Int) (j : Nat) (b : Bool) (h0 : 0 ≤ x) (h : x < 2 ^ B) (hj : j < B) : 0 ≤ turned x j b ∧ turned x j b < 2 ^ B := by
  obtain ⟨x, rfl⟩ := Int.eq_ofNat_of_zero_le h0
  rw [← pow_cast] at h
  have h' : x < 2 ^ B := by exact_mod_cast h
  obtain ⟨a, c, d, e, hd, hc, _⟩ := split_at x j
  have hor := put_nat B x j b h' hj e hd hc
  have hlt : 2 ^ j < 2 ^ B := Nat.pow_lt_pow_right (by decide) hj
  have hb : b.toNat * 2 ^ j < 2 ^ B := by cases b <;> simp <;> omega
  have := Nat.or_lt_two_pow (Nat.lt_of_le_of_lt Nat.and_le_left h') hb (x := x &&& (2 ^ B - (2 ^ j + 1)))
  rw [turned_nat b e hd hc, ← hor]
  refine ⟨Int.natCast_nonneg _, ?_⟩
  rw [← pow_cast]
  exact_mod_cast this
/-- Halving j times. -/
theorem halve (x : Int) (j : Nat) : x / 2 ^ j / 2 = x / 2 ^ (j + 1) := by
  rw [Int.ediv_ediv_of_nonneg (Int.pow_nonneg (by decide)), Int.pow_succ]
theorem bitAt_turned (x : Int) (j : Nat) (b : Bool) (h0 : 0 ≤ x) : bitAt (turned x j b) j = b := by
  obtain ⟨x, rfl⟩ := Int.eq_ofNat_of_zero_le h0
  obtain ⟨a, c, d, e, hd, hc, _⟩ := split_at x j
  rw [turned_nat b e hd hc, bitAt_nat (a := a) (c := b.toNat) rfl hd (by cases b <;> decide)]
  cases b <;> rfl
theorem test_bitAt (x i : Nat) : bitAt (x : Int) i = x.testBit i := by
  obtain ⟨a, c, d, e, hd, hc, _⟩ := split_at x i
  rw [bitAt_nat e hd hc, e, test_split hd hc, if_neg (by omega), if_pos rfl]
theorem bitAt_other (x : Int) (j i : Nat) (b : Bool) (h0 : 0 ≤ x) (h : i ≠ j) : bitAt (turned x j b) i = bitAt x i := by
  obtain ⟨x, rfl⟩ := Int.eq_ofNat_of_zero_le h0
  obtain ⟨a, c, d, e, hd, hc, _⟩ := split_at x j
  rw [turned_nat b e hd hc, test_bitAt, test_bitAt, e, test_split hd hc, test_split hd (by cases b <;> decide)]
  by_cases h1 : i < j
  · simp [h1]
  · simp [h1, h]
theorem turned_back (x : Int) (j : Nat) (b : Bool) (h0 : 0 ≤ x) : turned (turned x j b) j (bitAt x j) = x := by
  obtain ⟨x, rfl⟩ := Int.eq_ofNat_of_zero_le h0
  obtain ⟨a, c, d, e, hd, hc, _⟩ := split_at x j
  rw [bitAt_nat e hd hc, turned_nat b e hd hc, turned_nat (decide (c = 1)) (a := a) (c := b.toNat) rfl hd (by cases b <;> decide), e]
  have hcc : c = 0 ∨ c = 1 := by omega
  rcases hcc with rfl | rfl <;> rfl
end Go.Proofs.YtnffgafofkknoaaDoor.bitm
