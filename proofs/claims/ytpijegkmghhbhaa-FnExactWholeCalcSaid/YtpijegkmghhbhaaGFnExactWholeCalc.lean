/-
  The walk of 'FnExactWholeCalc': it returns true, whatever the calculation and the two numbers of 16 bits.
  Conditions: none.
-/
import Derived.Test.YtpijegkmghhbhaaKit
import Derived.WalkLawsBesides
namespace Go.Proofs.Ytpijegkmghhbhaa.fnExactWholeCalc
open Go.RowKit
set_option linter.unusedVariables false

theorem tmod_cases (n : Int) : n.tmod 65536 = if 0 ≤ n then n % 65536 else -((-n) % 65536) := by
  split
  · rename_i h; exact Int.tmod_eq_emod_of_nonneg h
  · rename_i h
    have := Int.neg_tmod (-n) 65536
    rw [Int.neg_neg] at this
    rw [this, Int.tmod_eq_emod_of_nonneg (by omega)]

theorem wrap16 (n : Int) : IntKind.i16.wrap n = if n % 65536 ≥ 32768 then n % 65536 - 65536 else n % 65536 := by
  simp [IntKind.wrap, IntKind.signed, IntKind.bits]

theorem tmod_lo (n : Int) : -65536 ≤ n.tmod 65536 := by rw [tmod_cases]; split <;> omega
theorem tmod_hi (n : Int) : n.tmod 65536 ≤ 65536 := by rw [tmod_cases]; split <;> omega

theorem l3Wrap_any (n : Int) (w : World) :
    Calls Try.prog 27 #[.int .i64 n] w fun e w' => e = .returned (.int .i16 (IntKind.i16.wrap n)) ∧ w = w' := by
  have h1 := tmod_lo n
  have h2 := tmod_hi n
  go_enter Try.func27, Try.ntmps27
  go_wp2
  all_goals
    go_ret
    refine ⟨kit.ret_int ?_, rfl⟩
    simp only [wrap16]
    simp only [tmod_cases] at *
    (repeat' split at *) <;> omega

/-- What both sides reckon. -/
def wcalc (op a b : Int) : Int × Bool :=
  if op = 1 then (IntKind.i16.wrap (a + b), true) else if op = 2 then (IntKind.i16.wrap (a - b), true) else if op = 3 then (IntKind.i16.wrap (a * b), true)
  else if b = 0 then (0, false) else if op = 4 then (IntKind.i16.wrap (a.tdiv b), true) else if op = 5 then (IntKind.i16.wrap (a.tmod b), true) else (0, false)

theorem mul_lo {a b : Int} (ha : -32768 ≤ a ∧ a ≤ 32767) (hb : -32768 ≤ b ∧ b ≤ 32767) : -1073741824 ≤ a * b ∧ a * b ≤ 1073741824 := by
  have h1 : a.natAbs ≤ 32768 := by omega
  have h2 : b.natAbs ≤ 32768 := by omega
  have h3 : (a * b).natAbs ≤ 32768 * 32768 := by rw [Int.natAbs_mul]; exact Nat.mul_le_mul h1 h2
  omega

theorem tdiv_in {a b : Int} (ha : -32768 ≤ a ∧ a ≤ 32767) : -32768 ≤ a.tdiv b ∧ a.tdiv b ≤ 32768 := by
  have h : (a.tdiv b).natAbs ≤ 32768 := by
    rw [Int.natAbs_tdiv]
    exact Nat.le_trans (Nat.div_le_self _ _) (by omega)
  omega

theorem tmod_in {a b : Int} (ha : -32768 ≤ a ∧ a ≤ 32767) : -32768 ≤ a.tmod b ∧ a.tmod b ≤ 32768 := by
  have h : (a.tmod b).natAbs ≤ 32768 := by
    rw [Int.natAbs_tmod]
    exact Nat.le_trans (Nat.mod_le _ _) (by omega)
  omega

theorem impl_calc (op a b : Int) (w : World) (ha : -32768 ≤ a ∧ a ≤ 32767) (hb : -32768 ≤ b ∧ b ≤ 32767) :
    Calls Try.prog 23 #[.int .i64 op, .int .i16 a, .int .i16 b] w fun e w' => e = .returned (.tuple #[.int .i16 (wcalc op a b).1, .bool (wcalc op a b).2]) ∧ w = w' := by
  obtain ⟨a1, a2⟩ := ha
  obtain ⟨b1, b2⟩ := hb
  obtain ⟨m1, m2⟩ := mul_lo ⟨a1, a2⟩ ⟨b1, b2⟩
  obtain ⟨d1, d2⟩ := tdiv_in (b := b) ⟨a1, a2⟩
  obtain ⟨r1, r2⟩ := tmod_in (b := b) ⟨a1, a2⟩
  by_cases b0 : b = 0
  · subst b0
    go_enter Try.func23, Try.ntmps23
    go_wp2
    all_goals
      go_ret2
      refine ⟨?_, rfl⟩
      simp only [beq_iff_eq, beq_eq_false_iff_ne, ne_eq] at *
      first | (simp [wcalc, *]; done) | (simp [wcalc, *]; rw [wrap16]; split <;> omega)
  · have hb1 : (b != 0) = true := by simpa using b0
    go_enter Try.func23, Try.ntmps23
    go_wp2
    all_goals
      go_ret2
      refine ⟨?_, rfl⟩
      simp only [beq_iff_eq, beq_eq_false_iff_ne, ne_eq] at *
      first | (simp [wcalc, *]; done) | (simp [wcalc, *]; rw [wrap16]; split <;> omega)

theorem spec_calc (op a b : Int) (w : World) (ha : -32768 ≤ a ∧ a ≤ 32767) (hb : -32768 ≤ b ∧ b ≤ 32767) :
    Calls Try.prog 22 #[.int .i64 op, .int .i16 a, .int .i16 b] w fun e w' => e = .returned (.tuple #[.int .i16 (wcalc op a b).1, .bool (wcalc op a b).2]) ∧ w = w' := by
  obtain ⟨a1, a2⟩ := ha
  obtain ⟨b1, b2⟩ := hb
  obtain ⟨m1, m2⟩ := mul_lo ⟨a1, a2⟩ ⟨b1, b2⟩
  obtain ⟨d1, d2⟩ := tdiv_in (b := b) ⟨a1, a2⟩
  obtain ⟨r1, r2⟩ := tmod_in (b := b) ⟨a1, a2⟩
  by_cases b0 : b = 0
  · subst b0
    go_enter Try.func22, Try.ntmps22
    go_wp2_with (go_at_call 27; refine (l3Wrap_any _ _).mono ?_; rintro e w' ⟨rfl, rfl⟩)
    all_goals
      go_ret2
      refine ⟨?_, rfl⟩
      simp only [beq_iff_eq, beq_eq_false_iff_ne, ne_eq] at *
      first | (simp [wcalc, *]; done) | (simp [wcalc, *]; rw [wrap16]; split <;> omega)
  · have hb1 : (b == 0) = false := by simpa using b0
    go_enter Try.func22, Try.ntmps22
    go_wp2_with (go_at_call 27; refine (l3Wrap_any _ _).mono ?_; rintro e w' ⟨rfl, rfl⟩)
    all_goals
      go_ret2
      refine ⟨?_, rfl⟩
      simp only [beq_iff_eq, beq_eq_false_iff_ne, ne_eq] at *
      first | (simp [wcalc, *]; done) | (simp [wcalc, *]; rw [wrap16]; split <;> omega)

theorem walk (W : World) (base : Nat) (v0 v1 v2 : Value) (o0 : Value.okWide Try.prog W .any base 3 v0) (o1 : Value.okWide Try.prog W .any base 40 v1) (o2 : Value.okWide Try.prog W .any base 40 v2) :
    Calls Try.prog 9 #[v0, v1, v2] W fun e w' => e = .returned (.bool true) ∧ Below W.heap.size W w' := by
  obtain ⟨op, rfl, _, _⟩ := kit.ok_int Try.underlying3 o0
  obtain ⟨a, rfl, a1, a2⟩ := kit.ok_int Try.underlying40 o1
  obtain ⟨b, rfl, b1, b2⟩ := kit.ok_int Try.underlying40 o2
  have ha : -32768 ≤ a ∧ a ≤ 32767 := ⟨a1, a2⟩
  have hb : -32768 ≤ b ∧ b ≤ 32767 := ⟨b1, b2⟩
  clear o0 o1 o2 a1 a2 b1 b2
  go_enter Try.func9, Try.ntmps9
  go_wp2_with fail
  refine (spec_calc _ _ _ _ ha hb).mono ?_
  rintro e w' ⟨rfl, rfl⟩
  go_wp2_with fail
  refine (impl_calc _ _ _ _ ha hb).mono ?_
  rintro e w' ⟨rfl, rfl⟩
  go_wp2
  go_ret
  exact ⟨rfl, Below.refl _ _⟩
end Go.Proofs.Ytpijegkmghhbhaa.fnExactWholeCalc
