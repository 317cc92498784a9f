/-
  'math.IsNaN', 'Signbit', 'IsInf', 'Abs', 'normalize', 'Frexp', 'Ldexp': on the floats of which 'impl.RealText' asks.
  Conditions: named at each.
-/
import Derived.Test.YtcjlkekekalgdaaDoorPlainS
import Derived.Laws.BitsAllLaws
import Derived.BigCall
namespace Go.Proofs.YtcjlkekekalgdaaDoor.txt
open Go Go.RowKit Go.Lib Go.Proofs.YtcjlkekekalgdaaDoor.fl Go.Proofs.YtcjlkekekalgdaaDoor.flo
set_option linter.unusedVariables false
set_option linter.unusedSimpArgs false
set_option maxRecDepth 20000

theorem frombits_any (n : Nat) (w : World) : (callFunc 48 #[.int .u64 n]).run Tryd.prog w = .ok (.value (.float .f64 n)) w := by
  rw [run_callFunc_extern Tryd.func48 (by kernel_rfl) (by kernel_rfl) (by kernel_rfl) (e := Extern.MathFloatBits.float64frombits) (by kernel_rfl)]
  rfl
theorem tobits_any (n : Nat) (w : World) : (callFunc 37 #[.float .f64 n]).run Tryd.prog w = .ok (.value (.int .u64 n)) w := by
  rw [run_callFunc_extern Tryd.func37 (by kernel_rfl) (by kernel_rfl) (by kernel_rfl) (e := Extern.MathFloatBits.float64bits) (by kernel_rfl)]
  rfl

/-- The call returns v; the world is as it was. -/
def Is (v : Value) (w : World) (e : Ending) (w' : World) : Prop := e = .returned v ∧ w' = w

theorem isNaN_yes (x : Nat) (h : isNan x = true) (w : World) : Calls Tryd.prog 15 #[.float .f64 x] w (Is (.bool true) w) := by
  have ho := order_nan_left (y := x) h
  clear h
  go_enter Tryd.func15, Tryd.ntmps15
  go_wp2_with fail
  go_ret
  exact ⟨rfl, rfl⟩
theorem isNaN_no (x : Nat) (h : isNan x = false) (w : World) : Calls Tryd.prog 15 #[.float .f64 x] w (Is (.bool false) w) := by
  have ho := order_self h
  clear h
  go_enter Tryd.func15, Tryd.ntmps15
  go_wp2_with fail
  go_ret
  exact ⟨rfl, rfl⟩
theorem signbit_no (x : Nat) (h : x < 2 ^ 63) (w : World) : Calls Tryd.prog 16 #[.float .f64 x] w (Is (.bool false) w) := by
  have hx := tobits_any
  have hw : IntKind.i64.wrap (x : Int) = x := by rw [IntKind.wrap_i64]; omega
  have hp : ¬ ((x : Int) < 0) := by omega
  clear h
  go_enter Tryd.func16, Tryd.ntmps16
  go_wp2_with fail
  go_ret
  exact ⟨rfl, rfl⟩
theorem signbit_yes (x : Nat) (h : 2 ^ 63 ≤ x) (h2 : x < 2 ^ 64) (w : World) : Calls Tryd.prog 16 #[.float .f64 x] w (Is (.bool true) w) := by
  have hx := tobits_any
  have hw : IntKind.i64.wrap (x : Int) = x - 18446744073709551616 := by rw [IntKind.wrap_i64]; omega
  have hp : ((x : Int) - 18446744073709551616 < 0) := by omega
  clear h h2
  go_enter Tryd.func16, Tryd.ntmps16
  go_wp2_with fail
  go_ret
  exact ⟨rfl, rfl⟩
theorem isInf_yes (w : World) : Calls Tryd.prog 17 #[.float .f64 9218868437227405312, .int .i64 1] w (Is (.bool true) w) := by
  have ho : FloatKind.f64.format.order 9218868437227405312 9218868437227405311 = some .gt := by decide +kernel
  go_enter Tryd.func17, Tryd.ntmps17
  go_wp2_with fail
  go_ret
  exact ⟨rfl, rfl⟩
theorem ord_max {r : Nat} (h : r < INF) : FloatKind.f64.format.order r 9218868437227405311 = some .lt ∨ FloatKind.f64.format.order r 9218868437227405311 = some .eq := by
  have hm : (9218868437227405311 : Nat) < INF := by decide
  rcases Nat.lt_or_ge r 9218868437227405311 with e | e
  · exact .inl (ord_lt hm e)
  · have : r = 9218868437227405311 := by unfold INF at h; omega
    subst this
    exact .inr (by rw [order_pos h hm, cmp_eq])
theorem isInf_no (r : Nat) (h : r < INF) (w : World) : Calls Tryd.prog 17 #[.float .f64 r, .int .i64 1] w (Is (.bool false) w) := by
  rcases ord_max h with ho | ho <;> clear h
  all_goals
    go_enter Tryd.func17, Tryd.ntmps17
    go_wp2_with fail
    go_ret
    exact ⟨rfl, rfl⟩
theorem abs_bits {r : Nat} (h : r < 2 ^ 63) : bits .andNot .u64 (r : Int) 9223372036854775808 = (r : Int) := by
  have e := Go.u64_andNot_nat r 9223372036854775808 (by omega) (by omega)
  rw [show ((9223372036854775808 : Nat) : Int) = 9223372036854775808 from rfl] at e
  rw [e]
  show ((r &&& (2 ^ 63 - 1) : Nat) : Int) = r
  rw [Nat.and_two_pow_sub_one_eq_mod, Nat.mod_eq_of_lt h]
theorem abs_pos (r : Nat) (h : r < 2 ^ 63) (w : World) : Calls Tryd.prog 38 #[.float .f64 r] w (Is (.float .f64 r) w) := by
  have hx := tobits_any
  have hf := frombits_any
  have hb := abs_bits h
  clear h
  go_enter Tryd.func38, Tryd.ntmps38
  go_wp2_with fail
  go_ret
  exact ⟨rfl, rfl⟩
theorem isInf0_no (r : Nat) (h : r < INF) (w : World) : Calls Tryd.prog 17 #[.float .f64 r, .int .i64 0] w (Is (.bool false) w) := by
  have HA := Lib.hid (fun w => abs_pos r (by unfold INF at h; omega) w)
  rcases ord_max h with ho | ho <;> clear h
  all_goals
    go_enter Tryd.func17, Tryd.ntmps17
    go_wp2_with (go_at_call 38; refine (HA.out _).mono ?_; rintro e w' ⟨rfl, rfl⟩)
    go_ret
    exact ⟨rfl, rfl⟩
theorem normalize_big (r : Nat) (h : r < INF) (h1 : 2 ^ 52 ≤ r) (w : World) : Calls Tryd.prog 55 #[.float .f64 r] w (Is (.tuple #[.float .f64 r, .int .i64 0]) w) := by
  have HA := Lib.hid (fun w => abs_pos r (by unfold INF at h; omega) w)
  have hm : (4503599627370496 : Nat) < INF := by decide
  rcases ord_ge h hm h1 with ho | ho <;> clear h h1 hm
  all_goals
    go_enter Tryd.func55, Tryd.ntmps55
    go_wp2_with (go_at_call 38; refine (HA.out _).mono ?_; rintro e w' ⟨rfl, rfl⟩)
    go_ret2
    exact ⟨rfl, rfl⟩
theorem normalize_sub (r q : Nat) (h : r < 2 ^ 52) (hq : floatBits .mul .f64 r 4841369599423283200 = some q) (w : World) : Calls Tryd.prog 55 #[.float .f64 r] w (Is (.tuple #[.float .f64 q, .int .i64 (-52)]) w) := by
  have HA := Lib.hid (fun w => abs_pos r (by omega) w)
  have hm : (4503599627370496 : Nat) < INF := by decide
  have ho := ord_lt hm h
  have rq := fun (w : World) => run_float_arith (P := Tryd.prog) w .mul 22 .f64 _ _ _ hq
  clear h hm hq
  go_enter Tryd.func55, Tryd.ntmps55
  go_wp2_with (go_at_call 38; refine (HA.out _).mono ?_; rintro e w' ⟨rfl, rfl⟩)
  go_ret2
  exact ⟨rfl, rfl⟩
/-- The fraction's word and the exponent of frexp. -/
def FW (y : Nat) : Nat := 1022 * 2 ^ 52 + y % 2 ^ 52
def FE (y : Nat) : Int := ((y / 2 ^ 52 : Nat) : Int) - 1022
theorem b_frac (y : Nat) (h : y < 2 ^ 63) : bits .andNot .u64 (y : Int) 9218868437227405312 = ((y % 2 ^ 52 : Nat) : Int) := by
  have e := Go.u64_andNot_nat y 9218868437227405312 (by omega) (by omega)
  rw [show ((9218868437227405312 : Nat) : Int) = 9218868437227405312 from rfl] at e
  rw [e]
  have e2 : y &&& (18446744073709551615 - 9218868437227405312) = y % 2 ^ 52 := by
    have h1 : (18446744073709551615 - 9218868437227405312 : Nat) = (2 ^ 63 + (2 ^ 52 - 1) : Nat) := by decide
    rw [h1]
    have h2 : (2 ^ 63 + (2 ^ 52 - 1) : Nat) = 2 ^ 63 ||| (2 ^ 52 - 1) := by decide
    rw [h2, Nat.and_or_distrib_left, Nat.and_two_pow_sub_one_eq_mod]
    have h3 : y &&& 2 ^ 63 = 0 := by
      apply Nat.eq_of_testBit_eq
      intro i
      rw [Nat.testBit_and, Nat.testBit_two_pow, Nat.zero_testBit]
      by_cases hi : 63 = i
      · subst hi
        rw [Nat.testBit_lt_two_pow h, Bool.false_and]
      · simp [hi]
    rw [h3, Nat.zero_or]
  rw [e2]
theorem b_or (m q : Nat) (h : m < 2 ^ 52) (hq : q < 2 ^ 12) : bits .or .u64 (m : Int) ((q * 2 ^ 52 : Nat) : Int) = ((q * 2 ^ 52 + m : Nat) : Int) := by
  rw [Go.u64_or_nat m (q * 2 ^ 52) (by omega) (by omega)]
  congr 1
  rw [Nat.or_comm, Nat.mul_comm q, ← Nat.two_pow_add_eq_or_of_lt h]
theorem b_exp (y : Nat) (h : y < 2 ^ 63) : bits .and .u64 ((y : Int) / 4503599627370496) 2047 = ((y / 2 ^ 52 : Nat) : Int) := by
  have e := Go.u64_and_nat (y / 2 ^ 52) 2047 (by omega) (by omega)
  rw [show ((2047 : Nat) : Int) = 2047 from rfl] at e
  rw [show (y : Int) / 4503599627370496 = ((y / 2 ^ 52 : Nat) : Int) from rfl, e]
  show ((y / 2 ^ 52 &&& (2 ^ 11 - 1) : Nat) : Int) = _
  rw [Nat.and_two_pow_sub_one_eq_mod, Nat.mod_eq_of_lt (by omega)]
theorem wr64 (a : Int) (h : -100000 ≤ a) (h2 : a ≤ 100000) : wrap64 a = a := by unfold wrap64; omega
theorem fe_arith (k : Int) (q : Nat) (hk : k = 0 ∨ k = -52) (hq : q < 2047) : ∃ a b c : Int, c = k + ((q : Int) - 1022) ∧ wrap64 (q : Int) = q ∧ wrap64 ((q : Int) - 1023) = a ∧ wrap64 (a + 1) = b ∧ wrap64 (k + b) = c ∧ (k = 0 → wrap64 b = c) :=
  ⟨(q : Int) - 1023, (q : Int) - 1023 + 1, k + ((q : Int) - 1023 + 1), by omega, wr64 _ (by omega) (by omega), wr64 _ (by omega) (by omega), wr64 _ (by omega) (by omega), wr64 _ (by omega) (by omega), fun h => by rw [wr64 _ (by omega) (by omega), h, Int.zero_add]⟩
set_option maxHeartbeats 1000000 in
theorem frexp_of (r y : Nat) (k : Int) (h0 : 0 < r) (h : r < INF) (h1 : 2 ^ 52 ≤ y) (h2 : y < INF) (hk : k = 0 ∨ k = -52) (w : World)
    (HO : ∀ w, Calls Tryd.prog 55 #[.float .f64 r] w (Is (.tuple #[.float .f64 y, .int .i64 k]) w)) :
    Calls Tryd.prog 40 #[.float .f64 r] w (Is (.tuple #[.float .f64 (FW y), .int .i64 (k + FE y)]) w) := by
  obtain ⟨m, n⟩ := small_mag (Nat.le_of_lt h)
  have hnan : isNan r = false := by rw [nan_iff, m]; exact decide_eq_false (by omega)
  have ho := ord_zero h0 (Nat.le_of_lt h)
  have HI := Lib.hid (fun w => isInf0_no r h w)
  have HN := Lib.hid (fun w => isNaN_no r hnan w)
  have HO := Lib.hid HO
  have hx := tobits_any
  have hf := frombits_any
  have hy : y < 2047 * 2 ^ 52 := h2
  have b1 := b_frac y (by omega)
  have b2 := b_or (y % 2 ^ 52) 1022 (by omega) (by omega)
  have b3 := b_exp y (by omega)
  rw [show ((1022 * 2 ^ 52 : Nat) : Int) = 4602678819172646912 from rfl] at b2
  obtain ⟨f, hf0⟩ : ∃ f, f = FW y := ⟨_, rfl⟩
  obtain ⟨q, hq⟩ : ∃ q : Nat, q = y / 2 ^ 52 := ⟨_, rfl⟩
  obtain ⟨g, hg⟩ : ∃ g : Nat, g = y % 2 ^ 52 := ⟨_, rfl⟩
  obtain ⟨a, b, c, hcE, w1, w2, w3, w4, w5⟩ := fe_arith k q hk (by rw [hq]; exact Nat.div_lt_of_lt_mul (by rw [Nat.mul_comm]; exact hy))
  replace hcE : c = k + FE y := by rw [hcE, hq]; rfl
  rw [← hcE, ← hf0]
  have hfe : ((1022 * 2 ^ 52 + y % 2 ^ 52 : Nat) : Int) = f := by rw [hf0]; unfold FW; exact Eq.refl _
  rw [hfe, ← hg] at b2
  rw [← hg] at b1
  rw [← hq] at b3
  clear h0 h h1 h2 m n hnan hy hf0 hcE hfe hq hg
  rcases hk with rfl | rfl
  · replace w5 := w5 rfl
    go_enter Tryd.func40, Tryd.ntmps40
    go_wp2_with (first
      | (go_at_call 17; refine (HI.out _).mono ?_; rintro e w' ⟨rfl, rfl⟩)
      | (go_at_call 15; refine (HN.out _).mono ?_; rintro e w' ⟨rfl, rfl⟩)
      | (go_at_call 55; refine (HO.out _).mono ?_; rintro e w' ⟨rfl, rfl⟩))
    go_ret2
    refine ⟨?_, rfl⟩
    show Ending.returned (.tuple #[.float .f64 f, .int .i64 (wrap64 b)]) = _
    rw [w5]
  · clear w5
    go_enter Tryd.func40, Tryd.ntmps40
    go_wp2_with (first
      | (go_at_call 17; refine (HI.out _).mono ?_; rintro e w' ⟨rfl, rfl⟩)
      | (go_at_call 15; refine (HN.out _).mono ?_; rintro e w' ⟨rfl, rfl⟩)
      | (go_at_call 55; refine (HO.out _).mono ?_; rintro e w' ⟨rfl, rfl⟩))
    go_ret2
    refine ⟨?_, rfl⟩
    show Ending.returned (.tuple #[.float .f64 f, .int .i64 (wrap64 (-52 + b))]) = _
    rw [w4]
open Ieee in
/-- A product with a power of two that is a value. -/
theorem sub_up {r : Nat} (h0 : 0 < r) (h : r < 2 ^ 52) : ∃ q, 2 ^ 52 ≤ q ∧ q < INF ∧ V q = V r * 2 ^ 52 ∧ floatBits .mul .f64 r 4841369599423283200 = some q := by
  have hr : r < INF := by unfold INF; omega
  have eV : V r = r := by unfold V; rw [if_pos h]
  obtain ⟨q, hq, hv⟩ := rep r 52 (by omega) (by omega)
  have h1 : double.read 4841369599423283200 = .number false (2 ^ 52) 0 := by decide +kernel
  have h2 := read_sub h
  have hs := scale_exact false r 52 52 (-1074) q hq hv (by decide)
  have hq52 : 2 ^ 52 ≤ q := by
    apply Nat.le_of_not_lt
    intro hlt
    have e : V q = q := by unfold V; rw [if_pos hlt]
    rw [e] at hv
    have : 2 ^ 52 ≤ r * 2 ^ 52 := Nat.le_mul_of_pos_left _ h0
    omega
  refine ⟨q, hq52, hq, by rw [hv, eV], ?_⟩
  show ((double.read r).product (double.read 4841369599423283200)).map double.write = some q
  rw [h1, h2]
  show some (double.nearest (xor false false) (r * 2 ^ 52) (-1074 + 0)) = _
  rw [show (-1074 + 0 : Int) = -1074 from rfl, Bool.false_xor, hs, word_small]
open Ieee in
theorem one_times {r : Nat} (h : r < INF) (h1 : 2 ^ 52 ≤ r) : floatBits .mul .f64 4607182418800017408 r = some r := by
  have e1 : double.read 4607182418800017408 = .number false (2 ^ 52) (-52) := by decide +kernel
  have e2 := read_big h h1
  have hs := scale_exact false (2 ^ 52 + r % 2 ^ 52) 52 (r / 2 ^ 52 - 1) (-52 + (-1074 + ((r / 2 ^ 52 - 1 : Nat) : Int))) r h (by unfold V; rw [if_neg (by omega)]) (by omega)
  show ((double.read 4607182418800017408).product (double.read r)).map double.write = some r
  rw [e1, e2]
  show some (double.nearest (xor false false) (2 ^ 52 * (2 ^ 52 + r % 2 ^ 52)) (-52 + (-1074 + ((r / 2 ^ 52 - 1 : Nat) : Int)))) = _
  rw [Bool.false_xor, Nat.mul_comm (2 ^ 52), hs, word_small]
end Go.Proofs.YtcjlkekekalgdaaDoor.txt
