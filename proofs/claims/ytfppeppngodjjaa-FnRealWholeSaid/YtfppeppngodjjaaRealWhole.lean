/-
  'RealWhole' of both sides: what they return.
  Conditions: none.
-/
import Derived.Test.YtfppeppngodjjaaFlo
namespace Go.Proofs.Ytfppeppngodjjaa.flo
open Go.RowKit
set_option linter.unusedVariables false
set_option linter.unusedSimpArgs false

/-- What both sides return of a word. -/
def wholeOk (x : Nat) : Bool := decide (fl.mag x < fl.INF ∧ -32768 ≤ fl.tr x ∧ fl.tr x ≤ 32767)
def whole (x : Nat) : Int := if wholeOk x = true then fl.tr x else 0

theorem cases_word (x : Nat) : fl.mag x < fl.INF ∨ Ieee.double.read x = .infinity (fl.neg x) ∨ isNan x = true := by
  by_cases h : fl.mag x < fl.INF
  · exact .inl h
  right
  have h1 : ¬ x % 2 ^ 63 < 2 ^ 52 := by unfold fl.mag fl.INF at h; omega
  have h2 : ¬ x % 2 ^ 63 < fl.INF := h
  rw [isNan, fl.read_eq, if_neg h1, if_neg h2]
  by_cases h3 : x % 2 ^ 63 = fl.INF
  · rw [if_pos h3]; exact .inl rfl
  · rw [if_neg h3]; exact .inr rfl

theorem ord_fin {x c : Nat} {n : Int} (h : fl.mag x < fl.INF) (hc : fl.mag c < fl.INF) (hn : fl.sv c = n * fl.ONE) : FloatKind.f64.format.order x c = some (compare (fl.sv x) (n * fl.ONE)) := by
  show Ieee.double.order x c = _
  rw [fl.order_fin h hc, hn]

theorem ord_inf {x c : Nat} (h : Ieee.double.read x = .infinity (fl.neg x)) (hc : fl.mag c < fl.INF) : FloatKind.f64.format.order x c = some (if fl.neg x then .lt else .gt) := by
  show (Ieee.double.read x).order (Ieee.double.read c) = _
  obtain ⟨m, e, e1, _⟩ := fl.read_fin hc
  rw [h, e1]
  rfl

theorem c_a : fl.sv 13898108587504304128 = -32769 * (fl.ONE : Int) ∧ fl.mag 13898108587504304128 < fl.INF := by decide +kernel
theorem c_b : fl.sv 4674736413210574848 = 32768 * (fl.ONE : Int) ∧ fl.mag 4674736413210574848 < fl.INF := by decide +kernel
theorem c_c : fl.sv 13898108450065350656 = -32768 * (fl.ONE : Int) ∧ fl.mag 13898108450065350656 < fl.INF := by decide +kernel
theorem c_d : fl.sv 4674736138332667904 = 32767 * (fl.ONE : Int) ∧ fl.mag 4674736138332667904 < fl.INF := by decide +kernel

theorem comp_lt {a b : Int} (h : a < b) : compare a b = .lt := by simp [compare, compareOfLessAndEq, h]
theorem comp_gt {a b : Int} (h : b < a) : compare a b = .gt := by
  have h1 : ¬ a < b := by omega
  have h2 : ¬ a = b := by omega
  simp [compare, compareOfLessAndEq, h1, h2]
theorem comp_ge {a b : Int} (h : ¬ a < b) : compare a b = .gt ∨ compare a b = .eq := by
  by_cases h2 : a = b
  · right; simp [compare, compareOfLessAndEq, h2]
  · left; exact comp_gt (by omega)
theorem comp_le {a b : Int} (h : ¬ b < a) : compare a b = .lt ∨ compare a b = .eq := by
  by_cases h2 : a = b
  · right; simp [compare, compareOfLessAndEq, h2]
  · left; exact comp_lt (by omega)

theorem whole_in {x : Nat} (h : fl.mag x < fl.INF) (h1 : -32768 ≤ fl.tr x) (h2 : fl.tr x ≤ 32767) : wholeOk x = true ∧ whole x = fl.tr x := by
  have h0 : wholeOk x = true := decide_eq_true ⟨h, h1, h2⟩
  exact ⟨h0, by rw [whole, if_pos h0]⟩
theorem whole_out {x : Nat} (h : ¬ (fl.mag x < fl.INF ∧ -32768 ≤ fl.tr x ∧ fl.tr x ≤ 32767)) : wholeOk x = false ∧ whole x = 0 := by
  have h0 : wholeOk x = false := decide_eq_false h
  exact ⟨h0, by rw [whole, if_neg (by simp [h0])]⟩

theorem ret2 {a b : Int} {c d : Bool} (h1 : a = b) (h2 : c = d) : Ending.returned (.tuple #[.int .i16 a, .bool c]) = .returned (.tuple #[.int .i16 b, .bool d]) := by rw [h1, h2]

theorem conv_int {x : Nat} {k : IntKind} (h : fl.mag x < fl.INF) (h1 : k.min ≤ fl.tr x) (h2 : fl.tr x ≤ k.max) : floatToIntVal .f64 x k = some (fl.tr x) := by
  have e : (FloatKind.f64.decode x).toInt .zero = some (fl.tr x) := fl.toInt_fin h
  unfold floatToIntVal
  rw [e]
  simp only [h1, h2, and_self, if_true]

theorem spec_whole (x : Nat) (w : World) : Calls Try.prog 10 #[.float .f64 x] w fun e w' => e = .returned (.tuple #[.int .i16 (whole x), .bool (wholeOk x)]) ∧ w = w' := by
  rcases cases_word x with h | h | h
  · have oa := ord_fin h c_a.2 c_a.1
    have ob := ord_fin h c_b.2 c_b.1
    by_cases h1 : -32769 < fl.tr x
    · rw [comp_gt ((fl.lt_sv (by omega)).2 h1)] at oa
      by_cases h2 : fl.tr x < 32768
      · have hv := Lib.hid (whole_in h (by omega) (by omega))
        rw [comp_lt ((fl.sv_lt (by omega)).2 h2)] at ob
        have hc := fun (w : World) => run_convert_float_int (P := Try.prog) w 22 3 .f64 .i64 x _ (by kernel_rfl) Try.underlying3 (conv_int h (by show (-9223372036854775808 : Int) ≤ _; omega) (by show _ ≤ (9223372036854775807 : Int); omega))
        clear h
        generalize fl.tr x = n at *
        go_enter Try.func10, Try.ntmps10
        go_wp2
        go_ret2
        exact ⟨ret2 hv.out.2.symm hv.out.1.symm, rfl⟩
      · have hv := Lib.hid (whole_out (x := x) (by omega))
        have hg : ¬ fl.sv x < 32768 * (fl.ONE : Int) := fun hh => h2 ((fl.sv_lt (by omega)).1 hh)
        clear h h1 h2
        rcases comp_ge hg with hh | hh
        all_goals
          rw [hh] at ob
          clear hg hh
          go_enter Try.func10, Try.ntmps10
          go_wp2
          go_ret2
          exact ⟨ret2 hv.out.2.symm hv.out.1.symm, rfl⟩
    · have hv := Lib.hid (whole_out (x := x) (by omega))
      have hg : ¬ -32769 * (fl.ONE : Int) < fl.sv x := fun hh => h1 ((fl.lt_sv (by omega)).1 hh)
      clear h h1 ob
      rcases comp_le hg with hh | hh
      all_goals
        rw [hh] at oa
        clear hg hh
        go_enter Try.func10, Try.ntmps10
        go_wp2
        go_ret2
        exact ⟨ret2 hv.out.2.symm hv.out.1.symm, rfl⟩
  · have oa := ord_inf h c_a.2
    have ob := ord_inf h c_b.2
    have hv := Lib.hid (whole_out (x := x) (by intro hh; obtain ⟨m, e, e1, _⟩ := fl.read_fin hh.1; rw [e1] at h; cases h))
    clear h
    generalize fl.neg x = s at *
    cases s
    all_goals
      simp only [Bool.false_eq_true, if_false, if_true] at oa ob
      go_enter Try.func10, Try.ntmps10
      go_wp2
      go_ret2
      exact ⟨ret2 hv.out.2.symm hv.out.1.symm, rfl⟩
  · have oa := order_nan_left (y := 13898108587504304128) h
    have hv := Lib.hid (whole_out (x := x) (by intro hh; obtain ⟨m, e, e1, _⟩ := fl.read_fin hh.1; rw [isNan, e1] at h; cases h))
    clear h
    go_enter Try.func10, Try.ntmps10
    go_wp2
    go_ret2
    exact ⟨ret2 hv.out.2.symm hv.out.1.symm, rfl⟩

/-! ### the extern: 'math.archTrunc' -/
theorem arch_call (x : Nat) (w : World) : (callFunc 25 #[.float .f64 x]).run Try.prog w = ((Extern.MathFloor.toIntegral "math.archTrunc" .zero #[.float .f64 x]).run Try.prog w).andThen fun v w' => .ok (.value v) w' :=
  run_callFunc_extern Try.func25 (by kernel_rfl) (by kernel_rfl) (by kernel_rfl) (e := Extern.MathFloor.toIntegral "math.archTrunc" .zero) (by kernel_rfl) _ _

/-- The extern's text at one float. -/
theorem toIntegral_eq (name : String) (way : Ieee.Toward) (x : Nat) : Extern.MathFloor.toIntegral name way #[.float .f64 x] =
    (match FloatKind.f64.decode x with
    | .nan s t =>
      if FloatKind.f64.format.quiet t = t then pure (.float .f64 x) else do
      let kept ← choose (.extern "math.Floor,Ceil,Trunc,RoundToEven.signallingNaN kept" 2)
      pure (.float .f64 (if kept == 1 then x else FloatKind.f64.encode (.nan s (FloatKind.f64.format.quiet t))))
    | d => pure (.float .f64 (FloatKind.f64.encode (d.integral way)))) := rfl

theorem quiet_nan (s : Bool) (t : Nat) : isNan (FloatKind.f64.encode (.nan s (FloatKind.f64.format.quiet t))) = true := by
  have e : FloatKind.f64.encode (.nan s (FloatKind.f64.format.quiet t)) = Ieee.double.word s (fl.INF + (t ||| 2 ^ 51) % 2 ^ 52) := rfl
  have hb : ((t ||| 2 ^ 51) % 2 ^ 52).testBit 51 = true := by
    rw [Nat.testBit_mod_two_pow, Nat.testBit_or, Nat.testBit_two_pow_self]
    simp
  have hp : (t ||| 2 ^ 51) % 2 ^ 52 ≠ 0 := by
    intro h0
    rw [h0, Nat.zero_testBit] at hb
    cases hb
  have hl : (t ||| 2 ^ 51) % 2 ^ 52 < 2 ^ 52 := Nat.mod_lt _ (by decide)
  rw [e]
  generalize (t ||| 2 ^ 51) % 2 ^ 52 = u at *
  apply read_nan
  unfold Ieee.Format.word
  rw [fl.sign_eq]
  unfold fl.INF
  cases s
  · simp only [Bool.false_eq_true, if_false]; omega
  · simp only [if_true]; omega

theorem arch_fin {x : Nat} (h : fl.mag x < fl.INF) : ∃ y, fl.mag y < fl.INF ∧ fl.sv y = fl.tr x * fl.ONE ∧ fl.tr y = fl.tr x ∧ ∀ w, (callFunc 25 #[.float .f64 x]).run Try.prog w = .ok (.value (.float .f64 y)) w := by
  obtain ⟨y, h1, h2, h3, h4⟩ := fl.trunc_word h
  refine ⟨y, h2, fl.sv_whole h3 h4, fl.tr_whole h3 h4, fun w => ?_⟩
  rw [arch_call]
  obtain ⟨m, e, e1, _⟩ := fl.read_fin h
  have e2 : FloatKind.f64.decode x = .number (fl.neg x) m e := e1
  have e3 : FloatKind.f64.encode ((Ieee.Datum.number (fl.neg x) m e).integral .zero) = y := by rw [← e1]; exact h1
  rw [toIntegral_eq, e2]
  show (Sem.run Try.prog (pure (Value.float .f64 (FloatKind.f64.encode ((Ieee.Datum.number (fl.neg x) m e).integral .zero)))) w).andThen _ = _
  rw [e3]
  rfl

theorem arch_inf {x : Nat} (h : Ieee.double.read x = .infinity (fl.neg x)) : ∃ y, Ieee.double.read y = .infinity (fl.neg y) ∧ fl.neg y = fl.neg x ∧ ∀ w, (callFunc 25 #[.float .f64 x]).run Try.prog w = .ok (.value (.float .f64 y)) w := by
  have hw : Ieee.double.write (.infinity (fl.neg x)) = Ieee.double.word (fl.neg x) fl.INF := rfl
  have hn := fl.word_neg (fl.neg x) (Nat.le_refl fl.INF)
  have hm := fl.word_mag (fl.neg x) (Nat.le_refl fl.INF)
  refine ⟨Ieee.double.word (fl.neg x) fl.INF, ?_, hn, fun w => ?_⟩
  · generalize Ieee.double.word (fl.neg x) fl.INF = y at *
    have h1 : ¬ y % 2 ^ 63 < 2 ^ 52 := by unfold fl.mag fl.INF at hm; omega
    have h2 : ¬ y % 2 ^ 63 < fl.INF := by unfold fl.mag at hm; omega
    rw [fl.read_eq, if_neg h1, if_neg h2, if_pos (show y % 2 ^ 63 = fl.INF from hm)]
    rfl
  · rw [arch_call]
    have e2 : FloatKind.f64.decode x = .infinity (fl.neg x) := h
    have e3 : FloatKind.f64.encode ((Ieee.Datum.infinity (fl.neg x)).integral .zero) = Ieee.double.word (fl.neg x) fl.INF := hw
    rw [toIntegral_eq, e2]
    show (Sem.run Try.prog (pure (Value.float .f64 (FloatKind.f64.encode ((Ieee.Datum.infinity (fl.neg x)).integral .zero)))) w).andThen _ = _
    rw [e3]
    rfl

theorem arch_nan {x : Nat} (h : isNan x = true) : ∃ f : World → Nat, (∀ w, isNan (f w) = true) ∧ ((∀ w, (callFunc 25 #[.float .f64 x]).run Try.prog w = .ok (.value (.float .f64 (f w))) w) ∨ ∀ w, (callFunc 25 #[.float .f64 x]).run Try.prog w = .ok (.value (.float .f64 (f w))) w.drew) := by
  have hx := h
  unfold isNan at h
  cases hd : Ieee.double.read x with
  | number _ _ _ => rw [hd] at h; cases h
  | infinity _ => rw [hd] at h; cases h
  | nan s t =>
    have e2 : FloatKind.f64.decode x = .nan s t := hd
    by_cases hq : FloatKind.f64.format.quiet t = t
    · refine ⟨fun _ => x, fun _ => hx, .inl fun w => ?_⟩
      rw [arch_call]
      rw [toIntegral_eq, e2]
      simp only [hq, if_true]
      rfl
    · refine ⟨fun w => if (Question.extern "math.Floor,Ceil,Trunc,RoundToEven.signallingNaN kept" 2).cut (w.tape w.drawn (Question.extern "math.Floor,Ceil,Trunc,RoundToEven.signallingNaN kept" 2)) == 1 then x else FloatKind.f64.encode (.nan s (FloatKind.f64.format.quiet t)), fun w => ?_, .inr fun w => ?_⟩
      · show isNan (ite _ _ _) = true
        split
        · exact hx
        · exact quiet_nan s t
      · rw [arch_call]
        rw [toIntegral_eq, e2]
        simp only [hq, if_false]
        simp [Question.forced]

theorem impl_whole (x : Nat) (w : World) : Calls Try.prog 11 #[.float .f64 x] w fun e w' => e = .returned (.tuple #[.int .i16 (whole x), .bool (wholeOk x)]) ∧ Below w.heap.size w w' := by
  rcases cases_word x with h | h | h
  · obtain ⟨y, hy, hs, ht, hcall⟩ := arch_fin h
    have oc := ord_fin hy c_c.2 c_c.1
    have od := ord_fin hy c_d.2 c_d.1
    rw [hs, fl.compare_mul (by have := fl.ONE_pos; omega)] at oc od
    by_cases h1 : -32768 ≤ fl.tr x
    · by_cases h2 : fl.tr x ≤ 32767
      · have hv := Lib.hid (whole_in h h1 h2)
        have hc := fun (w : World) => run_convert_float_int (P := Try.prog) w 22 26 .f64 .i16 y _ (by kernel_rfl) Try.underlying26 (conv_int hy (by show (-32768 : Int) ≤ _; omega) (by show _ ≤ (32767 : Int); omega))
        rw [ht] at hc
        clear h hs ht hy
        generalize fl.tr x = n at *
        rcases comp_ge (show ¬ n < -32768 by omega) with hh | hh <;> rcases comp_le (show ¬ 32767 < n by omega) with hk | hk
        all_goals
          rw [hh] at oc
          rw [hk] at od
          clear hh hk
          go_enter Try.func11, Try.ntmps11
          go_wp2
          go_ret2
          exact ⟨ret2 hv.out.2.symm hv.out.1.symm, Below.refl _ _⟩
      · have hv := Lib.hid (whole_out (x := x) (by omega))
        rw [comp_gt (show -32768 < fl.tr x by omega)] at oc
        rw [comp_gt (show 32767 < fl.tr x by omega)] at od
        clear h hs ht hy h1 h2
        go_enter Try.func11, Try.ntmps11
        go_wp2
        go_ret2
        exact ⟨ret2 hv.out.2.symm hv.out.1.symm, Below.refl _ _⟩
    · have hv := Lib.hid (whole_out (x := x) (by omega))
      rw [comp_lt (show fl.tr x < -32768 by omega)] at oc
      clear h hs ht hy h1 od
      go_enter Try.func11, Try.ntmps11
      go_wp2
      go_ret2
      exact ⟨ret2 hv.out.2.symm hv.out.1.symm, Below.refl _ _⟩
  · obtain ⟨y, hy, hn, hcall⟩ := arch_inf h
    have oc := ord_inf hy c_c.2
    have od := ord_inf hy c_d.2
    have hv := Lib.hid (whole_out (x := x) (by intro hh; obtain ⟨m, e, e1, _⟩ := fl.read_fin hh.1; rw [e1] at h; cases h))
    clear h hy hn
    generalize fl.neg y = s at *
    cases s
    all_goals
      simp only [Bool.false_eq_true, if_false, if_true] at oc od
      go_enter Try.func11, Try.ntmps11
      go_wp2
      go_ret2
      exact ⟨ret2 hv.out.2.symm hv.out.1.symm, Below.refl _ _⟩
  · obtain ⟨f, hf, hcall⟩ := arch_nan h
    have oc : ∀ w, FloatKind.f64.format.order (f w) 13898108450065350656 = none := fun w => order_nan_left (hf w)
    have hv := Lib.hid (whole_out (x := x) (by intro hh; obtain ⟨m, e, e1, _⟩ := fl.read_fin hh.1; rw [isNan, e1] at h; cases h))
    clear h hf
    rcases hcall with hcall | hcall
    · go_enter Try.func11, Try.ntmps11
      go_wp2
      go_ret2
      exact ⟨ret2 hv.out.2.symm hv.out.1.symm, Below.refl _ _⟩
    · go_enter Try.func11, Try.ntmps11
      go_wp2
      go_ret2
      exact ⟨ret2 hv.out.2.symm hv.out.1.symm, (Below.refl _ _).drew⟩
end Go.Proofs.Ytfppeppngodjjaa.flo
