/-
  'RealCalc' of both sides, 'math.NaN' and 'l3Nan': each side returns the same value.
  Conditions: none.
-/
import Derived.Test.YtfppeppngodjjaaSameFloat
namespace Go.Proofs.Ytfppeppngodjjaa.flo
open Go.RowKit
set_option linter.unusedVariables false
set_option linter.unusedSimpArgs false

/-- The call returns a word of which P holds; what was there stays. -/
def Flt (P : Nat → Prop) (w : World) (e : Ending) (w' : World) : Prop := ∃ x, e = .returned (.float .f64 x) ∧ P x ∧ Below w.heap.size w w'
/-- What an operation gives: its word, or a NaN. -/
def Res (op : BinOp) (a b x : Nat) : Prop := match floatBits op .f64 a b with | some r => x = r | none => isNan x = true
theorem Res.same {op : BinOp} {a b x y : Nat} (hx : Res op a b x) (hy : Res op a b y) : Same y x := by
  unfold Res at hx hy
  cases h : floatBits op .f64 a b with
  | some r => rw [h] at hx hy; exact .inr (hy.trans hx.symm)
  | none => rw [h] at hx hy; exact .inl ⟨hy, hx⟩
theorem below_drew (w : World) : Below w.heap.size w w.drew := (Below.refl _ _).drew

theorem frombits_any (n : Int) (w : World) : (callFunc 24 #[.int .u64 n]).run Try.prog w = .ok (.value (.float .f64 n.toNat)) w := by
  rw [run_callFunc_extern Try.func24 (by kernel_rfl) (by kernel_rfl) (by kernel_rfl) (e := Extern.MathFloatBits.float64frombits) (by kernel_rfl)]
  rfl

theorem nan_any (w : World) : Calls Try.prog 17 #[] w (Flt (fun x => isNan x = true) w) := by
  have hn : isNan 9221120237041090561 = true := by decide +kernel
  have Hn := Lib.hid hn
  clear hn
  have hx := frombits_any
  go_enter Try.func17, Try.ntmps17
  go_wp2
  go_ret
  exact ⟨_, rfl, Hn.out, Below.refl _ _⟩

theorem l3Nan_any (w : World) : Calls Try.prog 16 #[] w (Flt (fun x => isNan x = true) w) := by
  have h0 : floatBits .quo .f64 0 0 = none := by decide +kernel
  have rq := run_nan (P := Try.prog) .quo 22 0 0 (by decide) h0
  clear h0
  go_enter Try.func16, Try.ntmps16
  go_wp2
  go_ret
  exact ⟨_, rfl, nanAt_nan _ _ _, below_drew w⟩
/-- What both sides reckon. -/
def Calc (op : Int) (a b x : Nat) : Prop :=
  if op = 1 then Res .add a b x else if op = 2 then Res .sub a b x else if op = 3 then Res .mul a b x else if op = 4 then Res .quo a b x else isNan x = true
theorem Calc.same {op : Int} {a b x y : Nat} (hx : Calc op a b x) (hy : Calc op a b y) : Same y x := by
  unfold Calc at hx hy
  split at hx
  · rename_i h; rw [if_pos h] at hy; exact hx.same hy
  rename_i h; rw [if_neg h] at hy
  split at hx
  · rename_i h; rw [if_pos h] at hy; exact hx.same hy
  rename_i h; rw [if_neg h] at hy
  split at hx
  · rename_i h; rw [if_pos h] at hy; exact hx.same hy
  rename_i h; rw [if_neg h] at hy
  split at hx
  · rename_i h; rw [if_pos h] at hy; exact hx.same hy
  rename_i h; rw [if_neg h] at hy
  exact .inl ⟨hy, hx⟩

theorem impl_rcalc (op : Int) (a b : Nat) (w : World) : Calls Try.prog 8 #[.int .i64 op, .float .f64 a, .float .f64 b] w (Flt (Calc op a b) w) := by
  by_cases h1 : op = 1
  · subst h1
    cases hb : floatBits .add .f64 a b with
    | some r =>
      have rq := fun (w : World) => run_float_arith (P := Try.prog) w .add 22 .f64 _ _ _ hb
      have Hb := Lib.hid hb
      clear hb
      go_enter Try.func8, Try.ntmps8
      go_wp2
      go_ret
      exact ⟨_, rfl, by show Res .add a b r; unfold Res; rw [Hb.out], Below.refl _ _⟩
    | none =>
      have rq := run_nan (P := Try.prog) .add 22 a b (by decide) hb
      have Hb := Lib.hid hb
      clear hb
      go_enter Try.func8, Try.ntmps8
      go_wp2
      go_ret
      exact ⟨_, rfl, by show Res .add a b _; unfold Res; rw [Hb.out]; exact nanAt_nan _ _ _, below_drew w⟩
  by_cases h2 : op = 2
  · subst h2
    cases hb : floatBits .sub .f64 a b with
    | some r =>
      have rq := fun (w : World) => run_float_arith (P := Try.prog) w .sub 22 .f64 _ _ _ hb
      have Hb := Lib.hid hb
      clear hb
      go_enter Try.func8, Try.ntmps8
      go_wp2
      go_ret
      exact ⟨_, rfl, by show Res .sub a b r; unfold Res; rw [Hb.out], Below.refl _ _⟩
    | none =>
      have rq := run_nan (P := Try.prog) .sub 22 a b (by decide) hb
      have Hb := Lib.hid hb
      clear hb
      go_enter Try.func8, Try.ntmps8
      go_wp2
      go_ret
      exact ⟨_, rfl, by show Res .sub a b _; unfold Res; rw [Hb.out]; exact nanAt_nan _ _ _, below_drew w⟩
  by_cases h3 : op = 3
  · subst h3
    cases hb : floatBits .mul .f64 a b with
    | some r =>
      have rq := fun (w : World) => run_float_arith (P := Try.prog) w .mul 22 .f64 _ _ _ hb
      have Hb := Lib.hid hb
      clear hb
      go_enter Try.func8, Try.ntmps8
      go_wp2
      go_ret
      exact ⟨_, rfl, by show Res .mul a b r; unfold Res; rw [Hb.out], Below.refl _ _⟩
    | none =>
      have rq := run_nan (P := Try.prog) .mul 22 a b (by decide) hb
      have Hb := Lib.hid hb
      clear hb
      go_enter Try.func8, Try.ntmps8
      go_wp2
      go_ret
      exact ⟨_, rfl, by show Res .mul a b _; unfold Res; rw [Hb.out]; exact nanAt_nan _ _ _, below_drew w⟩
  by_cases h4 : op = 4
  · subst h4
    cases hb : floatBits .quo .f64 a b with
    | some r =>
      have rq := fun (w : World) => run_float_arith (P := Try.prog) w .quo 22 .f64 _ _ _ hb
      have Hb := Lib.hid hb
      clear hb
      go_enter Try.func8, Try.ntmps8
      go_wp2
      go_ret
      exact ⟨_, rfl, by show Res .quo a b r; unfold Res; rw [Hb.out], Below.refl _ _⟩
    | none =>
      have rq := run_nan (P := Try.prog) .quo 22 a b (by decide) hb
      have Hb := Lib.hid hb
      clear hb
      go_enter Try.func8, Try.ntmps8
      go_wp2
      go_ret
      exact ⟨_, rfl, by show Res .quo a b _; unfold Res; rw [Hb.out]; exact nanAt_nan _ _ _, below_drew w⟩
  have b1 : (op == 1) = false := beq_eq_false_iff_ne.2 h1
  have b2 : (op == 2) = false := beq_eq_false_iff_ne.2 h2
  have b3 : (op == 3) = false := beq_eq_false_iff_ne.2 h3
  have b4 : (op == 4) = false := beq_eq_false_iff_ne.2 h4
  have hc : ∀ x, isNan x = true → Calc op a b x := fun x hx => by rw [Calc, if_neg h1, if_neg h2, if_neg h3, if_neg h4]; exact hx
  have Hc := Lib.hid hc
  clear hc h1 h2 h3 h4
  go_enter Try.func8, Try.ntmps8
  go_wp2_with fail
  refine (nan_any _).mono ?_
  rintro e w1 ⟨x, rfl, hx, hb⟩
  have Hx := Lib.hid hx
  clear hx
  go_wp2_with fail
  go_ret
  exact ⟨x, rfl, Hc.out x Hx.out, hb⟩

theorem spec_rcalc (op : Int) (a b : Nat) (w : World) : Calls Try.prog 7 #[.int .i64 op, .float .f64 a, .float .f64 b] w (Flt (Calc op a b) w) := by
  by_cases h1 : op = 1
  · subst h1
    cases hb : floatBits .add .f64 a b with
    | some r =>
      have rq := fun (w : World) => run_float_arith (P := Try.prog) w .add 22 .f64 _ _ _ hb
      have Hb := Lib.hid hb
      clear hb
      go_enter Try.func7, Try.ntmps7
      go_wp2
      go_ret
      exact ⟨_, rfl, by show Res .add a b r; unfold Res; rw [Hb.out], Below.refl _ _⟩
    | none =>
      have rq := run_nan (P := Try.prog) .add 22 a b (by decide) hb
      have Hb := Lib.hid hb
      clear hb
      go_enter Try.func7, Try.ntmps7
      go_wp2
      go_ret
      exact ⟨_, rfl, by show Res .add a b _; unfold Res; rw [Hb.out]; exact nanAt_nan _ _ _, below_drew w⟩
  by_cases h2 : op = 2
  · subst h2
    cases hb : floatBits .sub .f64 a b with
    | some r =>
      have rq := fun (w : World) => run_float_arith (P := Try.prog) w .sub 22 .f64 _ _ _ hb
      have Hb := Lib.hid hb
      clear hb
      go_enter Try.func7, Try.ntmps7
      go_wp2
      go_ret
      exact ⟨_, rfl, by show Res .sub a b r; unfold Res; rw [Hb.out], Below.refl _ _⟩
    | none =>
      have rq := run_nan (P := Try.prog) .sub 22 a b (by decide) hb
      have Hb := Lib.hid hb
      clear hb
      go_enter Try.func7, Try.ntmps7
      go_wp2
      go_ret
      exact ⟨_, rfl, by show Res .sub a b _; unfold Res; rw [Hb.out]; exact nanAt_nan _ _ _, below_drew w⟩
  by_cases h3 : op = 3
  · subst h3
    cases hb : floatBits .mul .f64 a b with
    | some r =>
      have rq := fun (w : World) => run_float_arith (P := Try.prog) w .mul 22 .f64 _ _ _ hb
      have Hb := Lib.hid hb
      clear hb
      go_enter Try.func7, Try.ntmps7
      go_wp2
      go_ret
      exact ⟨_, rfl, by show Res .mul a b r; unfold Res; rw [Hb.out], Below.refl _ _⟩
    | none =>
      have rq := run_nan (P := Try.prog) .mul 22 a b (by decide) hb
      have Hb := Lib.hid hb
      clear hb
      go_enter Try.func7, Try.ntmps7
      go_wp2
      go_ret
      exact ⟨_, rfl, by show Res .mul a b _; unfold Res; rw [Hb.out]; exact nanAt_nan _ _ _, below_drew w⟩
  by_cases h4 : op = 4
  · subst h4
    cases hb : floatBits .quo .f64 a b with
    | some r =>
      have rq := fun (w : World) => run_float_arith (P := Try.prog) w .quo 22 .f64 _ _ _ hb
      have Hb := Lib.hid hb
      clear hb
      go_enter Try.func7, Try.ntmps7
      go_wp2
      go_ret
      exact ⟨_, rfl, by show Res .quo a b r; unfold Res; rw [Hb.out], Below.refl _ _⟩
    | none =>
      have rq := run_nan (P := Try.prog) .quo 22 a b (by decide) hb
      have Hb := Lib.hid hb
      clear hb
      go_enter Try.func7, Try.ntmps7
      go_wp2
      go_ret
      exact ⟨_, rfl, by show Res .quo a b _; unfold Res; rw [Hb.out]; exact nanAt_nan _ _ _, below_drew w⟩
  have b1 : (op == 1) = false := beq_eq_false_iff_ne.2 h1
  have b2 : (op == 2) = false := beq_eq_false_iff_ne.2 h2
  have b3 : (op == 3) = false := beq_eq_false_iff_ne.2 h3
  have b4 : (op == 4) = false := beq_eq_false_iff_ne.2 h4
  have hc : ∀ x, isNan x = true → Calc op a b x := fun x hx => by rw [Calc, if_neg h1, if_neg h2, if_neg h3, if_neg h4]; exact hx
  have Hc := Lib.hid hc
  clear hc h1 h2 h3 h4
  go_enter Try.func7, Try.ntmps7
  go_wp2_with fail
  refine (l3Nan_any _).mono ?_
  rintro e w1 ⟨x, rfl, hx, hb⟩
  have Hx := Lib.hid hx
  clear hx
  go_wp2_with fail
  go_ret
  exact ⟨x, rfl, Hc.out x Hx.out, hb⟩
end Go.Proofs.Ytfppeppngodjjaa.flo
