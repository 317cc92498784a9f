/-
  'math.NaN', 'math.Inf', 'math.Copysign', 'l3Nan', 'l3Inf', 'l3Word': what they return.
  Conditions: none.
-/
import Derived.Test.YthfkgeloilhniaaDoorFlo
namespace Go.Proofs.YthfkgeloilhniaaDoor.flo
open Go.RowKit
set_option linter.unusedVariables false
set_option linter.unusedSimpArgs false

/-- The call returns a word of which P holds; what was there stays. -/
def Flt (P : Nat → Prop) (w : World) (e : Ending) (w' : World) : Prop := ∃ x, e = .returned (.float .f64 x) ∧ P x ∧ Below w.heap.size w w'
/-- What an operation gives: its word, or a NaN. -/
def Res (op : BinOp) (a b x : Nat) : Prop := match floatBits op .f64 a b with | some r => x = r | none => isNan x = true
theorem Res.same {op : BinOp} {a b x y : Nat} (hx : Res op a b x) (hy : Res op a b y) : Same y x := by
  unfold Res at hx hy
  cases h : floatBits op .f64 a b with
  | some r => rw [h] at hx hy; exact .inr (hy.trans hx.symm)
  | none => rw [h] at hx hy; exact .inl ⟨hy, hx⟩
theorem below_drew (w : World) : Below w.heap.size w w.drew := (Below.refl _ _).drew

theorem frombits_any (n : Int) (w : World) : (callFunc 52 #[.int .u64 n]).run Tryd.prog w = .ok (.value (.float .f64 n.toNat)) w := by
  rw [run_callFunc_extern Tryd.func52 (by kernel_rfl) (by kernel_rfl) (by kernel_rfl) (e := Extern.MathFloatBits.float64frombits) (by kernel_rfl)]
  rfl

theorem nan_any (w : World) : Calls Tryd.prog 35 #[] w (Flt (fun x => isNan x = true) w) := by
  have hn : isNan 9221120237041090561 = true := by decide +kernel
  have Hn := Lib.hid hn
  clear hn
  have hx := frombits_any
  go_enter Tryd.func35, Tryd.ntmps35
  go_wp2
  go_ret
  exact ⟨_, rfl, Hn.out, Below.refl _ _⟩

theorem l3Nan_any (w : World) : Calls Tryd.prog 54 #[] w (Flt (fun x => isNan x = true) w) := by
  have h0 : floatBits .quo .f64 0 0 = none := by decide +kernel
  have rq := run_nan (P := Tryd.prog) .quo 37 0 0 (by decide) h0
  clear h0
  go_enter Tryd.func54, Tryd.ntmps54
  go_wp2
  go_ret
  exact ⟨_, rfl, nanAt_nan _ _ _, below_drew w⟩

theorem tobits_any (n : Nat) (w : World) : (callFunc 53 #[.float .f64 n]).run Tryd.prog w = .ok (.value (.int .u64 n)) w := by
  rw [run_callFunc_extern Tryd.func53 (by kernel_rfl) (by kernel_rfl) (by kernel_rfl) (e := Extern.MathFloatBits.float64bits) (by kernel_rfl)]
  rfl

theorem inf_pos (w : World) : Calls Tryd.prog 36 #[.int .i64 1] w fun e w' => e = .returned (.float .f64 9218868437227405312) ∧ w = w' := by
  have hx := frombits_any
  go_enter Tryd.func36, Tryd.ntmps36
  go_wp2
  go_ret
  exact ⟨rfl, rfl⟩
theorem inf_neg (w : World) : Calls Tryd.prog 36 #[.int .i64 (-1)] w fun e w' => e = .returned (.float .f64 18442240474082181120) ∧ w = w' := by
  have hx := frombits_any
  go_enter Tryd.func36, Tryd.ntmps36
  go_wp2
  go_ret
  exact ⟨rfl, rfl⟩
/-- The infinity of a sign. -/
def infW (n : Int) : Nat := if 0 ≤ n then 9218868437227405312 else 18442240474082181120
theorem inf_any (n : Int) (w : World) : Calls Tryd.prog 36 #[.int .i64 n] w fun e w' => e = .returned (.float .f64 (infW n)) ∧ w = w' := by
  have hx := frombits_any
  by_cases h : 0 ≤ n
  · have hv : Hid (9218868437227405312 = infW n) := Lib.hid (by rw [infW, if_pos h])
    go_enter Tryd.func36, Tryd.ntmps36
    go_wp2
    go_ret
    exact ⟨by rw [← hv.out]; rfl, rfl⟩
  · have hv : Hid (18442240474082181120 = infW n) := Lib.hid (by rw [infW, if_neg h])
    go_enter Tryd.func36, Tryd.ntmps36
    go_wp2
    go_ret
    exact ⟨by rw [← hv.out]; rfl, rfl⟩
theorem nan_exact (w : World) : Calls Tryd.prog 35 #[] w fun e w' => e = .returned (.float .f64 9221120237041090561) ∧ w = w' := by
  have hx := frombits_any
  go_enter Tryd.func35, Tryd.ntmps35
  go_wp2
  go_ret
  exact ⟨rfl, rfl⟩
theorem copysign_zero (w : World) : Calls Tryd.prog 37 #[.float .f64 0, .float .f64 13830554455654793216] w fun e w' => e = .returned (.float .f64 9223372036854775808) ∧ w = w' := by
  have hx := frombits_any
  have hy := tobits_any
  go_enter Tryd.func37, Tryd.ntmps37
  go_wp2
  go_ret
  exact ⟨rfl, rfl⟩

theorem l3Inf_any (w : World) : Calls Tryd.prog 55 #[] w fun e w' => e = .returned (.float .f64 9218868437227405312) ∧ w = w' := by
  have h0 : floatBits .quo .f64 4607182418800017408 0 = some 9218868437227405312 := by decide +kernel
  have rq := fun (w : World) => run_float_arith (P := Tryd.prog) w .quo 37 .f64 _ _ _ h0
  clear h0
  go_enter Tryd.func55, Tryd.ntmps55
  go_wp2
  go_ret
  exact ⟨rfl, rfl⟩

/-- The number that a word stands for. -/
def WordIs (n : Int) (x : Nat) : Prop := if n = 0 then isNan x = true else if n = 1 then x = 9218868437227405312 else if n = 2 then x = 18442240474082181120 else x = 9223372036854775808
theorem WordIs.same {n : Int} {x y : Nat} (hx : WordIs n x) (hy : WordIs n y) : Same y x := by
  unfold WordIs at hx hy
  split at hx
  · rename_i h; rw [if_pos h] at hy; exact .inl ⟨hy, hx⟩
  rename_i h; rw [if_neg h] at hy
  split at hx
  · rename_i h; rw [if_pos h] at hy; exact .inr (hy.trans hx.symm)
  rename_i h; rw [if_neg h] at hy
  split at hx
  · rename_i h; rw [if_pos h] at hy; exact .inr (hy.trans hx.symm)
  rename_i h; rw [if_neg h] at hy
  exact .inr (hy.trans hx.symm)

theorem neg_inf : Op.negFloat .f64 9218868437227405312 = 18442240474082181120 := by decide +kernel
theorem neg_zero : Op.negFloat .f64 0 = 9223372036854775808 := by decide +kernel
theorem run_neg (x : Nat) (w : World) : (Op.unary .neg (.float .f64 x)).run Tryd.prog w = .ok (.float .f64 (Op.negFloat .f64 x)) w := rfl
theorem l3Word_any (n : Int) (w : World) (h : 0 ≤ n ∧ n ≤ 3) : Calls Tryd.prog 38 #[.int .i64 n] w (Flt (WordIs n) w) := by
  have hn : n = 0 ∨ n = 1 ∨ n = 2 ∨ n = 3 := by omega
  clear h
  have n1 := neg_inf
  have n2 := neg_zero
  have n3 := run_neg
  rcases hn with rfl | rfl | rfl | rfl
  · go_enter Tryd.func38, Tryd.ntmps38
    go_wp2_with fail
    refine (l3Nan_any _).mono ?_
    rintro e w1 ⟨x, rfl, hx, hb⟩
    have Hx := Lib.hid hx
    clear hx
    go_wp2_with fail
    go_ret
    exact ⟨x, rfl, Hx.out, hb⟩
  · go_enter Tryd.func38, Tryd.ntmps38
    go_wp2_with fail
    refine (l3Inf_any _).mono ?_
    rintro e w1 ⟨rfl, rfl⟩
    go_wp2_with fail
    go_ret
    exact ⟨_, rfl, rfl, Below.refl _ _⟩
  · go_enter Tryd.func38, Tryd.ntmps38
    go_wp2_with fail
    refine (l3Inf_any _).mono ?_
    rintro e w1 ⟨rfl, rfl⟩
    go_wp2_with fail
    go_ret
    exact ⟨_, rfl, rfl, Below.refl _ _⟩
  · go_enter Tryd.func38, Tryd.ntmps38
    go_wp2_with fail
    go_ret
    exact ⟨_, rfl, rfl, Below.refl _ _⟩
end Go.Proofs.YthfkgeloilhniaaDoor.flo
