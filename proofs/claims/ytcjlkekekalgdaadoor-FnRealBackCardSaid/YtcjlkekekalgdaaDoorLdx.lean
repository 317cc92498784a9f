/-
  'math.Frexp', 'math.Ldexp' at 53: the digits of a float above 0.
  Conditions: a finite float above 0.
-/
import Derived.Test.YtcjlkekekalgdaaDoorFrx
namespace Go.Proofs.YtcjlkekekalgdaaDoor.txt
open Go Go.RowKit Go.Lib Go.Proofs.YtcjlkekekalgdaaDoor.fl Go.Proofs.YtcjlkekekalgdaaDoor.flo
set_option linter.unusedVariables false
set_option linter.unusedSimpArgs false
set_option maxRecDepth 20000

theorem FW_lt (y : Nat) : FW y < INF ∧ 2 ^ 52 ≤ FW y ∧ FW y < 2 ^ 63 := by unfold FW INF; omega
theorem FW_div (y : Nat) : FW y / 2 ^ 52 = 1022 := by unfold FW; omega
theorem FW_mod (y : Nat) : FW y % 2 ^ 52 = y % 2 ^ 52 := by unfold FW; omega
/-- The word of 2^52 + the fraction. -/
def LW (y : Nat) : Nat := 1075 * 2 ^ 52 + y % 2 ^ 52
theorem LW_lt (y : Nat) : LW y < INF ∧ 2 ^ 52 ≤ LW y := by unfold LW INF; omega
set_option maxHeartbeats 2000000 in
theorem ldexp_53 (y : Nat) (w : World) : Calls Tryd.prog 42 #[.float .f64 (FW y), .int .i64 53] w (Is (.float .f64 (LW y)) w) := by
  obtain ⟨h1, h2, h3⟩ := FW_lt y
  obtain ⟨m, n⟩ := small_mag (Nat.le_of_lt h1)
  have hnan : isNan (FW y) = false := by rw [nan_iff, m]; exact decide_eq_false (by omega)
  have ho := ord_zero (Nat.lt_of_lt_of_le (by decide) h2) (Nat.le_of_lt h1)
  have HI := Lib.hid (fun w => isInf0_no (FW y) h1 w)
  have HN := Lib.hid (fun w => isNaN_no (FW y) hnan w)
  have HO := Lib.hid (fun w => normalize_big (FW y) h1 h2 w)
  have hx := tobits_any
  have hf := frombits_any
  have b1 := b_frac (FW y) h3
  rw [FW_mod] at b1
  have b2 := b_or (y % 2 ^ 52) 1075 (Nat.mod_lt _ (by decide)) (by decide)
  rw [show ((1075 * 2 ^ 52 : Nat) : Int) = 4841369599423283200 from rfl] at b2
  have b2' : bits .or .u64 ((y % 2 ^ 52 : Nat) : Int) 4841369599423283200 = ((LW y : Nat) : Int) := b2
  have b3 : ((FW y : Nat) : Int) / 4503599627370496 = 1022 := by
    have := FW_div y
    rw [show ((FW y : Nat) : Int) / 4503599627370496 = ((FW y / 2 ^ 52 : Nat) : Int) from rfl, this]
    rfl
  have b4 : bits .and .i64 1022 2047 = 1022 := by decide
  have b5 := one_times (LW_lt y).1 (LW_lt y).2
  have rq := fun (w : World) => run_float_arith (P := Tryd.prog) w .mul 22 .f64 _ _ _ b5
  obtain ⟨f, hf0⟩ : ∃ f, f = FW y := ⟨_, rfl⟩
  obtain ⟨g, hg⟩ : ∃ g : Nat, g = y % 2 ^ 52 := ⟨_, rfl⟩
  obtain ⟨l, hl⟩ : ∃ l : Nat, l = LW y := ⟨_, rfl⟩
  rw [← hf0] at ho HI HN HO b1 b3 ⊢
  rw [← hg] at b1 b2'
  rw [← hl] at b2' rq ⊢
  clear h1 h2 h3 m n hnan b2 b5 hf0 hg hl
  go_enter Tryd.func42, Tryd.ntmps42
  go_wp2_with (first
    | (go_at_call 17; refine (HI.out _).mono ?_; rintro e w' ⟨rfl, rfl⟩)
    | (go_at_call 15; refine (HN.out _).mono ?_; rintro e w' ⟨rfl, rfl⟩)
    | (go_at_call 55; refine (HO.out _).mono ?_; rintro e w' ⟨rfl, rfl⟩))
  go_ret
  exact ⟨rfl, rfl⟩
end Go.Proofs.YtcjlkekekalgdaaDoor.txt
