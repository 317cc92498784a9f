/-
  'impl.DevSize' and 'spec.DevSize': what both return.
  Conditions: the variable 'devSizes' holds its numbers (the cells are hypotheses).
-/
import Derived.Test.YtgmdpgchffapoaaDoorKit
import Derived.WalkLawsBesides
namespace Go.Proofs.YtgmdpgchffapoaaDoor.dev
open Go.RowKit
set_option linter.unusedVariables false
def sizes : List Int := [0, 32, 32, 64, 16, 32, 5, 16, 16, 32, 16]
def size (k : Int) : Int := if k < 1 then 0 else if 10 < k then 0 else sizes.getD k.toNat 0

def inB (n lo hi : Int) : Bool := decide (lo ≤ n ∧ n ≤ hi)
theorem inB_true {n lo hi : Int} (h : lo ≤ n ∧ n ≤ hi) : inB n lo hi = true := decide_eq_true h
theorem inB_false {n lo hi : Int} (h : ¬ (lo ≤ n ∧ n ≤ hi)) : inB n lo hi = false := decide_eq_false h
theorem in_any (n lo hi : Int) (w : World) : Calls Tryd.prog 14 #[.int .i64 n, .int .i64 lo, .int .i64 hi] w fun e w' => e = .returned (.bool (inB n lo hi)) ∧ w = w' := by
  go_enter Tryd.func14, Tryd.ntmps14
  go_wp2
  · go_ret
    refine ⟨kit.ret_bool ?_, rfl⟩
    unfold inB
    rw [decide_eq_decide]
    omega
  · go_ret
    exact ⟨kit.ret_bool (inB_false (by omega)).symm, rfl⟩

/-- The variable's cell leads to the eleven numbers. -/
def Sizes (w : World) : Prop := ∃ b off, w.cell? ⟨3, 0, none⟩ = some (.slice (some ⟨b, off, none⟩) 11 11) ∧ ∀ j, j < 11 → w.cell? ⟨b, off + j, none⟩ = some (.int .i64 (sizes.getD j 0))

theorem impl_size (k : Int) (w : World) (hs : Sizes w) : Calls Tryd.prog 33 #[.int .i64 k] w fun e w' => e = .returned (.int .i64 (size k)) ∧ w = w' := by
  obtain ⟨b, off, hc, hel⟩ := hs
  by_cases h1 : 1 ≤ k ∧ k ≤ 10
  · have hi := inB_true h1
    obtain ⟨h1, h2⟩ := h1
    have he := hel k.toNat (by omega)
    have hv : Hid (sizes.getD k.toNat 0 = size k) := Lib.hid (by rw [size, if_neg (by omega), if_neg (by omega)])
    generalize sizes.getD k.toNat 0 = v at *
    clear hel
    go_enter Tryd.func33, Tryd.ntmps33
    go_wp2_with (go_at_call 14; refine (in_any _ _ _ _).mono ?_; rintro e w' ⟨rfl, rfl⟩)
    go_ret
    exact ⟨kit.ret_int hv.out, rfl⟩
  · have hi := inB_false h1
    have hv : Hid (0 = size k) := Lib.hid (by unfold size; split; rfl; split; rfl; omega)
    clear hel h1
    go_enter Tryd.func33, Tryd.ntmps33
    go_wp2_with (go_at_call 14; refine (in_any _ _ _ _).mono ?_; rintro e w' ⟨rfl, rfl⟩)
    go_ret
    exact ⟨kit.ret_int hv.out, rfl⟩

theorem spec_size (k : Int) (w : World) : Calls Tryd.prog 41 #[.int .i64 k] w fun e w' => e = .returned (.int .i64 (size k)) ∧ w = w' := by
  by_cases h1 : k < 1
  · go_enter Tryd.func41, Tryd.ntmps41
    go_wp2
    go_ret
    exact ⟨kit.ret_int (by simp [size, h1]), rfl⟩
  by_cases h2 : 10 < k
  · go_enter Tryd.func41, Tryd.ntmps41
    go_wp2
    go_ret
    exact ⟨kit.ret_int (by rw [size, if_neg (by omega), if_pos h2]), rfl⟩
  · have hk : k = 1 ∨ k = 2 ∨ k = 3 ∨ k = 4 ∨ k = 5 ∨ k = 6 ∨ k = 7 ∨ k = 8 ∨ k = 9 ∨ k = 10 := by omega
    clear h1 h2
    rcases hk with rfl | rfl | rfl | rfl | rfl | rfl | rfl | rfl | rfl | rfl
    all_goals
      go_enter Tryd.func41, Tryd.ntmps41
      go_wp2
      go_ret
      exact ⟨kit.ret_int (by decide), rfl⟩
end Go.Proofs.YtgmdpgchffapoaaDoor.dev
