/-
  'DevIsBit', 'DevIsWhole', 'DevIsReal' of both sides: what they return.
  Conditions: the variables 'devSizes', 'devWords' hold what they are laid with.
-/
import Derived.Test.YtnffgafofkknoaaDoorKindIs
namespace Go.Proofs.YtnffgafofkknoaaDoor.dev
open Go.RowKit
set_option linter.unusedVariables false
set_option linter.unusedSimpArgs false

theorem size_pos {k : Int} (h : 0 < size k) : 1 ≤ k ∧ k ≤ 10 := by
  unfold size at h
  split at h
  · omega
  · split at h
    · omega
    · omega
theorem dok_kind {k n p : Int} (h : dok k n p = true) : 1 ≤ k ∧ k ≤ 13 := by
  unfold dok at h
  split at h
  · omega
  split at h
  · omega
  split at h
  · omega
  · rw [decide_eq_true_iff] at h
    have := size_pos (k := k) (by omega)
    omega
theorem ret_of {a b : Bool} {w w' : World} (h : a = b) (hb : Below w.heap.size w w') : Ending.returned (.bool a) = .returned (.bool b) ∧ Below w.heap.size w w' := ⟨by rw [h], hb⟩

end Go.Proofs.YtnffgafofkknoaaDoor.dev
