/-
  The kinds of a memory's cells, by numbers; putting a cell of the same kind keeps them.
  Conditions: none.
-/
import Derived.Test.YtcjlkekekalgdaaShape
namespace Go.Proofs.Ytcjlkekekalgdaa.part
open Go Go.RowKit
set_option linter.unusedVariables false
set_option linter.unusedSimpArgs false

def tv : Value → Nat | .bool _ => 1 | .int .u32 _ => 2 | .int .u64 _ => 3 | .int .u16 _ => 4 | .int .i16 _ => 5 | .float .f64 _ => 6 | _ => 0
structure Tagged (cs : Array Value) : Prop where
  size : cs.size = 136
  all : ∀ i, i < 136 → ∃ v, cs[i]? = some v ∧ tv v = tags.getD i 0
theorem tv1 {v : Value} (h : tv v = 1) : ∃ a, v = .bool a := by
  unfold tv at h
  split at h <;> first | exact ⟨_, rfl⟩ | cases h
theorem tv2 {v : Value} (h : tv v = 2) : ∃ a, v = .int .u32 a := by
  unfold tv at h
  split at h <;> first | exact ⟨_, rfl⟩ | cases h
theorem tv3 {v : Value} (h : tv v = 3) : ∃ a, v = .int .u64 a := by
  unfold tv at h
  split at h <;> first | exact ⟨_, rfl⟩ | cases h
theorem tv4 {v : Value} (h : tv v = 4) : ∃ a, v = .int .u16 a := by
  unfold tv at h
  split at h <;> first | exact ⟨_, rfl⟩ | cases h
theorem tv5 {v : Value} (h : tv v = 5) : ∃ a, v = .int .i16 a := by
  unfold tv at h
  split at h <;> first | exact ⟨_, rfl⟩ | cases h
theorem tv6 {v : Value} (h : tv v = 6) : ∃ a, v = .float .f64 a := by
  unfold tv at h
  split at h <;> first | exact ⟨_, rfl⟩ | cases h
theorem tv_one {v : Value} (h : tv v = 1 ∨ tv v = 2 ∨ tv v = 3 ∨ tv v = 4 ∨ tv v = 5 ∨ tv v = 6) : v.oneCell' = true := by
  rcases h with h | h | h | h | h | h
  · obtain ⟨a, rfl⟩ := tv1 h; rfl
  · obtain ⟨a, rfl⟩ := tv2 h; rfl
  · obtain ⟨a, rfl⟩ := tv3 h; rfl
  · obtain ⟨a, rfl⟩ := tv4 h; rfl
  · obtain ⟨a, rfl⟩ := tv5 h; rfl
  · obtain ⟨a, rfl⟩ := tv6 h; rfl

theorem Tagged.put {cs : Array Value} (h : Tagged cs) (off : Nat) (v : Value) (hv : tv v = tags.getD off 0) : Tagged (cs.setIfInBounds off v) := by
  refine ⟨by simpa using h.size, fun i hi => ?_⟩
  by_cases e : i = off
  · subst e
    exact ⟨v, Array.getElem?_setIfInBounds_self_of_lt (by rw [h.size]; exact hi), hv⟩
  · obtain ⟨x, hx, ht⟩ := h.all i hi
    exact ⟨x, by rw [Array.getElem?_setIfInBounds_ne (by omega)]; exact hx, ht⟩

theorem Tagged.shape {cs : Array Value} (h : Tagged cs) : Shape cs := by
  have gb : ∀ i, i < 136 → tags.getD i 0 = 1 → ∃ a, cs[i]? = some (.bool a) := fun i hi ht => by
    obtain ⟨v, hv, e⟩ := h.all i hi; obtain ⟨a, rfl⟩ := tv1 (e.trans ht); exact ⟨a, hv⟩
  have g2 : ∀ i, i < 136 → tags.getD i 0 = 2 → ∃ a, cs[i]? = some (.int .u32 a) := fun i hi ht => by
    obtain ⟨v, hv, e⟩ := h.all i hi; obtain ⟨a, rfl⟩ := tv2 (e.trans ht); exact ⟨a, hv⟩
  have g3 : ∀ i, i < 136 → tags.getD i 0 = 3 → ∃ a, cs[i]? = some (.int .u64 a) := fun i hi ht => by
    obtain ⟨v, hv, e⟩ := h.all i hi; obtain ⟨a, rfl⟩ := tv3 (e.trans ht); exact ⟨a, hv⟩
  have g4 : ∀ i, i < 136 → tags.getD i 0 = 4 → ∃ a, cs[i]? = some (.int .u16 a) := fun i hi ht => by
    obtain ⟨v, hv, e⟩ := h.all i hi; obtain ⟨a, rfl⟩ := tv4 (e.trans ht); exact ⟨a, hv⟩
  have g5 : ∀ i, i < 136 → tags.getD i 0 = 5 → ∃ a, cs[i]? = some (.int .i16 a) := fun i hi ht => by
    obtain ⟨v, hv, e⟩ := h.all i hi; obtain ⟨a, rfl⟩ := tv5 (e.trans ht); exact ⟨a, hv⟩
  have g6 : ∀ i, i < 136 → tags.getD i 0 = 6 → ∃ a, cs[i]? = some (.float .f64 a) := fun i hi ht => by
    obtain ⟨v, hv, e⟩ := h.all i hi; obtain ⟨a, rfl⟩ := tv6 (e.trans ht); exact ⟨a, hv⟩
  refine ⟨h.size, ?_, g2 0 (by decide) (by decide), g2 1 (by decide) (by decide), g3 2 (by decide) (by decide), g4 3 (by decide) (by decide), g2 4 (by decide) (by decide), ?_, ?_, ?_, ?_, g2 133 (by decide) (by decide), gb 134 (by decide) (by decide), gb 135 (by decide) (by decide)⟩
  · intro x hx
    obtain ⟨i, hi, e⟩ := Array.mem_iff_getElem.1 hx
    have hx2 : cs[i]? = some x := by rw [Array.getElem?_eq_getElem hi, e]
    have hi2 : i < 136 := by have := h.size; omega
    obtain ⟨v, hv, ht⟩ := h.all i hi2
    rw [hx2] at hv
    cases hv
    exact tv_one (by rw [ht]; exact tags_any i hi2)
  · intro j hj
    obtain ⟨d, e1⟩ := gb (5 + j * 2) (by omega) ((by decide : ∀ j, j < 16 → tags.getD (5 + j * 2) 0 = 1) j hj)
    obtain ⟨c, e2⟩ := g4 (5 + (j * 2 + 1)) (by omega) ((by decide : ∀ j, j < 16 → tags.getD (5 + (j * 2 + 1)) 0 = 4) j hj)
    exact ⟨d, c, e1, e2⟩
  · intro j hj
    obtain ⟨d, e1⟩ := gb (37 + j * 3) (by omega) ((by decide : ∀ j, j < 16 → tags.getD (37 + j * 3) 0 = 1) j hj)
    obtain ⟨l, e2⟩ := gb (37 + (j * 3 + 1)) (by omega) ((by decide : ∀ j, j < 16 → tags.getD (37 + (j * 3 + 1)) 0 = 1) j hj)
    obtain ⟨c, e3⟩ := g4 (37 + (j * 3 + 2)) (by omega) ((by decide : ∀ j, j < 16 → tags.getD (37 + (j * 3 + 2)) 0 = 4) j hj)
    exact ⟨d, l, c, e1, e2, e3⟩
  · intro j hj
    exact g5 (85 + j) (by omega) ((by decide : ∀ j, j < 32 → tags.getD (85 + j) 0 = 5) j hj)
  · intro j hj
    exact g6 (117 + j) (by omega) ((by decide : ∀ j, j < 16 → tags.getD (117 + j) 0 = 6) j hj)

theorem Shape.tagged {cs : Array Value} (h : Shape cs) : Tagged cs := by
  refine ⟨h.size, fun i hi => ?_⟩
  have hc : i = 0 ∨ i = 1 ∨ i = 2 ∨ i = 3 ∨ i = 4 ∨ (∃ j, j < 16 ∧ i = 5 + j * 2) ∨ (∃ j, j < 16 ∧ i = 5 + (j * 2 + 1)) ∨ (∃ j, j < 16 ∧ i = 37 + j * 3) ∨ (∃ j, j < 16 ∧ i = 37 + (j * 3 + 1)) ∨ (∃ j, j < 16 ∧ i = 37 + (j * 3 + 2)) ∨ (∃ j, j < 32 ∧ i = 85 + j) ∨ (∃ j, j < 16 ∧ i = 117 + j) ∨ i = 133 ∨ i = 134 ∨ i = 135 := by
    by_cases h1 : i < 5
    · omega
    by_cases h2 : i < 37
    · by_cases h3 : (i - 5) % 2 = 0
      · exact .inr (.inr (.inr (.inr (.inr (.inl ⟨(i - 5) / 2, by omega, by omega⟩)))))
      · exact .inr (.inr (.inr (.inr (.inr (.inr (.inl ⟨(i - 5) / 2, by omega, by omega⟩))))))
    by_cases h4 : i < 85
    · have h5 : (i - 37) % 3 = 0 ∨ (i - 37) % 3 = 1 ∨ (i - 37) % 3 = 2 := by omega
      rcases h5 with h5 | h5 | h5
      · exact .inr (.inr (.inr (.inr (.inr (.inr (.inr (.inl ⟨(i - 37) / 3, by omega, by omega⟩)))))))
      · exact .inr (.inr (.inr (.inr (.inr (.inr (.inr (.inr (.inl ⟨(i - 37) / 3, by omega, by omega⟩))))))))
      · exact .inr (.inr (.inr (.inr (.inr (.inr (.inr (.inr (.inr (.inl ⟨(i - 37) / 3, by omega, by omega⟩)))))))))
    by_cases h6 : i < 117
    · exact .inr (.inr (.inr (.inr (.inr (.inr (.inr (.inr (.inr (.inr (.inl ⟨i - 85, by omega, by omega⟩))))))))))
    by_cases h7 : i < 133
    · exact .inr (.inr (.inr (.inr (.inr (.inr (.inr (.inr (.inr (.inr (.inr (.inl ⟨i - 117, by omega, by omega⟩)))))))))))
    · omega
  rcases hc with rfl | rfl | rfl | rfl | rfl | ⟨j, hj, rfl⟩ | ⟨j, hj, rfl⟩ | ⟨j, hj, rfl⟩ | ⟨j, hj, rfl⟩ | ⟨j, hj, rfl⟩ | ⟨j, hj, rfl⟩ | ⟨j, hj, rfl⟩ | rfl | rfl | rfl
  · obtain ⟨a, e⟩ := h.X; exact ⟨_, e, rfl⟩
  · obtain ⟨a, e⟩ := h.Y; exact ⟨_, e, rfl⟩
  · obtain ⟨a, e⟩ := h.M; exact ⟨_, e, rfl⟩
  · obtain ⟨a, e⟩ := h.S; exact ⟨_, e, rfl⟩
  · obtain ⟨a, e⟩ := h.E; exact ⟨_, e, rfl⟩
  · obtain ⟨d, c, e, _⟩ := h.T j hj; exact ⟨_, e, ((by decide : ∀ j, j < 16 → 1 = tags.getD (5 + j * 2) 0) j hj)⟩
  · obtain ⟨d, c, _, e⟩ := h.T j hj; exact ⟨_, e, ((by decide : ∀ j, j < 16 → 4 = tags.getD (5 + (j * 2 + 1)) 0) j hj)⟩
  · obtain ⟨d, l, c, e, _, _⟩ := h.C j hj; exact ⟨_, e, ((by decide : ∀ j, j < 16 → 1 = tags.getD (37 + j * 3) 0) j hj)⟩
  · obtain ⟨d, l, c, _, e, _⟩ := h.C j hj; exact ⟨_, e, ((by decide : ∀ j, j < 16 → 1 = tags.getD (37 + (j * 3 + 1)) 0) j hj)⟩
  · obtain ⟨d, l, c, _, _, e⟩ := h.C j hj; exact ⟨_, e, ((by decide : ∀ j, j < 16 → 4 = tags.getD (37 + (j * 3 + 2)) 0) j hj)⟩
  · obtain ⟨n, e⟩ := h.D j hj; exact ⟨_, e, ((by decide : ∀ j, j < 32 → 5 = tags.getD (85 + j) 0) j hj)⟩
  · obtain ⟨n, e⟩ := h.R j hj; exact ⟨_, e, ((by decide : ∀ j, j < 16 → 6 = tags.getD (117 + j) 0) j hj)⟩
  · obtain ⟨a, e⟩ := h.Time; exact ⟨_, e, rfl⟩
  · obtain ⟨a, e⟩ := h.Ran; exact ⟨_, e, rfl⟩
  · obtain ⟨a, e⟩ := h.Fault; exact ⟨_, e, rfl⟩
end Go.Proofs.Ytcjlkekekalgdaa.part
