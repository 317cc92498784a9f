/-
  What a row knows of an argument that is a memory: its 136 cells and their kinds.
  Conditions: none.
-/
import Derived.Test.YtcjlkekekalgdaaEqMem
namespace Go.Proofs.Ytcjlkekekalgdaa.part
open Go Go.RowKit
set_option linter.unusedVariables false
set_option linter.unusedSimpArgs false

def at_ (P : Program) (t : TypeId) (i : Nat) : Option TypeDesc := match P.cellTypes P.depth t with | some ts => (ts[i % ts.length]?).bind P.underlying | none => none
def tag (d : Option TypeDesc) : Nat := match d with | some .bool => 1 | some (.int .u32) => 2 | some (.int .u64) => 3 | some (.int .u16) => 4 | some (.int .i16) => 5 | some (.float .f64) => 6 | _ => 0
def tags : List Nat := [2, 2, 3, 4, 2] ++ [1, 4, 1, 4, 1, 4, 1, 4, 1, 4, 1, 4, 1, 4, 1, 4, 1, 4, 1, 4, 1, 4, 1, 4, 1, 4, 1, 4, 1, 4, 1, 4] ++
  [1, 1, 4, 1, 1, 4, 1, 1, 4, 1, 1, 4, 1, 1, 4, 1, 1, 4, 1, 1, 4, 1, 1, 4, 1, 1, 4, 1, 1, 4, 1, 1, 4, 1, 1, 4, 1, 1, 4, 1, 1, 4, 1, 1, 4, 1, 1, 4] ++ List.replicate 32 5 ++ List.replicate 16 6 ++ [2, 1, 1]
theorem tags_ok : ∀ i, i < 136 → tag (at_ Try.prog 36 i) = tags.getD i 0 := by decide +kernel
theorem size_ok : Try.prog.cellsOf 36 = 136 := by decide +kernel
theorem tag1 {d : Option TypeDesc} (h : tag d = 1) : d = some .bool := by
  unfold tag at h
  split at h <;> first | rfl | cases h
theorem tag2 {d : Option TypeDesc} (h : tag d = 2) : d = some (.int .u32) := by
  unfold tag at h
  split at h <;> first | rfl | cases h
theorem tag3 {d : Option TypeDesc} (h : tag d = 3) : d = some (.int .u64) := by
  unfold tag at h
  split at h <;> first | rfl | cases h
theorem tag4 {d : Option TypeDesc} (h : tag d = 4) : d = some (.int .u16) := by
  unfold tag at h
  split at h <;> first | rfl | cases h
theorem tag5 {d : Option TypeDesc} (h : tag d = 5) : d = some (.int .i16) := by
  unfold tag at h
  split at h <;> first | rfl | cases h
theorem tag6 {d : Option TypeDesc} (h : tag d = 6) : d = some (.float .f64) := by
  unfold tag at h
  split at h <;> first | rfl | cases h
theorem tags_any : ∀ i, i < 136 → tags.getD i 0 = 1 ∨ tags.getD i 0 = 2 ∨ tags.getD i 0 = 3 ∨ tags.getD i 0 = 4 ∨ tags.getD i 0 = 5 ∨ tags.getD i 0 = 6 := by decide +kernel

set_option maxRecDepth 100000 in
theorem shape_of {W : World} {base : Nat} {v : Value} (h : Value.okWide Try.prog W .any base 36 v) : ∃ cs, v = .agg cs ∧ Shape cs := by
  obtain ⟨cs, rfl, hsz, hts⟩ := kit.ok_cells Try.underlying36 h
  rw [size_ok] at hsz
  have get : ∀ i, i < 136 → ∃ u x, cs[i]? = some x ∧ Try.prog.underlying u = at_ Try.prog 36 i ∧ Cell.okWide Try.prog W .any base u x ∧ (∃ d, at_ Try.prog 36 i = some d) := by
    intro i hi
    have ht := tags_ok i hi
    cases hc : Try.prog.cellTypes Try.prog.depth 36 with
    | none =>
      have e : at_ Try.prog 36 i = none := by unfold at_; rw [hc]
      rw [e] at ht
      have := tags_any i hi
      simp only [tag] at ht
      omega
    | some ts =>
      have hx : cs[i]? = some cs[i] := Array.getElem?_eq_getElem (by omega)
      obtain ⟨u, hu, hok⟩ := hts ts hc i _ hx
      have e : at_ Try.prog 36 i = Try.prog.underlying u := by unfold at_; rw [hc]; simp only [hu, Option.bind_some]
      refine ⟨u, _, hx, e.symm, hok, ?_⟩
      cases hd : at_ Try.prog 36 i with
      | some d => exact ⟨d, rfl⟩
      | none =>
        rw [hd] at ht
        have := tags_any i hi
        simp only [tag] at ht
        omega
  have gb : ∀ i, i < 136 → tags.getD i 0 = 1 → ∃ a, cs[i]? = some (.bool a) := by
    intro i hi ht
    obtain ⟨u, x, hx, hu, hok, _⟩ := get i hi
    rw [tag1 ((tags_ok i hi).trans ht)] at hu
    obtain ⟨n, rfl⟩ := kit.cell_bool hu hok
    exact ⟨n, hx⟩
  have g2 : ∀ i, i < 136 → tags.getD i 0 = 2 → ∃ a, cs[i]? = some (.int .u32 a) := by
    intro i hi ht
    obtain ⟨u, x, hx, hu, hok, _⟩ := get i hi
    rw [tag2 ((tags_ok i hi).trans ht)] at hu
    obtain ⟨n, rfl, _⟩ := kit.cell_int hu hok
    exact ⟨n, hx⟩
  have g3 : ∀ i, i < 136 → tags.getD i 0 = 3 → ∃ a, cs[i]? = some (.int .u64 a) := by
    intro i hi ht
    obtain ⟨u, x, hx, hu, hok, _⟩ := get i hi
    rw [tag3 ((tags_ok i hi).trans ht)] at hu
    obtain ⟨n, rfl, _⟩ := kit.cell_int hu hok
    exact ⟨n, hx⟩
  have g4 : ∀ i, i < 136 → tags.getD i 0 = 4 → ∃ a, cs[i]? = some (.int .u16 a) := by
    intro i hi ht
    obtain ⟨u, x, hx, hu, hok, _⟩ := get i hi
    rw [tag4 ((tags_ok i hi).trans ht)] at hu
    obtain ⟨n, rfl, _⟩ := kit.cell_int hu hok
    exact ⟨n, hx⟩
  have g5 : ∀ i, i < 136 → tags.getD i 0 = 5 → ∃ a, cs[i]? = some (.int .i16 a) := by
    intro i hi ht
    obtain ⟨u, x, hx, hu, hok, _⟩ := get i hi
    rw [tag5 ((tags_ok i hi).trans ht)] at hu
    obtain ⟨n, rfl, _⟩ := kit.cell_int hu hok
    exact ⟨n, hx⟩
  have g6 : ∀ i, i < 136 → tags.getD i 0 = 6 → ∃ a, cs[i]? = some (.float .f64 a) := by
    intro i hi ht
    obtain ⟨u, x, hx, hu, hok, _⟩ := get i hi
    rw [tag6 ((tags_ok i hi).trans ht)] at hu
    obtain ⟨n, rfl, _⟩ := kit.cell_float hu hok
    exact ⟨n, hx⟩
  refine ⟨cs, rfl, hsz, ?_, g2 0 (by decide) (by decide), g2 1 (by decide) (by decide), g3 2 (by decide) (by decide), g4 3 (by decide) (by decide), g2 4 (by decide) (by decide), ?_, ?_, ?_, ?_, g2 133 (by decide) (by decide), gb 134 (by decide) (by decide), gb 135 (by decide) (by decide)⟩
  · intro x hx
    obtain ⟨i, hi, e⟩ := Array.mem_iff_getElem.1 hx
    have hx2 : cs[i]? = some x := by rw [Array.getElem?_eq_getElem hi, e]
    have hi2 : i < 136 := by omega
    have : ∃ v : Value, cs[i]? = some v ∧ v.oneCell' = true := by
      rcases tags_any i hi2 with h | h | h | h | h | h
      · obtain ⟨a, e⟩ := gb i hi2 h; exact ⟨_, e, rfl⟩
      · obtain ⟨a, e⟩ := g2 i hi2 h; exact ⟨_, e, rfl⟩
      · obtain ⟨a, e⟩ := g3 i hi2 h; exact ⟨_, e, rfl⟩
      · obtain ⟨a, e⟩ := g4 i hi2 h; exact ⟨_, e, rfl⟩
      · obtain ⟨a, e⟩ := g5 i hi2 h; exact ⟨_, e, rfl⟩
      · obtain ⟨a, e⟩ := g6 i hi2 h; exact ⟨_, e, rfl⟩
    obtain ⟨v, e1, e2⟩ := this
    rw [hx2] at e1
    cases e1
    exact e2
  · intro j hj
    obtain ⟨d, e1⟩ := gb (5 + j * 2) (by omega) ((by decide : ∀ j, j < 16 → tags.getD (5 + j * 2) 0 = 1) j hj)
    obtain ⟨c, e2⟩ := g4 (5 + (j * 2 + 1)) (by omega) ((by decide : ∀ j, j < 16 → tags.getD (5 + (j * 2 + 1)) 0 = 4) j hj)
    exact ⟨d, c, e1, e2⟩
  · intro j hj
    obtain ⟨d, e1⟩ := gb (37 + j * 3) (by omega) ((by decide : ∀ j, j < 16 → tags.getD (37 + j * 3) 0 = 1) j hj)
    obtain ⟨l, e2⟩ := gb (37 + (j * 3 + 1)) (by omega) ((by decide : ∀ j, j < 16 → tags.getD (37 + (j * 3 + 1)) 0 = 1) j hj)
    obtain ⟨c, e3⟩ := g4 (37 + (j * 3 + 2)) (by omega) ((by decide : ∀ j, j < 16 → tags.getD (37 + (j * 3 + 2)) 0 = 4) j hj)
    exact ⟨d, l, c, e1, e2, e3⟩
  · intro j hj
    exact g5 (85 + j) (by omega) ((by decide : ∀ j, j < 32 → tags.getD (85 + j) 0 = 5) j hj)
  · intro j hj
    exact g6 (117 + j) (by omega) ((by decide : ∀ j, j < 16 → tags.getD (117 + j) 0 = 6) j hj)

/-- One cell put. -/
theorem Shape.put_ran {cs : Array Value} (h : Shape cs) (b : Bool) : Shape (cs.setIfInBounds 134 (.bool b)) := by
  have k : ∀ i, i ≠ 134 → (cs.setIfInBounds 134 (.bool b))[i]? = cs[i]? := fun i hi => Array.getElem?_setIfInBounds_ne (by omega)
  refine ⟨by simpa using h.size, ?_, ?_, ?_, ?_, ?_, ?_, ?_, ?_, ?_, ?_, ?_, ⟨b, Array.getElem?_setIfInBounds_self_of_lt (by rw [h.size]; decide)⟩, ?_⟩
  · intro x hx
    obtain ⟨i, hi, e⟩ := Array.mem_iff_getElem.1 hx
    have hi2 : i < cs.size := by simpa using hi
    by_cases h4 : i = 134
    · subst h4
      rw [Array.getElem_setIfInBounds_self] at e
      rw [← e]
      rfl
    · rw [Array.getElem_setIfInBounds_ne hi2 (by omega)] at e
      rw [← e]
      exact h.one _ (Array.getElem_mem hi2)
  · rw [k _ (by decide)]; exact h.X
  · rw [k _ (by decide)]; exact h.Y
  · rw [k _ (by decide)]; exact h.M
  · rw [k _ (by decide)]; exact h.S
  · rw [k _ (by decide)]; exact h.E
  · intro j hj; rw [k _ (by omega), k _ (by omega)]; exact h.T j hj
  · intro j hj; rw [k _ (by omega), k _ (by omega), k _ (by omega)]; exact h.C j hj
  · intro j hj; rw [k _ (by omega)]; exact h.D j hj
  · intro j hj; rw [k _ (by omega)]; exact h.R j hj
  · rw [k _ (by decide)]; exact h.Time
  · rw [k _ (by decide)]; exact h.Fault
end Go.Proofs.Ytcjlkekekalgdaa.part
