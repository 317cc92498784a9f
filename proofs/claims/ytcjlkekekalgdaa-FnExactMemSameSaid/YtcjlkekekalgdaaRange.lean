/-
  What a row knows of a memory's numbers: each lies in its kind's range.
  Conditions: none.
-/
import Derived.Test.YtcjlkekekalgdaaTagged
namespace Go.Proofs.Ytcjlkekekalgdaa.part
open Go Go.RowKit
set_option linter.unusedVariables false
set_option linter.unusedSimpArgs false

def Rg (cs : Array Value) : Prop := ∀ (i : Nat) (k : IntKind) (a : Int), cs[i]? = some (.int k a) → k.min ≤ a ∧ a ≤ k.max
theorem cell_rg {P : Program} {w : World} {r : Reach} {b : Nat} {t : TypeId} {k : IntKind} {a : Int} (h : Cell.okWide P w r b t (.int k a)) : k.min ≤ a ∧ a ≤ k.max := by
  cases hu : P.underlying t with
  | none => simp only [hu, Cell.okWide, Cell.ok] at h
  | some d => cases d <;> simp_all [Cell.okWide, Cell.ok, IntKind.has]
set_option maxRecDepth 100000 in
theorem rg_of {W : World} {base : Nat} {cs : Array Value} (h : Value.okWide Try.prog W .any base 36 (.agg cs)) : Rg cs := by
  intro i k a hi
  obtain ⟨cs', e, hsz, hts⟩ := kit.ok_cells Try.underlying36 h
  cases e
  cases hc : Try.prog.cellTypes Try.prog.depth 36 with
  | none =>
    have ht := tags_ok 0 (by decide)
    rw [show at_ Try.prog 36 0 = none by unfold at_; rw [hc]] at ht
    cases ht
  | some ts =>
    obtain ⟨u, hu, hok⟩ := hts ts hc i _ hi
    exact cell_rg hok
theorem Rg.put {cs : Array Value} (h : Rg cs) (off : Nat) (v : Value) (hv : ∀ k a, v = .int k a → k.min ≤ a ∧ a ≤ k.max) : Rg (cs.setIfInBounds off v) := by
  intro i k a hi
  by_cases e : off = i
  · subst e
    by_cases hs : off < cs.size
    · rw [Array.getElem?_setIfInBounds_self_of_lt hs] at hi
      exact hv k a (Option.some.inj hi)
    · rw [Array.getElem?_eq_none (by simp; omega)] at hi; cases hi
  · rw [Array.getElem?_setIfInBounds_ne e] at hi
    exact h i k a hi
end Go.Proofs.Ytcjlkekekalgdaa.part
