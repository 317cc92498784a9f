/-
  'eqMem' and what it calls, of cells against themselves: true.
  Conditions: the cells have the kinds of the type.
-/
import Derived.Test.YtcjlkekekalgdaaPart
import Derived.Test.YtcjlkekekalgdaaFlo
import Derived.Deep.LoopGhost
import Derived.BigQuiet
import Derived.Deep.QuietTactic
import Derived.Deep.RegionWith
namespace Go.Proofs.Ytcjlkekekalgdaa.part
open Go Go.RowKit
set_option linter.unusedVariables false
set_option linter.unusedSimpArgs false

/-- Two boxes with the same cells. -/
def Tw (t : TypeId) (cs : Array Value) (W w : World) : Prop :=
  w.heap[W.heap.size]? = some (.cells cs t (0, 0)) ∧ w.heap[W.heap.size + 1]? = some (.cells cs t (0, 0)) ∧ Below W.heap.size W w
theorem Tw.start (t : TypeId) (cs : Array Value) (W : World) : Tw t cs W ((W.alloc (.cells cs t)).alloc (.cells cs t)) := by
  have e1 := size_alloc W (.cells cs t)
  refine ⟨?_, ?_, ((Below.refl _ _).alloc (Nat.le_refl _) _).alloc (by omega) _⟩
  · rw [heap_alloc_old _ _ (by omega)]; exact heap_alloc_new _ _
  · rw [← e1]; exact heap_alloc_new _ _
theorem Tw.below {t : TypeId} {cs : Array Value} {W w w1 : World} (h : Tw t cs W w) (hb : Below w.heap.size w w1) : Tw t cs W w1 := by
  obtain ⟨a, b, d⟩ := h
  have k : ∀ {g : Nat} {o : Obj}, w.heap[g]? = some o → w1.heap[g]? = some o := fun {g o} hg => (hb.block g (Array.getElem?_eq_some_iff.1 hg).1).trans hg
  exact ⟨k a, k b, d.trans (hb.mono d.size)⟩
theorem below_drewN' (w : World) (m : Nat) : Below w.heap.size w (w.drewN m) := ⟨rfl, rfl, rfl, Nat.le_refl _, fun _ _ => rfl⟩

/-- The kinds of a memory's cells. -/
structure Shape (cs : Array Value) : Prop where
  size : cs.size = 136
  one : ∀ x ∈ cs, x.oneCell' = true
  X : ∃ a, cs[0]? = some (.int .u32 a)
  Y : ∃ a, cs[1]? = some (.int .u32 a)
  M : ∃ a, cs[2]? = some (.int .u64 a)
  S : ∃ a, cs[3]? = some (.int .u16 a)
  E : ∃ a, cs[4]? = some (.int .u32 a)
  T : ∀ j, j < 16 → ∃ d c, cs[5 + j * 2]? = some (.bool d) ∧ cs[5 + (j * 2 + 1)]? = some (.int .u16 c)
  C : ∀ j, j < 16 → ∃ d l c, cs[37 + j * 3]? = some (.bool d) ∧ cs[37 + (j * 3 + 1)]? = some (.bool l) ∧ cs[37 + (j * 3 + 2)]? = some (.int .u16 c)
  D : ∀ j, j < 32 → ∃ n, cs[85 + j]? = some (.int .i16 n)
  R : ∀ j, j < 16 → ∃ n, cs[117 + j]? = some (.float .f64 n)
  Time : ∃ a, cs[133]? = some (.int .u32 a)
  Ran : ∃ a, cs[134]? = some (.bool a)
  Fault : ∃ a, cs[135]? = some (.bool a)

theorem cel_is {cs : Array Value} {off : Nat} {v : Value} (h : cs[off]? = some v) : cel cs off = v := by
  unfold cel
  rw [Array.getD_eq_getD_getElem?, h]
  rfl
theorem cut_at (cs : Array Value) (off n j : Nat) (hj : j < n) (h : off + n ≤ cs.size) : (cut cs off n)[j]? = cs[off + j]? := by
  unfold cut
  rw [Array.getElem?_extract, if_pos (by omega)]

section
variable {P : Program} {ops : Array Oper} {rest : List Oper} {o : Oper} {a : Act} {w W : World} {Q : Exit → Act → World → Prop} {t : TypeId} {cs : Array Value} {fr : Nat × Nat}
theorem wl_genT (h : Tw t cs W w) (k : ∀ w1, Tw t cs W w1 → wpList P ops Q rest a w1) : wpList P ops Q rest a w := k w h
theorem wl_g1 (hgd : o.guard = none) (ty : TypeId) (x : Operand) (ho : o.op = .load ty x) (g off : Nat) (hx : a.eval x = .pointer (some ⟨g, off, none⟩)) (hg : w.heap[g]? = some (.cells cs t fr)) (hoff : off < cs.size) (hu : scalarB P ty = true)
    (h : wpList P ops Q rest (a.put o.dst (cel cs off)) w) : wpList P ops Q (o :: rest) a w := by
  refine wpList_plain hgd fun _ hK => ?_
  have hc : w.cell? ⟨g, off, none⟩ = some (cel cs off) := by
    rw [cell_of_row w g off cs t _ hg]
    simp [cel, hoff]
  have e : (loadVar ty ⟨g, off, none⟩).run P w = .ok (cel cs off) w := by simp [loadVar, Sem.run_bind, scalar_run hu w, hc]
  unfold Oper.wp execOp
  simp only [ho, hx, Instr.loadAt, Instr.sureAddr, Sem.run_bind, Sem.run_pure, Result.andThen_ok, e]
  exact hK _ _ h
theorem wl_gp (hgd : o.guard = none) (ty : TypeId) (x : Operand) (ho : o.op = .load ty x) (g off n : Nat) (hx : a.eval x = .pointer (some ⟨g, off, none⟩)) (hg : w.heap[g]? = some (.cells cs t fr)) (hu : aggB P ty = true) (hi : (P.info? ty).map (·.size) = some n) (hoff : off + n ≤ cs.size)
    (h : wpList P ops Q rest (a.put o.dst (.agg (cut cs off n))) w) : wpList P ops Q (o :: rest) a w := by
  refine wpList_plain hgd fun _ hK => ?_
  unfold Oper.wp execOp
  simp only [ho, hx, Instr.loadAt, Instr.sureAddr, Sem.run_bind, Sem.run_pure, Result.andThen_ok, run_ldp hg hoff (agg_run hu w) hi]
  exact hK _ _ h
end

end Go.Proofs.Ytcjlkekekalgdaa.part
