/-
  Boxes whose cells are known: loading, storing, calls between.
  Conditions: none.
-/
import Derived.Test.YtkiemiolellllaaVals
namespace Go.Proofs.Ytkiemiolellllaa.part
open Go Go.RowKit
set_option linter.unusedVariables false
set_option linter.unusedSimpArgs false
set_option maxRecDepth 100000

def Hx (W : World) (bs : List (Nat × Array Value)) (w : World) : Prop := Below W.heap.size W w ∧ ∀ p ∈ bs, W.heap.size ≤ p.1 ∧ ∃ t, w.heap[p.1]? = some (.cells p.2 t (0, 0))
theorem Hx.below {W w w1 : World} {bs : List (Nat × Array Value)} (h : Hx W bs w) (hb : Below w.heap.size w w1) : Hx W bs w1 :=
  ⟨h.1.trans (hb.mono h.1.size), fun p hp => by obtain ⟨a, t, e⟩ := h.2 p hp; exact ⟨a, t, kit.box_keep e hb (kit.box_lt e)⟩⟩
theorem Hx.alloc {W w : World} {bs : List (Nat × Array Value)} (h : Hx W bs w) (o : Obj) : Hx W bs (w.alloc o) := h.below ((Below.refl _ _).alloc (Nat.le_refl _) _)
theorem Hx.drew {W w : World} {bs : List (Nat × Array Value)} (h : Hx W bs w) : Hx W bs { w with drawn := w.drawn + 1 } := h.below ⟨rfl, rfl, rfl, Nat.le_refl _, fun _ _ => rfl⟩
theorem Hx.nil {W w : World} (h : Below W.heap.size W w) : Hx W [] w := ⟨h, fun p hp => by cases hp⟩
theorem Hx.box {W w : World} {bs : List (Nat × Array Value)} (h : Hx W bs w) (cs : Array Value) (t : TypeId) : Hx W ((w.heap.size, cs) :: bs) (w.alloc (.cells cs t)) := by
  have h2 := h.alloc (.cells cs t)
  refine ⟨h2.1, fun p hp => ?_⟩
  rcases List.mem_cons.1 hp with rfl | hp
  · exact ⟨h.1.size, t, heap_alloc_new _ _⟩
  · exact h2.2 p hp
theorem Hx.cell {W w : World} {bs : List (Nat × Array Value)} (h : Hx W bs w) {g : Nat} {cs : Array Value} (hm : (g, cs) ∈ bs) (i : Nat) {v : Value} (hv : cs[i]? = some v) : w.cell? ⟨g, i, none⟩ = some v := by
  obtain ⟨_, t, e⟩ := h.2 _ hm
  exact kit.box_cell e i hv

section
variable {P : Program} {ops : Array Oper} {rest : List Oper} {o : Oper} {a : Act} {w W : World} {K : Act → World → Prop} {Q : Exit → Act → World → Prop} {g : Nat} {cs : Array Value} {bs : List (Nat × Array Value)}
theorem ow_hx (ty : TypeId) (x : Operand) (ho : o.op = .load ty x) (hst : Hx W bs w) (hm : (g, cs) ∈ bs) (hx : a.eval x = .pointer (some ⟨g, 0, none⟩)) (hu : aggB P ty = true) (n : Nat) (hn : cs.size = n) (hi : (P.info? ty).map (·.size) = some n)
    (h : K (a.put o.dst (.agg cs)) w) : o.wp P a w K Q := by
  obtain ⟨_, t, e⟩ := hst.2 _ hm
  exact ow_hld ty x ho e hx hu n hn hi h
theorem ow_hxf (ty : TypeId) (x : Operand) (ho : o.op = .load ty x) (hst : Hx W bs w) (hm : (g, cs) ∈ bs) (off : Nat) (v : Value) (hv : cs[off]? = some v) (hx : a.eval x = .pointer (some ⟨g, off, none⟩)) (hu : scalarB P ty = true)
    (h : K (a.put o.dst v) w) : o.wp P a w K Q := by
  have hc := hst.cell hm off hv
  have e : (loadVar ty ⟨g, off, none⟩).run P w = .ok v w := by simp [loadVar, Sem.run_bind, scalar_run hu w, hc]
  unfold Oper.wp execOp
  simp only [ho, hx, Instr.loadAt, Instr.sureAddr, Sem.run_bind, Sem.run_pure, Result.andThen_ok, e]
  exact h
theorem wl_hx (hgd : o.guard = none) (ty : TypeId) (x : Operand) (ho : o.op = .load ty x) (hst : Hx W bs w) (hm : (g, cs) ∈ bs) (hx : a.eval x = .pointer (some ⟨g, 0, none⟩)) (hu : aggB P ty = true) (n : Nat) (hn : cs.size = n) (hi : (P.info? ty).map (·.size) = some n)
    (h : wpList P ops Q rest (a.put o.dst (.agg cs)) w) : wpList P ops Q (o :: rest) a w :=
  wpList_plain hgd fun _ hK => ow_hx ty x ho hst hm hx hu n hn hi (hK _ _ h)
theorem wp_genH {c : Code} (h : Hx W bs w) (k : ∀ w1, Hx W bs w1 → c.wp P Q a w1) : c.wp P Q a w := k w h
end
theorem Hx.far {W w : World} {bs : List (Nat × Array Value)} (h : Hx W bs w) {g : Nat} (hg : w.heap.size ≤ g) : ∀ p ∈ bs, p.1 ≠ g := fun p hp e => by
  obtain ⟨_, t, b⟩ := h.2 p hp
  have := kit.box_lt b
  omega
end Go.Proofs.Ytkiemiolellllaa.part
