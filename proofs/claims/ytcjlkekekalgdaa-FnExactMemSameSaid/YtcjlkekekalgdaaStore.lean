/-
  Loading and storing a whole row; a memory and an argument in boxes beside the result.
  Conditions: none.
-/
import Derived.Test.YtcjlkekekalgdaaBox
import Derived.Test.YtcjlkekekalgdaaOrders
import Derived.Deep.Cut
namespace Go.Proofs.Ytcjlkekekalgdaa.part
open Go Go.RowKit
set_option linter.unusedVariables false
set_option linter.unusedSimpArgs false

section
variable {P : Program} {ops : Array Oper} {rest : List Oper} {o : Oper} {a : Act} {w W : World} {Q : Exit → Act → World → Prop} {t : TypeId} {cs old : Array Value} {g : Nat} {fr : Nat × Nat}
theorem wl_hld (hgd : o.guard = none) (ty : TypeId) (x : Operand) (ho : o.op = .load ty x) (hg : w.heap[g]? = some (.cells cs t fr)) (hx : a.eval x = .pointer (some ⟨g, 0, none⟩)) (hu : aggB P ty = true) (n : Nat) (hn : cs.size = n) (hi : (P.info? ty).map (·.size) = some n)
    (h : wpList P ops Q rest (a.put o.dst (.agg cs)) w) : wpList P ops Q (o :: rest) a w := by
  refine wpList_plain hgd fun _ hK => ?_
  have e := run_ldp (P := P) (ty := ty) (off := 0) (n := n) hg (by omega) (agg_run hu w) hi
  have e2 : cs.extract 0 (0 + n) = cs := by rw [← hn]; simp
  rw [e2] at e
  unfold Oper.wp execOp
  simp only [ho, hx, Instr.loadAt, Instr.sureAddr, Sem.run_bind, Sem.run_pure, Result.andThen_ok, e]
  exact hK _ _ h
theorem wl_hst (hgd : o.guard = none) (ty : TypeId) (x y : Operand) (ho : o.op = .store ty x y) (hg : w.heap[g]? = some (.cells old t (0, 0))) (hold : old.size = cs.size) (hx : a.eval x = .pointer (some ⟨g, 0, none⟩)) (hy : a.eval y = .agg cs) (h1 : ∀ x ∈ cs, x.oneCell' = true) (n : Nat) (hn : cs.size = n) (hi : (P.info? ty).map (·.size) = some n)
    (h : ∀ w1, w1.heap[g]? = some (.cells cs t (0, 0)) → Below g w w1 → wpList P ops Q rest (a.put o.dst undef) w1) : wpList P ops Q (o :: rest) a w := by
  refine wpList_plain hgd fun _ hK => ?_
  obtain ⟨w1, z1, e1, e2, e3, _, e5, e6⟩ := store_part (P := P) g 0 t cs.toList 0 old w hg (by simp; omega) (fun x hx => h1 x (Array.mem_toList_iff.1 hx))
  have ez : z1 = cs := by
    apply Array.ext (by omega)
    intro i k1 k2
    have := e5 i (by simpa using k2)
    rw [show 0 + 0 + i = i by omega, Array.getElem?_toList, Array.getElem?_eq_getElem k1, Array.getElem?_eq_getElem k2] at this
    exact Option.some.inj this
  subst ez
  have e : (storeVar ty ⟨g, 0, none⟩ (.agg z1)).run P w = .ok () w1 := by
    cases hq : P.info? ty with
    | none => simp [hq] at hi
    | some i =>
      have hs : i.size = z1.size := by rw [hn]; simpa [hq] using hi
      simp only [storeVar, sizeOf, typeInfo, Sem.run_bind, hq, Value.cells]
      simp [Sem.run_bind, hq, hs]
      simpa using e1
  unfold Oper.wp execOp
  simp only [ho, hx, hy, Instr.storeAt, Instr.sureAddr, Sem.run_bind, Sem.run_pure, Result.andThen_ok, e]
  exact hK _ _ (h w1 e2 e6)
end

/-- A memory in a box, a sample in a box, the result. -/
def Bs (t ts : TypeId) (cs ss : Array Value) (W w : World) : Prop := Bo t cs W w W.heap.size (W.heap.size + 2) ∧ w.heap[W.heap.size + 1]? = some (.cells ss ts (0, 0))
theorem Bs.start (t ts : TypeId) (cs ss o : Array Value) (W : World) (ho : o.size = cs.size) : Bs t ts cs ss W (((W.alloc (.cells cs t)).alloc (.cells ss ts)).alloc (.cells o t)) := by
  have e1 := size_alloc W (.cells cs t)
  have e2 := size_alloc (W.alloc (.cells cs t)) (.cells ss ts)
  refine ⟨⟨Nat.le_refl _, by omega, by omega, ?_, ⟨o, ?_, ho⟩, (((Below.refl _ _).alloc (Nat.le_refl _) _).alloc (by omega) _).alloc (by omega) _⟩, ?_⟩
  · rw [heap_alloc_old _ _ (by omega), heap_alloc_old _ _ (by omega)]; exact heap_alloc_new _ _
  · rw [show W.heap.size + 2 = ((W.alloc (.cells cs t)).alloc (.cells ss ts)).heap.size by omega]; exact heap_alloc_new _ _
  · rw [heap_alloc_old _ _ (by omega), ← e1]; exact heap_alloc_new _ _
theorem Bs.set {t ts : TypeId} {cs ss : Array Value} {W w : World} (h : Bs t ts cs ss W w) (off : Nat) (v : Value) : Bs t ts (cs.setIfInBounds off v) ss W (w.setCell ⟨W.heap.size, off, none⟩ v) :=
  ⟨h.1.set off v, by rw [Below.heap_setCell w ⟨W.heap.size, off, none⟩ v _ (by show W.heap.size + 1 ≠ W.heap.size; omega)]; exact h.2⟩

section
variable {P : Program} {ops : Array Oper} {rest : List Oper} {o : Oper} {a : Act} {w W : World} {Q : Exit → Act → World → Prop} {t ts : TypeId} {cs ss : Array Value}
theorem wl_genS (h : Bs t ts cs ss W w) (k : ∀ w1, Bs t ts cs ss W w1 → wpList P ops Q rest a w1) : wpList P ops Q rest a w := k w h
theorem wl_sst (hgd : o.guard = none) (ty : TypeId) (x y : Operand) (ho : o.op = .store ty x y) (hst : Bs t ts cs ss W w) (off : Nat) (v : Value) (hx : a.eval x = .pointer (some ⟨W.heap.size, off, none⟩)) (hy : a.eval y = v) (h1 : v.oneCell' = true) (hi : (P.info? ty).map (·.size) = some 1) (hoff : off < cs.size)
    (h : ∀ w1, Bs t ts (cs.setIfInBounds off v) ss W w1 → wpList P ops Q rest (a.put o.dst undef) w1) : wpList P ops Q (o :: rest) a w := by
  refine wpList_plain hgd fun _ hK => ?_
  have hb := hst.1.2.2.2.1
  have hcell : w.cell? ⟨W.heap.size, off, none⟩ = some cs[off] := by simp [World.cell?, hb, hoff]
  have hfro : w.frozen? ⟨W.heap.size, off, none⟩ = false := by simp [World.frozen?, hb]
  have hc1 : v.cells = #[v] := by cases v <;> simp [Value.oneCell'] at h1 <;> rfl
  have e : (storeVar ty ⟨W.heap.size, off, none⟩ v).run P w = .ok () (w.setCell ⟨W.heap.size, off, none⟩ v) := by
    have hs : (store ((⟨W.heap.size, off, none⟩ : Addr).add 0) v).run P w = .ok () (w.setCell ⟨W.heap.size, off, none⟩ v) := by
      rw [add_at, Nat.add_zero, run_store P w _ v _ h1, hcell]
      simp [hfro]
    cases hq : P.info? ty with
    | none => simp [hq] at hi
    | some i =>
      have hs1 : i.size = 1 := by simpa [hq] using hi
      simp only [storeVar, sizeOf, typeInfo, Sem.run_bind, hq, hc1]
      simp [Sem.run_bind, hq, hs1, storeCells, hs]
  unfold Oper.wp execOp
  simp only [ho, hx, hy, Instr.storeAt, Instr.sureAddr, Sem.run_bind, Sem.run_pure, Result.andThen_ok, e]
  exact hK _ _ (h _ (hst.set off v))
end

theorem wp_genS {P : Program} {c : Code} {Q : Exit → Act → World → Prop} {a : Act} {t ts : TypeId} {cs ss : Array Value} {W w : World} (h : Bs t ts cs ss W w) (k : ∀ w1, Bs t ts cs ss W w1 → c.wp P Q a w1) : c.wp P Q a w := k w h
theorem Bs.below {t ts : TypeId} {cs ss : Array Value} {W w w1 : World} (h : Bs t ts cs ss W w) (hb : Below w.heap.size w w1) : Bs t ts cs ss W w1 := ⟨h.1.below hb, kit.box_keep h.2 hb (kit.box_lt h.2)⟩
theorem Bs.bel {t ts : TypeId} {cs ss : Array Value} {W w : World} (h : Bs t ts cs ss W w) : Below W.heap.size W w := h.1.2.2.2.2.2
theorem ow_hst {P : Program} {o : Oper} {a : Act} {w : World} {K : Act → World → Prop} {Q : Exit → Act → World → Prop} {t : TypeId} {cs old : Array Value} {g : Nat} (ty : TypeId) (x y : Operand) (ho : o.op = .store ty x y) (hg : w.heap[g]? = some (.cells old t (0, 0))) (hold : old.size = cs.size) (hx : a.eval x = .pointer (some ⟨g, 0, none⟩)) (hy : a.eval y = .agg cs) (h1 : ∀ x ∈ cs, x.oneCell' = true) (n : Nat) (hn : cs.size = n) (hi : (P.info? ty).map (·.size) = some n)
    (h : ∀ w1, w1.heap[g]? = some (.cells cs t (0, 0)) → Below g w w1 → K (a.put o.dst undef) w1) : o.wp P a w K Q := by
  obtain ⟨w1, z1, e1, e2, e3, _, e5, e6⟩ := store_part (P := P) g 0 t cs.toList 0 old w hg (by simp; omega) (fun x hx => h1 x (Array.mem_toList_iff.1 hx))
  have ez : z1 = cs := by
    apply Array.ext (by omega)
    intro i k1 k2
    have := e5 i (by simpa using k2)
    rw [show 0 + 0 + i = i by omega, Array.getElem?_toList, Array.getElem?_eq_getElem k1, Array.getElem?_eq_getElem k2] at this
    exact Option.some.inj this
  subst ez
  have e : (storeVar ty ⟨g, 0, none⟩ (.agg z1)).run P w = .ok () w1 := by
    cases hq : P.info? ty with
    | none => simp [hq] at hi
    | some i =>
      have hs : i.size = z1.size := by rw [hn]; simpa [hq] using hi
      simp only [storeVar, sizeOf, typeInfo, Sem.run_bind, hq, Value.cells]
      simp [Sem.run_bind, hq, hs]
      simpa using e1
  unfold Oper.wp execOp
  simp only [ho, hx, hy, Instr.storeAt, Instr.sureAddr, Sem.run_bind, Sem.run_pure, Result.andThen_ok, e]
  exact h w1 e2 e6

/-- A box of the call's own with 136 cells; done: they are those of ce. -/
def Own (B : Nat) (ce : Array Value) (w : World) (v : Value) (done : Bool) : Prop := ∃ g o, v = .pointer (some ⟨g, 0, none⟩) ∧ B ≤ g ∧ w.heap[g]? = some (.cells o 43 (0, 0)) ∧ o.size = 136 ∧ (done = true → o = ce)
theorem Own.below {B : Nat} {ce : Array Value} {w w1 : World} {v : Value} {done : Bool} (h : Own B ce w v done) (hb : Below w.heap.size w w1) : Own B ce w1 v done := by
  obtain ⟨g, o, a, b, c, d⟩ := h
  exact ⟨g, o, a, b, kit.box_keep c hb (kit.box_lt c), d⟩

end Go.Proofs.Ytcjlkekekalgdaa.part
