/-
  A memory in a box beside its result: storing cells, loading it whole, storing the result.
  Conditions: none.
-/
import Derived.Test.YtcjlkekekalgdaaShape
namespace Go.Proofs.Ytcjlkekekalgdaa.part
open Go Go.RowKit
set_option linter.unusedVariables false
set_option linter.unusedSimpArgs false

/-- The box at place W.heap.size + k, the result's cell at place r. -/
def Bo (t : TypeId) (cs : Array Value) (W w : World) (b r : Nat) : Prop :=
  W.heap.size ≤ b ∧ W.heap.size ≤ r ∧ b ≠ r ∧ w.heap[b]? = some (.cells cs t (0, 0)) ∧ (∃ o, w.heap[r]? = some (.cells o t (0, 0)) ∧ o.size = cs.size) ∧ Below W.heap.size W w

theorem Bo.start1 (t : TypeId) (cs o : Array Value) (W : World) (ho : o.size = cs.size) : Bo t cs W ((W.alloc (.cells cs t)).alloc (.cells o t)) W.heap.size (W.heap.size + 1) := by
  have e1 := size_alloc W (.cells cs t)
  refine ⟨Nat.le_refl _, by omega, by omega, ?_, ⟨o, ?_, ho⟩, ((Below.refl _ _).alloc (Nat.le_refl _) _).alloc (by omega) _⟩
  · rw [heap_alloc_old _ _ (by omega)]; exact heap_alloc_new _ _
  · rw [← e1]; exact heap_alloc_new _ _
theorem Bo.below {t : TypeId} {cs : Array Value} {W w w1 : World} {b r : Nat} (h : Bo t cs W w b r) (hb : Below w.heap.size w w1) : Bo t cs W w1 b r := by
  obtain ⟨a1, a2, a3, b1, ⟨o, b2, b3⟩, d⟩ := h
  have k : ∀ {g : Nat} {o : Obj}, w.heap[g]? = some o → w1.heap[g]? = some o := fun {g o} hg => (hb.block g (Array.getElem?_eq_some_iff.1 hg).1).trans hg
  exact ⟨a1, a2, a3, k b1, ⟨o, k b2, b3⟩, d.trans (hb.mono d.size)⟩
theorem Bo.set {t : TypeId} {cs : Array Value} {W w : World} {b r : Nat} (h : Bo t cs W w b r) (off : Nat) (v : Value) : Bo t (cs.setIfInBounds off v) W (w.setCell ⟨b, off, none⟩ v) b r := by
  obtain ⟨a1, a2, a3, b1, ⟨o, b2, b3⟩, d⟩ := h
  refine ⟨a1, a2, a3, ?_, ⟨o, ?_, by simpa using b3⟩, d.setCell (p := ⟨b, off, none⟩) a1 v⟩
  · rw [setCell_eq_setRow w b off cs t (0, 0) v b1]
    exact setRow_heap w b cs _ t _ b1
  · rw [Below.heap_setCell w ⟨b, off, none⟩ v r (by show r ≠ b; omega)]; exact b2

/-- Behind the store into the result. -/
def Bn (t : TypeId) (cs : Array Value) (W w : World) (r : Nat) : Prop := w.heap[r]? = some (.cells cs t (0, 0)) ∧ Below W.heap.size W w

section
variable {P : Program} {ops : Array Oper} {rest : List Oper} {o : Oper} {a : Act} {w W : World} {Q : Exit → Act → World → Prop} {t : TypeId} {cs : Array Value} {b r : Nat}
theorem wl_genB (h : Bo t cs W w b r) (k : ∀ w1, Bo t cs W w1 b r → wpList P ops Q rest a w1) : wpList P ops Q rest a w := k w h

theorem wl_bst (hgd : o.guard = none) (ty : TypeId) (x y : Operand) (ho : o.op = .store ty x y) (hst : Bo t cs W w b r) (off : Nat) (v : Value) (hx : a.eval x = .pointer (some ⟨b, off, none⟩)) (hy : a.eval y = v) (h1 : v.oneCell' = true) (hi : (P.info? ty).map (·.size) = some 1) (hoff : off < cs.size)
    (h : ∀ w1, Bo t (cs.setIfInBounds off v) W w1 b r → wpList P ops Q rest (a.put o.dst undef) w1) : wpList P ops Q (o :: rest) a w := by
  refine wpList_plain hgd fun _ hK => ?_
  have hb := hst.2.2.2.1
  have hcell : w.cell? ⟨b, off, none⟩ = some cs[off] := by simp [World.cell?, hb, hoff]
  have hfro : w.frozen? ⟨b, off, none⟩ = false := by simp [World.frozen?, hb]
  have hc1 : v.cells = #[v] := by cases v <;> simp [Value.oneCell'] at h1 <;> rfl
  have e : (storeVar ty ⟨b, off, none⟩ v).run P w = .ok () (w.setCell ⟨b, off, none⟩ v) := by
    have hs : (store ((⟨b, off, none⟩ : Addr).add 0) v).run P w = .ok () (w.setCell ⟨b, off, none⟩ v) := by
      rw [add_at, Nat.add_zero, run_store P w _ v _ h1, hcell]
      simp [hfro]
    cases hq : P.info? ty with
    | none => simp [hq] at hi
    | some i =>
      have hs1 : i.size = 1 := by simpa [hq] using hi
      simp only [storeVar, sizeOf, typeInfo, Sem.run_bind, hq, hc1]
      simp [Sem.run_bind, hq, hs1, storeCells, hs]
  unfold Oper.wp execOp
  simp only [ho, hx, hy, Instr.storeAt, Instr.sureAddr, Sem.run_bind, Sem.run_pure, Result.andThen_ok, e]
  exact hK _ _ (h _ (hst.set off v))

theorem wl_bld (hgd : o.guard = none) (ty : TypeId) (x : Operand) (ho : o.op = .load ty x) (hst : Bo t cs W w b r) (hx : a.eval x = .pointer (some ⟨b, 0, none⟩)) (hu : aggB P ty = true) (n : Nat) (hn : cs.size = n) (hi : (P.info? ty).map (·.size) = some n)
    (h : wpList P ops Q rest (a.put o.dst (.agg cs)) w) : wpList P ops Q (o :: rest) a w := by
  refine wpList_plain hgd fun _ hK => ?_
  have e := run_ldp (P := P) (ty := ty) (off := 0) (n := n) hst.2.2.2.1 (by omega) (agg_run hu w) hi
  have e2 : cs.extract 0 (0 + n) = cs := by rw [← hn]; simp
  rw [e2] at e
  unfold Oper.wp execOp
  simp only [ho, hx, Instr.loadAt, Instr.sureAddr, Sem.run_bind, Sem.run_pure, Result.andThen_ok, e]
  exact hK _ _ h

theorem wl_bsto (hgd : o.guard = none) (ty : TypeId) (x y : Operand) (ho : o.op = .store ty x y) (hst : Bo t cs W w b r) (hx : a.eval x = .pointer (some ⟨r, 0, none⟩)) (hy : a.eval y = .agg cs) (h1 : ∀ x ∈ cs, x.oneCell' = true) (n : Nat) (hn : cs.size = n) (hi : (P.info? ty).map (·.size) = some n)
    (h : ∀ w1, Bn t cs W w1 r → wpList P ops Q rest (a.put o.dst undef) w1) : wpList P ops Q (o :: rest) a w := by
  refine wpList_plain hgd fun _ hK => ?_
  obtain ⟨a1, a2, a3, b1, ⟨oo, b2, b3⟩, d⟩ := hst
  obtain ⟨w1, z1, e1, e2, e3, _, e5, e6⟩ := store_part (P := P) r 0 t cs.toList 0 oo w b2 (by simp; omega) (fun x hx => h1 x (Array.mem_toList_iff.1 hx))
  have ez : z1 = cs := by
    apply Array.ext (by omega)
    intro i k1 k2
    have := e5 i (by simpa using k2)
    rw [show 0 + 0 + i = i by omega, Array.getElem?_toList, Array.getElem?_eq_getElem k1, Array.getElem?_eq_getElem k2] at this
    exact Option.some.inj this
  subst ez
  have e : (storeVar ty ⟨r, 0, none⟩ (.agg z1)).run P w = .ok () w1 := by
    cases hq : P.info? ty with
    | none => simp [hq] at hi
    | some i =>
      have hs : i.size = z1.size := by rw [hn]; simpa [hq] using hi
      simp only [storeVar, sizeOf, typeInfo, Sem.run_bind, hq, Value.cells]
      simp [Sem.run_bind, hq, hs]
      simpa using e1
  unfold Oper.wp execOp
  simp only [ho, hx, hy, Instr.storeAt, Instr.sureAddr, Sem.run_bind, Sem.run_pure, Result.andThen_ok, e]
  exact hK _ _ (h w1 ⟨e2, d.trans (e6.mono a2)⟩)
end
end Go.Proofs.Ytcjlkekekalgdaa.part
