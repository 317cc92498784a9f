/-
  Loading and storing a part of a row.
  Conditions: the row is in the heap; the part lies in it.
-/
import Derived.Test.YtkiemiolellllaaKit
import Derived.Laws.Rows
import Derived.WalkLawsBesides
namespace Go.Proofs.Ytkiemiolellllaa.part
open Go Go.RowKit
set_option linter.unusedVariables false
set_option linter.unusedSimpArgs false

theorem zero_run {P : Program} {t : TypeId} {n : Nat} (h : (P.info? t).any (fun i => match i.zero with | some (.agg cs) => cs.size == n | _ => false) = true) :
    ∃ z : Array Value, z.size = n ∧ ∀ w, (zeroValue t).run P w = .ok (.agg z) w := by
  cases hi : P.info? t with
  | none => rw [hi] at h; cases h
  | some i =>
    rw [hi] at h
    simp only [Option.any_some] at h
    cases hz : i.zero with
    | none => rw [hz] at h; cases h
    | some v =>
      rw [hz] at h
      cases v <;> simp at h
      rename_i cs
      exact ⟨cs, h, fun w => by simp [zeroValue, Sem.run_bind, typeInfo, hi, hz]⟩

theorem add_at (g off i : Nat) : (⟨g, off, none⟩ : Addr).add i = ⟨g, off + i, none⟩ := by
  unfold Addr.add
  split
  · rename_i h; subst h; rfl
  · rfl

theorem store_part {P : Program} (g off : Nat) (t : TypeId) : ∀ (vs : List Value) (i : Nat) (cur : Array Value) (w : World), w.heap[g]? = some (.cells cur t (0, 0)) → off + i + vs.length ≤ cur.size → (∀ v ∈ vs, v.oneCell' = true) →
    ∃ w1 cur', (storeCells ⟨g, off, none⟩ vs i).run P w = .ok () w1 ∧ w1.heap[g]? = some (.cells cur' t (0, 0)) ∧ cur'.size = cur.size ∧ (∀ j, j < off + i → cur'[j]? = cur[j]?) ∧ (∀ j, j < vs.length → cur'[off + i + j]? = vs[j]?) ∧ Below g w w1
  | [], i, cur, w, hg, hl, _ => ⟨w, cur, rfl, hg, rfl, fun _ _ => rfl, fun j hj => by simp at hj, Below.refl _ _⟩
  | v :: rest, i, cur, w, hg, hl, h1 => by
    simp only [List.length_cons] at hl
    have hi : off + i < cur.size := by omega
    have hcell : w.cell? ⟨g, off + i, none⟩ = some cur[off + i] := by simp [World.cell?, hg, hi]
    have hfro : w.frozen? ⟨g, off + i, none⟩ = false := by simp [World.frozen?, hg]
    have hst : (store ((⟨g, off, none⟩ : Addr).add i) v).run P w = .ok () (w.setCell ⟨g, off + i, none⟩ v) := by
      rw [add_at, run_store P w _ v _ (h1 v (by simp)), hcell]
      simp [hfro]
    have hg2 : (w.setCell ⟨g, off + i, none⟩ v).heap[g]? = some (.cells (cur.setIfInBounds (off + i) v) t (0, 0)) := by
      rw [setCell_eq_setRow w g (off + i) cur t (0, 0) v hg]
      exact setRow_heap w g cur _ t _ hg
    obtain ⟨w1, cur', a1, a2, a3, a4, a5, a6⟩ := store_part (P := P) g off t rest (i + 1) _ _ hg2 (by simp; omega) (fun x hx => h1 x (by simp [hx]))
    refine ⟨w1, cur', ?_, a2, by simpa using a3, ?_, ?_, ((Below.refl g w).setCell (p := ⟨g, off + i, none⟩) (Nat.le_refl _) v).trans a6⟩
    · simp only [storeCells, Sem.run_bind, hst, Result.andThen_ok, a1]
    · intro j hj
      rw [a4 j (by omega), Array.getElem?_setIfInBounds_ne (by omega)]
    · intro j hj
      cases j with
      | zero =>
        have := a4 (off + i) (by omega)
        simp only [Nat.add_zero, List.getElem?_cons_zero]
        rw [this, Array.getElem?_setIfInBounds_self_of_lt hi]
      | succ j =>
        have := a5 j (by simpa using hj)
        rw [List.getElem?_cons_succ, ← this]
        congr 1
        omega

/-- The state of a copier: the source's box, the result's, the copy's, of which the first m cells are the source's. -/
def St (t1 t2 : TypeId) (cs : Array Value) (W w : World) (m : Nat) : Prop :=
  w.heap[W.heap.size]? = some (.cells cs t1 (0, 0)) ∧
  (∃ r, w.heap[W.heap.size + 1]? = some (.cells r t2 (0, 0)) ∧ r.size = cs.size) ∧
  (∃ z, w.heap[W.heap.size + 2]? = some (.cells z t2 (0, 0)) ∧ z.size = cs.size ∧ ∀ j, j < m → z[j]? = cs[j]?) ∧ Below W.heap.size W w

theorem size_alloc (w : World) (o : Obj) : (w.alloc o).heap.size = w.heap.size + 1 := by
  show (w.heap.push o).size = _
  simp
theorem St.start (t1 t2 : TypeId) (cs r z : Array Value) (W : World) (hr : r.size = cs.size) (hz : z.size = cs.size) : St t1 t2 cs W (((W.alloc (.cells cs t1)).alloc (.cells r t2)).alloc (.cells z t2)) 0 := by
  have e1 := size_alloc W (.cells cs t1)
  have e2 := size_alloc (W.alloc (.cells cs t1)) (.cells r t2)
  refine ⟨?_, ⟨r, ?_, hr⟩, ⟨z, ?_, hz, fun j hj => by omega⟩, ?_⟩
  · rw [(heap_alloc_old ((W.alloc (.cells cs t1)).alloc (.cells r t2)) _ (by omega)), (heap_alloc_old (W.alloc (.cells cs t1)) _ (by omega))]; exact heap_alloc_new _ _
  · rw [(heap_alloc_old ((W.alloc (.cells cs t1)).alloc (.cells r t2)) _ (by omega)), ← e1]; exact heap_alloc_new _ _
  · rw [show W.heap.size + 2 = ((W.alloc (.cells cs t1)).alloc (.cells r t2)).heap.size by omega]; exact heap_alloc_new _ _
  · exact (((Below.refl _ _).alloc (Nat.le_refl _) _).alloc (by omega) _).alloc (by omega) _
theorem St.below {t1 t2 : TypeId} {cs : Array Value} {W w w1 : World} {m : Nat} (h : St t1 t2 cs W w m) (hb : Below w.heap.size w w1) : St t1 t2 cs W w1 m := by
  obtain ⟨a, ⟨r, b, b2⟩, ⟨z, c, c2, c3⟩, d⟩ := h
  have k : ∀ {g : Nat} {o : Obj}, w.heap[g]? = some o → w1.heap[g]? = some o := fun {g o} hg => (hb.block g (Array.getElem?_eq_some_iff.1 hg).1).trans hg
  exact ⟨k a, ⟨r, k b, b2⟩, ⟨z, k c, c2, c3⟩, d.trans (hb.mono d.size)⟩

theorem St.run_ld1 {P : Program} {t1 t2 ty : TypeId} {cs : Array Value} {W w : World} {m : Nat} (h : St t1 t2 cs W w m) {off : Nat} (ho : off < cs.size) (hu : (isAgg ty).run P w = .ok false w) :
    (loadVar ty ⟨W.heap.size, off, none⟩).run P w = .ok (cs.getD off undef) w := by
  have hc : w.cell? ⟨W.heap.size, off, none⟩ = some (cs.getD off undef) := by
    rw [cell_of_row w _ off cs t1 _ h.1]
    simp [ho]
  simp [loadVar, Sem.run_bind, hu, hc]

theorem run_ldp {P : Program} {t1 ty : TypeId} {cs : Array Value} {w : World} {g off n : Nat} {fr : Nat × Nat} (h : w.heap[g]? = some (.cells cs t1 fr)) (ho : off + n ≤ cs.size) (hu : (isAgg ty).run P w = .ok true w) (hi : (P.info? ty).map (·.size) = some n) :
    (loadVar ty ⟨g, off, none⟩).run P w = .ok (.agg (cs.extract off (off + n))) w := by
  have hs : (cs.extract off (off + n)).toList.length = n := by simp; omega
  have hl := run_loadCells_list (P := P) w ⟨g, off, none⟩ (cs.extract off (off + n)).toList (fun j v hv => by
    have hj : j < n := by
      have := (List.getElem?_eq_some_iff.1 hv).1
      rw [hs] at this
      exact this
    rw [add_at, cell_of_row w _ _ cs t1 _ h, ← hv, Array.getElem?_toList, Array.getElem?_extract, if_pos (by omega)])
  rw [hs] at hl
  cases hq : P.info? ty with
  | none => simp [hq] at hi
  | some i =>
    have h2 : i.size = n := by simpa [hq] using hi
    simp only [Array.toArray_toList] at hl
    simp [loadVar, Sem.run_bind, hu, sizeOf, typeInfo, hq, h2, hl]

theorem St.run_st {P : Program} {t1 t2 ty : TypeId} {cs : Array Value} {W w : World} {m n : Nat} (h : St t1 t2 cs W w m) {v : Value} (hv : v.cells = cs.extract m (m + n)) (ho : m + n ≤ cs.size) (h1 : ∀ x ∈ cs, x.oneCell' = true) (hi : (P.info? ty).map (·.size) = some n) :
    ∃ w1, (storeVar ty ⟨W.heap.size + 2, m, none⟩ v).run P w = .ok () w1 ∧ St t1 t2 cs W w1 (m + n) := by
  obtain ⟨a, ⟨r, b, b2⟩, ⟨z, c, c2, c3⟩, d⟩ := h
  have hlen : (cs.extract m (m + n)).toList.length = n := by simp; omega
  obtain ⟨w1, z1, e1, e2, e3, e4, e5, e6⟩ := store_part (P := P) (W.heap.size + 2) m t2 (cs.extract m (m + n)).toList 0 z w c (by rw [hlen]; omega) (fun x hx => h1 x (by
    have hx2 : x ∈ cs.extract m (m + n) := Array.mem_toList_iff.1 hx
    obtain ⟨j, hj, e⟩ := Array.mem_iff_getElem.1 hx2
    rw [← e, Array.getElem_extract]
    exact Array.getElem_mem _))
  refine ⟨w1, ?_, (e6.block _ (by omega)).trans a, ⟨r, (e6.block _ (by omega)).trans b, b2⟩, ⟨z1, e2, e3.trans c2, ?_⟩, d.trans (e6.mono (by omega))⟩
  · cases hq : P.info? ty with
    | none => simp [hq] at hi
    | some i =>
      have hs : i.size = n := by simpa [hq] using hi
      have hsz : (cs.extract m (m + n)).size = n := by rw [← Array.length_toList]; exact hlen
      simp only [storeVar, sizeOf, typeInfo, Sem.run_bind, hq, hv]
      simp [Sem.run_bind, hq, hs, hsz]
      simpa using e1
  · intro j hj
    by_cases hjm : j < m
    · rw [e4 j (by omega)]; exact c3 j hjm
    · have := e5 (j - m) (by omega)
      rw [show m + 0 + (j - m) = j by omega] at this
      rw [this, Array.getElem?_toList, Array.getElem?_extract, if_pos (by omega), show m + (j - m) = j by omega]

/-! ### the arms of the walk -/
def cel (cs : Array Value) (off : Nat) : Value := cs.getD off undef
def cut (cs : Array Value) (off n : Nat) : Array Value := cs.extract off (off + n)
def scalarB (P : Program) (t : TypeId) : Bool := match P.underlying t with | some (.struct _) => false | some (.array _ _) => false | some _ => true | none => false
def aggB (P : Program) (t : TypeId) : Bool := match P.underlying t with | some (.struct _) => true | some (.array _ _) => true | _ => false
theorem scalar_run {P : Program} {t : TypeId} (h : scalarB P t = true) (w : World) : (isAgg t).run P w = .ok false w := by
  unfold scalarB at h
  cases hu : P.underlying t with
  | none => rw [hu] at h; cases h
  | some d =>
    rw [hu] at h
    unfold isAgg
    rw [Sem.run_bind, run_underlying hu w]
    cases d <;> simp_all
theorem agg_run {P : Program} {t : TypeId} (h : aggB P t = true) (w : World) : (isAgg t).run P w = .ok true w := by
  unfold aggB at h
  cases hu : P.underlying t with
  | none => rw [hu] at h; cases h
  | some d =>
    rw [hu] at h
    unfold isAgg
    rw [Sem.run_bind, run_underlying hu w]
    cases d <;> simp_all

theorem cel_cells {cs : Array Value} (h1 : ∀ x ∈ cs, x.oneCell' = true) {off : Nat} (ho : off < cs.size) : (cel cs off).cells = cs.extract off (off + 1) := by
  have e : cel cs off = cs[off] := by simp [cel, ho]
  have h2 := h1 cs[off] (Array.getElem_mem ho)
  rw [e]
  have e2 : cs.extract off (off + 1) = #[cs[off]] := by
    apply Array.ext
    · simp; omega
    · intro i hi1 hi2
      simp at hi2
      subst hi2
      simp
  rw [e2]
  generalize cs[off] = v at *
  cases v <;> simp [Value.oneCell'] at h2 <;> rfl

section
variable {P : Program} {ops : Array Oper} {rest : List Oper} {o : Oper} {a : Act} {w W : World} {Q : Exit → Act → World → Prop} {t1 t2 : TypeId} {cs : Array Value} {m : Nat}

theorem wl_gen (h : St t1 t2 cs W w m) (k : ∀ w1, St t1 t2 cs W w1 m → wpList P ops Q rest a w1) : wpList P ops Q rest a w := k w h

theorem wl_ld1 (hgd : o.guard = none) (ty : TypeId) (x : Operand) (ho : o.op = .load ty x) (hst : St t1 t2 cs W w m) (off : Nat) (hx : a.eval x = .pointer (some ⟨W.heap.size, off, none⟩)) (hoff : off < cs.size) (hu : scalarB P ty = true)
    (h : wpList P ops Q rest (a.put o.dst (cel cs off)) w) : wpList P ops Q (o :: rest) a w := by
  refine wpList_plain hgd fun _ hK => ?_
  unfold Oper.wp execOp
  simp only [ho, hx, Instr.loadAt, Instr.sureAddr, Sem.run_bind, Sem.run_pure, Result.andThen_ok, hst.run_ld1 hoff (scalar_run hu w)]
  exact hK _ _ h

theorem wl_ldp (hgd : o.guard = none) (ty : TypeId) (x : Operand) (ho : o.op = .load ty x) (hst : St t1 t2 cs W w m) (off n : Nat) (hx : a.eval x = .pointer (some ⟨W.heap.size, off, none⟩)) (hu : aggB P ty = true) (hi : (P.info? ty).map (·.size) = some n) (hoff : off + n ≤ cs.size)
    (h : wpList P ops Q rest (a.put o.dst (.agg (cut cs off n))) w) : wpList P ops Q (o :: rest) a w := by
  refine wpList_plain hgd fun _ hK => ?_
  unfold Oper.wp execOp
  simp only [ho, hx, Instr.loadAt, Instr.sureAddr, Sem.run_bind, Sem.run_pure, Result.andThen_ok, run_ldp hst.1 hoff (agg_run hu w) hi]
  exact hK _ _ h

theorem wl_stv (hgd : o.guard = none) (ty : TypeId) (x y : Operand) (ho : o.op = .store ty x y) (hst : St t1 t2 cs W w m) (h1 : ∀ x ∈ cs, x.oneCell' = true) (n : Nat) (v : Value) (hx : a.eval x = .pointer (some ⟨W.heap.size + 2, m, none⟩)) (hy : a.eval y = v) (hv : v.cells = cs.extract m (m + n)) (hi : (P.info? ty).map (·.size) = some n) (hoff : m + n ≤ cs.size)
    (h : ∀ w1, St t1 t2 cs W w1 (m + n) → wpList P ops Q rest (a.put o.dst undef) w1) : wpList P ops Q (o :: rest) a w := by
  refine wpList_plain hgd fun _ hK => ?_
  obtain ⟨w1, e1, e2⟩ := hst.run_st (P := P) (ty := ty) hv hoff h1 hi
  unfold Oper.wp execOp
  simp only [ho, hx, hy, Instr.storeAt, Instr.sureAddr, Sem.run_bind, Sem.run_pure, Result.andThen_ok, e1]
  exact hK _ _ (h w1 e2)

theorem wl_ldo (hgd : o.guard = none) (ty : TypeId) (x : Operand) (ho : o.op = .load ty x) (hst : St t1 t2 cs W w m) (hx : a.eval x = .pointer (some ⟨W.heap.size + 2, 0, none⟩)) (hm : m = cs.size) (hu : aggB P ty = true) (hi : (P.info? ty).map (·.size) = some m)
    (h : wpList P ops Q rest (a.put o.dst (.agg cs)) w) : wpList P ops Q (o :: rest) a w := by
  obtain ⟨_, _, ⟨z, c, c2, c3⟩, _⟩ := hst
  have ez : z = cs := by
    apply Array.ext (by omega)
    intro i h1 h2
    have := c3 i (by omega)
    rw [Array.getElem?_eq_getElem h1, Array.getElem?_eq_getElem h2] at this
    exact Option.some.inj this
  subst ez
  refine wpList_plain hgd fun _ hK => ?_
  have e := run_ldp (P := P) (ty := ty) (off := 0) (n := m) c (by omega) (agg_run hu w) hi
  have e2 : z.extract 0 (0 + m) = z := by rw [hm]; simp
  rw [e2] at e
  unfold Oper.wp execOp
  simp only [ho, hx, Instr.loadAt, Instr.sureAddr, Sem.run_bind, Sem.run_pure, Result.andThen_ok, e]
  exact hK _ _ h

/-- Behind the store into the result. -/
def En (t2 : TypeId) (cs : Array Value) (W w : World) : Prop := w.heap[W.heap.size + 1]? = some (.cells cs t2 (0, 0)) ∧ Below W.heap.size W w

theorem wl_sto (hgd : o.guard = none) (ty : TypeId) (x y : Operand) (ho : o.op = .store ty x y) (hst : St t1 t2 cs W w m) (h1 : ∀ x ∈ cs, x.oneCell' = true) (hx : a.eval x = .pointer (some ⟨W.heap.size + 1, 0, none⟩)) (hy : a.eval y = .agg cs) (hi : (P.info? ty).map (·.size) = some cs.size)
    (h : ∀ w1, En t2 cs W w1 → wpList P ops Q rest (a.put o.dst undef) w1) : wpList P ops Q (o :: rest) a w := by
  refine wpList_plain hgd fun _ hK => ?_
  obtain ⟨_, ⟨r, b, b2⟩, _, d⟩ := hst
  obtain ⟨w1, z1, e1, e2, e3, _, e5, e6⟩ := store_part (P := P) (W.heap.size + 1) 0 t2 cs.toList 0 r w b (by simp; omega) (fun x hx => h1 x (Array.mem_toList_iff.1 hx))
  have ez : z1 = cs := by
    apply Array.ext (by omega)
    intro i k1 k2
    have := e5 i (by simpa using k2)
    rw [show 0 + 0 + i = i by omega, Array.getElem?_toList, Array.getElem?_eq_getElem k1, Array.getElem?_eq_getElem k2] at this
    exact Option.some.inj this
  subst ez
  have e : (storeVar ty ⟨W.heap.size + 1, 0, none⟩ (.agg z1)).run P w = .ok () w1 := by
    cases hq : P.info? ty with
    | none => simp [hq] at hi
    | some i =>
      have hs : i.size = z1.size := by simpa [hq] using hi
      simp only [storeVar, sizeOf, typeInfo, Sem.run_bind, hq, Value.cells]
      simp [Sem.run_bind, hq, hs]
      simpa using e1
  unfold Oper.wp execOp
  simp only [ho, hx, hy, Instr.storeAt, Instr.sureAddr, Sem.run_bind, Sem.run_pure, Result.andThen_ok, e]
  exact hK _ _ (h w1 ⟨e2, d.trans (e6.mono (by omega))⟩)
end
end Go.Proofs.Ytkiemiolellllaa.part
