/-
  'impl.MemSame': it says whether two memories have the same cells, the real numbers being one value.
  Conditions: the cells have the kinds of a memory.
-/
import Derived.Test.YtcjlkekekalgdaaStore
import Derived.Test.YtcjlkekekalgdaaRange
import Derived.Test.YtcjlkekekalgdaaNan
import Derived.DeepKeys
import Derived.Laws.StructEq
namespace Go.Proofs.Ytcjlkekekalgdaa.part
open Go Go.RowKit Go.Proofs.Ytcjlkekekalgdaa.flo
set_option linter.unusedVariables false
set_option linter.unusedSimpArgs false
set_option maxRecDepth 100000

/-! ### '==' of two memories -/
section
variable {P : Program} {d : Nat} {xs ys cs ds : Array Value} {f : Field} {fs : List Field} {a b : Value} {r s : Bool} {w : World}
theorem ef_cons (hn : (f.name == "_") = false) (ha : (part f.type xs f.offset).run P w = .ok a w) (hb : (part f.type ys f.offset).run P w = .ok b w) (he : (Op.equalIn d f.type a b).run P w = .ok r w) (hr : (Op.eqFields d xs ys fs).run P w = .ok s w) : (Op.eqFields d xs ys (f :: fs)).run P w = .ok (r && s) w := by
  have hn' : f.name ≠ "_" := by simpa using hn
  rw [Op.eqFields]
  simp only [if_pos hn', Sem.run_bind, ha, hb, he, Result.andThen_ok]
  cases r
  · simp
  · simpa using hr
theorem ef_nil : (Op.eqFields d xs ys []).run P w = .ok true w := by simp [Op.eqFields]
theorem psc {t : TypeId} (h : scalarB P t = true) {off : Nat} {v : Value} (hv : cs[off]? = some v) : (part t cs off).run P w = .ok v w := by
  simp [part, Sem.run_bind, scalar_run h w, hv]
theorem pag {t : TypeId} (h : aggB P t = true) {n : Nat} (hi : (P.info? t).map (·.size) = some n) (off : Nat) : (part t cs off).run P w = .ok (.agg (cs.extract off (off + n))) w := by
  cases hq : P.info? t with
  | none => simp [hq] at hi
  | some i =>
    have hs : i.size = n := by simpa [hq] using hi
    simp [part, Sem.run_bind, agg_run h w, sizeOf, typeInfo, hq, hs]
theorem items_run {e : TypeId} {n dd : Nat} (r : Nat → Bool) : ∀ (is : List Nat), (∀ i ∈ is, ∃ a b, (part e xs (i * n)).run P w = .ok a w ∧ (part e ys (i * n)).run P w = .ok b w ∧ (Op.equalIn dd e a b).run P w = .ok (r i) w) → (Op.eqItems dd e n xs ys is).run P w = .ok (is.all r) w
  | [], _ => by simp [Op.eqItems]
  | i :: is, h => by
    obtain ⟨a, b, h1, h2, h3⟩ := h i List.mem_cons_self
    have ih := items_run r is (fun j hj => h j (List.mem_cons_of_mem _ hj))
    simp only [Op.eqItems, Sem.run_bind, h1, h2, h3, Result.andThen_ok, List.all_cons]
    cases r i
    · simp
    · simpa using ih
end

/-! ### the memories -/
theorem storeP {P : Program} (g off : Nat) (t : TypeId) : ∀ (vs : List Value) (i : Nat) (cur : Array Value) (w : World), w.heap[g]? = some (.cells cur t (0, 0)) → off + i + vs.length ≤ cur.size → (∀ v ∈ vs, v.oneCell' = true) →
    ∃ w1 cur', (storeCells ⟨g, off, none⟩ vs i).run P w = .ok () w1 ∧ w1.heap[g]? = some (.cells cur' t (0, 0)) ∧ cur'.size = cur.size ∧ (∀ j, j < off + i → cur'[j]? = cur[j]?) ∧ (∀ j, j < vs.length → cur'[off + i + j]? = vs[j]?) ∧ (∀ j, off + i + vs.length ≤ j → cur'[j]? = cur[j]?) ∧ (∀ k, k ≠ g → w1.heap[k]? = w.heap[k]?) ∧ Below g w w1
  | [], i, cur, w, hg, hl, _ => ⟨w, cur, rfl, hg, rfl, fun _ _ => rfl, fun j hj => by simp at hj, fun _ _ => rfl, fun _ _ => rfl, Below.refl _ _⟩
  | v :: rest, i, cur, w, hg, hl, h1 => by
    simp only [List.length_cons] at hl
    have hi : off + i < cur.size := by omega
    have hcell : w.cell? ⟨g, off + i, none⟩ = some cur[off + i] := by simp [World.cell?, hg, hi]
    have hfro : w.frozen? ⟨g, off + i, none⟩ = false := by simp [World.frozen?, hg]
    have hst : (store ((⟨g, off, none⟩ : Addr).add i) v).run P w = .ok () (w.setCell ⟨g, off + i, none⟩ v) := by
      rw [part.add_at, run_store P w _ v _ (h1 v (by simp)), hcell]
      simp [hfro]
    have hg2 : (w.setCell ⟨g, off + i, none⟩ v).heap[g]? = some (.cells (cur.setIfInBounds (off + i) v) t (0, 0)) := by
      rw [setCell_eq_setRow w g (off + i) cur t (0, 0) v hg]
      exact setRow_heap w g cur _ t _ hg
    obtain ⟨w1, cur', a1, a2, a3, a4, a5, a6, a7, a8⟩ := storeP (P := P) g off t rest (i + 1) _ _ hg2 (by simp; omega) (fun x hx => h1 x (by simp [hx]))
    refine ⟨w1, cur', ?_, a2, by simpa using a3, ?_, ?_, ?_, fun k hk => (a7 k hk).trans (Below.heap_setCell w ⟨g, off + i, none⟩ v k hk), ((Below.refl g w).setCell (p := ⟨g, off + i, none⟩) (Nat.le_refl _) v).trans a8⟩
    · simp only [storeCells, Sem.run_bind, hst, Result.andThen_ok, a1]
    · intro j hj
      rw [a4 j (by omega), Array.getElem?_setIfInBounds_ne (by omega)]
    · intro j hj
      cases j with
      | zero =>
        have := a4 (off + i) (by omega)
        simp only [Nat.add_zero, List.getElem?_cons_zero]
        rw [this, Array.getElem?_setIfInBounds_self_of_lt hi]
      | succ j =>
        have := a5 j (by simpa using hj)
        rw [List.getElem?_cons_succ, ← this]
        congr 1
        omega
    · intro j hj
      simp only [List.length_cons] at hj
      rw [a6 j (by omega), Array.getElem?_setIfInBounds_ne (by omega)]
/-- Two cells are equal. -/
def ceq : Value → Value → Bool | .bool a, .bool b => a == b | .int _ a, .int _ b => a == b | .float k a, .float _ b => Op.floatEq k a b | _, _ => false
def cq (cs ds : Array Value) (i : Nat) : Bool := ceq (cs.getD i undef) (ds.getD i undef)
theorem ceq_same {v u : Value} (h : tv v = tv u) (hc : tv v = 1 ∨ tv v = 2 ∨ tv v = 3 ∨ tv v = 4 ∨ tv v = 5) : ceq v u = true ↔ v = u := by
  rcases hc with h1 | h1 | h1 | h1 | h1
  · obtain ⟨a, rfl⟩ := tv1 h1
    obtain ⟨b, rfl⟩ := tv1 (h.symm.trans h1)
    simp [ceq]
  · obtain ⟨a, rfl⟩ := tv2 h1
    obtain ⟨b, rfl⟩ := tv2 (h.symm.trans h1)
    simp [ceq]
  · obtain ⟨a, rfl⟩ := tv3 h1
    obtain ⟨b, rfl⟩ := tv3 (h.symm.trans h1)
    simp [ceq]
  · obtain ⟨a, rfl⟩ := tv4 h1
    obtain ⟨b, rfl⟩ := tv4 (h.symm.trans h1)
    simp [ceq]
  · obtain ⟨a, rfl⟩ := tv5 h1
    obtain ⟨b, rfl⟩ := tv5 (h.symm.trans h1)
    simp [ceq]
theorem getD_of {cs : Array Value} {i : Nat} {v : Value} (h : cs[i]? = some v) : cs.getD i undef = v := by
  rw [Array.getD_eq_getD_getElem?, h]; rfl
theorem eqc {t : TypeId} {d : Nat} {w : World} {v u : Value} (hb : tv v = tv u) (hk : (Try.prog.underlying t = some .bool ∧ tv v = 1) ∨ (∃ k, Try.prog.underlying t = some (.int k) ∧ (tv v = 2 ∨ tv v = 3 ∨ tv v = 4 ∨ tv v = 5)) ∨ (Try.prog.underlying t = some (.float .f64) ∧ tv v = 6)) : (Op.equalIn (d + 1) t v u).run Try.prog w = .ok (ceq v u) w := by
  rcases hk with ⟨hu, h1⟩ | ⟨k, hu, h1⟩ | ⟨hu, h1⟩
  · obtain ⟨a, rfl⟩ := tv1 h1
    obtain ⟨b, rfl⟩ := tv1 (hb.symm.trans h1)
    exact run_equalIn_bool w d t a b hu
  · rcases h1 with h1 | h1 | h1 | h1
    · obtain ⟨a, rfl⟩ := tv2 h1
      obtain ⟨b, rfl⟩ := tv2 (hb.symm.trans h1)
      exact run_equalIn_int w d t _ k a b hu
    · obtain ⟨a, rfl⟩ := tv3 h1
      obtain ⟨b, rfl⟩ := tv3 (hb.symm.trans h1)
      exact run_equalIn_int w d t _ k a b hu
    · obtain ⟨a, rfl⟩ := tv4 h1
      obtain ⟨b, rfl⟩ := tv4 (hb.symm.trans h1)
      exact run_equalIn_int w d t _ k a b hu
    · obtain ⟨a, rfl⟩ := tv5 h1
      obtain ⟨b, rfl⟩ := tv5 (hb.symm.trans h1)
      exact run_equalIn_int w d t _ k a b hu
  · obtain ⟨a, rfl⟩ := tv6 h1
    obtain ⟨b, rfl⟩ := tv6 (hb.symm.trans h1)
    simp [Op.equalIn, run_underlying hu, ceq]
theorem cell_at {cs : Array Value} (h : Tagged cs) {i : Nat} (hi : i < 136) : cs[i]? = some (cs.getD i undef) ∧ tv (cs.getD i undef) = tags.getD i 0 := by
  obtain ⟨v, hv, ht⟩ := h.all i hi
  rw [getD_of hv]
  exact ⟨hv, ht⟩
theorem ext_at {cs : Array Value} (h : Tagged cs) {off n j : Nat} (hj : j < n) (ho : off + n ≤ 136) : (cs.extract off (off + n))[j]? = some (cs.getD (off + j) undef) := by
  have hs := h.size
  rw [Array.getElem?_extract, if_pos (by omega)]
  exact (cell_at h (by omega)).1

theorem arrT (cs ds : Array Value) (h1 : Tagged cs) (h2 : Tagged ds) (d : Nat) (w : World) : (Op.equalIn (d + 3) 39 (.agg (cs.extract 5 (5 + 32))) (.agg (ds.extract 5 (5 + 32)))).run Try.prog w = .ok ((List.range 16).all fun i => (cq cs ds (5 + (i * 2 + 0)) && (cq cs ds (5 + (i * 2 + 1)) && true))) w := by
  obtain ⟨info, hi⟩ : ∃ i, Try.prog.info? 38 = some i := info_of_underlying Try.underlying38
  rw [run_equalIn_array w (d + 2) _ _ Try.underlying39 hi, show Try.prog.cellsOf 38 = 2 by kernel_rfl]
  refine items_run (fun i => (cq cs ds (5 + (i * 2 + 0)) && (cq cs ds (5 + (i * 2 + 1)) && true))) _ (fun i hir => ?_)
  have hi2 : i < 16 := List.mem_range.1 hir
  refine ⟨_, _, pag (n := 2) (by kernel_rfl) (by kernel_rfl) (i * 2), pag (n := 2) (by kernel_rfl) (by kernel_rfl) (i * 2), ?_⟩
  rw [run_equalIn_struct w _ _ _ _ (by kernel_rfl) (by kernel_rfl)]
  have ex : ∀ {xs : Array Value}, Tagged xs → ∀ j, j < 2 → ((xs.extract 5 (5 + 32)).extract (i * 2) (i * 2 + 2))[j]? = some (xs.getD (5 + (i * 2 + j)) undef) := by
    intro xs hx j hj
    have hs := hx.size
    rw [Array.getElem?_extract, if_pos (by simp; omega)]
    exact ext_at hx (by omega) (by omega)
  have t0 : tags.getD (5 + (i * 2 + 0)) 0 = 1 := (by decide : ∀ j, j < 16 → tags.getD (5 + (j * 2 + 0)) 0 = 1) i hi2
  have a0 := cell_at h1 (i := 5 + (i * 2 + 0)) (by omega)
  have b0 := cell_at h2 (i := 5 + (i * 2 + 0)) (by omega)
  have t1 : tags.getD (5 + (i * 2 + 1)) 0 = 4 := (by decide : ∀ j, j < 16 → tags.getD (5 + (j * 2 + 1)) 0 = 4) i hi2
  have a1 := cell_at h1 (i := 5 + (i * 2 + 1)) (by omega)
  have b1 := cell_at h2 (i := 5 + (i * 2 + 1)) (by omega)
  refine ef_cons (by rfl) (psc (by kernel_rfl) (ex h1 0 (by decide))) (psc (by kernel_rfl) (ex h2 0 (by decide))) (eqc (by rw [a0.2, b0.2]) (.inl ⟨Try.underlying4, a0.2.trans t0⟩)) ?_
  refine ef_cons (by rfl) (psc (by kernel_rfl) (ex h1 1 (by decide))) (psc (by kernel_rfl) (ex h2 1 (by decide))) (eqc (by rw [a1.2, b1.2]) (.inr (.inl ⟨_, Try.underlying24, by rw [a1.2, t1]; decide⟩))) ?_
  exact ef_nil

theorem arrC (cs ds : Array Value) (h1 : Tagged cs) (h2 : Tagged ds) (d : Nat) (w : World) : (Op.equalIn (d + 3) 41 (.agg (cs.extract 37 (37 + 48))) (.agg (ds.extract 37 (37 + 48)))).run Try.prog w = .ok ((List.range 16).all fun i => (cq cs ds (37 + (i * 3 + 0)) && (cq cs ds (37 + (i * 3 + 1)) && (cq cs ds (37 + (i * 3 + 2)) && true)))) w := by
  obtain ⟨info, hi⟩ : ∃ i, Try.prog.info? 40 = some i := info_of_underlying Try.underlying40
  rw [run_equalIn_array w (d + 2) _ _ Try.underlying41 hi, show Try.prog.cellsOf 40 = 3 by kernel_rfl]
  refine items_run (fun i => (cq cs ds (37 + (i * 3 + 0)) && (cq cs ds (37 + (i * 3 + 1)) && (cq cs ds (37 + (i * 3 + 2)) && true)))) _ (fun i hir => ?_)
  have hi2 : i < 16 := List.mem_range.1 hir
  refine ⟨_, _, pag (n := 3) (by kernel_rfl) (by kernel_rfl) (i * 3), pag (n := 3) (by kernel_rfl) (by kernel_rfl) (i * 3), ?_⟩
  rw [run_equalIn_struct w _ _ _ _ (by kernel_rfl) (by kernel_rfl)]
  have ex : ∀ {xs : Array Value}, Tagged xs → ∀ j, j < 3 → ((xs.extract 37 (37 + 48)).extract (i * 3) (i * 3 + 3))[j]? = some (xs.getD (37 + (i * 3 + j)) undef) := by
    intro xs hx j hj
    have hs := hx.size
    rw [Array.getElem?_extract, if_pos (by simp; omega)]
    exact ext_at hx (by omega) (by omega)
  have t0 : tags.getD (37 + (i * 3 + 0)) 0 = 1 := (by decide : ∀ j, j < 16 → tags.getD (37 + (j * 3 + 0)) 0 = 1) i hi2
  have a0 := cell_at h1 (i := 37 + (i * 3 + 0)) (by omega)
  have b0 := cell_at h2 (i := 37 + (i * 3 + 0)) (by omega)
  have t1 : tags.getD (37 + (i * 3 + 1)) 0 = 1 := (by decide : ∀ j, j < 16 → tags.getD (37 + (j * 3 + 1)) 0 = 1) i hi2
  have a1 := cell_at h1 (i := 37 + (i * 3 + 1)) (by omega)
  have b1 := cell_at h2 (i := 37 + (i * 3 + 1)) (by omega)
  have t2 : tags.getD (37 + (i * 3 + 2)) 0 = 4 := (by decide : ∀ j, j < 16 → tags.getD (37 + (j * 3 + 2)) 0 = 4) i hi2
  have a2 := cell_at h1 (i := 37 + (i * 3 + 2)) (by omega)
  have b2 := cell_at h2 (i := 37 + (i * 3 + 2)) (by omega)
  refine ef_cons (by rfl) (psc (by kernel_rfl) (ex h1 0 (by decide))) (psc (by kernel_rfl) (ex h2 0 (by decide))) (eqc (by rw [a0.2, b0.2]) (.inl ⟨Try.underlying4, a0.2.trans t0⟩)) ?_
  refine ef_cons (by rfl) (psc (by kernel_rfl) (ex h1 1 (by decide))) (psc (by kernel_rfl) (ex h2 1 (by decide))) (eqc (by rw [a1.2, b1.2]) (.inl ⟨Try.underlying4, a1.2.trans t1⟩)) ?_
  refine ef_cons (by rfl) (psc (by kernel_rfl) (ex h1 2 (by decide))) (psc (by kernel_rfl) (ex h2 2 (by decide))) (eqc (by rw [a2.2, b2.2]) (.inr (.inl ⟨_, Try.underlying24, by rw [a2.2, t2]; decide⟩))) ?_
  exact ef_nil

theorem arrD (cs ds : Array Value) (h1 : Tagged cs) (h2 : Tagged ds) (d : Nat) (w : World) : (Op.equalIn (d + 3) 32 (.agg (cs.extract 85 (85 + 32))) (.agg (ds.extract 85 (85 + 32)))).run Try.prog w = .ok ((List.range 32).all fun i => cq cs ds (85 + i)) w := by
  obtain ⟨info, hi⟩ : ∃ i, Try.prog.info? 31 = some i := info_of_underlying Try.underlying31
  rw [run_equalIn_array w (d + 2) _ _ Try.underlying32 hi, show Try.prog.cellsOf 31 = 1 by kernel_rfl]
  refine items_run (fun i => cq cs ds (85 + i)) _ (fun i hir => ?_)
  have hi2 : i < 32 := List.mem_range.1 hir
  have c1 := cell_at h1 (i := 85 + i) (by omega)
  have c2 := cell_at h2 (i := 85 + i) (by omega)
  have ht : tags.getD (85 + i) 0 = 5 := (by decide : ∀ j, j < 32 → tags.getD (85 + j) 0 = 5) i hi2
  rw [Nat.mul_one]
  refine ⟨_, _, psc (by kernel_rfl) (ext_at h1 (j := i) (by omega) (by omega)), psc (by kernel_rfl) (ext_at h2 (j := i) (by omega) (by omega)), eqc (by rw [c1.2, c2.2]) (.inr (.inl ⟨_, Try.underlying31, by rw [c1.2, ht]; decide⟩))⟩

theorem arrR (cs ds : Array Value) (h1 : Tagged cs) (h2 : Tagged ds) (d : Nat) (w : World) : (Op.equalIn (d + 3) 34 (.agg (cs.extract 117 (117 + 16))) (.agg (ds.extract 117 (117 + 16)))).run Try.prog w = .ok ((List.range 16).all fun i => cq cs ds (117 + i)) w := by
  obtain ⟨info, hi⟩ : ∃ i, Try.prog.info? 33 = some i := info_of_underlying Try.underlying33
  rw [run_equalIn_array w (d + 2) _ _ Try.underlying34 hi, show Try.prog.cellsOf 33 = 1 by kernel_rfl]
  refine items_run (fun i => cq cs ds (117 + i)) _ (fun i hir => ?_)
  have hi2 : i < 16 := List.mem_range.1 hir
  have c1 := cell_at h1 (i := 117 + i) (by omega)
  have c2 := cell_at h2 (i := 117 + i) (by omega)
  have ht : tags.getD (117 + i) 0 = 6 := (by decide : ∀ j, j < 16 → tags.getD (117 + j) 0 = 6) i hi2
  rw [Nat.mul_one]
  refine ⟨_, _, psc (by kernel_rfl) (ext_at h1 (j := i) (by omega) (by omega)), psc (by kernel_rfl) (ext_at h2 (j := i) (by omega) (by omega)), eqc (by rw [c1.2, c2.2]) (.inr (.inr ⟨Try.underlying33, c1.2.trans ht⟩))⟩

/-- All cells but the real numbers are equal. -/
def Rest (cs ds : Array Value) : Prop := ∀ i, i < 136 → (i < 117 ∨ 133 ≤ i) → cs[i]? = ds[i]?
theorem mem_eq (cs ds : Array Value) (h1 : Tagged cs) (h2 : Tagged ds) (hR : ∀ j, j < 16 → cq cs ds (117 + j) = true) : ∃ r : Bool, (∀ w, (binOp .eql 43 (.agg cs) (.agg ds)).run Try.prog w = .ok (.bool r) w) ∧ (r = true ↔ Rest cs ds) := by
  have sc : ∀ i, i < 136 → cs[i]? = some (cs.getD i undef) := fun i hi => (cell_at h1 hi).1
  have sd : ∀ i, i < 136 → ds[i]? = some (ds.getD i undef) := fun i hi => (cell_at h2 hi).1
  have tc : ∀ i, i < 136 → tv (cs.getD i undef) = tags.getD i 0 := fun i hi => (cell_at h1 hi).2
  have td : ∀ i, i < 136 → tv (ds.getD i undef) = tags.getD i 0 := fun i hi => (cell_at h2 hi).2
  refine ⟨cq cs ds 0 && (cq cs ds 1 && (cq cs ds 2 && (cq cs ds 3 && (cq cs ds 4 && (((List.range 16).all fun i => (cq cs ds (5 + (i * 2 + 0)) && (cq cs ds (5 + (i * 2 + 1)) && true))) && (((List.range 16).all fun i => (cq cs ds (37 + (i * 3 + 0)) && (cq cs ds (37 + (i * 3 + 1)) && (cq cs ds (37 + (i * 3 + 2)) && true)))) && (((List.range 32).all fun i => cq cs ds (85 + i)) && (((List.range 16).all fun i => cq cs ds (117 + i)) && (cq cs ds 133 && (cq cs ds 134 && (cq cs ds 135 && true))))))))))), fun w => ?_, ?_⟩
  case refine_1 =>
    rw [run_eql_struct, run_equalIn_struct w _ _ _ _ (by kernel_rfl) (by kernel_rfl)]
    have he : (Op.eqFields 9999 cs ds (Try.prog.fieldsOf 43).toList).run Try.prog w = .ok (cq cs ds 0 && (cq cs ds 1 && (cq cs ds 2 && (cq cs ds 3 && (cq cs ds 4 && (((List.range 16).all fun i => (cq cs ds (5 + (i * 2 + 0)) && (cq cs ds (5 + (i * 2 + 1)) && true))) && (((List.range 16).all fun i => (cq cs ds (37 + (i * 3 + 0)) && (cq cs ds (37 + (i * 3 + 1)) && (cq cs ds (37 + (i * 3 + 2)) && true)))) && (((List.range 32).all fun i => cq cs ds (85 + i)) && (((List.range 16).all fun i => cq cs ds (117 + i)) && (cq cs ds 133 && (cq cs ds 134 && (cq cs ds 135 && true)))))))))))) w := by
      refine ef_cons (by rfl) (psc (by kernel_rfl) (sc 0 (by decide))) (psc (by kernel_rfl) (sd 0 (by decide))) (eqc (by rw [tc 0 (by decide), td 0 (by decide)]) (.inr (.inl ⟨_, Try.underlying22, by rw [tc 0 (by decide)]; decide⟩))) ?_
      refine ef_cons (by rfl) (psc (by kernel_rfl) (sc 1 (by decide))) (psc (by kernel_rfl) (sd 1 (by decide))) (eqc (by rw [tc 1 (by decide), td 1 (by decide)]) (.inr (.inl ⟨_, Try.underlying22, by rw [tc 1 (by decide)]; decide⟩))) ?_
      refine ef_cons (by rfl) (psc (by kernel_rfl) (sc 2 (by decide))) (psc (by kernel_rfl) (sd 2 (by decide))) (eqc (by rw [tc 2 (by decide), td 2 (by decide)]) (.inr (.inl ⟨_, Try.underlying23, by rw [tc 2 (by decide)]; decide⟩))) ?_
      refine ef_cons (by rfl) (psc (by kernel_rfl) (sc 3 (by decide))) (psc (by kernel_rfl) (sd 3 (by decide))) (eqc (by rw [tc 3 (by decide), td 3 (by decide)]) (.inr (.inl ⟨_, Try.underlying24, by rw [tc 3 (by decide)]; decide⟩))) ?_
      refine ef_cons (by rfl) (psc (by kernel_rfl) (sc 4 (by decide))) (psc (by kernel_rfl) (sd 4 (by decide))) (eqc (by rw [tc 4 (by decide), td 4 (by decide)]) (.inr (.inl ⟨_, Try.underlying22, by rw [tc 4 (by decide)]; decide⟩))) ?_
      refine ef_cons (by rfl) (pag (n := 32) (by kernel_rfl) (by kernel_rfl) 5) (pag (n := 32) (by kernel_rfl) (by kernel_rfl) 5) (arrT cs ds h1 h2 _ w) ?_
      refine ef_cons (by rfl) (pag (n := 48) (by kernel_rfl) (by kernel_rfl) 37) (pag (n := 48) (by kernel_rfl) (by kernel_rfl) 37) (arrC cs ds h1 h2 _ w) ?_
      refine ef_cons (by rfl) (pag (n := 32) (by kernel_rfl) (by kernel_rfl) 85) (pag (n := 32) (by kernel_rfl) (by kernel_rfl) 85) (arrD cs ds h1 h2 _ w) ?_
      refine ef_cons (by rfl) (pag (n := 16) (by kernel_rfl) (by kernel_rfl) 117) (pag (n := 16) (by kernel_rfl) (by kernel_rfl) 117) (arrR cs ds h1 h2 _ w) ?_
      refine ef_cons (by rfl) (psc (by kernel_rfl) (sc 133 (by decide))) (psc (by kernel_rfl) (sd 133 (by decide))) (eqc (by rw [tc 133 (by decide), td 133 (by decide)]) (.inr (.inl ⟨_, Try.underlying22, by rw [tc 133 (by decide)]; decide⟩))) ?_
      refine ef_cons (by rfl) (psc (by kernel_rfl) (sc 134 (by decide))) (psc (by kernel_rfl) (sd 134 (by decide))) (eqc (by rw [tc 134 (by decide), td 134 (by decide)]) (.inl ⟨Try.underlying4, tc 134 (by decide)⟩)) ?_
      refine ef_cons (by rfl) (psc (by kernel_rfl) (sc 135 (by decide))) (psc (by kernel_rfl) (sd 135 (by decide))) (eqc (by rw [tc 135 (by decide), td 135 (by decide)]) (.inl ⟨Try.underlying4, tc 135 (by decide)⟩)) ?_
      exact ef_nil
    rw [he]
    rfl
  case refine_2 =>
    simp only [Bool.and_eq_true, List.all_eq_true, List.mem_range, and_true]
    have one : ∀ i, i < 136 → (i < 117 ∨ 133 ≤ i) → (cq cs ds i = true ↔ cs[i]? = ds[i]?) := fun i hi hr => by
      rw [sc i hi, sd i hi, Option.some.injEq]
      have h6 : tags.getD i 0 ≠ 6 := (by decide : ∀ i, i < 136 → (i < 117 ∨ 133 ≤ i) → tags.getD i 0 ≠ 6) i hi hr
      have h0 := tags_any i hi
      exact ceq_same (by rw [tc i hi, td i hi]) (by rw [tc i hi]; omega)
    constructor
    · rintro ⟨x0, x1, x2, x3, x4, hT, hC, hD, _, x9, x10, x11⟩ i hi hr
      refine (one i hi hr).1 ?_
      have hc : i = 0 ∨ i = 1 ∨ i = 2 ∨ i = 3 ∨ i = 4 ∨ (5 ≤ i ∧ i < 37) ∨ (37 ≤ i ∧ i < 85) ∨ (85 ≤ i ∧ i < 117) ∨ i = 133 ∨ i = 134 ∨ i = 135 := by omega
      rcases hc with rfl | rfl | rfl | rfl | rfl | ⟨a, b⟩ | ⟨a, b⟩ | ⟨a, b⟩ | rfl | rfl | rfl
      · exact x0
      · exact x1
      · exact x2
      · exact x3
      · exact x4
      · have h := hT ((i - 5) / 2) (by omega)
        have hm : i = 5 + ((i - 5) / 2 * 2 + 0) ∨ i = 5 + ((i - 5) / 2 * 2 + 1) := by omega
        rcases hm with e | e
        · rw [e]; exact h.1
        · rw [e]; exact h.2
      · have h := hC ((i - 37) / 3) (by omega)
        have hm : i = 37 + ((i - 37) / 3 * 3 + 0) ∨ i = 37 + ((i - 37) / 3 * 3 + 1) ∨ i = 37 + ((i - 37) / 3 * 3 + 2) := by omega
        rcases hm with e | e | e
        · rw [e]; exact h.1
        · rw [e]; exact h.2.1
        · rw [e]; exact h.2.2
      · have h := hD (i - 85) (by omega)
        rw [show 85 + (i - 85) = i by omega] at h
        exact h
      · exact x9
      · exact x10
      · exact x11
    · intro h
      have g : ∀ i, i < 136 → (i < 117 ∨ 133 ≤ i) → cq cs ds i = true := fun i hi hr => (one i hi hr).2 (h i hi hr)
      exact ⟨g 0 (by omega) (by omega), g 1 (by omega) (by omega), g 2 (by omega) (by omega), g 3 (by omega) (by omega), g 4 (by omega) (by omega),
        fun j hj => ⟨g _ (by omega) (by omega), g _ (by omega) (by omega)⟩, fun j hj => ⟨g _ (by omega) (by omega), g _ (by omega) (by omega), g _ (by omega) (by omega)⟩, fun j hj => g _ (by omega) (by omega), fun j hj => hR j hj,
        g 133 (by omega) (by omega), g 134 (by omega) (by omega), g 135 (by omega) (by omega)⟩

/-! ### 'realSame' -/
theorem isnan_t (x : Nat) (w : World) (h : isNan x = true) : Calls Try.prog 16 #[.float .f64 x] w fun e w' => e = .returned (.bool true) ∧ w = w' := by
  have ox := order_nan_left (y := x) h
  clear h
  go_enter Try.func16, Try.ntmps16
  go_wp2
  go_ret
  exact ⟨rfl, rfl⟩
theorem isnan_f (x : Nat) (w : World) (h : isNan x = false) : Calls Try.prog 16 #[.float .f64 x] w fun e w' => e = .returned (.bool false) ∧ w = w' := by
  have ox := order_self h
  clear h
  go_enter Try.func16, Try.ntmps16
  go_wp2
  go_ret
  exact ⟨rfl, rfl⟩
def sameB (x y : Nat) : Bool := (isNan x && isNan y) || ((x : Int) == (y : Int))
theorem sameB_iff (x y : Nat) : sameB x y = true ↔ Same x y := by
  unfold sameB Same
  simp only [Bool.or_eq_true, Bool.and_eq_true, beq_iff_eq, Int.natCast_inj]
theorem rs_any (x y : Nat) (w : World) : Calls Try.prog 12 #[.float .f64 x, .float .f64 y] w fun e w' => e = .returned (.bool (sameB x y)) ∧ w = w' := by
  have tb := tobits_any
  cases hx : isNan x with
  | true =>
    have HX := Lib.hid hx
    cases hy : isNan y with
    | true =>
      have HY := Lib.hid hy
      have HS := Lib.hid (show true = sameB x y by unfold sameB; rw [hx, hy]; rfl)
      clear hx hy
      go_enter Try.func12, Try.ntmps12
      go_wp2_with fail
      refine (isnan_t _ _ HX.out).mono ?_
      rintro e w' ⟨rfl, rfl⟩
      go_wp2_with fail
      refine (isnan_t _ _ HY.out).mono ?_
      rintro e w' ⟨rfl, rfl⟩
      go_wp2_with fail
      go_ret
      exact ⟨kit.ret_bool HS.out, rfl⟩
    | false =>
      have HY := Lib.hid hy
      have HS := Lib.hid (show ((x : Int) == (y : Int)) = sameB x y by unfold sameB; rw [hx, hy]; rfl)
      clear hx hy
      go_enter Try.func12, Try.ntmps12
      go_wp2_with fail
      refine (isnan_t _ _ HX.out).mono ?_
      rintro e w' ⟨rfl, rfl⟩
      go_wp2_with fail
      refine (isnan_f _ _ HY.out).mono ?_
      rintro e w' ⟨rfl, rfl⟩
      go_wp2_with fail
      go_ret
      exact ⟨kit.ret_bool HS.out, rfl⟩
  | false =>
    have HX := Lib.hid hx
    have HS := Lib.hid (show ((x : Int) == (y : Int)) = sameB x y by unfold sameB; rw [hx]; simp)
    clear hx
    go_enter Try.func12, Try.ntmps12
    go_wp2_with fail
    refine (isnan_f _ _ HX.out).mono ?_
    rintro e w' ⟨rfl, rfl⟩
    go_wp2_with fail
    go_ret
    exact ⟨kit.ret_bool HS.out, rfl⟩

/-! ### 'MemSame' -/
section
variable {P : Program} {ops : Array Oper} {rest : List Oper} {o : Oper} {a : Act} {w : World} {Q : Exit → Act → World → Prop} {t : TypeId} {cs : Array Value} {g : Nat} {fr : Nat × Nat}
/-- A part of a box, loaded. -/
theorem wl_pld (hgd : o.guard = none) (ty : TypeId) (x : Operand) (ho : o.op = .load ty x) (hg : w.heap[g]? = some (.cells cs t fr)) (off n : Nat) (hx : a.eval x = .pointer (some ⟨g, off, none⟩)) (hu : aggB P ty = true) (hi : (P.info? ty).map (·.size) = some n) (hoff : off + n ≤ cs.size)
    (h : wpList P ops Q rest (a.put o.dst (.agg (cs.extract off (off + n)))) w) : wpList P ops Q (o :: rest) a w := by
  refine wpList_plain hgd fun _ hK => ?_
  unfold Oper.wp execOp
  simp only [ho, hx, Instr.loadAt, Instr.sureAddr, Sem.run_bind, Sem.run_pure, Result.andThen_ok, run_ldp hg hoff (agg_run hu w) hi]
  exact hK _ _ h
/-- A part of a box, stored. -/
theorem wl_pst (hgd : o.guard = none) (ty : TypeId) (x y : Operand) (ho : o.op = .store ty x y) (hg : w.heap[g]? = some (.cells cs t (0, 0))) (off n : Nat) (vs : Array Value) (hx : a.eval x = .pointer (some ⟨g, off, none⟩)) (hy : a.eval y = .agg vs) (h1 : ∀ v ∈ vs, v.oneCell' = true) (hn : vs.size = n) (hi : (P.info? ty).map (·.size) = some n) (hoff : off + n ≤ cs.size)
    (h : ∀ w1 cs1, w1.heap[g]? = some (.cells cs1 t (0, 0)) → cs1.size = cs.size → (∀ j, j < off → cs1[j]? = cs[j]?) → (∀ j, j < n → cs1[off + j]? = vs[j]?) → (∀ j, off + n ≤ j → cs1[j]? = cs[j]?) → (∀ k, k ≠ g → w1.heap[k]? = w.heap[k]?) → Below g w w1 → wpList P ops Q rest (a.put o.dst undef) w1) : wpList P ops Q (o :: rest) a w := by
  refine wpList_plain hgd fun _ hK => ?_
  obtain ⟨w1, cs1, a1, a2, a3, a4, a5, a6, a7, a8⟩ := storeP (P := P) g off t vs.toList 0 cs w hg (by simp; omega) (fun v hv => h1 v (Array.mem_toList_iff.1 hv))
  have e : (storeVar ty ⟨g, off, none⟩ (.agg vs)).run P w = .ok () w1 := by
    cases hq : P.info? ty with
    | none => simp [hq] at hi
    | some i =>
      have hs : i.size = n := by simpa [hq] using hi
      simp only [storeVar, sizeOf, typeInfo, Sem.run_bind, hq, Value.cells]
      simp [Sem.run_bind, hq, hs, hn]
      simpa using a1
  unfold Oper.wp execOp
  simp only [ho, hx, hy, Instr.storeAt, Instr.sureAddr, Sem.run_bind, Sem.run_pure, Result.andThen_ok, e]
  refine hK _ _ (h w1 cs1 a2 a3 (fun j hj => a4 j (by omega)) (fun j hj => ?_) (fun j hj => a6 j (by simp; omega)) a7 a8)
  have := a5 j (by simp; omega)
  rw [Nat.add_zero] at this
  rw [this, Array.getElem?_toList]
end
theorem idx_run {cs : Array Value} (hs : cs.size = 136) {k : Nat} (hk : k < 16) {x : Nat} (hx : cs[117 + k]? = some (.float .f64 x)) (w : World) : (Instr.index 34 (.agg (cs.extract 117 (117 + 16))) (.int .i64 (k : Int))).run Try.prog w = .ok (.float .f64 x) w := by
  have hc : (cs.extract 117 (117 + 16))[k]? = some (.float .f64 x) := by rw [Array.getElem?_extract, if_pos (by omega)]; exact hx
  obtain ⟨i, hi⟩ : ∃ i, Try.prog.info? 33 = some i := info_of_underlying Try.underlying33
  have hsz : i.size = 1 := by
    have : (Try.prog.info? 33).map (·.size) = some 1 := by kernel_rfl
    simpa [hi] using this
  simp only [Instr.index, Sem.run_bind, asIntOf, Sem.run_pure, Result.andThen_ok, run_underlying Try.underlying34 w]
  rw [if_pos (by constructor <;> omega)]
  simp only [Sem.run_bind, sizeOf, typeInfo]
  simp [Sem.run_bind, hi, hsz, Result.andThen]
  exact psc (by kernel_rfl) hc

def fnm : Value → Nat | .float _ q => q | _ => 0
/-- Register j of both is one value. -/
def rb (cs ds : Array Value) (j : Nat) : Bool := sameB (fnm (cs.getD (117 + j) undef)) (fnm (ds.getD (117 + j) undef))
def MemEq (cs ds : Array Value) : Prop := (∀ j, j < 16 → rb cs ds j = true) ∧ Rest cs ds
theorem MemEq.refl (cs : Array Value) : MemEq cs cs := ⟨fun j _ => (sameB_iff _ _).2 (Same.refl _), fun _ _ _ => rfl⟩
def zs16 : Array Value := Array.replicate 16 (.float .f64 0)
theorem zeroed {cs cs1 : Array Value} (h : Tagged cs) (h1 : cs1.size = cs.size) (h2 : ∀ j, j < 117 → cs1[j]? = cs[j]?) (h3 : ∀ j, j < 16 → cs1[117 + j]? = zs16[j]?) (h4 : ∀ j, 117 + 16 ≤ j → cs1[j]? = cs[j]?) : Tagged cs1 ∧ ∀ j, j < 16 → cs1.getD (117 + j) undef = .float .f64 0 := by
  have z : ∀ j, j < 16 → cs1[117 + j]? = some (.float .f64 0) := fun j hj => by
    rw [h3 j hj]
    simp [zs16, hj]
  refine ⟨⟨h1.trans h.size, fun i hi => ?_⟩, fun j hj => getD_of (z j hj)⟩
  by_cases a : i < 117
  · rw [h2 i a]; exact h.all i hi
  · by_cases b : i < 133
    · have := z (i - 117) (by omega)
      rw [show 117 + (i - 117) = i by omega] at this
      refine ⟨_, this, ?_⟩
      exact (by decide : ∀ i, i < 136 → ¬ i < 117 → i < 133 → 6 = tags.getD i 0) i hi a b
    · rw [h4 i (by omega)]; exact h.all i hi
/-- What 'MemSame' returns. -/
def SameR (cs ds : Array Value) (w : World) (e : Ending) (w' : World) : Prop := ∃ r : Bool, e = .returned (.bool r) ∧ (r = true ↔ MemEq cs ds) ∧ Below w.heap.size w w'
set_option maxHeartbeats 4000000 in
theorem memSame_any (cs ds : Array Value) (hs : Shape cs) (hd : Shape ds) (w : World) : Calls Try.prog 6 #[.agg cs, .agg ds] w (SameR cs ds w) := by
  have ka := heap_alloc2_old w (.cells cs 43) (.cells ds 43)
  have kd := heap_alloc2_new w (.cells cs 43) (.cells ds 43)
  have B0 := Lib.hid (((Below.refl w.heap.size w).alloc (Nat.le_refl _) (.cells cs 43)).alloc (by simp) (.cells ds 43))
  have Ka := Lib.hid ka
  have Kd := Lib.hid kd
  have HS := Lib.hid hs
  have HD := Lib.hid hd
  clear ka kd hs hd
  have hbd : ∀ w, (Instr.build 34 #[]).run Try.prog w = .ok (.agg zs16) w := fun _ => by kernel_rfl
  go_enter Try.func6, Try.ntmps6
  go_wp2_with (refine wl_pld rfl _ _ rfl Ka.out 117 16 rfl (by kernel_rfl) (by kernel_rfl) (by rw [HS.out.size]; decide) ?_)
  go_loop [9] (fun i => ∃ k : Nat, k ≤ 16 ∧ i = .int .i64 k ∧ Hid (∀ j, j < k → rb cs ds j = true)) (fun i => 16 - (intOf i).toNat)
  case atStart => exact ⟨0, by omega, rfl, Lib.hid (fun j hj => by omega)⟩
  case round =>
    obtain ⟨k, hk, rfl, HL⟩ := hrel
    by_cases hlt : k < 16
    · obtain ⟨x, hx⟩ := HS.out.R k hlt
      obtain ⟨y, hy⟩ := HD.out.R k hlt
      have hix := idx_run HS.out.size hlt hx
      have cb := kit.box_cell Kd.out (117 + k) hy
      have Hr := Lib.hid (show rb cs ds k = sameB x y by unfold rb; rw [getD_of hx, getD_of hy]; rfl)
      clear hx hy
      go_wp2_with fail
      refine (rs_any x y _).mono ?_
      rintro e w' ⟨rfl, rfl⟩
      cases hb : sameB x y with
      | true =>
        have Hb := Lib.hid (Hr.out.trans hb)
        clear hb Hr
        go_wp2_with fail
        go_round
        case rel => exact ⟨k + 1, by omega, by go_num, Lib.hid (fun j hj => by
          by_cases e : j = k
          · subst e; exact Hb.out
          · exact HL.out j (by omega))⟩
        case measure => simp [intOf]; omega
      | false =>
        have Hb := Lib.hid (Hr.out.trans hb)
        clear hb Hr
        go_wp2_with fail
        go_ret
        exact ⟨false, rfl, ⟨fun h => (by cases h), fun h => by have := h.1 k hlt; rw [Hb.out] at this; cases this⟩, B0.out⟩
    · obtain rfl : k = 16 := by omega
      clear hk hlt
      have hone : ∀ v ∈ zs16, v.oneCell' = true := by intro v hv; have := Array.eq_of_mem_replicate hv; rw [this]; rfl
      have H1 := Lib.hid hone
      clear hone
      go_upto_region 8 with (first | (refine wl_pst rfl _ _ _ rfl Ka.out 117 16 zs16 rfl rfl H1.out rfl (by kernel_rfl) (by rw [HS.out.size]; decide) ?_; intro w1 cs1 a1 a2 a3 a4 a5 a6 a7; have KA := Lib.hid (And.intro a1 (And.intro a2 (And.intro a3 (And.intro a4 a5)))); have KD := Lib.hid ((a6 (w.heap.size + 1) (by omega)).trans Kd.out); have B1 := Lib.hid (B0.out.trans a7); clear a1 a2 a3 a4 a5 a6 a7) | (refine wl_pst rfl _ _ _ rfl KD.out 117 16 zs16 rfl rfl H1.out rfl (by kernel_rfl) (by rw [HD.out.size]; decide) ?_; intro w2 ds1 b1 b2 b3 b4 b5 b6 b7; have KB := Lib.hid (And.intro b1 (And.intro b2 (And.intro b3 (And.intro b4 b5)))); have KC := Lib.hid ((b6 w.heap.size (by omega)).trans KA.out.1); have B2 := Lib.hid (B1.out.trans (b7.mono (by omega))); clear b1 b2 b3 b4 b5 b6 b7))
      obtain ⟨t1, z1⟩ := zeroed HS.out.tagged KA.out.2.1 KA.out.2.2.1 KA.out.2.2.2.1 KA.out.2.2.2.2
      obtain ⟨t2, z2⟩ := zeroed HD.out.tagged KB.out.2.1 KB.out.2.2.1 KB.out.2.2.2.1 KB.out.2.2.2.2
      obtain ⟨r, heq, hiff⟩ := mem_eq cs1 ds1 t1 t2 (fun j hj => by unfold cq; rw [z1 j hj, z2 j hj]; decide +kernel)
      have Hi := Lib.hid hiff
      have heg := fun (w : World) => run_eqGuard_agg (P := Try.prog) w .eql 43 (.tmp 25) (.tmp 26) cs1 ds1 (by kernel_rfl)
      have S1 := Lib.hid t1.size
      have S2 := Lib.hid t2.size
      clear t1 z1 t2 z2 hiff
      go_wp2_with (first | (refine wl_hld rfl _ _ rfl KC.out rfl (by kernel_rfl) 136 S1.out (by kernel_rfl) ?_) | (refine wl_hld rfl _ _ rfl KB.out.1 rfl (by kernel_rfl) 136 S2.out (by kernel_rfl) ?_))
      go_ret
      refine ⟨r, rfl, ?_, B2.out⟩
      rw [Hi.out]
      have hR : Rest cs1 ds1 ↔ Rest cs ds := by
        have e1 : ∀ i, (i < 117 ∨ 133 ≤ i) → cs1[i]? = cs[i]? := fun i hi => hi.elim (KA.out.2.2.1 i) (fun h => KA.out.2.2.2.2 i (by omega))
        have e2 : ∀ i, (i < 117 ∨ 133 ≤ i) → ds1[i]? = ds[i]? := fun i hi => hi.elim (KB.out.2.2.1 i) (fun h => KB.out.2.2.2.2 i (by omega))
        exact ⟨fun h i hi hr => by rw [← e1 i hr, ← e2 i hr]; exact h i hi hr, fun h i hi hr => by rw [e1 i hr, e2 i hr]; exact h i hi hr⟩
      rw [hR]
      exact ⟨fun h => ⟨HL.out, h⟩, fun h => h.2⟩

end Go.Proofs.Ytcjlkekekalgdaa.part
