/-
  Cells stored one behind the other into a box; boxes with known cells that are written; make.
  Conditions: none.
-/
import Derived.Test.YtkiemiolellllaaHxG
import Derived.Laws.MakeOwn
namespace Go.Proofs.Ytkiemiolellllaa.tree
open Go Go.RowKit Go.Proofs.Ytkiemiolellllaa.part
set_option linter.unusedVariables false
set_option linter.unusedSimpArgs false

/-- Cells put one behind the other. -/
def putL (cs : Array Value) (off : Nat) : List Value → Array Value
  | [] => cs
  | v :: r => putL (cs.setIfInBounds off v) (off + 1) r
theorem storeL {P : Program} (g off : Nat) (t : TypeId) : ∀ (vs : List Value) (i : Nat) (cur : Array Value) (w : World), w.heap[g]? = some (.cells cur t (0, 0)) → off + i + vs.length ≤ cur.size → (∀ v ∈ vs, v.oneCell' = true) →
    ∃ w1, (storeCells ⟨g, off, none⟩ vs i).run P w = .ok () w1 ∧ w1.heap[g]? = some (.cells (putL cur (off + i) vs) t (0, 0)) ∧ (∀ k, k ≠ g → w1.heap[k]? = w.heap[k]?) ∧ Below g w w1
  | [], i, cur, w, hg, hl, _ => ⟨w, rfl, hg, fun _ _ => rfl, Below.refl _ _⟩
  | v :: rest, i, cur, w, hg, hl, h1 => by
    simp only [List.length_cons] at hl
    have hi : off + i < cur.size := by omega
    have hcell : w.cell? ⟨g, off + i, none⟩ = some cur[off + i] := by simp [World.cell?, hg, hi]
    have hfro : w.frozen? ⟨g, off + i, none⟩ = false := by simp [World.frozen?, hg]
    have hst : (store ((⟨g, off, none⟩ : Addr).add i) v).run P w = .ok () (w.setCell ⟨g, off + i, none⟩ v) := by
      rw [part.add_at, run_store P w _ v _ (h1 v (by simp)), hcell]
      simp [hfro]
    have hg2 : (w.setCell ⟨g, off + i, none⟩ v).heap[g]? = some (.cells (cur.setIfInBounds (off + i) v) t (0, 0)) := by
      rw [setCell_eq_setRow w g (off + i) cur t (0, 0) v hg]
      exact setRow_heap w g cur _ t _ hg
    obtain ⟨w1, a1, a2, a3, a4⟩ := storeL (P := P) g off t rest (i + 1) _ _ hg2 (by simp; omega) (fun x hx => h1 x (by simp [hx]))
    refine ⟨w1, ?_, a2, fun k hk => (a3 k hk).trans (Below.heap_setCell w ⟨g, off + i, none⟩ v k hk), ((Below.refl g w).setCell (p := ⟨g, off + i, none⟩) (Nat.le_refl _) v).trans a4⟩
    simp only [storeCells, Sem.run_bind, hst, Result.andThen_ok, a1]
theorem putL_size : ∀ (vs : List Value) (cs : Array Value) (off : Nat), (putL cs off vs).size = cs.size
  | [], _, _ => rfl
  | v :: r, cs, off => by unfold putL; rw [putL_size r]; simp
theorem putL_all : ∀ (vs : List Value) (cs : Array Value) (off : Nat), off + vs.length ≤ cs.size → ∀ i, (putL cs off vs)[i]? = if off ≤ i ∧ i < off + vs.length then vs[i - off]? else cs[i]?
  | [], cs, off, h, i => by
    unfold putL
    rw [if_neg (by intro hh; simp at hh; omega)]
  | v :: r, cs, off, h, i => by
    unfold putL
    simp only [List.length_cons] at h ⊢
    rw [putL_all r _ (off + 1) (by simp; omega) i]
    by_cases h1 : off + 1 ≤ i ∧ i < off + 1 + r.length
    · rw [if_pos h1, if_pos (by omega), show i - off = (i - (off + 1)) + 1 by omega, List.getElem?_cons_succ]
    · rw [if_neg h1]
      by_cases h2 : i = off
      · subst h2
        rw [if_pos (by omega), Nat.sub_self, List.getElem?_cons_zero, Array.getElem?_setIfInBounds]
        simp; omega
      · rw [if_neg (by omega), Array.getElem?_setIfInBounds, if_neg (by omega)]
theorem putL_whole (vs : Array Value) (cs : Array Value) (h : cs.size = vs.size) : putL cs 0 vs.toList = vs := by
  apply Array.ext_getElem?
  intro i
  rw [putL_all _ _ _ (by simp; omega)]
  by_cases hi : i < vs.size
  · rw [if_pos (by simp; omega)]; simp
  · rw [if_neg (by simp; omega), Array.getElem?_eq_none (by omega), Array.getElem?_eq_none (by omega)]

section
variable {P : Program} {ops : Array Oper} {rest : List Oper} {o : Oper} {a : Act} {w W : World} {Q : Exit → Act → World → Prop} {b : Nat} {old : Array Value} {t : TypeId} {bs : List (Nat × Array Value)}
/-- A store into a box, from an offset on. -/
theorem wl_sto (hgd : o.guard = none) (ty : TypeId) (x y : Operand) (ho : o.op = .store ty x y) (hb : w.heap[b]? = some (.cells old t (0, 0))) (off : Nat) (hx : a.eval x = .pointer (some ⟨b, off, none⟩)) (v : Value) (hy : a.eval y = v) (h1 : ∀ u ∈ v.cells, u.oneCell' = true) (n : Nat) (hn : v.cells.size = n) (hz : off + n ≤ old.size) (hi : (P.info? ty).map (·.size) = some n)
    (h : ∀ w1, w1.heap[b]? = some (.cells (putL old off v.cells.toList) t (0, 0)) → (∀ k, k ≠ b → w1.heap[k]? = w.heap[k]?) → Below b w w1 → wpList P ops Q rest (a.put o.dst undef) w1) : wpList P ops Q (o :: rest) a w := by
  refine wpList_plain hgd fun _ hK => ?_
  obtain ⟨w1, a1, a2, a3, a4⟩ := storeL (P := P) b off t v.cells.toList 0 _ w hb (by simp; omega) (fun u hu => h1 u (Array.mem_toList_iff.1 hu))
  rw [Nat.add_zero] at a2
  have e : (storeVar ty ⟨b, off, none⟩ v).run P w = .ok () w1 := by
    cases hq : P.info? ty with
    | none => simp [hq] at hi
    | some i =>
      have hs : i.size = v.cells.size := by rw [hn]; simpa [hq] using hi
      simp only [storeVar, sizeOf, typeInfo, Sem.run_bind, hq]
      simp [Sem.run_bind, hq, hs]
      simpa using a1
  unfold Oper.wp execOp
  simp only [ho, hx, hy, Instr.storeAt, Instr.sureAddr, Sem.run_bind, Sem.run_pure, Result.andThen_ok, e]
  exact hK _ _ (h w1 a2 a3 a4)
theorem wl_hsto (hgd : o.guard = none) (ty : TypeId) (x y : Operand) (ho : o.op = .store ty x y) (hst : Hx W bs w) (hm : (b, old) ∈ bs) (off : Nat) (hx : a.eval x = .pointer (some ⟨b, off, none⟩)) (v : Value) (hy : a.eval y = v) (h1 : ∀ u ∈ v.cells, u.oneCell' = true) (n : Nat) (hn : v.cells.size = n) (hz : off + n ≤ old.size) (hi : (P.info? ty).map (·.size) = some n) (bs' : List (Nat × Array Value)) (hs : ∀ p ∈ bs', p.1 ≠ b ∧ p ∈ bs)
    (h : ∀ w1, Hx W ((b, putL old off v.cells.toList) :: bs') w1 → (∀ k, k ≠ b → w1.heap[k]? = w.heap[k]?) → Below b w w1 → wpList P ops Q rest (a.put o.dst undef) w1) : wpList P ops Q (o :: rest) a w := by
  obtain ⟨hW, t, hb⟩ := hst.2 _ hm
  refine wl_sto hgd ty x y ho hb off hx v hy h1 n hn hz hi fun w1 a1 a2 a3 => h w1 ⟨hst.1.trans (a3.mono hW), fun p hp => ?_⟩ a2 a3
  rcases List.mem_cons.1 hp with rfl | hp
  · exact ⟨hW, t, a1⟩
  · obtain ⟨b1, t2, b2⟩ := hst.2 p (hs p hp).2
    exact ⟨b1, t2, (a2 p.1 (hs p hp).1).trans b2⟩
theorem wl_make (hgd : o.guard = none) (ty : TypeId) (x y : Operand) (ho : o.op = .makeSlice ty x y) (n : Nat) (hx : a.eval x = .int .i64 n) (hy : a.eval y = .int .i64 n) (e : TypeId) (z : Value) (sz bytes : Nat) (ht : P.underlying ty = some (.slice e)) (hinfo : (P.info? e).map (fun i => (i.zero, i.size, i.bytes)) = some (some z, sz, bytes)) (hb : bytes * n ≤ 281474976710656) (hn : n ≤ 9223372036854775807)
    (h : wpList P ops Q rest (a.put o.dst (.slice (some ⟨w.heap.size, 0, none⟩) n n)) (w.alloc (.cells (madeCells z.cells (n * sz)) e))) : wpList P ops Q (o :: rest) a w := by
  refine wpList_plain hgd fun _ hK => ?_
  obtain ⟨i, hi, hzz⟩ := Option.map_eq_some_iff.1 hinfo
  simp only [Prod.mk.injEq] at hzz
  obtain ⟨h1, h2, h3⟩ := hzz
  have er := run_make (P := P) w ty e i z ht hi h1 .i64 .i64 n n (by omega) (Int.le_refl _) (by rw [h3, ← Int.natCast_mul]; omega) (by omega)
  rw [h2, Int.toNat_natCast] at er
  unfold Oper.wp execOp
  simp only [ho, hx, hy, Sem.run_bind, er, Sem.run_pure, Result.andThen_ok]
  exact hK _ _ h
end

/-! ### what stays read while boxes below a mark are written -/
def St (lo : Nat) (w : World) (φ : World → Prop) : Prop := ∀ W' : World, w.heap.size ≤ W'.heap.size → (∀ i, lo ≤ i → i < w.heap.size → W'.heap[i]? = w.heap[i]?) → φ W'
theorem St.now {lo : Nat} {w : World} {φ : World → Prop} (h : St lo w φ) : φ w := h w (Nat.le_refl _) fun _ _ _ => rfl
theorem St.lower {lo lo' : Nat} {w : World} {φ : World → Prop} (h : St lo w φ) (hl : lo' ≤ lo) : St lo' w φ := fun W' h1 h2 => h W' h1 fun i hi hlt => h2 i (by omega) hlt
theorem St.step {lo : Nat} {w w1 : World} {φ : World → Prop} (h : St lo w φ) (hs : w.heap.size ≤ w1.heap.size) (hk : ∀ i, lo ≤ i → i < w.heap.size → w1.heap[i]? = w.heap[i]?) : St lo w1 φ :=
  fun W' h1 h2 => h W' (by omega) fun i hi hlt => (h2 i hi (by omega)).trans (hk i hi hlt)
theorem St.below {lo : Nat} {w w1 : World} {φ : World → Prop} (h : St lo w φ) (hb : Below w.heap.size w w1) : St lo w1 φ := h.step hb.size fun i _ hlt => hb.block i hlt
theorem St.but {lo b : Nat} {w w1 : World} {φ : World → Prop} (h : St lo w φ) (hs : w.heap.size ≤ w1.heap.size) (hk : ∀ k, k ≠ b → w1.heap[k]? = w.heap[k]?) (hb : b < lo) : St lo w1 φ := h.step hs fun i hi _ => hk i (by omega)
theorem St.map {lo : Nat} {w : World} {φ ψ : World → Prop} (h : St lo w φ) (hp : ∀ W', φ W' → ψ W') : St lo w ψ := fun W' h1 h2 => hp W' (h W' h1 h2)
theorem St.and {lo : Nat} {w : World} {φ ψ : World → Prop} (h : St lo w φ) (h' : St lo w ψ) : St lo w fun W' => φ W' ∧ ψ W' := fun W' h1 h2 => ⟨h W' h1 h2, h' W' h1 h2⟩
end Go.Proofs.Ytkiemiolellllaa.tree
