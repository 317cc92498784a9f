/-
  Lemmas that a law of the seat uses, part 2: contracts of the functions that it reaches and plain laws.
  Conditions: none beyond those that each lemma states.
-/
import Derived.Test.YtnffgafofkknoaaDoorQMa
import Derived.WalkLawsBesides
import Derived.Deep.LoopGhost
import Derived.BigQuiet
import Derived.Deep.QuietTactic
/-! Sx -/
namespace Go.Proofs.YtnffgafofkknoaaDoor.draws
open Go Go.RowKit Go.Proofs.YtnffgafofkknoaaDoor.part Go.Proofs.YtnffgafofkknoaaDoorW.PrintWords
set_option linter.unusedVariables false
set_option linter.unusedSimpArgs false

/-- Cells put one behind the other. -/
def putL (cs : Array Value) (off : Nat) : List Value → Array Value
  | [] => cs
  | v :: r => putL (cs.setIfInBounds off v) (off + 1) r
theorem storeL {P : Program} (g off : Nat) (t : TypeId) : ∀ (vs : List Value) (i : Nat) (cur : Array Value) (w : World), w.heap[g]? = some (.cells cur t (0, 0)) → off + i + vs.length ≤ cur.size → (∀ v ∈ vs, v.oneCell' = true) →
    ∃ w1, (storeCells ⟨g, off, none⟩ vs i).run P w = .ok () w1 ∧ w1.heap[g]? = some (.cells (putL cur (off + i) vs) t (0, 0)) ∧ (∀ k, k ≠ g → w1.heap[k]? = w.heap[k]?) ∧ Below g w w1
  | [], i, cur, w, hg, hl, _ => ⟨w, rfl, hg, fun _ _ => rfl, Below.refl _ _⟩
  | v :: rest, i, cur, w, hg, hl, h1 => by
    simp only [List.length_cons] at hl
    have hi : off + i < cur.size := by omega
    have hcell : w.cell? ⟨g, off + i, none⟩ = some cur[off + i] := by simp [World.cell?, hg, hi]
    have hfro : w.frozen? ⟨g, off + i, none⟩ = false := by simp [World.frozen?, hg]
    have hst : (store ((⟨g, off, none⟩ : Addr).add i) v).run P w = .ok () (w.setCell ⟨g, off + i, none⟩ v) := by
      rw [part.add_at, run_store P w _ v _ (h1 v (by simp)), hcell]
      simp [hfro]
    have hg2 : (w.setCell ⟨g, off + i, none⟩ v).heap[g]? = some (.cells (cur.setIfInBounds (off + i) v) t (0, 0)) := by
      rw [setCell_eq_setRow w g (off + i) cur t (0, 0) v hg]
      exact setRow_heap w g cur _ t _ hg
    obtain ⟨w1, a1, a2, a3, a4⟩ := storeL (P := P) g off t rest (i + 1) _ _ hg2 (by simp; omega) (fun x hx => h1 x (by simp [hx]))
    refine ⟨w1, ?_, a2, fun k hk => (a3 k hk).trans (Below.heap_setCell w ⟨g, off + i, none⟩ v k hk), ((Below.refl g w).setCell (p := ⟨g, off + i, none⟩) (Nat.le_refl _) v).trans a4⟩
    simp only [storeCells, Sem.run_bind, hst, Result.andThen_ok, a1]
theorem putL_size : ∀ (vs : List Value) (cs : Array Value) (off : Nat), (putL cs off vs).size = cs.size
  | [], _, _ => rfl
  | v :: r, cs, off => by unfold putL; rw [putL_size r]; simp
theorem tagged_putL : ∀ (vs : List Value) (cs : Array Value) (off : Nat), Tagged cs → (∀ j, j < vs.length → tv (vs.getD j undef) = tags.getD (off + j) 0) → Tagged (putL cs off vs)
  | [], _, _, h, _ => h
  | v :: r, cs, off, h, ht => by
    refine tagged_putL r _ _ (h.put off v (ht 0 (by simp))) (fun j hj => ?_)
    have := ht (j + 1) (by simpa using hj)
    rw [show off + 1 + j = off + (j + 1) by omega]
    simpa using this
theorem rg_putL : ∀ (vs : List Value) (cs : Array Value) (off : Nat), Rg cs → (∀ v ∈ vs, ∀ k a, v = .int k a → k.min ≤ a ∧ a ≤ k.max) → Rg (putL cs off vs)
  | [], _, _, h, _ => h
  | v :: r, cs, off, h, ht => rg_putL r _ _ (h.put off v (ht v (by simp))) (fun x hx => ht x (by simp [hx]))
theorem putL_all (vs : List Value) : ∀ (pre : List Value) (cs : Array Value), cs.size = pre.length + vs.length → (∀ j, j < pre.length → cs[j]? = pre[j]?) → putL cs pre.length vs = (pre ++ vs).toArray := by
  induction vs with
  | nil =>
    intro pre cs hs h
    apply Array.ext_getElem?
    intro j
    show cs[j]? = _
    by_cases hj : j < pre.length
    · rw [h j hj]; simp
    · rw [Array.getElem?_eq_none (by simp at hs; omega), Array.getElem?_eq_none (by simp; omega)]
  | cons v r ih =>
    intro pre cs hs h
    unfold putL
    have := ih (pre ++ [v]) (cs.setIfInBounds pre.length v) (by simp at hs ⊢; omega) (fun j hj => by
      by_cases e : pre.length = j
      · subst e
        rw [Array.getElem?_setIfInBounds_self_of_lt (by simp at hs; omega)]
        simp
      · rw [Array.getElem?_setIfInBounds_ne e, h j (by simp at hj; omega), List.getElem?_append_left (by simp at hj; omega)])
    simpa using this

/-- A box: 0 an operand, 1 a memory, 2 a row as long as a memory. -/
def Bx (p : Nat × Nat) (w : World) : Prop := match p.2 with
  | 0 => ∃ x y z : Int, w.heap[p.1]? = some (.cells #[.int .i64 x, .int .i64 y, .int .i64 z] 47 (0, 0))
  | 1 => ∃ cs, w.heap[p.1]? = some (.cells cs 45 (0, 0)) ∧ Tagged cs ∧ Rg cs
  | _ => ∃ o, w.heap[p.1]? = some (.cells o 45 (0, 0)) ∧ o.size = 136
theorem Bx.keep {p : Nat × Nat} {w w1 : World} (h : Bx p w) (e : w1.heap[p.1]? = w.heap[p.1]?) : Bx p w1 := by
  obtain ⟨b, k⟩ := p
  match k with
  | 0 => obtain ⟨x, y, z, h⟩ := h; exact ⟨x, y, z, e.trans h⟩
  | 1 => obtain ⟨cs, h, t⟩ := h; exact ⟨cs, e.trans h, t⟩
  | k + 2 => obtain ⟨o, h, t⟩ := h; exact ⟨o, e.trans h, t⟩
theorem Bx.lt {p : Nat × Nat} {w : World} (h : Bx p w) : p.1 < w.heap.size := by
  obtain ⟨b, k⟩ := p
  match k with
  | 0 => obtain ⟨x, y, z, h⟩ := h; exact kit.box_lt h
  | 1 => obtain ⟨cs, h, t⟩ := h; exact kit.box_lt h
  | k + 2 => obtain ⟨o, h, t⟩ := h; exact kit.box_lt h
/-- All that is in hand. -/
def Sx (B : Base) (g : Nat) (n : Int) (bs : List (Nat × Nat)) (w : World) : Prop := Rd B w g n ∧ ∀ p ∈ bs, Bx p w ∧ p.1 ≠ g ∧ B.wf.heap.size ≤ p.1 ∧ B.w0.heap.size ≤ p.1
section
variable {B : Base} {w w1 : World} {g : Nat} {n m : Int} {bs : List (Nat × Nat)}
theorem Sx.rd (h : Sx B g n bs w) : Rd ⟨B.w0, w⟩ w g n := h.1.now
theorem Sx.step (h : Sx B g n bs w) (k : Rd ⟨B.w0, w⟩ w1 g m) : Sx B g m bs w1 :=
  ⟨h.1.since k, fun p hp => by obtain ⟨a, b, c⟩ := h.2 p hp; exact ⟨a.keep (k.keep.2 p.1 a.lt b (by simp)), b, c⟩⟩
theorem Sx.below (h : Sx B g n bs w) (k : Below w.heap.size w w1) : Sx B g n bs w1 := h.step (h.rd.below k)
theorem Sx.le (h : Sx B g n bs w) (hm : n ≤ m) : Sx B g m bs w := ⟨h.1.le hm, h.2⟩
theorem Sx.alloc (h : Sx B g n bs w) (o : Obj) : Sx B g n bs (w.alloc o) := h.below ((Below.refl _ _).alloc (Nat.le_refl _) _)
theorem Sx.add (h : Sx B g n bs w) (p : Nat × Nat) (hp : Bx p w) (hg : p.1 ≠ g) (h1 : B.wf.heap.size ≤ p.1) (h2 : B.w0.heap.size ≤ p.1) : Sx B g n (p :: bs) w :=
  ⟨h.1, fun q hq => by rcases List.mem_cons.1 hq with rfl | hq; exact ⟨hp, hg, h1, h2⟩; exact h.2 q hq⟩
theorem Sx.dev (h : Sx B g n bs w) (x y z : Int) : Sx B g n ((w.heap.size, 0) :: bs) (w.alloc (.cells #[.int .i64 x, .int .i64 y, .int .i64 z] 47)) :=
  (h.alloc _).add (w.heap.size, 0) ⟨x, y, z, heap_alloc_new _ _⟩ (fun e => by have := h.1.lt; simp at e; omega) h.1.keep.1 h.1.is.size
theorem Sx.mem (h : Sx B g n bs w) (z : Array Value) (hz : z.size = 136) : Sx B g n ((w.heap.size, 2) :: bs) (w.alloc (.cells z 45)) :=
  (h.alloc _).add (w.heap.size, 2) ⟨z, heap_alloc_new _ _, hz⟩ (fun e => by have := h.1.lt; simp at e; omega) h.1.keep.1 h.1.is.size
theorem Sx.set (h : Sx B g n bs w) {b k : Nat} (hb : (b, k) ∈ bs) (a3 : ∀ k, k ≠ b → w1.heap[k]? = w.heap[k]?) (a4 : Below b w w1) (hp : ∀ k, (b, k) ∈ bs → Bx (b, k) w1) : Sx B g n bs w1 := by
  obtain ⟨_, bg, bf, b0⟩ := h.2 _ hb
  refine ⟨?_, fun p hpm => ?_⟩
  · obtain ⟨l, p, k1, k2, k3, k4, k5, k6, k7⟩ := h.1
    refine ⟨l, p, ?_, k2, k3, k4, k5, k6.trans (a4.mono b0), ?_⟩
    · obtain ⟨A0, c0, e1, e2, e3⟩ := k1
      exact ⟨A0, c0, (a3 g (fun e => bg e.symm)).trans e1, e2, e3⟩
    · exact ⟨Nat.le_trans k7.1 a4.size, fun i hi hn1 hn2 => (a3 i (fun e => by simp at bf; omega)).trans (k7.2 i hi hn1 hn2)⟩
  · obtain ⟨x1, x2, x3⟩ := h.2 p hpm
    by_cases e : p.1 = b
    · obtain ⟨p1, p2⟩ := p
      simp only at e
      subst e
      exact ⟨hp p2 hpm, x2, x3⟩
    · exact ⟨x1.keep (a3 _ e), x2, x3⟩
theorem Sx.set0 (h : Sx B g n bs w) {b : Nat} (hb : (b, 0) ∈ bs) (a3 : ∀ k, k ≠ b → w1.heap[k]? = w.heap[k]?) (a4 : Below b w w1) (x y z : Int) (hw : w1.heap[b]? = some (.cells #[.int .i64 x, .int .i64 y, .int .i64 z] 47 (0, 0))) : Sx B g n bs w1 := by
  refine h.set hb a3 a4 (fun k hk => ?_)
  obtain ⟨⟨x0, y0, z0, e0⟩, _⟩ := h.2 _ hb
  match k with
  | 0 => exact ⟨x, y, z, hw⟩
  | 1 =>
    obtain ⟨⟨cs, e1, _⟩, _⟩ := h.2 _ hk
    rw [show ((b, 1) : Nat × Nat).1 = b from rfl] at e1
    rw [show ((b, 0) : Nat × Nat).1 = b from rfl, e1] at e0
    simp at e0
  | k + 2 =>
    obtain ⟨⟨cs, e1, _⟩, _⟩ := h.2 _ hk
    rw [show ((b, k + 2) : Nat × Nat).1 = b from rfl] at e1
    rw [show ((b, 0) : Nat × Nat).1 = b from rfl, e1] at e0
    simp at e0
theorem Sx.set1 (h : Sx B g n bs w) {b i : Nat} (hb : (b, i + 1) ∈ bs) (a3 : ∀ k, k ≠ b → w1.heap[k]? = w.heap[k]?) (a4 : Below b w w1) (cs : Array Value) (hT : Tagged cs) (hR : Rg cs) (hw : w1.heap[b]? = some (.cells cs 45 (0, 0))) : Sx B g n ((b, 1) :: bs) w1 := by
  have hm : ∃ o : Array Value, w.heap[b]? = some (.cells o 45 (0, 0)) := by
    match i with
    | 0 => obtain ⟨⟨cs, e1, _⟩, _⟩ := h.2 _ hb; exact ⟨cs, e1⟩
    | i + 1 => obtain ⟨⟨cs, e1, _⟩, _⟩ := h.2 _ hb; exact ⟨cs, e1⟩
  have hs : Sx B g n bs w1 := by
    refine h.set hb a3 a4 (fun k hk => ?_)
    match k with
    | 0 =>
      obtain ⟨⟨x0, y0, z0, e0⟩, _⟩ := h.2 _ hk
      obtain ⟨o, e1⟩ := hm
      rw [show ((b, 0) : Nat × Nat).1 = b from rfl, e1] at e0
      simp at e0
    | 1 => exact ⟨cs, hw, hT, hR⟩
    | k + 2 => exact ⟨cs, hw, hT.size⟩
  obtain ⟨_, x1, x2, x3⟩ := h.2 _ hb
  exact hs.add (b, 1) ⟨cs, hw, hT, hR⟩ x1 x2 x3

/-! ### calls -/
theorem Sx.pick (h : Sx B g n bs w) (hn : n < 90000) (a : Int) (ha : 1 ≤ a) :
    Calls Tryd.prog 55 #[.pointer (some ⟨g, 0, none⟩), .int .i64 a] w fun e w' => ∃ j : Nat, e = .returned (.int .i64 j) ∧ (j : Int) < a ∧ Sx B g (n + 1) bs w' :=
  (pick_w h.rd (by omega) a ha).mono fun e w' ⟨q, he, q0, q1, k⟩ => by
    obtain ⟨j, rfl⟩ := Int.eq_ofNat_of_zero_le q0
    exact ⟨j, he, q1, h.step k⟩
theorem Sx.pickAny (h : Sx B g n bs w) (hn : n < 90000) (a : Int) :
    Calls Tryd.prog 55 #[.pointer (some ⟨g, 0, none⟩), .int .i64 a] w fun e w' => ∃ j : Int, e = .returned (.int .i64 j) ∧ Sx B g (n + 1) bs w' :=
  (pick_any h.rd (by omega) a).mono fun e w' ⟨q, he, k⟩ => ⟨q, he, h.step k⟩
theorem Sx.word (h : Sx B g n bs w) (hn : n < 90000) :
    Calls Tryd.prog 74 #[.pointer (some ⟨g, 0, none⟩)] w fun e w' => ∃ q, e = .returned (.int .u64 q) ∧ (IntKind.u64.min ≤ q ∧ q ≤ IntKind.u64.max) ∧ Sx B g (n + 8) bs w' :=
  (word_u h.rd (by omega)).mono fun e w' ⟨q, he, hq, k⟩ => ⟨q, he, hq, h.step k⟩
theorem Sx.whole (h : Sx B g n bs w) (hn : n < 90000) :
    Calls Tryd.prog 60 #[.pointer (some ⟨g, 0, none⟩)] w fun e w' => ∃ q, e = .returned (.int .i16 q) ∧ (-32768 ≤ q ∧ q ≤ 32767) ∧ Sx B g (n + 2) bs w' :=
  (whole_w h.rd (by omega)).mono fun e w' ⟨q, he, hq, k⟩ => ⟨q, he, hq, h.step k⟩
theorem Sx.real (h : Sx B g n bs w) (hn : n < 80000) :
    Calls Tryd.prog 61 #[.pointer (some ⟨g, 0, none⟩)] w fun e w' => ∃ q, e = .returned (.float .f64 q) ∧ Sx B g (n + 12) bs w' :=
  (l3Real_w h.rd (by omega)).mono fun e w' ⟨q, he, k⟩ => ⟨q, he, h.step k⟩
theorem Sx.num (h : Sx B g n bs w) (hn : n < 90000) (xs : List Int) (cs : Array Value) (t : TypeId) (c : Nat) (hcb : w.heap.size = c) (hx : 1 ≤ xs.length) (hm : xs.length ≤ 1000) (hc : ∀ j, j < xs.length → cs[j]? = some (.int .i64 (xs.getD j 0))) :
    Calls Tryd.prog 73 #[.pointer (some ⟨g, 0, none⟩), .slice (some ⟨c, 0, none⟩) xs.length xs.length] (w.alloc (.cells cs t)) fun e w' => ∃ q, e = .returned (.int .i64 q) ∧ q ∈ xs ∧ Sx B g (n + 1) bs w' := by
  subst hcb
  exact (num_w (h.alloc (.cells cs t)).rd (by omega) w.heap.size xs cs t (0, 0) hx hm (kit.box_new _ _ _) hc (by have := h.1.lt; omega)).mono fun e w' ⟨q, he, hq, k⟩ => ⟨q, he, hq, (h.alloc _).step k⟩
end

/-! ### operations -/
section
variable {P : Program} {ops : Array Oper} {rest : List Oper} {o : Oper} {a : Act} {w : World} {K : Act → World → Prop} {Q : Exit → Act → World → Prop} {B : Base} {g b : Nat} {n : Int} {bs : List (Nat × Nat)}
theorem ow_x0 (ty : TypeId) (x y : Operand) (ho : o.op = .store ty x y) (hst : Sx B g n bs w) (hm : (b, 0) ∈ bs) (x1 x2 x3 : Int) (hx : a.eval x = .pointer (some ⟨b, 0, none⟩)) (hy : a.eval y = .agg #[.int .i64 x1, .int .i64 x2, .int .i64 x3]) (hi : (P.info? ty).map (·.size) = some 3)
    (h : ∀ w1, Sx B g n bs w1 → K (a.put o.dst undef) w1) : o.wp P a w K Q := by
  obtain ⟨⟨q1, q2, q3, hcs⟩, _⟩ := hst.2 _ hm
  obtain ⟨w1, a1, a2, a3, a4⟩ := storeL (P := P) b 0 47 [.int .i64 x1, .int .i64 x2, .int .i64 x3] 0 _ w hcs (by simp) (by intro v hv; simp at hv; rcases hv with rfl | rfl | rfl <;> rfl)
  have e : (storeVar ty ⟨b, 0, none⟩ (.agg #[.int .i64 x1, .int .i64 x2, .int .i64 x3])).run P w = .ok () w1 := by
    cases hq : P.info? ty with
    | none => simp [hq] at hi
    | some i =>
      have hs : i.size = 3 := by simpa [hq] using hi
      simp only [storeVar, sizeOf, typeInfo, Sem.run_bind, hq, Value.cells]
      simp [Sem.run_bind, hq, hs]
      simpa using a1
  unfold Oper.wp execOp
  simp only [ho, hx, hy, Instr.storeAt, Instr.sureAddr, Sem.run_bind, Sem.run_pure, Result.andThen_ok, e]
  exact h _ (hst.set0 hm a3 a4 x1 x2 x3 a2)
theorem ow_x0f (ty : TypeId) (x y : Operand) (ho : o.op = .store ty x y) (hst : Sx B g n bs w) (hm : (b, 0) ∈ bs) (off : Nat) (hoff : off < 3) (x1 : Int) (hx : a.eval x = .pointer (some ⟨b, off, none⟩)) (hy : a.eval y = .int .i64 x1) (hi : (P.info? ty).map (·.size) = some 1)
    (h : ∀ w1, Sx B g n bs w1 → K (a.put o.dst undef) w1) : o.wp P a w K Q := by
  obtain ⟨⟨q1, q2, q3, hcs⟩, _⟩ := hst.2 _ hm
  obtain ⟨w1, a1, a2, a3, a4⟩ := storeL (P := P) b off 47 [.int .i64 x1] 0 _ w hcs (by simp; omega) (by intro v hv; simp at hv; rw [hv]; rfl)
  have e : (storeVar ty ⟨b, off, none⟩ (.int .i64 x1)).run P w = .ok () w1 := by
    cases hq : P.info? ty with
    | none => simp [hq] at hi
    | some i =>
      have hs : i.size = 1 := by simpa [hq] using hi
      simp only [storeVar, sizeOf, typeInfo, Sem.run_bind, hq, Value.cells]
      simp [Sem.run_bind, hq, hs]
      simpa using a1
  unfold Oper.wp execOp
  simp only [ho, hx, hy, Instr.storeAt, Instr.sureAddr, Sem.run_bind, Sem.run_pure, Result.andThen_ok, e]
  have hoo : off = 0 ∨ off = 1 ∨ off = 2 := by omega
  rcases hoo with rfl | rfl | rfl
  · exact h _ (hst.set0 hm a3 a4 _ _ _ a2)
  · exact h _ (hst.set0 hm a3 a4 _ _ _ a2)
  · exact h _ (hst.set0 hm a3 a4 _ _ _ a2)
theorem ow_x1 (ty : TypeId) (x y : Operand) (ho : o.op = .store ty x y) (hst : Sx B g n bs w) (hm : (b, 1) ∈ bs) (off : Nat) (v : Value) (N : Nat) (hx : a.eval x = .pointer (some ⟨b, off, none⟩)) (hy : a.eval y = v) (hi : (P.info? ty).map (·.size) = some N) (hN : v.cells.size = N) (h1 : ∀ x ∈ v.cells.toList, x.oneCell' = true) (hoff : off + N ≤ 136)
    (ht : ∀ j, j < v.cells.toList.length → tv (v.cells.toList.getD j undef) = tags.getD (off + j) 0) (hr : ∀ x ∈ v.cells.toList, ∀ k a, x = .int k a → k.min ≤ a ∧ a ≤ k.max)
    (h : ∀ w1, Sx B g n bs w1 → K (a.put o.dst undef) w1) : o.wp P a w K Q := by
  obtain ⟨⟨cs, hcs, hT, hR⟩, _⟩ := hst.2 _ hm
  obtain ⟨w1, a1, a2, a3, a4⟩ := storeL (P := P) b off 45 v.cells.toList 0 cs w hcs (by rw [hT.size, Array.length_toList, hN]; omega) h1
  rw [Nat.add_zero] at a2
  have e : (storeVar ty ⟨b, off, none⟩ v).run P w = .ok () w1 := by
    cases hq : P.info? ty with
    | none => simp [hq] at hi
    | some i =>
      have hs : i.size = N := by simpa [hq] using hi
      simp only [storeVar, sizeOf, typeInfo, Sem.run_bind, hq]
      simp [Sem.run_bind, hq, hs, hN]
      simpa using a1
  unfold Oper.wp execOp
  simp only [ho, hx, hy, Instr.storeAt, Instr.sureAddr, Sem.run_bind, Sem.run_pure, Result.andThen_ok, e]
  have := hst.set1 (i := 0) hm a3 a4 _ (tagged_putL _ cs off hT ht) (rg_putL _ cs off hR hr) a2
  exact h _ ⟨this.1, fun p hp => this.2 p (List.mem_cons_of_mem _ hp)⟩
theorem ow_x2 (ty : TypeId) (x y : Operand) (ho : o.op = .store ty x y) (hst : Sx B g n bs w) (hm : (b, 2) ∈ bs) (cs : Array Value) (hx : a.eval x = .pointer (some ⟨b, 0, none⟩)) (hy : a.eval y = .agg cs) (hT : Tagged cs) (hR : Rg cs) (hi : (P.info? ty).map (·.size) = some 136)
    (h : ∀ w1, Sx B g n ((b, 1) :: bs) w1 → K (a.put o.dst undef) w1) : o.wp P a w K Q := by
  obtain ⟨⟨oo, hcs, hsz⟩, _⟩ := hst.2 _ hm
  have hone := hT.shape.one
  obtain ⟨w1, a1, a2, a3, a4⟩ := storeL (P := P) b 0 45 cs.toList 0 oo w hcs (by rw [hsz, Array.length_toList, hT.size]; decide) (fun v hv => hone v (Array.mem_toList_iff.1 hv))
  have hall := putL_all cs.toList [] oo (by simp [hsz, hT.size]) (fun j hj => by simp at hj)
  simp only [List.length_nil, List.nil_append, Array.toArray_toList] at hall
  rw [Nat.add_zero, hall] at a2
  have e : (storeVar ty ⟨b, 0, none⟩ (.agg cs)).run P w = .ok () w1 := by
    cases hq : P.info? ty with
    | none => simp [hq] at hi
    | some i =>
      have hs : i.size = 136 := by simpa [hq] using hi
      simp only [storeVar, sizeOf, typeInfo, Sem.run_bind, hq, Value.cells]
      simp [Sem.run_bind, hq, hs, hT.size]
      simpa using a1
  unfold Oper.wp execOp
  simp only [ho, hx, hy, Instr.storeAt, Instr.sureAddr, Sem.run_bind, Sem.run_pure, Result.andThen_ok, e]
  exact h _ (hst.set1 (i := 1) hm a3 a4 cs hT hR a2)
theorem ow_l0 (ty : TypeId) (x : Operand) (ho : o.op = .load ty x) (hst : Sx B g n bs w) (hm : (b, 0) ∈ bs) (hx : a.eval x = .pointer (some ⟨b, 0, none⟩)) (hu : aggB P ty = true) (hi : (P.info? ty).map (·.size) = some 3)
    (h : ∀ x1 x2 x3 : Int, K (a.put o.dst (.agg #[.int .i64 x1, .int .i64 x2, .int .i64 x3])) w) : o.wp P a w K Q := by
  obtain ⟨⟨q1, q2, q3, hcs⟩, _⟩ := hst.2 _ hm
  exact ow_hld ty x ho hcs hx hu 3 rfl hi (h q1 q2 q3)
theorem ow_l0f (ty : TypeId) (x : Operand) (ho : o.op = .load ty x) (hst : Sx B g n bs w) (hm : (b, 0) ∈ bs) (off : Nat) (hoff : off < 3) (hx : a.eval x = .pointer (some ⟨b, off, none⟩)) (hu : scalarB P ty = true)
    (h : ∀ x1 : Int, K (a.put o.dst (.int .i64 x1)) w) : o.wp P a w K Q := by
  obtain ⟨⟨q1, q2, q3, hcs⟩, _⟩ := hst.2 _ hm
  have hcell : ∃ x1 : Int, w.cell? ⟨b, off, none⟩ = some (.int .i64 x1) := by
    have hoo : off = 0 ∨ off = 1 ∨ off = 2 := by omega
    rcases hoo with rfl | rfl | rfl
    · exact ⟨q1, kit.box_cell hcs 0 rfl⟩
    · exact ⟨q2, kit.box_cell hcs 1 rfl⟩
    · exact ⟨q3, kit.box_cell hcs 2 rfl⟩
  obtain ⟨x1, hc⟩ := hcell
  have e : (loadVar ty ⟨b, off, none⟩).run P w = .ok (.int .i64 x1) w := by simp [loadVar, Sem.run_bind, scalar_run hu w, hc]
  unfold Oper.wp execOp
  simp only [ho, hx, Instr.loadAt, Instr.sureAddr, Sem.run_bind, Sem.run_pure, Result.andThen_ok, e]
  exact h x1
theorem ow_l1 (ty : TypeId) (x : Operand) (ho : o.op = .load ty x) (hst : Sx B g n bs w) (hm : (b, 1) ∈ bs) (hx : a.eval x = .pointer (some ⟨b, 0, none⟩)) (hu : aggB P ty = true) (hi : (P.info? ty).map (·.size) = some 136)
    (h : ∀ cs, Tagged cs → Rg cs → K (a.put o.dst (.agg cs)) w) : o.wp P a w K Q := by
  obtain ⟨⟨cs, hcs, hT, hR⟩, _⟩ := hst.2 _ hm
  exact ow_hld ty x ho hcs hx hu 136 hT.size hi (h cs hT hR)

theorem wl_x0 (hgd : o.guard = none) (ty : TypeId) (x y : Operand) (ho : o.op = .store ty x y) (hst : Sx B g n bs w) (hm : (b, 0) ∈ bs) (x1 x2 x3 : Int) (hx : a.eval x = .pointer (some ⟨b, 0, none⟩)) (hy : a.eval y = .agg #[.int .i64 x1, .int .i64 x2, .int .i64 x3]) (hi : (P.info? ty).map (·.size) = some 3)
    (h : ∀ w1, Sx B g n bs w1 → wpList P ops Q rest (a.put o.dst undef) w1) : wpList P ops Q (o :: rest) a w :=
  wpList_plain hgd fun _ hK => ow_x0 ty x y ho hst hm x1 x2 x3 hx hy hi fun w1 h1 => hK _ _ (h w1 h1)
theorem wl_x0f (hgd : o.guard = none) (ty : TypeId) (x y : Operand) (ho : o.op = .store ty x y) (hst : Sx B g n bs w) (hm : (b, 0) ∈ bs) (off : Nat) (hoff : off < 3) (x1 : Int) (hx : a.eval x = .pointer (some ⟨b, off, none⟩)) (hy : a.eval y = .int .i64 x1) (hi : (P.info? ty).map (·.size) = some 1)
    (h : ∀ w1, Sx B g n bs w1 → wpList P ops Q rest (a.put o.dst undef) w1) : wpList P ops Q (o :: rest) a w :=
  wpList_plain hgd fun _ hK => ow_x0f ty x y ho hst hm off hoff x1 hx hy hi fun w1 h1 => hK _ _ (h w1 h1)
theorem wl_x1 (hgd : o.guard = none) (ty : TypeId) (x y : Operand) (ho : o.op = .store ty x y) (hst : Sx B g n bs w) (hm : (b, 1) ∈ bs) (off : Nat) (v : Value) (N : Nat) (hx : a.eval x = .pointer (some ⟨b, off, none⟩)) (hy : a.eval y = v) (hi : (P.info? ty).map (·.size) = some N) (hN : v.cells.size = N) (h1 : ∀ x ∈ v.cells.toList, x.oneCell' = true) (hoff : off + N ≤ 136)
    (ht : ∀ j, j < v.cells.toList.length → tv (v.cells.toList.getD j undef) = tags.getD (off + j) 0) (hr : ∀ x ∈ v.cells.toList, ∀ k a, x = .int k a → k.min ≤ a ∧ a ≤ k.max)
    (h : ∀ w1, Sx B g n bs w1 → wpList P ops Q rest (a.put o.dst undef) w1) : wpList P ops Q (o :: rest) a w :=
  wpList_plain hgd fun _ hK => ow_x1 ty x y ho hst hm off v N hx hy hi hN h1 hoff ht hr fun w1 h1 => hK _ _ (h w1 h1)
theorem wl_x2 (hgd : o.guard = none) (ty : TypeId) (x y : Operand) (ho : o.op = .store ty x y) (hst : Sx B g n bs w) (hm : (b, 2) ∈ bs) (cs : Array Value) (hx : a.eval x = .pointer (some ⟨b, 0, none⟩)) (hy : a.eval y = .agg cs) (hT : Tagged cs) (hR : Rg cs) (hi : (P.info? ty).map (·.size) = some 136)
    (h : ∀ w1, Sx B g n ((b, 1) :: bs) w1 → wpList P ops Q rest (a.put o.dst undef) w1) : wpList P ops Q (o :: rest) a w :=
  wpList_plain hgd fun _ hK => ow_x2 ty x y ho hst hm cs hx hy hT hR hi fun w1 h1 => hK _ _ (h w1 h1)
theorem wl_l0 (hgd : o.guard = none) (ty : TypeId) (x : Operand) (ho : o.op = .load ty x) (hst : Sx B g n bs w) (hm : (b, 0) ∈ bs) (hx : a.eval x = .pointer (some ⟨b, 0, none⟩)) (hu : aggB P ty = true) (hi : (P.info? ty).map (·.size) = some 3)
    (h : ∀ x1 x2 x3 : Int, wpList P ops Q rest (a.put o.dst (.agg #[.int .i64 x1, .int .i64 x2, .int .i64 x3])) w) : wpList P ops Q (o :: rest) a w :=
  wpList_plain hgd fun _ hK => ow_l0 ty x ho hst hm hx hu hi fun x1 x2 x3 => hK _ _ (h x1 x2 x3)
theorem wl_l0f (hgd : o.guard = none) (ty : TypeId) (x : Operand) (ho : o.op = .load ty x) (hst : Sx B g n bs w) (hm : (b, 0) ∈ bs) (off : Nat) (hoff : off < 3) (hx : a.eval x = .pointer (some ⟨b, off, none⟩)) (hu : scalarB P ty = true)
    (h : ∀ x1 : Int, wpList P ops Q rest (a.put o.dst (.int .i64 x1)) w) : wpList P ops Q (o :: rest) a w :=
  wpList_plain hgd fun _ hK => ow_l0f ty x ho hst hm off hoff hx hu fun x1 => hK _ _ (h x1)
theorem wl_l1 (hgd : o.guard = none) (ty : TypeId) (x : Operand) (ho : o.op = .load ty x) (hst : Sx B g n bs w) (hm : (b, 1) ∈ bs) (hx : a.eval x = .pointer (some ⟨b, 0, none⟩)) (hu : aggB P ty = true) (hi : (P.info? ty).map (·.size) = some 136)
    (h : ∀ cs, Tagged cs → Rg cs → wpList P ops Q rest (a.put o.dst (.agg cs)) w) : wpList P ops Q (o :: rest) a w :=
  wpList_plain hgd fun _ hK => ow_l1 ty x ho hst hm hx hu hi fun cs t r => hK _ _ (h cs t r)
theorem wl_genX (h : Sx B g n bs w) (k : ∀ w1, Sx B g n bs w1 → wpList P ops Q rest a w1) : wpList P ops Q rest a w := k w h
theorem wp_genX {c : Code} (h : Sx B g n bs w) (k : ∀ w1, Sx B g n bs w1 → c.wp P Q a w1) : c.wp P Q a w := k w h
end
end Go.Proofs.YtnffgafofkknoaaDoor.draws

/-! DevSize -/
namespace Go.Proofs.YtnffgafofkknoaaDoor.dev
open Go.RowKit
set_option linter.unusedVariables false
def sizes : List Int := [0, 32, 32, 64, 16, 32, 5, 16, 16, 32, 16]
def size (k : Int) : Int := if k < 1 then 0 else if 10 < k then 0 else sizes.getD k.toNat 0

def inB (n lo hi : Int) : Bool := decide (lo ≤ n ∧ n ≤ hi)
theorem inB_true {n lo hi : Int} (h : lo ≤ n ∧ n ≤ hi) : inB n lo hi = true := decide_eq_true h
theorem inB_false {n lo hi : Int} (h : ¬ (lo ≤ n ∧ n ≤ hi)) : inB n lo hi = false := decide_eq_false h
theorem in_any (n lo hi : Int) (w : World) : Calls Tryd.prog 79 #[.int .i64 n, .int .i64 lo, .int .i64 hi] w fun e w' => e = .returned (.bool (inB n lo hi)) ∧ w = w' := by
  go_enter Tryd.func79, Tryd.ntmps79
  go_wp2
  · go_ret
    refine ⟨kit.ret_bool ?_, rfl⟩
    unfold inB
    rw [decide_eq_decide]
    omega
  · go_ret
    exact ⟨kit.ret_bool (inB_false (by omega)).symm, rfl⟩

/-- The variable's cell leads to the eleven numbers. -/
def Sizes (w : World) : Prop := ∃ b off, w.cell? ⟨0, 0, none⟩ = some (.slice (some ⟨b, off, none⟩) 11 11) ∧ ∀ j, j < 11 → w.cell? ⟨b, off + j, none⟩ = some (.int .i64 (sizes.getD j 0))

theorem impl_size (k : Int) (w : World) (hs : Sizes w) : Calls Tryd.prog 64 #[.int .i64 k] w fun e w' => e = .returned (.int .i64 (size k)) ∧ w = w' := by
  obtain ⟨b, off, hc, hel⟩ := hs
  by_cases h1 : 1 ≤ k ∧ k ≤ 10
  · have hi := inB_true h1
    obtain ⟨h1, h2⟩ := h1
    have he := hel k.toNat (by omega)
    have hv : Hid (sizes.getD k.toNat 0 = size k) := Lib.hid (by rw [size, if_neg (by omega), if_neg (by omega)])
    generalize sizes.getD k.toNat 0 = v at *
    clear hel
    go_enter Tryd.func64, Tryd.ntmps64
    go_wp2_with (go_at_call 79; refine (in_any _ _ _ _).mono ?_; rintro e w' ⟨rfl, rfl⟩)
    go_ret
    exact ⟨kit.ret_int hv.out, rfl⟩
  · have hi := inB_false h1
    have hv : Hid (0 = size k) := Lib.hid (by unfold size; split; rfl; split; rfl; omega)
    clear hel h1
    go_enter Tryd.func64, Tryd.ntmps64
    go_wp2_with (go_at_call 79; refine (in_any _ _ _ _).mono ?_; rintro e w' ⟨rfl, rfl⟩)
    go_ret
    exact ⟨kit.ret_int hv.out, rfl⟩

theorem spec_size (k : Int) (w : World) : Calls Tryd.prog 35 #[.int .i64 k] w fun e w' => e = .returned (.int .i64 (size k)) ∧ w = w' := by
  by_cases h1 : k < 1
  · go_enter Tryd.func35, Tryd.ntmps35
    go_wp2
    go_ret
    exact ⟨kit.ret_int (by simp [size, h1]), rfl⟩
  by_cases h2 : 10 < k
  · go_enter Tryd.func35, Tryd.ntmps35
    go_wp2
    go_ret
    exact ⟨kit.ret_int (by rw [size, if_neg (by omega), if_pos h2]), rfl⟩
  · have hk : k = 1 ∨ k = 2 ∨ k = 3 ∨ k = 4 ∨ k = 5 ∨ k = 6 ∨ k = 7 ∨ k = 8 ∨ k = 9 ∨ k = 10 := by omega
    clear h1 h2
    rcases hk with rfl | rfl | rfl | rfl | rfl | rfl | rfl | rfl | rfl | rfl
    all_goals
      go_enter Tryd.func35, Tryd.ntmps35
      go_wp2
      go_ret
      exact ⟨kit.ret_int (by decide), rfl⟩
end Go.Proofs.YtnffgafofkknoaaDoor.dev

/-! Asks -/
namespace Go.Proofs.YtnffgafofkknoaaDoor.draws
open Go Go.RowKit Go.Proofs.YtnffgafofkknoaaDoor.part
set_option linter.unusedVariables false
set_option linter.unusedSimpArgs false
set_option maxRecDepth 100000

theorem rowOf (xs : List Int) : ∀ j, j < xs.length → (xs.map (Value.int .i64)).toArray[j]? = some (.int .i64 (xs.getD j 0)) := by
  intro j hj
  simp [List.getElem?_eq_getElem hj, List.getD_eq_getElem?_getD]
/-- Some operand comes back; the reader has read at most m bytes. -/
def AnyDev (B : Base) (g : Nat) (m : Int) (e : Ending) (w' : World) : Prop := ∃ a b c : Int, e = .returned (.agg #[.int .i64 a, .int .i64 b, .int .i64 c]) ∧ Rd B w' g m
theorem rd_sx {B : Base} {w : World} {g : Nat} {n : Int} (h : Rd B w g n) : Sx ⟨B.w0, w⟩ g n [] w := ⟨h.now, fun p hp => by cases hp⟩
theorem AnyDev.mono {B : Base} {g : Nat} {n m : Int} {e : Ending} {w' : World} (h : AnyDev B g n e w') (hm : n ≤ m) : AnyDev B g m e w' := by
  obtain ⟨a, b, c, h1, h2⟩ := h
  exact ⟨a, b, c, h1, h2.le hm⟩

theorem arg_w {B : Base} {w : World} {g : Nat} {n : Int} (h : Rd B w g n) (hn : n < 80000) (k : Int) : Calls Tryd.prog 57 #[.pointer (some ⟨g, 0, none⟩), .int .i64 k] w (AnyDev B g (n + 3)) := by
  have HR := Lib.hid h
  have S0 := Lib.hid ((rd_sx h).dev 0 0 0)
  clear h
  by_cases h11 : k = 11
  · subst h11
    go_enter Tryd.func57, Tryd.ntmps57
    go_wp2_with fail
    refine (S0.out.num (by omega) [0, 1, 2, 3, 5, -1, -7, 10, 100, 32767, -32768, 1000] _ _ _ (by simp) (by decide) (by decide) (rowOf _)).mono ?_
    rintro e w1 ⟨q, rfl, _, S1⟩
    go_wp2_with (refine wl_x0 rfl _ _ _ rfl S1 (by simp) _ _ _ rfl rfl (by kernel_rfl) ?_; intro w2 S2)
    obtain ⟨⟨fx, fy, fz, hf⟩, _⟩ := S2.2 (w.heap.size, 0) (by simp)
    refine bodyPost_ret (v := .agg #[.int .i64 fx, .int .i64 fy, .int .i64 fz]) (results_cell_row Tryd.results57 _ _ w.heap.size 47 #[.int .i64 fx, .int .i64 fy, .int .i64 fz] (0, 0) _ rfl hf Tryd.underlying47 rfl (by kernel_rfl)) rfl ⟨fx, fy, fz, rfl, HR.out.since (S2.1.le (by omega))⟩
  have b11 : (k == 11) = false := beq_eq_false_iff_ne.2 h11
  by_cases h12 : k = 12
  · subst h12
    clear b11 h11
    go_enter Tryd.func57, Tryd.ntmps57
    go_wp2_with fail
    refine (S0.out.num (by omega) [0, 1, 5, -5, 25, -15, 999999999, -999999999, 3, 1001, 7] _ _ _ (by simp) (by decide) (by decide) (rowOf _)).mono ?_
    rintro e w1 ⟨q, rfl, _, S1⟩
    go_wp2_with fail
    refine (S1.pick (by omega) 6 (by decide)).mono ?_
    rintro e w2 ⟨j, rfl, hj, S2⟩
    clear S1
    go_wp2_with (refine wl_x0 rfl _ _ _ rfl S2 (by simp) _ _ _ rfl rfl (by kernel_rfl) ?_; intro w3 S3)
    all_goals
      obtain ⟨⟨fx, fy, fz, hf⟩, _⟩ := S3.2 (w.heap.size, 0) (by simp)
      refine bodyPost_ret (v := .agg #[.int .i64 fx, .int .i64 fy, .int .i64 fz]) (results_cell_row Tryd.results57 _ _ w.heap.size 47 #[.int .i64 fx, .int .i64 fy, .int .i64 fz] (0, 0) _ rfl hf Tryd.underlying47 rfl (by kernel_rfl)) rfl ⟨fx, fy, fz, rfl, HR.out.since (S3.1.le (by omega))⟩
  have b12 : (k == 12) = false := beq_eq_false_iff_ne.2 h12
  by_cases h13 : k = 13
  · subst h13
    clear b11 b12 h11 h12
    go_enter Tryd.func57, Tryd.ntmps57
    go_wp2_with fail
    refine (S0.out.pick (by omega) 4 (by decide)).mono ?_
    rintro e w1 ⟨j, rfl, hj, S1⟩
    go_wp2_with (refine wl_x0 rfl _ _ _ rfl S1 (by simp) _ _ _ rfl rfl (by kernel_rfl) ?_; intro w2 S2)
    obtain ⟨⟨fx, fy, fz, hf⟩, _⟩ := S2.2 (w.heap.size, 0) (by simp)
    refine bodyPost_ret (v := .agg #[.int .i64 fx, .int .i64 fy, .int .i64 fz]) (results_cell_row Tryd.results57 _ _ w.heap.size 47 #[.int .i64 fx, .int .i64 fy, .int .i64 fz] (0, 0) _ rfl hf Tryd.underlying47 rfl (by kernel_rfl)) rfl ⟨fx, fy, fz, rfl, HR.out.since (S2.1.le (by omega))⟩
  have b13 : (k == 13) = false := beq_eq_false_iff_ne.2 h13
  clear h11 h12 h13
  go_enter Tryd.func57, Tryd.ntmps57
  go_wp2_with fail
  refine (S0.out.pick (by omega) 4 (by decide)).mono ?_
  rintro e w1 ⟨j, rfl, hj, S1⟩
  go_wp2_with fail
  refine (S1.pick (by omega) 6 (by decide)).mono ?_
  rintro e w2 ⟨i, rfl, hi, S2⟩
  clear S1
  by_cases hi0 : i = 0
  · subst hi0
    go_wp2_with fail
    refine (dev.spec_size k _).mono ?_
    rintro e w' ⟨rfl, rfl⟩
    go_wp2_with fail
    refine (S2.pickAny (by omega) _).mono ?_
    rintro e w3 ⟨q, rfl, S3⟩
    clear S2
    go_wp2_with fail
    refine (dev.spec_size k _).mono ?_
    rintro e w' ⟨rfl, rfl⟩
    go_wp2_with (refine wl_x0 rfl _ _ _ rfl S3 (by simp) _ _ _ rfl rfl (by kernel_rfl) ?_; intro w4 S4)
    all_goals
      obtain ⟨⟨fx, fy, fz, hf⟩, _⟩ := S4.2 (w.heap.size, 0) (by simp)
      refine bodyPost_ret (v := .agg #[.int .i64 fx, .int .i64 fy, .int .i64 fz]) (results_cell_row Tryd.results57 _ _ w.heap.size 47 #[.int .i64 fx, .int .i64 fy, .int .i64 fz] (0, 0) _ rfl hf Tryd.underlying47 rfl (by kernel_rfl)) rfl ⟨fx, fy, fz, rfl, HR.out.since (S4.1.le (by omega))⟩
  · have bi0 : ((i : Int) == 0) = false := beq_eq_false_iff_ne.2 (by omega)
    clear hi0
    go_wp2_with fail
    refine (dev.spec_size k _).mono ?_
    rintro e w' ⟨rfl, rfl⟩
    go_wp2_with (refine wl_x0 rfl _ _ _ rfl S2 (by simp) _ _ _ rfl rfl (by kernel_rfl) ?_; intro w4 S4)
    all_goals
      obtain ⟨⟨fx, fy, fz, hf⟩, _⟩ := S4.2 (w.heap.size, 0) (by simp)
      refine bodyPost_ret (v := .agg #[.int .i64 fx, .int .i64 fy, .int .i64 fz]) (results_cell_row Tryd.results57 _ _ w.heap.size 47 #[.int .i64 fx, .int .i64 fy, .int .i64 fz] (0, 0) _ rfl hf Tryd.underlying47 rfl (by kernel_rfl)) rfl ⟨fx, fy, fz, rfl, HR.out.since (S4.1.le (by omega))⟩

theorem spoilt_w {B : Base} {w : World} {g : Nat} {n : Int} (h : Rd B w g n) (hn : n < 80000) (x y z : Int) : Calls Tryd.prog 83 #[.pointer (some ⟨g, 0, none⟩), .agg #[.int .i64 x, .int .i64 y, .int .i64 z]] w (AnyDev B g (n + 2)) := by
  have HR := Lib.hid h
  have S0 := Lib.hid (((rd_sx h).dev x y z).dev 0 0 0)
  have e1 := size_alloc w (.cells #[.int .i64 x, .int .i64 y, .int .i64 z] 47)
  have E1 := Lib.hid e1
  clear h e1
  go_enter Tryd.func83, Tryd.ntmps83
  go_wp2_with fail
  have S00 := S0.out
  rw [E1.out] at S00
  refine (S00.pick (by omega) 6 (by decide)).mono ?_
  rintro e w1 ⟨j, rfl, hj, S1⟩
  clear S00
  have hc : j = 0 ∨ j = 1 ∨ j = 2 ∨ j = 3 ∨ j = 4 ∨ j = 5 := by omega
  clear hj
  rcases hc with rfl | rfl | rfl | rfl | rfl | rfl
  · go_wp2_with fail
    refine (S1.pick (by omega) 16 (by decide)).mono ?_
    rintro e w2 ⟨i, rfl, hi, S2⟩
    clear S1
    go_wp2_with (first | (refine wl_x0f rfl _ _ _ rfl S2 (by simp) 0 (by decide) _ rfl rfl (by kernel_rfl) ?_; intro w3 S3) | (refine wl_l0 rfl _ _ rfl S3 (by simp) rfl (by kernel_rfl) (by kernel_rfl) ?_; intro p1 p2 p3) | (refine wl_x0 rfl _ _ _ rfl S3 (by simp) _ _ _ rfl rfl (by kernel_rfl) ?_; intro w8 S8))
    obtain ⟨⟨fx, fy, fz, hf⟩, _⟩ := S8.2 ((w.heap.size + 1), 0) (by simp)
    refine bodyPost_ret (v := .agg #[.int .i64 fx, .int .i64 fy, .int .i64 fz]) (results_cell_row Tryd.results83 _ _ (w.heap.size + 1) 47 #[.int .i64 fx, .int .i64 fy, .int .i64 fz] (0, 0) _ rfl hf Tryd.underlying47 rfl (by kernel_rfl)) rfl ⟨fx, fy, fz, rfl, HR.out.since (S8.1.le (by omega))⟩
  · go_wp2_with fail
    refine (S1.num (by omega) [-1, 4, 5, 15, 16, 31, 32, 63, 64, 255, 32768, -32769, 1000000000, -1000000000, 20, 10] _ _ _ rfl (by decide) (by decide) (rowOf _)).mono ?_
    rintro e w2 ⟨q, rfl, _, S2⟩
    clear S1
    go_wp2_with (first | (refine wl_x0f rfl _ _ _ rfl S2 (by simp) 1 (by decide) _ rfl rfl (by kernel_rfl) ?_; intro w3 S3) | (refine wl_l0 rfl _ _ rfl S3 (by simp) rfl (by kernel_rfl) (by kernel_rfl) ?_; intro p1 p2 p3) | (refine wl_x0 rfl _ _ _ rfl S3 (by simp) _ _ _ rfl rfl (by kernel_rfl) ?_; intro w8 S8))
    obtain ⟨⟨fx, fy, fz, hf⟩, _⟩ := S8.2 ((w.heap.size + 1), 0) (by simp)
    refine bodyPost_ret (v := .agg #[.int .i64 fx, .int .i64 fy, .int .i64 fz]) (results_cell_row Tryd.results83 _ _ (w.heap.size + 1) 47 #[.int .i64 fx, .int .i64 fy, .int .i64 fz] (0, 0) _ rfl hf Tryd.underlying47 rfl (by kernel_rfl)) rfl ⟨fx, fy, fz, rfl, HR.out.since (S8.1.le (by omega))⟩
  · go_wp2_with fail
    refine (S1.num (by omega) [-1, 0, 1, 6, 7] _ _ _ rfl (by decide) (by decide) (rowOf _)).mono ?_
    rintro e w2 ⟨q, rfl, _, S2⟩
    clear S1
    go_wp2_with (first | (refine wl_x0f rfl _ _ _ rfl S2 (by simp) 2 (by decide) _ rfl rfl (by kernel_rfl) ?_; intro w3 S3) | (refine wl_l0 rfl _ _ rfl S3 (by simp) rfl (by kernel_rfl) (by kernel_rfl) ?_; intro p1 p2 p3) | (refine wl_x0 rfl _ _ _ rfl S3 (by simp) _ _ _ rfl rfl (by kernel_rfl) ?_; intro w8 S8))
    obtain ⟨⟨fx, fy, fz, hf⟩, _⟩ := S8.2 ((w.heap.size + 1), 0) (by simp)
    refine bodyPost_ret (v := .agg #[.int .i64 fx, .int .i64 fy, .int .i64 fz]) (results_cell_row Tryd.results83 _ _ (w.heap.size + 1) 47 #[.int .i64 fx, .int .i64 fy, .int .i64 fz] (0, 0) _ rfl hf Tryd.underlying47 rfl (by kernel_rfl)) rfl ⟨fx, fy, fz, rfl, HR.out.since (S8.1.le (by omega))⟩
  · go_wp2_with (refine wl_l0f rfl _ _ rfl S1 (by simp) 0 (by decide) rfl (by decide +kernel) ?_; intro q)
    refine (dev.spec_size _ _).mono ?_
    rintro e w' ⟨rfl, rfl⟩
    go_wp2_with (first | (refine wl_x0f rfl _ _ _ rfl S1 (by simp) 1 (by decide) _ rfl rfl (by kernel_rfl) ?_; intro w3 S3) | (refine wl_l0 rfl _ _ rfl S3 (by simp) rfl (by kernel_rfl) (by kernel_rfl) ?_; intro p1 p2 p3) | (refine wl_x0 rfl _ _ _ rfl S3 (by simp) _ _ _ rfl rfl (by kernel_rfl) ?_; intro w8 S8))
    obtain ⟨⟨fx, fy, fz, hf⟩, _⟩ := S8.2 ((w.heap.size + 1), 0) (by simp)
    refine bodyPost_ret (v := .agg #[.int .i64 fx, .int .i64 fy, .int .i64 fz]) (results_cell_row Tryd.results83 _ _ (w.heap.size + 1) 47 #[.int .i64 fx, .int .i64 fy, .int .i64 fz] (0, 0) _ rfl hf Tryd.underlying47 rfl (by kernel_rfl)) rfl ⟨fx, fy, fz, rfl, HR.out.since (S8.1.le (by omega))⟩
  · go_wp2_with (refine wl_l0f rfl _ _ rfl S1 (by simp) 0 (by decide) rfl (by decide +kernel) ?_; intro q)
    refine (dev.spec_size _ _).mono ?_
    rintro e w' ⟨rfl, rfl⟩
    go_wp2_with (first | (refine wl_x0f rfl _ _ _ rfl S1 (by simp) 1 (by decide) _ rfl rfl (by kernel_rfl) ?_; intro w3 S3) | (refine wl_l0 rfl _ _ rfl S3 (by simp) rfl (by kernel_rfl) (by kernel_rfl) ?_; intro p1 p2 p3) | (refine wl_x0 rfl _ _ _ rfl S3 (by simp) _ _ _ rfl rfl (by kernel_rfl) ?_; intro w8 S8))
    obtain ⟨⟨fx, fy, fz, hf⟩, _⟩ := S8.2 ((w.heap.size + 1), 0) (by simp)
    refine bodyPost_ret (v := .agg #[.int .i64 fx, .int .i64 fy, .int .i64 fz]) (results_cell_row Tryd.results83 _ _ (w.heap.size + 1) 47 #[.int .i64 fx, .int .i64 fy, .int .i64 fz] (0, 0) _ rfl hf Tryd.underlying47 rfl (by kernel_rfl)) rfl ⟨fx, fy, fz, rfl, HR.out.since (S8.1.le (by omega))⟩
  · go_wp2_with (first | (refine wl_l0f rfl _ _ rfl S1 (by simp) 1 (by decide) rfl (by decide +kernel) ?_; intro q) | (refine wl_x0f rfl _ _ _ rfl S1 (by simp) 1 (by decide) _ rfl rfl (by kernel_rfl) ?_; intro w3 S3) | (refine wl_l0 rfl _ _ rfl S3 (by simp) rfl (by kernel_rfl) (by kernel_rfl) ?_; intro p1 p2 p3) | (refine wl_x0 rfl _ _ _ rfl S3 (by simp) _ _ _ rfl rfl (by kernel_rfl) ?_; intro w8 S8))
    obtain ⟨⟨fx, fy, fz, hf⟩, _⟩ := S8.2 ((w.heap.size + 1), 0) (by simp)
    refine bodyPost_ret (v := .agg #[.int .i64 fx, .int .i64 fy, .int .i64 fz]) (results_cell_row Tryd.results83 _ _ (w.heap.size + 1) 47 #[.int .i64 fx, .int .i64 fy, .int .i64 fz] (0, 0) _ rfl hf Tryd.underlying47 rfl (by kernel_rfl)) rfl ⟨fx, fy, fz, rfl, HR.out.since (S8.1.le (by omega))⟩

theorem any_w {B : Base} {w : World} {g : Nat} {n : Int} (h : Rd B w g n) (hn : n < 70000) : Calls Tryd.prog 72 #[.pointer (some ⟨g, 0, none⟩)] w (AnyDev B g (n + 7)) := by
  have HR := Lib.hid h
  have S0 := Lib.hid ((rd_sx h).dev 0 0 0)
  clear h
  go_enter Tryd.func72, Tryd.ntmps72
  go_wp2_with fail
  refine (S0.out.pick (by omega) 13 (by decide)).mono ?_
  rintro e w1 ⟨j, rfl, hj, S1⟩
  go_wp2_with fail
  refine (arg_w S1.rd (by omega) _).mono ?_
  rintro e w2 ⟨a, b, c, rfl, h2⟩
  have S2 := (S1.step h2).dev a b c
  clear S1 h2
  go_wp2_with fail
  refine (S2.pick (by omega) 20 (by decide)).mono ?_
  rintro e w3 ⟨i, rfl, hi, S3⟩
  clear S2
  by_cases hi0 : i = 0
  · subst hi0
    clear hi hj
    go_wp2_with (refine wl_l0 rfl _ _ rfl S3 (by simp) rfl (by kernel_rfl) (by kernel_rfl) ?_; intro p1 p2 p3)
    refine (spoilt_w S3.rd (by omega) _ _ _).mono ?_
    rintro e w4 ⟨a', b', c', rfl, h4⟩
    have S4 := S3.step h4
    clear S3 h4
    go_wp2_with (refine wl_x0 rfl _ _ _ rfl S4 (by simp) _ _ _ rfl rfl (by kernel_rfl) ?_; intro w8 S8)
    obtain ⟨⟨fx, fy, fz, hf⟩, _⟩ := S8.2 (w.heap.size, 0) (by simp)
    refine bodyPost_ret (v := .agg #[.int .i64 fx, .int .i64 fy, .int .i64 fz]) (results_cell_row Tryd.results72 _ _ w.heap.size 47 #[.int .i64 fx, .int .i64 fy, .int .i64 fz] (0, 0) _ rfl hf Tryd.underlying47 rfl (by kernel_rfl)) rfl ⟨fx, fy, fz, rfl, HR.out.since (S8.1.le (by omega))⟩
  · have bi0 : ((i : Int) == 0) = false := beq_eq_false_iff_ne.2 (by omega)
    clear hi0 hj
    go_wp2_with (first | (refine wl_l0 rfl _ _ rfl S3 (by simp) rfl (by kernel_rfl) (by kernel_rfl) ?_; intro p1 p2 p3) | (refine wl_x0 rfl _ _ _ rfl S3 (by simp) _ _ _ rfl rfl (by kernel_rfl) ?_; intro w8 S8))
    obtain ⟨⟨fx, fy, fz, hf⟩, _⟩ := S8.2 (w.heap.size, 0) (by simp)
    refine bodyPost_ret (v := .agg #[.int .i64 fx, .int .i64 fy, .int .i64 fz]) (results_cell_row Tryd.results72 _ _ w.heap.size 47 #[.int .i64 fx, .int .i64 fy, .int .i64 fz] (0, 0) _ rfl hf Tryd.underlying47 rfl (by kernel_rfl)) rfl ⟨fx, fy, fz, rfl, HR.out.since (S8.1.le (by omega))⟩

def IA (B : Base) (g : Nat) (n : Int) (r b : Nat) (bs : List (Nat × Nat)) (x1 x2 x3 : Value) (listed : Array Bool) (a : Act) (w : World) : Prop :=
  ∃ v9 v10 v11 v12 v13 v14 v15, a = { tmps := #[.pointer (some ⟨g, 0, none⟩), undef, .pointer (some ⟨r, 0, none⟩), .pointer (some ⟨b, 0, none⟩), .pointer (some ⟨g, 0, none⟩), x1, .pointer (some ⟨g, 0, none⟩), x2, x3, v9, v10, v11, v12, v13, v14, v15, undef], defers := [] } ∧ listed.size = 8 ∧
    (listed.getD 0 false = true → v9 = .pointer (some ⟨b, 1, none⟩)) ∧ (listed.getD 1 false = true → ∃ q : Int, v10 = .int .i64 q) ∧ (listed.getD 2 false = true → v11 = .pointer (some ⟨g, 0, none⟩)) ∧
    (listed.getD 3 false = true → listed.getD 4 false = false → ∃ c, v12 = .slice (some ⟨c, 0, none⟩) 5 5 ∧ w.heap[c]? = some (.cells #[.int .i64 (-64), .int .i64 16, .int .i64 32, .int .i64 64, .int .i64 128] 3 (0, 0)) ∧ c ≠ g) ∧
    (listed.getD 4 false = true → ∃ q : Int, v13 = .int .i64 q) ∧ (listed.getD 5 false = true → (∃ q : Int, v14 = .int .i64 q) ∧ listed.getD 4 false = true) ∧ (listed.getD 6 false = true → v15 = .pointer (some ⟨b, 1, none⟩)) ∧
    (listed.getD 4 false = false → Sx B g n bs w) ∧ Sx B g (n + 1) bs w
theorem set_same {listed : Array Bool} {i : Nat} (h : i < listed.size) : (listed.setIfInBounds i true).getD i false = true := by
  rw [Array.getD_eq_getD_getElem?, Array.getElem?_setIfInBounds_self_of_lt h]; rfl
theorem set_else {listed : Array Bool} {i j : Nat} (h : i ≠ j) : (listed.setIfInBounds i true).getD j false = listed.getD j false := by
  rw [Array.getD_eq_getD_getElem?, Array.getElem?_setIfInBounds_ne h, ← Array.getD_eq_getD_getElem?]
set_option maxHeartbeats 4000000 in
theorem asks_w {B : Base} {w : World} {g : Nat} {n : Int} (h : Rd B w g n) (hn : n < 60000) : Calls Tryd.prog 56 #[.pointer (some ⟨g, 0, none⟩)] w (AnyDev B g (n + 9)) := by
  have HR := Lib.hid h
  have S0 := Lib.hid ((rd_sx h).dev 0 0 0)
  clear h
  go_enter Tryd.func56, Tryd.ntmps56
  go_wp2_with fail
  refine (any_w S0.out.rd (by omega)).mono ?_
  rintro e w2 ⟨a, b, c, rfl, h2⟩
  have S2 := (S0.out.step h2).dev a b c
  clear h2
  go_wp2_with fail
  refine (S2.pick (by omega) 8 (by decide)).mono ?_
  rintro e w3 ⟨i, rfl, hi, S3⟩
  clear S2
  by_cases hi0 : i = 0
  · subst hi0
    have HS := Lib.hid S3
    clear hi S3
    go_wp2_with fail
    refine wp_region_any (by kernel_rfl) ?_
    refine wpAny_inv (IA ⟨B.w0, w⟩ g (n + 7 + 1) w.heap.size w2.heap.size [(w2.heap.size, 0), (w.heap.size, 0)] (.agg #[.int .i64 a, .int .i64 b, .int .i64 c]) (.int .i64 0) (.bool true)) ?hsz ?hg ?step ?fin 8 _ _ _ (by decide) ?init
    case hsz => rintro l a w ⟨_, _, _, _, _, _, _, _, h, _⟩; exact h
    case hg =>
      intro i o ho
      match i, ho with
      | 0, ho => cases ho; rfl
      | 1, ho => cases ho; rfl
      | 2, ho => cases ho; rfl
      | 3, ho => cases ho; rfl
      | 4, ho => cases ho; rfl
      | 5, ho => cases ho; rfl
      | 6, ho => cases ho; rfl
      | 7, ho => cases ho; rfl
      | i + 8, ho => simp at ho
    case init => exact ⟨_, _, _, _, _, _, _, rfl, rfl, by simp, by simp, by simp, by simp, by simp, by simp, by simp, fun _ => HS.out.below ⟨rfl, rfl, rfl, Nat.le_refl _, fun _ _ => rfl⟩, Sx.le (n := n + 7 + 1) (HS.out.below ⟨rfl, rfl, rfl, Nat.le_refl _, fun _ _ => rfl⟩) (by omega)⟩
    case step =>
      rintro l a w' i o ⟨v9, v10, v11, v12, v13, v14, v15, rfl, hsz, g0, g1, g2, g3, g4, g5, g6, gS, gT⟩ ho h0 hd K hK
      match i, ho, h0, hK with
      | 0, ho, h0, hK =>
        cases ho
        clear hd
        go_simp
        exact hK _ _ ⟨_, _, _, _, _, _, _, rfl, by simpa using hsz, fun _ => rfl, fun h => g1 (set_other (by decide) h), fun h => g2 (set_other (by decide) h), fun h h4 => g3 (set_other (by decide) h) (by rw [set_else (by decide)] at h4; exact h4), fun h => g4 (set_other (by decide) h), fun h => ⟨(g5 (set_other (by decide) h)).1, by rw [set_else (by decide)]; exact (g5 (set_other (by decide) h)).2⟩, fun h => g6 (set_other (by decide) h), fun h4 => gS (by rw [set_else (by decide)] at h4; exact h4), gT⟩
      | 1, ho, h0, hK =>
        cases ho
        have e0 := g0 (hd ⟨0, .data⟩ (by simp) rfl)
        subst e0
        clear hd
        exact ow_l0f _ _ rfl gT (b := w2.heap.size) (by simp) 1 (by decide) rfl (by decide +kernel) (fun q => hK _ _ ⟨_, _, _, _, _, _, _, rfl, by simpa using hsz, fun _ => rfl, fun _ => ⟨q, rfl⟩, fun h => g2 (set_other (by decide) h), fun h h4 => g3 (set_other (by decide) h) (by rw [set_else (by decide)] at h4; exact h4), fun h => g4 (set_other (by decide) h), fun h => ⟨(g5 (set_other (by decide) h)).1, by rw [set_else (by decide)]; exact (g5 (set_other (by decide) h)).2⟩, fun h => g6 (set_other (by decide) h), fun h4 => gS (by rw [set_else (by decide)] at h4; exact h4), gT⟩)
      | 2, ho, h0, hK =>
        cases ho
        clear hd
        go_simp
        exact hK _ _ ⟨_, _, _, _, _, _, _, rfl, by simpa using hsz, fun h => g0 (set_other (by decide) h), fun h => g1 (set_other (by decide) h), fun _ => rfl, fun h h4 => g3 (set_other (by decide) h) (by rw [set_else (by decide)] at h4; exact h4), fun h => g4 (set_other (by decide) h), fun h => ⟨(g5 (set_other (by decide) h)).1, by rw [set_else (by decide)]; exact (g5 (set_other (by decide) h)).2⟩, fun h => g6 (set_other (by decide) h), fun h4 => gS (by rw [set_else (by decide)] at h4; exact h4), gT⟩
      | 3, ho, h0, hK =>
        cases ho
        clear hd
        go_simp
        exact hK _ _ ⟨_, _, _, _, _, _, _, rfl, by simpa using hsz, fun h => g0 (set_other (by decide) h), fun h => g1 (set_other (by decide) h), fun h => g2 (set_other (by decide) h), fun _ _ => ⟨w'.heap.size, rfl, heap_alloc_new _ _, fun e => by have := gT.1.lt; omega⟩, fun h => g4 (set_other (by decide) h), fun h => ⟨(g5 (set_other (by decide) h)).1, by rw [set_else (by decide)]; exact (g5 (set_other (by decide) h)).2⟩, fun h => g6 (set_other (by decide) h), fun h4 => (gS (by rw [set_else (by decide)] at h4; exact h4)).alloc _, gT.alloc _⟩
      | 4, ho, h0, hK =>
        cases ho
        have h4f : l.getD 4 false = false := by rw [Array.getD_eq_getD_getElem?] at h0 ⊢; rw [Array.getElem?_eq_getElem (by omega)] at h0 ⊢; exact h0
        have e2 := g2 (hd ⟨2, .data⟩ (by simp) rfl)
        obtain ⟨c, e3, hc, hcg⟩ := g3 (hd ⟨3, .data⟩ (by simp) rfl) h4f
        subst e2
        subst e3
        clear hd
        go_simp
        go_wp2_with fail
        refine (num_w (xs := [-64, 16, 32, 64, 128]) (gS h4f).rd (by omega) c _ _ _ (by decide) (by decide) hc (rowOf [-64, 16, 32, 64, 128]) hcg).mono ?_
        rintro e w4 ⟨q, rfl, _, h4⟩
        exact hK _ _ ⟨_, _, _, _, _, _, _, rfl, by simpa using hsz, fun h => g0 (set_other (by decide) h), fun h => g1 (set_other (by decide) h), fun _ => rfl, (fun _ h => by rw [set_same (by omega)] at h; cases h), fun _ => ⟨q, rfl⟩, fun h => ⟨(g5 (set_other (by decide) h)).1, by rw [set_same (by omega)]⟩, fun h => g6 (set_other (by decide) h), (fun h4 => by rw [set_same (by omega)] at h4; cases h4), (gS h4f).step h4⟩
      | 5, ho, h0, hK =>
        cases ho
        obtain ⟨q1, e1⟩ := g1 (hd ⟨1, .data⟩ (by simp) rfl)
        have hd4 := hd ⟨4, .data⟩ (by simp) rfl
        obtain ⟨q4, e4⟩ := g4 hd4
        subst e1
        subst e4
        clear hd
        go_simp
        exact hK _ _ ⟨_, _, _, _, _, _, _, rfl, by simpa using hsz, fun h => g0 (set_other (by decide) h), fun _ => ⟨_, rfl⟩, fun h => g2 (set_other (by decide) h), fun h h4 => g3 (set_other (by decide) h) (by rw [set_else (by decide)] at h4; exact h4), fun _ => ⟨_, rfl⟩, fun _ => ⟨⟨_, rfl⟩, by rw [set_else (by decide)]; exact hd4⟩, fun h => g6 (set_other (by decide) h), fun h4 => gS (by rw [set_else (by decide)] at h4; exact h4), gT⟩
      | 6, ho, h0, hK =>
        cases ho
        clear hd
        go_simp
        exact hK _ _ ⟨_, _, _, _, _, _, _, rfl, by simpa using hsz, fun h => g0 (set_other (by decide) h), fun h => g1 (set_other (by decide) h), fun h => g2 (set_other (by decide) h), fun h h4 => g3 (set_other (by decide) h) (by rw [set_else (by decide)] at h4; exact h4), fun h => g4 (set_other (by decide) h), fun h => ⟨(g5 (set_other (by decide) h)).1, by rw [set_else (by decide)]; exact (g5 (set_other (by decide) h)).2⟩, fun _ => rfl, fun h4 => gS (by rw [set_else (by decide)] at h4; exact h4), gT⟩
      | 7, ho, h0, hK =>
        cases ho
        obtain ⟨⟨q5, e5⟩, h4t⟩ := g5 (hd ⟨5, .data⟩ (by simp) rfl)
        have e6 := g6 (hd ⟨6, .data⟩ (by simp) rfl)
        subst e5
        subst e6
        clear hd
        exact ow_x0f _ _ _ rfl gT (b := w2.heap.size) (by simp) 1 (by decide) _ rfl rfl (by kernel_rfl) (fun w1 h1 => hK _ _ ⟨_, _, _, _, _, _, _, rfl, by simpa using hsz, fun h => g0 (set_other (by decide) h), fun h => g1 (set_other (by decide) h), fun h => g2 (set_other (by decide) h), (fun h h4 => by rw [set_else (by decide), h4t] at h4; cases h4), fun h => g4 (set_other (by decide) h), fun _ => ⟨⟨_, rfl⟩, by rw [set_else (by decide)]; exact h4t⟩, fun _ => rfl, (fun h4 => by rw [set_else (by decide), h4t] at h4; cases h4), h1⟩)
      | i + 8, ho, h0, hK => simp at ho
    case fin =>
      rintro l a w' ⟨v9, v10, v11, v12, v13, v14, v15, rfl, hsz, g0, g1, g2, g3, g4, g5, g6, gS, gT⟩ hr
      clear g0 g1 g2 g3 g4 g5 g6 gS hr hsz
      go_wp2_with (first | (refine wl_l0 rfl _ _ rfl gT (by simp) rfl (by kernel_rfl) (by kernel_rfl) ?_; intro p1 p2 p3) | (refine wl_x0 rfl _ _ _ rfl gT (by simp) _ _ _ rfl rfl (by kernel_rfl) ?_; intro w8 S8))
      obtain ⟨⟨fx, fy, fz, hf⟩, _⟩ := S8.2 (w.heap.size, 0) (by simp)
      refine bodyPost_ret (v := .agg #[.int .i64 fx, .int .i64 fy, .int .i64 fz]) (results_cell_row Tryd.results56 _ _ w.heap.size 47 #[.int .i64 fx, .int .i64 fy, .int .i64 fz] (0, 0) _ rfl hf Tryd.underlying47 rfl (by kernel_rfl)) rfl ⟨fx, fy, fz, rfl, HR.out.since (S8.1.le (by omega))⟩
  · have bi0 : ((i : Int) == 0) = false := beq_eq_false_iff_ne.2 (by omega)
    clear hi0
    go_wp2_with (first | (refine wl_l0 rfl _ _ rfl S3 (by simp) rfl (by kernel_rfl) (by kernel_rfl) ?_; intro p1 p2 p3) | (refine wl_x0 rfl _ _ _ rfl S3 (by simp) _ _ _ rfl rfl (by kernel_rfl) ?_; intro w8 S8))
    obtain ⟨⟨fx, fy, fz, hf⟩, _⟩ := S8.2 (w.heap.size, 0) (by simp)
    refine bodyPost_ret (v := .agg #[.int .i64 fx, .int .i64 fy, .int .i64 fz]) (results_cell_row Tryd.results56 _ _ w.heap.size 47 #[.int .i64 fx, .int .i64 fy, .int .i64 fz] (0, 0) _ rfl hf Tryd.underlying47 rfl (by kernel_rfl)) rfl ⟨fx, fy, fz, rfl, HR.out.since (S8.1.le (by omega))⟩

end Go.Proofs.YtnffgafofkknoaaDoor.draws

/-! MemDraw -/
namespace Go.Proofs.YtnffgafofkknoaaDoor.draws
open Go Go.RowKit Go.Proofs.YtnffgafofkknoaaDoor.part Go.Proofs.YtnffgafofkknoaaDoorW.PrintWords
set_option linter.unusedVariables false
set_option linter.unusedSimpArgs false
set_option maxRecDepth 100000

def goodB (v : Value) : Bool := match v with | .int k a => decide (k.min ≤ a ∧ a ≤ k.max) | _ => true
def zeroB (P : Program) (t : TypeId) : Bool := (P.info? t).any (fun i => match i.zero with
  | some (.agg cs) => cs.size == 136 && (List.range 136).all (fun i => tv (cs.getD i undef) == tags.getD i 0 && goodB (cs.getD i undef))
  | _ => false)
theorem zero_mem : ∃ z : Array Value, Tagged z ∧ Rg z ∧ ∀ w, (zeroValue 45).run Tryd.prog w = .ok (.agg z) w := by
  have h : zeroB Tryd.prog 45 = true := by decide +kernel
  unfold zeroB at h
  cases hi : Tryd.prog.info? 45 with
  | none => rw [hi] at h; cases h
  | some i =>
    rw [hi] at h
    simp only [Option.any_some] at h
    cases hz : i.zero with
    | none => rw [hz] at h; cases h
    | some v =>
      rw [hz] at h
      cases v <;> simp only [Bool.false_eq_true] at h
      rename_i cs
      simp only [Bool.and_eq_true, beq_iff_eq, List.all_eq_true, List.mem_range] at h
      obtain ⟨hs, ha⟩ := h
      refine ⟨cs, ⟨hs, fun j hj => ?_⟩, fun j k a hj => ?_, fun w => by simp [zeroValue, Sem.run_bind, typeInfo, hi, hz]⟩
      · have := (ha j hj).1
        rw [Array.getD_eq_getD_getElem?, Array.getElem?_eq_getElem (by omega), Option.getD_some] at this
        exact ⟨cs[j], Array.getElem?_eq_getElem (by omega), this⟩
      · have hlt : j < cs.size := (Array.getElem?_eq_some_iff.1 hj).1
        have := (ha j (by omega)).2
        rw [Array.getD_eq_getD_getElem?, hj, Option.getD_some] at this
        simpa [goodB] using this

theorem Sx.mem1 {B : Base} {w : World} {g : Nat} {n : Int} {bs : List (Nat × Nat)} (h : Sx B g n bs w) {z : Array Value} (hT : Tagged z) (hR : Rg z) : Sx B g n ((w.heap.size, 1) :: bs) (w.alloc (.cells z 45)) :=
  (h.alloc _).add (w.heap.size, 1) ⟨z, heap_alloc_new _ _, hT, hR⟩ (fun e => by have := h.1.lt; simp at e; omega) h.1.keep.1 h.1.is.size

section
variable {P : Program} {ops : Array Oper} {rest : List Oper} {o : Oper} {a : Act} {w : World} {Q : Exit → Act → World → Prop} {B : Base} {g b : Nat} {n : Int} {bs : List (Nat × Nat)}
/-- A store of one cell into a memory. -/
theorem wl_c1 (hgd : o.guard = none) (ty : TypeId) (x y : Operand) (ho : o.op = .store ty x y) (hst : Sx B g n bs w) (hm : (b, 1) ∈ bs) (off : Nat) (v : Value) (hx : a.eval x = .pointer (some ⟨b, off, none⟩)) (hy : a.eval y = v) (hi : (P.info? ty).map (·.size) = some 1) (hoff : off < 136)
    (ht : tv v = tags.getD off 0) (hr : ∀ k a, v = .int k a → k.min ≤ a ∧ a ≤ k.max)
    (h : ∀ w1, Sx B g n bs w1 → wpList P ops Q rest (a.put o.dst undef) w1) : wpList P ops Q (o :: rest) a w := by
  have hcells : v.cells = #[v] := by
    have h6 := tags_any off hoff
    rw [← ht] at h6
    have h1 := tv_one (v := v) h6
    cases v <;> simp [Value.oneCell'] at h1 <;> rfl
  have h1 : v.oneCell' = true := by
    have h6 := tags_any off hoff
    rw [← ht] at h6
    exact tv_one h6
  refine wl_x1 hgd ty x y ho hst hm off v 1 hx hy hi (by rw [hcells]; rfl) (by rw [hcells]; intro q hq; simp at hq; rw [hq]; exact h1) (by omega) (by rw [hcells]; intro j hj; simp at hj; subst hj; exact ht) (by rw [hcells]; intro q hq k a e; simp at hq; exact hr k a (hq.symm.trans e)) h
/-- A store of a timer. -/
theorem wl_cT (hgd : o.guard = none) (ty : TypeId) (x y : Operand) (ho : o.op = .store ty x y) (hst : Sx B g n bs w) (hm : (b, 1) ∈ bs) (j : Nat) (hj : j < 16) (d : Bool) (q : Int) (hx : a.eval x = .pointer (some ⟨b, 5 + j * 2, none⟩)) (hy : a.eval y = .agg #[.bool d, .int .u16 q]) (hi : (P.info? ty).map (·.size) = some 2)
    (hq : IntKind.u16.min ≤ q ∧ q ≤ IntKind.u16.max)
    (h : ∀ w1, Sx B g n bs w1 → wpList P ops Q rest (a.put o.dst undef) w1) : wpList P ops Q (o :: rest) a w := by
  refine wl_x1 hgd ty x y ho hst hm (5 + j * 2) _ 2 hx hy hi rfl (by intro q hq; simp [Value.cells] at hq; rcases hq with rfl | rfl <;> rfl) (by omega) ?_ ?_ h
  · intro i hi
    have hi2 : i < 2 := hi
    match i, hi2 with
    | 0, _ => exact (by decide : ∀ j, j < 16 → 1 = tags.getD (5 + j * 2 + 0) 0) j hj
    | 1, _ => exact (by decide : ∀ j, j < 16 → 4 = tags.getD (5 + j * 2 + 1) 0) j hj
  · intro v hv k a e
    simp [Value.cells] at hv
    rcases hv with rfl | rfl
    · cases e
    · cases e; exact hq
/-- A store of a counter. -/
theorem wl_cC (hgd : o.guard = none) (ty : TypeId) (x y : Operand) (ho : o.op = .store ty x y) (hst : Sx B g n bs w) (hm : (b, 1) ∈ bs) (j : Nat) (hj : j < 16) (d l : Bool) (q : Int) (hx : a.eval x = .pointer (some ⟨b, 37 + j * 3, none⟩)) (hy : a.eval y = .agg #[.bool d, .bool l, .int .u16 q]) (hi : (P.info? ty).map (·.size) = some 3)
    (hq : IntKind.u16.min ≤ q ∧ q ≤ IntKind.u16.max)
    (h : ∀ w1, Sx B g n bs w1 → wpList P ops Q rest (a.put o.dst undef) w1) : wpList P ops Q (o :: rest) a w := by
  refine wl_x1 hgd ty x y ho hst hm (37 + j * 3) _ 3 hx hy hi rfl (by intro q hq; simp [Value.cells] at hq; rcases hq with rfl | rfl | rfl <;> rfl) (by omega) ?_ ?_ h
  · intro i hi
    have hi2 : i < 3 := hi
    match i, hi2 with
    | 0, _ => exact (by decide : ∀ j, j < 16 → 1 = tags.getD (37 + j * 3 + 0) 0) j hj
    | 1, _ => exact (by decide : ∀ j, j < 16 → 1 = tags.getD (37 + j * 3 + 1) 0) j hj
    | 2, _ => exact (by decide : ∀ j, j < 16 → 4 = tags.getD (37 + j * 3 + 2) 0) j hj
  · intro v hv k a e
    simp [Value.cells] at hv
    rcases hv with rfl | rfl | rfl
    · cases e
    · cases e
    · cases e; exact hq
end

/-- Some memory comes back; the reader has read at most m bytes. -/
def AnyMem (B : Base) (g : Nat) (m : Int) (e : Ending) (w' : World) : Prop := ∃ cs, e = .returned (.agg cs) ∧ Tagged cs ∧ Rg cs ∧ Rd B w' g m

set_option maxHeartbeats 8000000 in
theorem draw_w {B : Base} {w : World} {g : Nat} {n : Int} (h : Rd B w g n) (hn : n < 50000) : Calls Tryd.prog 58 #[.pointer (some ⟨g, 0, none⟩)] w (AnyMem B g (n + 148)) := by
  obtain ⟨z, zT, zR, hz⟩ := zero_mem
  have HR := Lib.hid h
  have S0 := Lib.hid (((rd_sx h).mem z zT.size).mem z zT.size)
  have HZT := Lib.hid zT
  have HZR := Lib.hid zR
  have E1 := Lib.hid (size_alloc w (.cells z 45))
  clear h zT zR
  have U16 := Lib.hid (wrap_within .u16)
  go_enter Tryd.func58, Tryd.ntmps58
  have S00 := S0.out
  rw [E1.out] at S00
  have H00 := Lib.hid S00
  clear S00
  go_wp2_with (refine wl_x2 rfl _ _ _ rfl H00.out (by simp) z rfl rfl HZT.out HZR.out (by kernel_rfl) ?_; intro w0 SA)
  refine (SA.pick (by omega) 16 (by decide)).mono ?_
  rintro e w1 ⟨j, rfl, hj, S1⟩
  clear SA S0 H00
  by_cases hj0 : j = 0
  · subst hj0
    clear hj
    go_wp2_with (first | (refine wl_l1 rfl _ _ rfl S1 (by simp) rfl (by kernel_rfl) (by kernel_rfl) ?_; intro cs hT hRg) | (refine wl_x2 rfl _ _ _ rfl S1 (by simp) cs rfl rfl hT hRg (by kernel_rfl) ?_; intro w9 S9))
    obtain ⟨⟨fcs, hf, fT, fR⟩, _⟩ := S9.2 (w.heap.size, 1) (by simp)
    refine bodyPost_ret (v := .agg fcs) (results_cell_row Tryd.results58 _ _ w.heap.size 45 fcs (0, 0) _ rfl hf Tryd.underlying45 rfl (by rw [fT.size]; kernel_rfl)) rfl ⟨fcs, rfl, fT, fR, HR.out.since (S9.1.le (by omega))⟩
  have bj0 : ((j : Int) == 0) = false := beq_eq_false_iff_ne.2 (by omega)
  clear hj hj0
  go_wp2_with fail
  refine (S1.word (by omega)).mono ?_
  rintro e wa0 ⟨q0, rfl, hq0, T0⟩
  clear S1
  have Hq0 := Lib.hid hq0
  clear hq0
  go_wp2_with (refine wl_c1 rfl _ _ _ rfl T0 (by simp) 0 _ rfl rfl (by kernel_rfl) (by decide) rfl (fun k a e => by cases e; exact wrap_within _ _) ?_; intro wb0 V0)
  refine (V0.word (by omega)).mono ?_
  rintro e wa1 ⟨q1, rfl, hq1, T1⟩
  clear V0
  have Hq1 := Lib.hid hq1
  clear hq1
  go_wp2_with (refine wl_c1 rfl _ _ _ rfl T1 (by simp) 1 _ rfl rfl (by kernel_rfl) (by decide) rfl (fun k a e => by cases e; exact wrap_within _ _) ?_; intro wb1 V1)
  refine (V1.word (by omega)).mono ?_
  rintro e wa2 ⟨q2, rfl, hq2, T2⟩
  clear V1
  have Hq2 := Lib.hid hq2
  clear hq2
  go_wp2_with (refine wl_c1 rfl _ _ _ rfl T2 (by simp) 2 _ rfl rfl (by kernel_rfl) (by decide) rfl (fun k a e => by cases e; exact Hq2.out) ?_; intro wb2 V2)
  refine (V2.word (by omega)).mono ?_
  rintro e wa3 ⟨q3, rfl, hq3, T3⟩
  clear V2
  have Hq3 := Lib.hid hq3
  clear hq3
  go_wp2_with (refine wl_c1 rfl _ _ _ rfl T3 (by simp) 3 _ rfl rfl (by kernel_rfl) (by decide) rfl (fun k a e => by cases e; exact wrap_within _ _) ?_; intro wb3 V3)
  refine (V3.word (by omega)).mono ?_
  rintro e wa4 ⟨q4, rfl, hq4, T4⟩
  clear V3
  have Hq4 := Lib.hid hq4
  clear hq4
  go_wp2_with (refine wl_c1 rfl _ _ _ rfl T4 (by simp) 4 _ rfl rfl (by kernel_rfl) (by decide) rfl (fun k a e => by cases e; exact wrap_within _ _) ?_; intro wb4 V4)
  have HS := Lib.hid (show Sx ⟨B.w0, w⟩ g (n + 41) [(w.heap.size + 1, 1), (w.heap.size + 1, 2), (w.heap.size, 2)] wb4 from V4.le (by omega))
  clear V4 T0 T1 T2 T3 T4
  go_loopw [4] (fun i wr => ∃ c : Nat, c ≤ 4 ∧ i = .int .i64 c ∧ Hid (Sx ⟨B.w0, w⟩ g (n + 41 + 22 * c) [(w.heap.size + 1, 1), (w.heap.size + 1, 2), (w.heap.size, 2)] wr)) (fun i _ => 4 - (intOf i).toNat)
  case atStart => exact ⟨0, by omega, rfl, Lib.hid (HS.out.le (by omega))⟩
  case round =>
    obtain ⟨c, hc, rfl, HL⟩ := hrel
    by_cases hlt : c < 4
    · have S0 := HL.out
      go_wp2_with fail
      refine (S0.pick (by omega) 4 (by decide)).mono ?_
      rintro e w2 ⟨j, rfl, hj, S1⟩
      clear S0
      by_cases hc3 : c = 3
      · subst hc3
        clear hj hlt hc
        go_wp2_with fail
        refine (S1.pick (by omega) 16 (by decide)).mono ?_
        rintro e w3 ⟨i, rfl, hi, S2⟩
        clear S1
        have hj16 : i < 16 := by omega
        go_wp2_with fail
        refine (S2.pick (by omega) 2 (by decide)).mono ?_
        rintro e w4 ⟨d1, rfl, _, S4⟩
        clear S2
        go_wp2_with fail
        refine (S4.num (by omega) [0, 1, 5, 99, 32767, 32768, 65535] _ _ _ rfl (by decide) (by decide) (rowOf _)).mono ?_
        rintro e w5 ⟨d2, rfl, _, S5⟩
        clear S4
        go_wp2_with (refine wl_cT rfl _ _ _ rfl S5 (by simp) i hj16 _ _ rfl rfl (by kernel_rfl) (U16.out _) ?_; intro w6 S6)
        refine (S6.pick (by omega) 2 (by decide)).mono ?_
        rintro e w7 ⟨d3, rfl, _, S7⟩
        clear S6 S5
        go_wp2_with fail
        refine (S7.pick (by omega) 2 (by decide)).mono ?_
        rintro e w8 ⟨d4, rfl, _, S8⟩
        clear S7
        go_wp2_with fail
        refine (S8.num (by omega) [0, 1, 4, 9, 32767, 32768, 65535] _ _ _ rfl (by decide) (by decide) (rowOf _)).mono ?_
        rintro e w9 ⟨d5, rfl, _, S9⟩
        clear S8
        go_wp2_with (refine wl_cC rfl _ _ _ rfl S9 (by simp) i hj16 _ _ _ rfl rfl (by kernel_rfl) (U16.out _) ?_; intro w10 S10)
        refine (S10.whole (by omega)).mono ?_
        rintro e w11 ⟨d6, rfl, hd6, S11⟩
        have Hd6 := Lib.hid hd6
        clear S10 S9 hd6
        go_wp2_with (refine wl_c1 rfl _ _ _ rfl S11 (by simp) (85 + i) (.int .i16 d6) rfl rfl (by kernel_rfl) (by omega) ((by decide : ∀ j, j < 32 → 5 = tags.getD (85 + j) 0) i (by omega)) (fun k a e => by cases e; exact Hd6.out) ?_; intro w12 S12)
        refine (S12.real (by omega)).mono ?_
        rintro e w13 ⟨d7, rfl, S13⟩
        clear S12 S11
        go_wp2_with (refine wl_c1 rfl _ _ _ rfl S13 (by simp) (117 + i) (.float .f64 d7) rfl rfl (by kernel_rfl) (by omega) ((by decide : ∀ j, j < 16 → 6 = tags.getD (117 + j) 0) i (by omega)) (fun k a e => by cases e) ?_; intro w14 S14)
        have HF := Lib.hid (show Sx ⟨B.w0, w⟩ g (n + 41 + 22 * ((3 + 1 : Nat) : Int)) [(w.heap.size + 1, 1), (w.heap.size + 1, 2), (w.heap.size, 2)] w14 from S14.le (by omega))
        clear S14 S13
        go_roundw
        case rel => exact ⟨3 + 1, by omega, by go_num, HF⟩
        case measure => simp [intOf]
      · have bc3 : ((c : Int) == 3) = false := beq_eq_false_iff_ne.2 (by omega)
        clear hc3
        have hj16 : j < 16 := by omega
        go_wp2_with fail
        refine (S1.pick (by omega) 2 (by decide)).mono ?_
        rintro e w4 ⟨d1, rfl, _, S4⟩
        clear S1
        go_wp2_with fail
        refine (S4.num (by omega) [0, 1, 5, 99, 32767, 32768, 65535] _ _ _ rfl (by decide) (by decide) (rowOf _)).mono ?_
        rintro e w5 ⟨d2, rfl, _, S5⟩
        clear S4
        go_wp2_with (refine wl_cT rfl _ _ _ rfl S5 (by simp) j hj16 _ _ rfl rfl (by kernel_rfl) (U16.out _) ?_; intro w6 S6)
        refine (S6.pick (by omega) 2 (by decide)).mono ?_
        rintro e w7 ⟨d3, rfl, _, S7⟩
        clear S6 S5
        go_wp2_with fail
        refine (S7.pick (by omega) 2 (by decide)).mono ?_
        rintro e w8 ⟨d4, rfl, _, S8⟩
        clear S7
        go_wp2_with fail
        refine (S8.num (by omega) [0, 1, 4, 9, 32767, 32768, 65535] _ _ _ rfl (by decide) (by decide) (rowOf _)).mono ?_
        rintro e w9 ⟨d5, rfl, _, S9⟩
        clear S8
        go_wp2_with (refine wl_cC rfl _ _ _ rfl S9 (by simp) j hj16 _ _ _ rfl rfl (by kernel_rfl) (U16.out _) ?_; intro w10 S10)
        refine (S10.whole (by omega)).mono ?_
        rintro e w11 ⟨d6, rfl, hd6, S11⟩
        have Hd6 := Lib.hid hd6
        clear S10 S9 hd6
        go_wp2_with (refine wl_c1 rfl _ _ _ rfl S11 (by simp) (85 + j) (.int .i16 d6) rfl rfl (by kernel_rfl) (by omega) ((by decide : ∀ j, j < 32 → 5 = tags.getD (85 + j) 0) j (by omega)) (fun k a e => by cases e; exact Hd6.out) ?_; intro w12 S12)
        refine (S12.real (by omega)).mono ?_
        rintro e w13 ⟨d7, rfl, S13⟩
        clear S12 S11
        go_wp2_with (refine wl_c1 rfl _ _ _ rfl S13 (by simp) (117 + j) (.float .f64 d7) rfl rfl (by kernel_rfl) (by omega) ((by decide : ∀ j, j < 16 → 6 = tags.getD (117 + j) 0) j (by omega)) (fun k a e => by cases e) ?_; intro w14 S14)
        have HF := Lib.hid (show Sx ⟨B.w0, w⟩ g (n + 41 + 22 * ((c + 1 : Nat) : Int)) [(w.heap.size + 1, 1), (w.heap.size + 1, 2), (w.heap.size, 2)] w14 from S14.le (by omega))
        clear S14 S13
        go_roundw
        case rel => exact ⟨c + 1, by omega, by go_num, HF⟩
        case measure => simp [intOf]; omega
    · obtain rfl : c = 4 := by omega
      have S0 := HL.out
      go_wp2_with fail
      refine (S0.pick (by omega) 32 (by decide)).mono ?_
      rintro e w2 ⟨j, rfl, hj, S1⟩
      clear S0
      go_wp2_with fail
      refine (S1.whole (by omega)).mono ?_
      rintro e w3 ⟨d6, rfl, hd6, S11⟩
      have Hd6 := Lib.hid hd6
      clear S1 hd6
      go_wp2_with (refine wl_c1 rfl _ _ _ rfl S11 (by simp) (85 + j) (.int .i16 d6) rfl rfl (by kernel_rfl) (by omega) ((by decide : ∀ j, j < 32 → 5 = tags.getD (85 + j) 0) j (by omega)) (fun k a e => by cases e; exact Hd6.out) ?_; intro w4 S12)
      refine (S12.pick (by omega) 16 (by decide)).mono ?_
      rintro e w5 ⟨i, rfl, hi, S13⟩
      clear S12 S11 hj
      go_wp2_with fail
      refine (S13.real (by omega)).mono ?_
      rintro e w6 ⟨d7, rfl, S14⟩
      clear S13
      go_wp2_with (refine wl_c1 rfl _ _ _ rfl S14 (by simp) (117 + i) (.float .f64 d7) rfl rfl (by kernel_rfl) (by omega) ((by decide : ∀ j, j < 16 → 6 = tags.getD (117 + j) 0) i (by omega)) (fun k a e => by cases e) ?_; intro w7 S15)
      clear S14
      refine (S15.num (by omega) [0, 499, 500, 999, 1000, 4294967295, 4294967000, 77] _ _ _ rfl (by decide) (by decide) (rowOf _)).mono ?_
      rintro e w8 ⟨d8, rfl, _, S16⟩
      clear S15
      go_wp2_with (refine wl_c1 rfl _ _ _ rfl S16 (by simp) 133 _ rfl rfl (by kernel_rfl) (by decide) rfl (fun k a e => by cases e; exact wrap_within _ _) ?_; intro w9 S17)
      clear S16
      refine (S17.pick (by omega) 3 (by decide)).mono ?_
      rintro e w10 ⟨d9, rfl, _, S18⟩
      clear S17
      go_wp2_with (refine wl_c1 rfl _ _ _ rfl S18 (by simp) 134 _ rfl rfl (by kernel_rfl) (by decide) rfl (fun k a e => by cases e) ?_; intro w11 S19)
      clear S18
      refine (S19.pick (by omega) 4 (by decide)).mono ?_
      rintro e w12 ⟨d10, rfl, _, S20⟩
      clear S19
      go_wp2_with (first | (refine wl_c1 rfl _ _ _ rfl S20 (by simp) 135 _ rfl rfl (by kernel_rfl) (by decide) rfl (fun k a e => by cases e) ?_; intro w13 S21) | (refine wl_l1 rfl _ _ rfl S21 (by simp) rfl (by kernel_rfl) (by kernel_rfl) ?_; intro cs hT hRg) | (refine wl_x2 rfl _ _ _ rfl S21 (by simp) cs rfl rfl hT hRg (by kernel_rfl) ?_; intro w9 S9))
      obtain ⟨⟨fcs, hf, fT, fR⟩, _⟩ := S9.2 (w.heap.size, 1) (by simp)
      refine bodyPost_ret (v := .agg fcs) (results_cell_row Tryd.results58 _ _ w.heap.size 45 fcs (0, 0) _ rfl hf Tryd.underlying45 rfl (by rw [fT.size]; kernel_rfl)) rfl ⟨fcs, rfl, fT, fR, HR.out.since (S9.1.le (by omega))⟩

theorem results_cc {P : Program} {fn : Func} {p q : Tmp} {ty tz : TypeId} (h : fn.results = #[.cell p ty, .cell q tz]) (tmps : Array Value) (w : World) (g g2 : Nat) (t t2 : TypeId) (cs ds : Array Value) (fr fs : Nat × Nat) (d d2 : TypeDesc)
    (hp : tmps.getD p undef = .pointer (some ⟨g, 0, none⟩)) (hg : w.heap[g]? = some (.cells cs t fr)) (hu : P.underlying ty = some d) (hd : (match d with | .struct _ | .array _ _ => true | _ => false) = true) (hi : (P.info? ty).map (·.size) = some cs.size)
    (hq : tmps.getD q undef = .pointer (some ⟨g2, 0, none⟩)) (hg2 : w.heap[g2]? = some (.cells ds t2 fs)) (hu2 : P.underlying tz = some d2) (hd2 : (match d2 with | .struct _ | .array _ _ => true | _ => false) = true) (hi2 : (P.info? tz).map (·.size) = some ds.size) :
    (results fn tmps).run P w = .ok (.tuple #[.agg cs, .agg ds]) w := by
  have hp' : tmps[p]?.getD undef = .pointer (some ⟨g, 0, none⟩) := by simpa using hp
  have hq' : tmps[q]?.getD undef = .pointer (some ⟨g2, 0, none⟩) := by simpa using hq
  simp [results, h, hp', hq', asAddr, run_loadVar_row w g t ty cs fr d hg hu hd hi, run_loadVar_row w g2 t2 tz ds fs d2 hg2 hu2 hd2 hi2]
theorem results_cct {P : Program} {fn : Func} {p q s : Tmp} {ty tz : TypeId} (h : fn.results = #[.cell p ty, .cell q tz, .tmp s]) (tmps : Array Value) (w : World) (g g2 : Nat) (t t2 : TypeId) (cs ds : Array Value) (fr fs : Nat × Nat) (d d2 : TypeDesc) (v : Value)
    (hp : tmps.getD p undef = .pointer (some ⟨g, 0, none⟩)) (hg : w.heap[g]? = some (.cells cs t fr)) (hu : P.underlying ty = some d) (hd : (match d with | .struct _ | .array _ _ => true | _ => false) = true) (hi : (P.info? ty).map (·.size) = some cs.size)
    (hq : tmps.getD q undef = .pointer (some ⟨g2, 0, none⟩)) (hg2 : w.heap[g2]? = some (.cells ds t2 fs)) (hu2 : P.underlying tz = some d2) (hd2 : (match d2 with | .struct _ | .array _ _ => true | _ => false) = true) (hi2 : (P.info? tz).map (·.size) = some ds.size)
    (hs : tmps.getD s undef = v) :
    (results fn tmps).run P w = .ok (.tuple #[.agg cs, .agg ds, v]) w := by
  have hp' : tmps[p]?.getD undef = .pointer (some ⟨g, 0, none⟩) := by simpa using hp
  have hq' : tmps[q]?.getD undef = .pointer (some ⟨g2, 0, none⟩) := by simpa using hq
  have hs' : tmps[s]?.getD undef = v := by simpa using hs
  simp [results, h, hp', hq', hs', asAddr, run_loadVar_row w g t ty cs fr d hg hu hd hi, run_loadVar_row w g2 t2 tz ds fs d2 hg2 hu2 hd2 hi2]
theorem Rd.apart {B : Base} {w : World} {g : Nat} {n : Int} (h : Rd B w g n) {b : Nat} {cs : Array Value} {t : TypeId} {fr : Nat × Nat} (hb : w.heap[b]? = some (.cells cs t fr)) (ht : t ≠ 108) : b ≠ g := by
  rintro rfl
  obtain ⟨l, p, ⟨A0, c0, e, _⟩, _⟩ := h
  rw [e] at hb
  simp at hb
  exact ht hb.2.1.symm
theorem start2 {W w : World} {g : Nat} {z : Array Value} (hz : z.size = 136) (hR : Rd ⟨W, W⟩ w g 0) (hb : Below ((W.alloc (.cells z 45)).alloc (.cells #[.int .i64 0, .int .i64 0, .int .i64 0] 47)).heap.size ((W.alloc (.cells z 45)).alloc (.cells #[.int .i64 0, .int .i64 0, .int .i64 0] 47)) w) :
    Sx ⟨W, W⟩ g 0 [(W.heap.size + 1, 0), (W.heap.size, 2)] w := by
  have k0 := kit.box_keep (heap_alloc2_old W (.cells z 45) (.cells #[.int .i64 0, .int .i64 0, .int .i64 0] 47)) hb (by rw [size_alloc, size_alloc]; omega)
  have k1 := kit.box_keep (heap_alloc2_new W (.cells z 45) (.cells #[.int .i64 0, .int .i64 0, .int .i64 0] 47)) hb (by rw [size_alloc, size_alloc]; omega)
  refine ⟨hR, fun p hp => ?_⟩
  simp only [List.mem_cons, List.not_mem_nil, or_false] at hp
  rcases hp with rfl | rfl
  · exact ⟨⟨0, 0, 0, k1⟩, hR.apart k1 (by decide), by show W.heap.size ≤ W.heap.size + 1; omega, by show W.heap.size ≤ W.heap.size + 1; omega⟩
  · exact ⟨⟨z, k0, hz⟩, hR.apart k0 (by decide), Nat.le_refl _, Nat.le_refl _⟩
theorem Sx.sub {B : Base} {w : World} {g : Nat} {n : Int} {bs : List (Nat × Nat)} {p : Nat × Nat} (h : Sx B g n (p :: bs) w) : Sx B g n bs w := ⟨h.1, fun q hq => h.2 q (List.mem_cons_of_mem _ hq)⟩
/-- What the draws ask of the code's bytes. -/
def Code_ (W : World) (A : Option Addr) (l : List Int) (c : Nat) : Prop := ReadsInt W .u8 A l.length l ∧ l.length ≤ c ∧ l.length ≤ 1048576 ∧ ∀ x ∈ l, (Lit.int .u8 x).wf = true

def I_DrawMemPut (W : World) (g : Nat) (n : Int) (b : Nat) (bv : Value) (listed : Array Bool) (a : Act) (w : World) : Prop :=
  ∃ v23 v24 v25 v26 v4 x0 x1 x8 x9 x10 x11 x12 x13 x14 x15 x16 x17 x18 x19 x20 x21 x22, a = { tmps := #[x0, x1, .pointer (some ⟨W.heap.size, 0, none⟩), .pointer (some ⟨W.heap.size + 1, 0, none⟩), v4, .pointer (some ⟨g, 0, none⟩), bv, .pointer (some ⟨b, 0, none⟩), x8, x9, x10, x11, x12, x13, x14, x15, x16, x17, x18, x19, x20, x21, x22, v23, v24, v25, v26], defers := [] } ∧ listed.size = 7 ∧
    (listed.getD 0 false = true → v23 = .pointer (some ⟨g, 0, none⟩)) ∧ (listed.getD 1 false = true → ∃ cs, v24 = .agg cs ∧ Tagged cs ∧ Rg cs) ∧ (listed.getD 2 false = true → ∃ x y z : Int, v25 = .agg #[.int .i64 x, .int .i64 y, .int .i64 z]) ∧ (listed.getD 3 false = true → v26 = bv) ∧
    (listed.getD 4 false = true → listed.getD 1 false = true ∧ Sx ⟨W, W⟩ g (n + 148) [(W.heap.size, 1), (b, 0), (W.heap.size + 1, 0), (W.heap.size, 2)] w) ∧ (listed.getD 6 false = true → v4 = bv) ∧
    (listed.getD 1 false = false → Sx ⟨W, W⟩ g n [(b, 0), (W.heap.size + 1, 0), (W.heap.size, 2)] w) ∧ Sx ⟨W, W⟩ g (n + 148) [(b, 0), (W.heap.size + 1, 0), (W.heap.size, 2)] w

def DrawMemPut (W : World) (e : Ending) (w' : World) : Prop := ∃ (cs : Array Value) (k n p : Int) (v : Bool), e = .returned (.tuple #[.agg cs, .agg #[.int .i64 k, .int .i64 n, .int .i64 p], .bool v]) ∧ Tagged cs ∧ Rg cs ∧ Below W.heap.size W w'
set_option maxHeartbeats 8000000 in
theorem drawMemPut {W : World} {A : Option Addr} {l : List Int} {c : Nat} (hc : Code_ W A l c) : Calls Tryd.prog 28 #[.slice A l.length c] W (DrawMemPut W) := by
  obtain ⟨z, zT, zR, hz⟩ := zero_mem
  have HC := Lib.hid hc
  have HZ := Lib.hid zT.size
  have HB := Lib.hid (((Below.refl W.heap.size W).alloc (Nat.le_refl _) (.cells z 45)).alloc (by simp) (.cells #[.int .i64 0, .int .i64 0, .int .i64 0] 47))
  clear zT zR hc
  go_enter Tryd.func28, Tryd.ntmps28
  go_wp2_with fail
  refine (open_w HB.out HC.out.1 HC.out.2.1 HC.out.2.2.1 HC.out.2.2.2).mono ?_
  rintro e w1 ⟨g, rfl, hR, hbl⟩
  have S1 := start2 HZ.out hR hbl
  clear hR hbl
  go_wp2_with fail
  refine (S1.pick (by omega) 2 (by decide)).mono ?_
  rintro e w2 ⟨j, rfl, _, S2⟩
  obtain ⟨vb, hvb⟩ : ∃ vb, ((j : Int) == 1) = vb := ⟨_, rfl⟩
  clear S1
  go_wp2_with fail
  refine (asks_w S2.rd (by omega)).mono ?_
  rintro e w3 ⟨a, b, c, rfl, h3⟩
  have S3 := (S2.step h3).dev a b c
  clear S2 h3
  go_wp2_with fail
  refine (S3.pick (by omega) 2 (by decide)).mono ?_
  rintro e w4 ⟨i, rfl, hi, S4⟩
  clear S3
  by_cases hi0 : i = 0
  · subst hi0
    clear hi
    go_wp2_with fail
    refine (S4.pick (by omega) 4 (by decide)).mono ?_
    rintro e w5 ⟨k, rfl, hk, S5⟩
    clear S4
    go_wp2_with fail
    refine (arg_w S5.rd (by omega) _).mono ?_
    rintro e w6 ⟨a2, b2, c2, rfl, h6⟩
    have S6 := S5.step h6
    clear S5 h6
    go_wp2_with (refine wl_x0 rfl _ _ _ rfl S6 (b := w3.heap.size) (by simp) _ _ _ rfl rfl (by kernel_rfl) ?_; intro w7 S7)
    have HS := Lib.hid S7
    clear S7
    go_wp2_with fail
    refine wp_region_any (by kernel_rfl) ?_
    refine wpAny_inv (I_DrawMemPut W g (0 + 1 + 9 + 1 + 1 + 3) w3.heap.size (.bool vb)) ?hsz ?hg ?step ?fin 7 _ _ _ (by decide) ?init
    case hsz => rintro l a w ⟨_, _, _, _, _, _, _, _, _, _, _, _, _, _, _, _, _, _, _, _, _, _, _, h, _⟩; exact h
    case hg =>
      intro i o ho
      match i, ho with
      | 0, ho => cases ho; rfl
      | 1, ho => cases ho; rfl
      | 2, ho => cases ho; rfl
      | 3, ho => cases ho; rfl
      | 4, ho => cases ho; rfl
      | 5, ho => cases ho; rfl
      | 6, ho => cases ho; rfl
      | i + 7, ho => simp at ho
    case init => exact ⟨_, _, _, _, _, _, _, _, _, _, _, _, _, _, _, _, _, _, _, _, _, _, rfl, rfl, by simp, by simp, by simp, by simp, by simp, by simp, fun _ => HS.out.below ⟨rfl, rfl, rfl, Nat.le_refl _, fun _ _ => rfl⟩, Sx.le (n := 0 + 1 + 9 + 1 + 1 + 3) (HS.out.below ⟨rfl, rfl, rfl, Nat.le_refl _, fun _ _ => rfl⟩) (by omega)⟩
    case step =>
      rintro l a w' i o ⟨v23, v24, v25, v26, v4, x0, x1, x8, x9, x10, x11, x12, x13, x14, x15, x16, x17, x18, x19, x20, x21, x22, rfl, hsz, g0, g1, g2, g3, g4, g6, gS, gT⟩ ho h0 hd K hK
      match i, ho, h0, hK with
      | 0, ho, h0, hK =>
        cases ho
        clear hd
        go_simp
        exact hK _ _ ⟨_, _, _, _, _, _, _, _, _, _, _, _, _, _, _, _, _, _, _, _, _, _, rfl, by simpa using hsz, fun _ => rfl, fun h => g1 (set_other (by decide) h), fun h => g2 (set_other (by decide) h), fun h => g3 (set_other (by decide) h), fun h => ⟨by rw [set_else (by decide)]; exact (g4 (set_other (by decide) h)).1, (g4 (set_other (by decide) h)).2⟩, fun h => g6 (set_other (by decide) h), fun h4 => gS (by rw [set_else (by decide)] at h4; exact h4), gT⟩
      | 1, ho, h0, hK =>
        cases ho
        have h1f : l.getD 1 false = false := by rw [Array.getD_eq_getD_getElem?] at h0 ⊢; rw [Array.getElem?_eq_getElem (by omega)] at h0 ⊢; exact h0
        have e0 := g0 (hd ⟨0, .data⟩ (by simp) rfl)
        subst e0
        clear hd
        go_simp
        go_wp2_with fail
        refine (draw_w (gS h1f).rd (by omega)).mono ?_
        rintro e w4 ⟨cs, rfl, hT, hRg, h4⟩
        exact hK _ _ ⟨_, _, _, _, _, _, _, _, _, _, _, _, _, _, _, _, _, _, _, _, _, _, rfl, by simpa using hsz, fun _ => rfl, fun _ => ⟨cs, rfl, hT, hRg⟩, fun h => g2 (set_other (by decide) h), fun h => g3 (set_other (by decide) h), (fun h => by have := (g4 (set_other (by decide) h)).1; rw [h1f] at this; cases this), fun h => g6 (set_other (by decide) h), (fun h4 => by rw [set_same (by omega)] at h4; cases h4), (gS h1f).step h4⟩
      | 2, ho, h0, hK =>
        cases ho
        clear hd
        exact ow_l0 _ _ rfl gT (b := w3.heap.size) (by simp) rfl (by kernel_rfl) (by kernel_rfl) (fun q1 q2 q3 => hK _ _ ⟨_, _, _, _, _, _, _, _, _, _, _, _, _, _, _, _, _, _, _, _, _, _, rfl, by simpa using hsz, fun h => g0 (set_other (by decide) h), fun h => g1 (set_other (by decide) h), fun _ => ⟨q1, q2, q3, rfl⟩, fun h => g3 (set_other (by decide) h), fun h => ⟨by rw [set_else (by decide)]; exact (g4 (set_other (by decide) h)).1, (g4 (set_other (by decide) h)).2⟩, fun h => g6 (set_other (by decide) h), fun h4 => gS (by rw [set_else (by decide)] at h4; exact h4), gT⟩)
      | 3, ho, h0, hK =>
        cases ho
        clear hd
        go_simp
        exact hK _ _ ⟨_, _, _, _, _, _, _, _, _, _, _, _, _, _, _, _, _, _, _, _, _, _, rfl, by simpa using hsz, fun h => g0 (set_other (by decide) h), fun h => g1 (set_other (by decide) h), fun h => g2 (set_other (by decide) h), fun _ => rfl, fun h => ⟨by rw [set_else (by decide)]; exact (g4 (set_other (by decide) h)).1, (g4 (set_other (by decide) h)).2⟩, fun h => g6 (set_other (by decide) h), fun h4 => gS (by rw [set_else (by decide)] at h4; exact h4), gT⟩
      | 4, ho, h0, hK =>
        cases ho
        have h1t := hd ⟨1, .data⟩ (by simp) rfl
        obtain ⟨cs, e1, hT, hRg⟩ := g1 h1t
        subst e1
        clear hd
        exact ow_x2 _ _ _ rfl gT (b := W.heap.size) (by simp) cs rfl rfl hT hRg (by kernel_rfl) (fun w5 S5 => hK _ _ ⟨_, _, _, _, _, _, _, _, _, _, _, _, _, _, _, _, _, _, _, _, _, _, rfl, by simpa using hsz, fun h => g0 (set_other (by decide) h), fun _ => ⟨cs, rfl, hT, hRg⟩, fun h => g2 (set_other (by decide) h), fun h => g3 (set_other (by decide) h), fun _ => ⟨by rw [set_else (by decide)]; exact h1t, S5⟩, fun h => g6 (set_other (by decide) h), (fun h4 => by rw [set_else (by decide), h1t] at h4; cases h4), S5.sub⟩)
      | 5, ho, h0, hK =>
        cases ho
        obtain ⟨q1, q2, q3, e2⟩ := g2 (hd ⟨2, .data⟩ (by simp) rfl)
        subst e2
        have h1t := hd ⟨1, .phase⟩ (by simp) rfl
        clear hd
        by_cases h4t : l.getD 4 false = true
        · exact ow_x0 _ _ _ rfl (g4 h4t).2 (b := W.heap.size + 1) (by simp) q1 q2 q3 rfl rfl (by kernel_rfl) (fun w5 S5 => hK _ _ ⟨_, _, _, _, _, _, _, _, _, _, _, _, _, _, _, _, _, _, _, _, _, _, rfl, by simpa using hsz, fun h => g0 (set_other (by decide) h), fun h => g1 (set_other (by decide) h), fun _ => ⟨q1, q2, q3, rfl⟩, fun h => g3 (set_other (by decide) h), fun _ => ⟨by rw [set_else (by decide)]; exact h1t, S5⟩, fun h => g6 (set_other (by decide) h), (fun h4 => by rw [set_else (by decide), h1t] at h4; cases h4), S5.sub⟩)
        · exact ow_x0 _ _ _ rfl gT (b := W.heap.size + 1) (by simp) q1 q2 q3 rfl rfl (by kernel_rfl) (fun w5 S5 => hK _ _ ⟨_, _, _, _, _, _, _, _, _, _, _, _, _, _, _, _, _, _, _, _, _, _, rfl, by simpa using hsz, fun h => g0 (set_other (by decide) h), fun h => g1 (set_other (by decide) h), fun _ => ⟨q1, q2, q3, rfl⟩, fun h => g3 (set_other (by decide) h), fun h => absurd (set_other (by decide) h) h4t, fun h => g6 (set_other (by decide) h), (fun h4 => by rw [set_else (by decide), h1t] at h4; cases h4), S5⟩)
      | 6, ho, h0, hK =>
        cases ho
        have e3 := g3 (hd ⟨3, .data⟩ (by simp) rfl)
        subst e3
        clear hd
        go_simp
        exact hK _ _ ⟨_, _, _, _, _, _, _, _, _, _, _, _, _, _, _, _, _, _, _, _, _, _, rfl, by simpa using hsz, fun h => g0 (set_other (by decide) h), fun h => g1 (set_other (by decide) h), fun h => g2 (set_other (by decide) h), fun _ => rfl, fun h => ⟨by rw [set_else (by decide)]; exact (g4 (set_other (by decide) h)).1, (g4 (set_other (by decide) h)).2⟩, fun _ => rfl, fun h4 => gS (by rw [set_else (by decide)] at h4; exact h4), gT⟩
      | i + 7, ho, h0, hK => simp at ho
    case fin =>
      rintro l a w' ⟨v23, v24, v25, v26, v4, x0, x1, x8, x9, x10, x11, x12, x13, x14, x15, x16, x17, x18, x19, x20, x21, x22, rfl, hsz, g0, g1, g2, g3, g4, g6, gS, gT⟩ hr
      have S9 := (g4 (all_listedA (by kernel_rfl) hsz hr 4 (by decide))).2
      have e6 := g6 (all_listedA (by kernel_rfl) hsz hr 6 (by decide))
      subst e6
      clear g0 g1 g2 g3 g4 g6 gS gT hr hsz HS
      obtain ⟨⟨fcs, hf, fT, fR⟩, _⟩ := S9.2 (W.heap.size, 1) (by simp)
      obtain ⟨⟨fx, fy, fz, hf2⟩, _⟩ := S9.2 (W.heap.size + 1, 0) (by simp)
      go_wp2_with fail
      refine bodyPost_ret (v := .tuple #[.agg fcs, .agg #[.int .i64 fx, .int .i64 fy, .int .i64 fz], (.bool vb)]) (results_cct Tryd.results28 _ _ W.heap.size (W.heap.size + 1) 45 47 fcs #[.int .i64 fx, .int .i64 fy, .int .i64 fz] (0, 0) (0, 0) _ _ _ rfl hf Tryd.underlying45 rfl (by rw [fT.size]; kernel_rfl) rfl hf2 Tryd.underlying47 rfl (by kernel_rfl) rfl) rfl ⟨fcs, fx, fy, fz, _, rfl, fT, fR, S9.1.is⟩
  · have bi0 : ((i : Int) == 0) = false := beq_eq_false_iff_ne.2 (by omega)
    clear hi0
    have HS := Lib.hid S4
    clear S4
    go_wp2_with fail
    refine wp_region_any (by kernel_rfl) ?_
    refine wpAny_inv (I_DrawMemPut W g (0 + 1 + 9 + 1) w3.heap.size (.bool vb)) ?hsz ?hg ?step ?fin 7 _ _ _ (by decide) ?init
    case hsz => rintro l a w ⟨_, _, _, _, _, _, _, _, _, _, _, _, _, _, _, _, _, _, _, _, _, _, _, h, _⟩; exact h
    case hg =>
      intro i o ho
      match i, ho with
      | 0, ho => cases ho; rfl
      | 1, ho => cases ho; rfl
      | 2, ho => cases ho; rfl
      | 3, ho => cases ho; rfl
      | 4, ho => cases ho; rfl
      | 5, ho => cases ho; rfl
      | 6, ho => cases ho; rfl
      | i + 7, ho => simp at ho
    case init => exact ⟨_, _, _, _, _, _, _, _, _, _, _, _, _, _, _, _, _, _, _, _, _, _, rfl, rfl, by simp, by simp, by simp, by simp, by simp, by simp, fun _ => HS.out.below ⟨rfl, rfl, rfl, Nat.le_refl _, fun _ _ => rfl⟩, Sx.le (n := 0 + 1 + 9 + 1) (HS.out.below ⟨rfl, rfl, rfl, Nat.le_refl _, fun _ _ => rfl⟩) (by omega)⟩
    case step =>
      rintro l a w' i o ⟨v23, v24, v25, v26, v4, x0, x1, x8, x9, x10, x11, x12, x13, x14, x15, x16, x17, x18, x19, x20, x21, x22, rfl, hsz, g0, g1, g2, g3, g4, g6, gS, gT⟩ ho h0 hd K hK
      match i, ho, h0, hK with
      | 0, ho, h0, hK =>
        cases ho
        clear hd
        go_simp
        exact hK _ _ ⟨_, _, _, _, _, _, _, _, _, _, _, _, _, _, _, _, _, _, _, _, _, _, rfl, by simpa using hsz, fun _ => rfl, fun h => g1 (set_other (by decide) h), fun h => g2 (set_other (by decide) h), fun h => g3 (set_other (by decide) h), fun h => ⟨by rw [set_else (by decide)]; exact (g4 (set_other (by decide) h)).1, (g4 (set_other (by decide) h)).2⟩, fun h => g6 (set_other (by decide) h), fun h4 => gS (by rw [set_else (by decide)] at h4; exact h4), gT⟩
      | 1, ho, h0, hK =>
        cases ho
        have h1f : l.getD 1 false = false := by rw [Array.getD_eq_getD_getElem?] at h0 ⊢; rw [Array.getElem?_eq_getElem (by omega)] at h0 ⊢; exact h0
        have e0 := g0 (hd ⟨0, .data⟩ (by simp) rfl)
        subst e0
        clear hd
        go_simp
        go_wp2_with fail
        refine (draw_w (gS h1f).rd (by omega)).mono ?_
        rintro e w4 ⟨cs, rfl, hT, hRg, h4⟩
        exact hK _ _ ⟨_, _, _, _, _, _, _, _, _, _, _, _, _, _, _, _, _, _, _, _, _, _, rfl, by simpa using hsz, fun _ => rfl, fun _ => ⟨cs, rfl, hT, hRg⟩, fun h => g2 (set_other (by decide) h), fun h => g3 (set_other (by decide) h), (fun h => by have := (g4 (set_other (by decide) h)).1; rw [h1f] at this; cases this), fun h => g6 (set_other (by decide) h), (fun h4 => by rw [set_same (by omega)] at h4; cases h4), (gS h1f).step h4⟩
      | 2, ho, h0, hK =>
        cases ho
        clear hd
        exact ow_l0 _ _ rfl gT (b := w3.heap.size) (by simp) rfl (by kernel_rfl) (by kernel_rfl) (fun q1 q2 q3 => hK _ _ ⟨_, _, _, _, _, _, _, _, _, _, _, _, _, _, _, _, _, _, _, _, _, _, rfl, by simpa using hsz, fun h => g0 (set_other (by decide) h), fun h => g1 (set_other (by decide) h), fun _ => ⟨q1, q2, q3, rfl⟩, fun h => g3 (set_other (by decide) h), fun h => ⟨by rw [set_else (by decide)]; exact (g4 (set_other (by decide) h)).1, (g4 (set_other (by decide) h)).2⟩, fun h => g6 (set_other (by decide) h), fun h4 => gS (by rw [set_else (by decide)] at h4; exact h4), gT⟩)
      | 3, ho, h0, hK =>
        cases ho
        clear hd
        go_simp
        exact hK _ _ ⟨_, _, _, _, _, _, _, _, _, _, _, _, _, _, _, _, _, _, _, _, _, _, rfl, by simpa using hsz, fun h => g0 (set_other (by decide) h), fun h => g1 (set_other (by decide) h), fun h => g2 (set_other (by decide) h), fun _ => rfl, fun h => ⟨by rw [set_else (by decide)]; exact (g4 (set_other (by decide) h)).1, (g4 (set_other (by decide) h)).2⟩, fun h => g6 (set_other (by decide) h), fun h4 => gS (by rw [set_else (by decide)] at h4; exact h4), gT⟩
      | 4, ho, h0, hK =>
        cases ho
        have h1t := hd ⟨1, .data⟩ (by simp) rfl
        obtain ⟨cs, e1, hT, hRg⟩ := g1 h1t
        subst e1
        clear hd
        exact ow_x2 _ _ _ rfl gT (b := W.heap.size) (by simp) cs rfl rfl hT hRg (by kernel_rfl) (fun w5 S5 => hK _ _ ⟨_, _, _, _, _, _, _, _, _, _, _, _, _, _, _, _, _, _, _, _, _, _, rfl, by simpa using hsz, fun h => g0 (set_other (by decide) h), fun _ => ⟨cs, rfl, hT, hRg⟩, fun h => g2 (set_other (by decide) h), fun h => g3 (set_other (by decide) h), fun _ => ⟨by rw [set_else (by decide)]; exact h1t, S5⟩, fun h => g6 (set_other (by decide) h), (fun h4 => by rw [set_else (by decide), h1t] at h4; cases h4), S5.sub⟩)
      | 5, ho, h0, hK =>
        cases ho
        obtain ⟨q1, q2, q3, e2⟩ := g2 (hd ⟨2, .data⟩ (by simp) rfl)
        subst e2
        have h1t := hd ⟨1, .phase⟩ (by simp) rfl
        clear hd
        by_cases h4t : l.getD 4 false = true
        · exact ow_x0 _ _ _ rfl (g4 h4t).2 (b := W.heap.size + 1) (by simp) q1 q2 q3 rfl rfl (by kernel_rfl) (fun w5 S5 => hK _ _ ⟨_, _, _, _, _, _, _, _, _, _, _, _, _, _, _, _, _, _, _, _, _, _, rfl, by simpa using hsz, fun h => g0 (set_other (by decide) h), fun h => g1 (set_other (by decide) h), fun _ => ⟨q1, q2, q3, rfl⟩, fun h => g3 (set_other (by decide) h), fun _ => ⟨by rw [set_else (by decide)]; exact h1t, S5⟩, fun h => g6 (set_other (by decide) h), (fun h4 => by rw [set_else (by decide), h1t] at h4; cases h4), S5.sub⟩)
        · exact ow_x0 _ _ _ rfl gT (b := W.heap.size + 1) (by simp) q1 q2 q3 rfl rfl (by kernel_rfl) (fun w5 S5 => hK _ _ ⟨_, _, _, _, _, _, _, _, _, _, _, _, _, _, _, _, _, _, _, _, _, _, rfl, by simpa using hsz, fun h => g0 (set_other (by decide) h), fun h => g1 (set_other (by decide) h), fun _ => ⟨q1, q2, q3, rfl⟩, fun h => g3 (set_other (by decide) h), fun h => absurd (set_other (by decide) h) h4t, fun h => g6 (set_other (by decide) h), (fun h4 => by rw [set_else (by decide), h1t] at h4; cases h4), S5⟩)
      | 6, ho, h0, hK =>
        cases ho
        have e3 := g3 (hd ⟨3, .data⟩ (by simp) rfl)
        subst e3
        clear hd
        go_simp
        exact hK _ _ ⟨_, _, _, _, _, _, _, _, _, _, _, _, _, _, _, _, _, _, _, _, _, _, rfl, by simpa using hsz, fun h => g0 (set_other (by decide) h), fun h => g1 (set_other (by decide) h), fun h => g2 (set_other (by decide) h), fun _ => rfl, fun h => ⟨by rw [set_else (by decide)]; exact (g4 (set_other (by decide) h)).1, (g4 (set_other (by decide) h)).2⟩, fun _ => rfl, fun h4 => gS (by rw [set_else (by decide)] at h4; exact h4), gT⟩
      | i + 7, ho, h0, hK => simp at ho
    case fin =>
      rintro l a w' ⟨v23, v24, v25, v26, v4, x0, x1, x8, x9, x10, x11, x12, x13, x14, x15, x16, x17, x18, x19, x20, x21, x22, rfl, hsz, g0, g1, g2, g3, g4, g6, gS, gT⟩ hr
      have S9 := (g4 (all_listedA (by kernel_rfl) hsz hr 4 (by decide))).2
      have e6 := g6 (all_listedA (by kernel_rfl) hsz hr 6 (by decide))
      subst e6
      clear g0 g1 g2 g3 g4 g6 gS gT hr hsz HS
      obtain ⟨⟨fcs, hf, fT, fR⟩, _⟩ := S9.2 (W.heap.size, 1) (by simp)
      obtain ⟨⟨fx, fy, fz, hf2⟩, _⟩ := S9.2 (W.heap.size + 1, 0) (by simp)
      go_wp2_with fail
      refine bodyPost_ret (v := .tuple #[.agg fcs, .agg #[.int .i64 fx, .int .i64 fy, .int .i64 fz], (.bool vb)]) (results_cct Tryd.results28 _ _ W.heap.size (W.heap.size + 1) 45 47 fcs #[.int .i64 fx, .int .i64 fy, .int .i64 fz] (0, 0) (0, 0) _ _ _ rfl hf Tryd.underlying45 rfl (by rw [fT.size]; kernel_rfl) rfl hf2 Tryd.underlying47 rfl (by kernel_rfl) rfl) rfl ⟨fcs, fx, fy, fz, _, rfl, fT, fR, S9.1.is⟩

def I_DrawMemBit (W : World) (g : Nat) (n : Int) (b : Nat) (listed : Array Bool) (a : Act) (w : World) : Prop :=
  ∃ v10 v11 v12 x0 x1 x6 x7 x8 x9, a = { tmps := #[x0, x1, .pointer (some ⟨W.heap.size, 0, none⟩), .pointer (some ⟨W.heap.size + 1, 0, none⟩), .pointer (some ⟨g, 0, none⟩), .pointer (some ⟨b, 0, none⟩), x6, x7, x8, x9, v10, v11, v12], defers := [] } ∧ listed.size = 5 ∧
    (listed.getD 0 false = true → v10 = .pointer (some ⟨g, 0, none⟩)) ∧ (listed.getD 1 false = true → ∃ cs, v11 = .agg cs ∧ Tagged cs ∧ Rg cs) ∧ (listed.getD 2 false = true → ∃ x y z : Int, v12 = .agg #[.int .i64 x, .int .i64 y, .int .i64 z]) ∧
    (listed.getD 3 false = true → listed.getD 1 false = true ∧ Sx ⟨W, W⟩ g (n + 148) [(W.heap.size, 1), (b, 0), (W.heap.size + 1, 0), (W.heap.size, 2)] w) ∧
    (listed.getD 1 false = false → Sx ⟨W, W⟩ g n [(b, 0), (W.heap.size + 1, 0), (W.heap.size, 2)] w) ∧ Sx ⟨W, W⟩ g (n + 148) [(b, 0), (W.heap.size + 1, 0), (W.heap.size, 2)] w

def DrawMemBit (W : World) (e : Ending) (w' : World) : Prop := ∃ (cs : Array Value) (k n p : Int), e = .returned (.tuple #[.agg cs, .agg #[.int .i64 k, .int .i64 n, .int .i64 p]]) ∧ Tagged cs ∧ Rg cs ∧ Below W.heap.size W w'
set_option maxHeartbeats 8000000 in
theorem drawMemBit {W : World} {A : Option Addr} {l : List Int} {c : Nat} (hc : Code_ W A l c) : Calls Tryd.prog 30 #[.slice A l.length c] W (DrawMemBit W) := by
  obtain ⟨z, zT, zR, hz⟩ := zero_mem
  have HC := Lib.hid hc
  have HZ := Lib.hid zT.size
  have HB := Lib.hid (((Below.refl W.heap.size W).alloc (Nat.le_refl _) (.cells z 45)).alloc (by simp) (.cells #[.int .i64 0, .int .i64 0, .int .i64 0] 47))
  clear zT zR hc
  go_enter Tryd.func30, Tryd.ntmps30
  go_wp2_with fail
  refine (open_w HB.out HC.out.1 HC.out.2.1 HC.out.2.2.1 HC.out.2.2.2).mono ?_
  rintro e w1 ⟨g, rfl, hR, hbl⟩
  have S1 := start2 HZ.out hR hbl
  clear hR hbl
  go_wp2_with fail
  refine (asks_w S1.rd (by omega)).mono ?_
  rintro e w3 ⟨a, b, c, rfl, h3⟩
  have S3 := (S1.step h3).dev a b c
  clear S1 h3
  have HS := Lib.hid S3
  clear S3
  go_wp2_with fail
  refine wp_region_any (by kernel_rfl) ?_
  refine wpAny_inv (I_DrawMemBit W g (0 + 9) w3.heap.size) ?hsz ?hg ?step ?fin 5 _ _ _ (by decide) ?init
  case hsz => rintro l a w ⟨_, _, _, _, _, _, _, _, _, _, h, _⟩; exact h
  case hg =>
    intro i o ho
    match i, ho with
    | 0, ho => cases ho; rfl
    | 1, ho => cases ho; rfl
    | 2, ho => cases ho; rfl
    | 3, ho => cases ho; rfl
    | 4, ho => cases ho; rfl
    | i + 5, ho => simp at ho
  case init => exact ⟨_, _, _, _, _, _, _, _, _, rfl, rfl, by simp, by simp, by simp, by simp, fun _ => HS.out.below ⟨rfl, rfl, rfl, Nat.le_refl _, fun _ _ => rfl⟩, Sx.le (n := 0 + 9) (HS.out.below ⟨rfl, rfl, rfl, Nat.le_refl _, fun _ _ => rfl⟩) (by omega)⟩
  case step =>
    rintro l a w' i o ⟨v10, v11, v12, x0, x1, x6, x7, x8, x9, rfl, hsz, g0, g1, g2, g4, gS, gT⟩ ho h0 hd K hK
    match i, ho, h0, hK with
    | 0, ho, h0, hK =>
      cases ho
      clear hd
      go_simp
      exact hK _ _ ⟨_, _, _, _, _, _, _, _, _, rfl, by simpa using hsz, fun _ => rfl, fun h => g1 (set_other (by decide) h), fun h => g2 (set_other (by decide) h), fun h => ⟨by rw [set_else (by decide)]; exact (g4 (set_other (by decide) h)).1, (g4 (set_other (by decide) h)).2⟩, fun h4 => gS (by rw [set_else (by decide)] at h4; exact h4), gT⟩
    | 1, ho, h0, hK =>
      cases ho
      have h1f : l.getD 1 false = false := by rw [Array.getD_eq_getD_getElem?] at h0 ⊢; rw [Array.getElem?_eq_getElem (by omega)] at h0 ⊢; exact h0
      have e0 := g0 (hd ⟨0, .data⟩ (by simp) rfl)
      subst e0
      clear hd
      go_simp
      go_wp2_with fail
      refine (draw_w (gS h1f).rd (by omega)).mono ?_
      rintro e w4 ⟨cs, rfl, hT, hRg, h4⟩
      exact hK _ _ ⟨_, _, _, _, _, _, _, _, _, rfl, by simpa using hsz, fun _ => rfl, fun _ => ⟨cs, rfl, hT, hRg⟩, fun h => g2 (set_other (by decide) h), (fun h => by have := (g4 (set_other (by decide) h)).1; rw [h1f] at this; cases this), (fun h4 => by rw [set_same (by omega)] at h4; cases h4), (gS h1f).step h4⟩
    | 2, ho, h0, hK =>
      cases ho
      clear hd
      exact ow_l0 _ _ rfl gT (b := w3.heap.size) (by simp) rfl (by kernel_rfl) (by kernel_rfl) (fun q1 q2 q3 => hK _ _ ⟨_, _, _, _, _, _, _, _, _, rfl, by simpa using hsz, fun h => g0 (set_other (by decide) h), fun h => g1 (set_other (by decide) h), fun _ => ⟨q1, q2, q3, rfl⟩, fun h => ⟨by rw [set_else (by decide)]; exact (g4 (set_other (by decide) h)).1, (g4 (set_other (by decide) h)).2⟩, fun h4 => gS (by rw [set_else (by decide)] at h4; exact h4), gT⟩)
    | 3, ho, h0, hK =>
      cases ho
      have h1t := hd ⟨1, .data⟩ (by simp) rfl
      obtain ⟨cs, e1, hT, hRg⟩ := g1 h1t
      subst e1
      clear hd
      exact ow_x2 _ _ _ rfl gT (b := W.heap.size) (by simp) cs rfl rfl hT hRg (by kernel_rfl) (fun w5 S5 => hK _ _ ⟨_, _, _, _, _, _, _, _, _, rfl, by simpa using hsz, fun h => g0 (set_other (by decide) h), fun _ => ⟨cs, rfl, hT, hRg⟩, fun h => g2 (set_other (by decide) h), fun _ => ⟨by rw [set_else (by decide)]; exact h1t, S5⟩, (fun h4 => by rw [set_else (by decide), h1t] at h4; cases h4), S5.sub⟩)
    | 4, ho, h0, hK =>
      cases ho
      obtain ⟨q1, q2, q3, e2⟩ := g2 (hd ⟨2, .data⟩ (by simp) rfl)
      subst e2
      have h1t := hd ⟨1, .phase⟩ (by simp) rfl
      clear hd
      by_cases h4t : l.getD 3 false = true
      · exact ow_x0 _ _ _ rfl (g4 h4t).2 (b := W.heap.size + 1) (by simp) q1 q2 q3 rfl rfl (by kernel_rfl) (fun w5 S5 => hK _ _ ⟨_, _, _, _, _, _, _, _, _, rfl, by simpa using hsz, fun h => g0 (set_other (by decide) h), fun h => g1 (set_other (by decide) h), fun _ => ⟨q1, q2, q3, rfl⟩, fun _ => ⟨by rw [set_else (by decide)]; exact h1t, S5⟩, (fun h4 => by rw [set_else (by decide), h1t] at h4; cases h4), S5.sub⟩)
      · exact ow_x0 _ _ _ rfl gT (b := W.heap.size + 1) (by simp) q1 q2 q3 rfl rfl (by kernel_rfl) (fun w5 S5 => hK _ _ ⟨_, _, _, _, _, _, _, _, _, rfl, by simpa using hsz, fun h => g0 (set_other (by decide) h), fun h => g1 (set_other (by decide) h), fun _ => ⟨q1, q2, q3, rfl⟩, fun h => absurd (set_other (by decide) h) h4t, (fun h4 => by rw [set_else (by decide), h1t] at h4; cases h4), S5⟩)
    | i + 5, ho, h0, hK => simp at ho
  case fin =>
    rintro l a w' ⟨v10, v11, v12, x0, x1, x6, x7, x8, x9, rfl, hsz, g0, g1, g2, g4, gS, gT⟩ hr
    have S9 := (g4 (all_listedA (by kernel_rfl) hsz hr 3 (by decide))).2
    clear g0 g1 g2 g4 gS gT hr hsz HS
    obtain ⟨⟨fcs, hf, fT, fR⟩, _⟩ := S9.2 (W.heap.size, 1) (by simp)
    obtain ⟨⟨fx, fy, fz, hf2⟩, _⟩ := S9.2 (W.heap.size + 1, 0) (by simp)
    go_wp2_with fail
    refine bodyPost_ret (v := .tuple #[.agg fcs, .agg #[.int .i64 fx, .int .i64 fy, .int .i64 fz]]) (results_cc Tryd.results30 _ _ W.heap.size (W.heap.size + 1) 45 47 fcs #[.int .i64 fx, .int .i64 fy, .int .i64 fz] (0, 0) (0, 0) _ _ rfl hf Tryd.underlying45 rfl (by rw [fT.size]; kernel_rfl) rfl hf2 Tryd.underlying47 rfl (by kernel_rfl)) rfl ⟨fcs, fx, fy, fz, rfl, fT, fR, S9.1.is⟩

def I_DrawMemPutWhole (W : World) (g : Nat) (n : Int) (b : Nat) (bv : Value) (listed : Array Bool) (a : Act) (w : World) : Prop :=
  ∃ v19 v20 v21 v22 v4 x0 x1 x8 x9 x10 x11 x12 x13 x14 x15 x16 x17 x18, a = { tmps := #[x0, x1, .pointer (some ⟨W.heap.size, 0, none⟩), .pointer (some ⟨W.heap.size + 1, 0, none⟩), v4, .pointer (some ⟨g, 0, none⟩), bv, .pointer (some ⟨b, 0, none⟩), x8, x9, x10, x11, x12, x13, x14, x15, x16, x17, x18, v19, v20, v21, v22], defers := [] } ∧ listed.size = 7 ∧
    (listed.getD 0 false = true → v19 = .pointer (some ⟨g, 0, none⟩)) ∧ (listed.getD 1 false = true → ∃ cs, v20 = .agg cs ∧ Tagged cs ∧ Rg cs) ∧ (listed.getD 2 false = true → ∃ x y z : Int, v21 = .agg #[.int .i64 x, .int .i64 y, .int .i64 z]) ∧ (listed.getD 3 false = true → v22 = bv) ∧
    (listed.getD 4 false = true → listed.getD 1 false = true ∧ Sx ⟨W, W⟩ g (n + 148) [(W.heap.size, 1), (b, 0), (W.heap.size + 1, 0), (W.heap.size, 2)] w) ∧ (listed.getD 6 false = true → v4 = bv) ∧
    (listed.getD 1 false = false → Sx ⟨W, W⟩ g n [(b, 0), (W.heap.size + 1, 0), (W.heap.size, 2)] w) ∧ Sx ⟨W, W⟩ g (n + 148) [(b, 0), (W.heap.size + 1, 0), (W.heap.size, 2)] w

def DrawMemPutWhole (W : World) (e : Ending) (w' : World) : Prop := ∃ (cs : Array Value) (k n p : Int) (v : Int), e = .returned (.tuple #[.agg cs, .agg #[.int .i64 k, .int .i64 n, .int .i64 p], .int .i16 v]) ∧ Tagged cs ∧ Rg cs ∧ (-32768 ≤ v ∧ v ≤ 32767) ∧ Below W.heap.size W w'
set_option maxHeartbeats 8000000 in
theorem drawMemPutWhole {W : World} {A : Option Addr} {l : List Int} {c : Nat} (hc : Code_ W A l c) : Calls Tryd.prog 32 #[.slice A l.length c] W (DrawMemPutWhole W) := by
  obtain ⟨z, zT, zR, hz⟩ := zero_mem
  have HC := Lib.hid hc
  have HZ := Lib.hid zT.size
  have HB := Lib.hid (((Below.refl W.heap.size W).alloc (Nat.le_refl _) (.cells z 45)).alloc (by simp) (.cells #[.int .i64 0, .int .i64 0, .int .i64 0] 47))
  clear zT zR hc
  go_enter Tryd.func32, Tryd.ntmps32
  go_wp2_with fail
  refine (open_w HB.out HC.out.1 HC.out.2.1 HC.out.2.2.1 HC.out.2.2.2).mono ?_
  rintro e w1 ⟨g, rfl, hR, hbl⟩
  have S1 := start2 HZ.out hR hbl
  clear hR hbl
  go_wp2_with fail
  refine (S1.whole (by omega)).mono ?_
  rintro e w2 ⟨j, rfl, hj, S2⟩
  have Hj := Lib.hid hj
  clear S1 hj
  go_wp2_with fail
  refine (asks_w S2.rd (by omega)).mono ?_
  rintro e w3 ⟨a, b, c, rfl, h3⟩
  have S3 := (S2.step h3).dev a b c
  clear S2 h3
  go_wp2_with fail
  refine (S3.pick (by omega) 2 (by decide)).mono ?_
  rintro e w4 ⟨i, rfl, hi, S4⟩
  clear S3
  by_cases hi0 : i = 0
  · subst hi0
    clear hi
    go_wp2_with fail
    refine (arg_w S4.rd (by omega) _).mono ?_
    rintro e w6 ⟨a2, b2, c2, rfl, h6⟩
    have S6 := S4.step h6
    clear S4 h6
    go_wp2_with (refine wl_x0 rfl _ _ _ rfl S6 (b := w3.heap.size) (by simp) _ _ _ rfl rfl (by kernel_rfl) ?_; intro w7 S7)
    have HS := Lib.hid S7
    clear S7
    go_wp2_with fail
    refine wp_region_any (by kernel_rfl) ?_
    refine wpAny_inv (I_DrawMemPutWhole W g (0 + 2 + 9 + 1 + 3) w3.heap.size (.int .i16 j)) ?hsz ?hg ?step ?fin 7 _ _ _ (by decide) ?init
    case hsz => rintro l a w ⟨_, _, _, _, _, _, _, _, _, _, _, _, _, _, _, _, _, _, _, h, _⟩; exact h
    case hg =>
      intro i o ho
      match i, ho with
      | 0, ho => cases ho; rfl
      | 1, ho => cases ho; rfl
      | 2, ho => cases ho; rfl
      | 3, ho => cases ho; rfl
      | 4, ho => cases ho; rfl
      | 5, ho => cases ho; rfl
      | 6, ho => cases ho; rfl
      | i + 7, ho => simp at ho
    case init => exact ⟨_, _, _, _, _, _, _, _, _, _, _, _, _, _, _, _, _, _, rfl, rfl, by simp, by simp, by simp, by simp, by simp, by simp, fun _ => HS.out.below ⟨rfl, rfl, rfl, Nat.le_refl _, fun _ _ => rfl⟩, Sx.le (n := 0 + 2 + 9 + 1 + 3) (HS.out.below ⟨rfl, rfl, rfl, Nat.le_refl _, fun _ _ => rfl⟩) (by omega)⟩
    case step =>
      rintro l a w' i o ⟨v19, v20, v21, v22, v4, x0, x1, x8, x9, x10, x11, x12, x13, x14, x15, x16, x17, x18, rfl, hsz, g0, g1, g2, g3, g4, g6, gS, gT⟩ ho h0 hd K hK
      match i, ho, h0, hK with
      | 0, ho, h0, hK =>
        cases ho
        clear hd
        go_simp
        exact hK _ _ ⟨_, _, _, _, _, _, _, _, _, _, _, _, _, _, _, _, _, _, rfl, by simpa using hsz, fun _ => rfl, fun h => g1 (set_other (by decide) h), fun h => g2 (set_other (by decide) h), fun h => g3 (set_other (by decide) h), fun h => ⟨by rw [set_else (by decide)]; exact (g4 (set_other (by decide) h)).1, (g4 (set_other (by decide) h)).2⟩, fun h => g6 (set_other (by decide) h), fun h4 => gS (by rw [set_else (by decide)] at h4; exact h4), gT⟩
      | 1, ho, h0, hK =>
        cases ho
        have h1f : l.getD 1 false = false := by rw [Array.getD_eq_getD_getElem?] at h0 ⊢; rw [Array.getElem?_eq_getElem (by omega)] at h0 ⊢; exact h0
        have e0 := g0 (hd ⟨0, .data⟩ (by simp) rfl)
        subst e0
        clear hd
        go_simp
        go_wp2_with fail
        refine (draw_w (gS h1f).rd (by omega)).mono ?_
        rintro e w4 ⟨cs, rfl, hT, hRg, h4⟩
        exact hK _ _ ⟨_, _, _, _, _, _, _, _, _, _, _, _, _, _, _, _, _, _, rfl, by simpa using hsz, fun _ => rfl, fun _ => ⟨cs, rfl, hT, hRg⟩, fun h => g2 (set_other (by decide) h), fun h => g3 (set_other (by decide) h), (fun h => by have := (g4 (set_other (by decide) h)).1; rw [h1f] at this; cases this), fun h => g6 (set_other (by decide) h), (fun h4 => by rw [set_same (by omega)] at h4; cases h4), (gS h1f).step h4⟩
      | 2, ho, h0, hK =>
        cases ho
        clear hd
        exact ow_l0 _ _ rfl gT (b := w3.heap.size) (by simp) rfl (by kernel_rfl) (by kernel_rfl) (fun q1 q2 q3 => hK _ _ ⟨_, _, _, _, _, _, _, _, _, _, _, _, _, _, _, _, _, _, rfl, by simpa using hsz, fun h => g0 (set_other (by decide) h), fun h => g1 (set_other (by decide) h), fun _ => ⟨q1, q2, q3, rfl⟩, fun h => g3 (set_other (by decide) h), fun h => ⟨by rw [set_else (by decide)]; exact (g4 (set_other (by decide) h)).1, (g4 (set_other (by decide) h)).2⟩, fun h => g6 (set_other (by decide) h), fun h4 => gS (by rw [set_else (by decide)] at h4; exact h4), gT⟩)
      | 3, ho, h0, hK =>
        cases ho
        clear hd
        go_simp
        exact hK _ _ ⟨_, _, _, _, _, _, _, _, _, _, _, _, _, _, _, _, _, _, rfl, by simpa using hsz, fun h => g0 (set_other (by decide) h), fun h => g1 (set_other (by decide) h), fun h => g2 (set_other (by decide) h), fun _ => rfl, fun h => ⟨by rw [set_else (by decide)]; exact (g4 (set_other (by decide) h)).1, (g4 (set_other (by decide) h)).2⟩, fun h => g6 (set_other (by decide) h), fun h4 => gS (by rw [set_else (by decide)] at h4; exact h4), gT⟩
      | 4, ho, h0, hK =>
        cases ho
        have h1t := hd ⟨1, .data⟩ (by simp) rfl
        obtain ⟨cs, e1, hT, hRg⟩ := g1 h1t
        subst e1
        clear hd
        exact ow_x2 _ _ _ rfl gT (b := W.heap.size) (by simp) cs rfl rfl hT hRg (by kernel_rfl) (fun w5 S5 => hK _ _ ⟨_, _, _, _, _, _, _, _, _, _, _, _, _, _, _, _, _, _, rfl, by simpa using hsz, fun h => g0 (set_other (by decide) h), fun _ => ⟨cs, rfl, hT, hRg⟩, fun h => g2 (set_other (by decide) h), fun h => g3 (set_other (by decide) h), fun _ => ⟨by rw [set_else (by decide)]; exact h1t, S5⟩, fun h => g6 (set_other (by decide) h), (fun h4 => by rw [set_else (by decide), h1t] at h4; cases h4), S5.sub⟩)
      | 5, ho, h0, hK =>
        cases ho
        obtain ⟨q1, q2, q3, e2⟩ := g2 (hd ⟨2, .data⟩ (by simp) rfl)
        subst e2
        have h1t := hd ⟨1, .phase⟩ (by simp) rfl
        clear hd
        by_cases h4t : l.getD 4 false = true
        · exact ow_x0 _ _ _ rfl (g4 h4t).2 (b := W.heap.size + 1) (by simp) q1 q2 q3 rfl rfl (by kernel_rfl) (fun w5 S5 => hK _ _ ⟨_, _, _, _, _, _, _, _, _, _, _, _, _, _, _, _, _, _, rfl, by simpa using hsz, fun h => g0 (set_other (by decide) h), fun h => g1 (set_other (by decide) h), fun _ => ⟨q1, q2, q3, rfl⟩, fun h => g3 (set_other (by decide) h), fun _ => ⟨by rw [set_else (by decide)]; exact h1t, S5⟩, fun h => g6 (set_other (by decide) h), (fun h4 => by rw [set_else (by decide), h1t] at h4; cases h4), S5.sub⟩)
        · exact ow_x0 _ _ _ rfl gT (b := W.heap.size + 1) (by simp) q1 q2 q3 rfl rfl (by kernel_rfl) (fun w5 S5 => hK _ _ ⟨_, _, _, _, _, _, _, _, _, _, _, _, _, _, _, _, _, _, rfl, by simpa using hsz, fun h => g0 (set_other (by decide) h), fun h => g1 (set_other (by decide) h), fun _ => ⟨q1, q2, q3, rfl⟩, fun h => g3 (set_other (by decide) h), fun h => absurd (set_other (by decide) h) h4t, fun h => g6 (set_other (by decide) h), (fun h4 => by rw [set_else (by decide), h1t] at h4; cases h4), S5⟩)
      | 6, ho, h0, hK =>
        cases ho
        have e3 := g3 (hd ⟨3, .data⟩ (by simp) rfl)
        subst e3
        clear hd
        go_simp
        exact hK _ _ ⟨_, _, _, _, _, _, _, _, _, _, _, _, _, _, _, _, _, _, rfl, by simpa using hsz, fun h => g0 (set_other (by decide) h), fun h => g1 (set_other (by decide) h), fun h => g2 (set_other (by decide) h), fun _ => rfl, fun h => ⟨by rw [set_else (by decide)]; exact (g4 (set_other (by decide) h)).1, (g4 (set_other (by decide) h)).2⟩, fun _ => rfl, fun h4 => gS (by rw [set_else (by decide)] at h4; exact h4), gT⟩
      | i + 7, ho, h0, hK => simp at ho
    case fin =>
      rintro l a w' ⟨v19, v20, v21, v22, v4, x0, x1, x8, x9, x10, x11, x12, x13, x14, x15, x16, x17, x18, rfl, hsz, g0, g1, g2, g3, g4, g6, gS, gT⟩ hr
      have S9 := (g4 (all_listedA (by kernel_rfl) hsz hr 4 (by decide))).2
      have e6 := g6 (all_listedA (by kernel_rfl) hsz hr 6 (by decide))
      subst e6
      clear g0 g1 g2 g3 g4 g6 gS gT hr hsz HS
      obtain ⟨⟨fcs, hf, fT, fR⟩, _⟩ := S9.2 (W.heap.size, 1) (by simp)
      obtain ⟨⟨fx, fy, fz, hf2⟩, _⟩ := S9.2 (W.heap.size + 1, 0) (by simp)
      go_wp2_with fail
      refine bodyPost_ret (v := .tuple #[.agg fcs, .agg #[.int .i64 fx, .int .i64 fy, .int .i64 fz], (.int .i16 j)]) (results_cct Tryd.results32 _ _ W.heap.size (W.heap.size + 1) 45 47 fcs #[.int .i64 fx, .int .i64 fy, .int .i64 fz] (0, 0) (0, 0) _ _ _ rfl hf Tryd.underlying45 rfl (by rw [fT.size]; kernel_rfl) rfl hf2 Tryd.underlying47 rfl (by kernel_rfl) rfl) rfl ⟨fcs, fx, fy, fz, _, rfl, fT, fR, Hj.out, S9.1.is⟩
  · have bi0 : ((i : Int) == 0) = false := beq_eq_false_iff_ne.2 (by omega)
    clear hi0
    have HS := Lib.hid S4
    clear S4
    go_wp2_with fail
    refine wp_region_any (by kernel_rfl) ?_
    refine wpAny_inv (I_DrawMemPutWhole W g (0 + 2 + 9 + 1) w3.heap.size (.int .i16 j)) ?hsz ?hg ?step ?fin 7 _ _ _ (by decide) ?init
    case hsz => rintro l a w ⟨_, _, _, _, _, _, _, _, _, _, _, _, _, _, _, _, _, _, _, h, _⟩; exact h
    case hg =>
      intro i o ho
      match i, ho with
      | 0, ho => cases ho; rfl
      | 1, ho => cases ho; rfl
      | 2, ho => cases ho; rfl
      | 3, ho => cases ho; rfl
      | 4, ho => cases ho; rfl
      | 5, ho => cases ho; rfl
      | 6, ho => cases ho; rfl
      | i + 7, ho => simp at ho
    case init => exact ⟨_, _, _, _, _, _, _, _, _, _, _, _, _, _, _, _, _, _, rfl, rfl, by simp, by simp, by simp, by simp, by simp, by simp, fun _ => HS.out.below ⟨rfl, rfl, rfl, Nat.le_refl _, fun _ _ => rfl⟩, Sx.le (n := 0 + 2 + 9 + 1) (HS.out.below ⟨rfl, rfl, rfl, Nat.le_refl _, fun _ _ => rfl⟩) (by omega)⟩
    case step =>
      rintro l a w' i o ⟨v19, v20, v21, v22, v4, x0, x1, x8, x9, x10, x11, x12, x13, x14, x15, x16, x17, x18, rfl, hsz, g0, g1, g2, g3, g4, g6, gS, gT⟩ ho h0 hd K hK
      match i, ho, h0, hK with
      | 0, ho, h0, hK =>
        cases ho
        clear hd
        go_simp
        exact hK _ _ ⟨_, _, _, _, _, _, _, _, _, _, _, _, _, _, _, _, _, _, rfl, by simpa using hsz, fun _ => rfl, fun h => g1 (set_other (by decide) h), fun h => g2 (set_other (by decide) h), fun h => g3 (set_other (by decide) h), fun h => ⟨by rw [set_else (by decide)]; exact (g4 (set_other (by decide) h)).1, (g4 (set_other (by decide) h)).2⟩, fun h => g6 (set_other (by decide) h), fun h4 => gS (by rw [set_else (by decide)] at h4; exact h4), gT⟩
      | 1, ho, h0, hK =>
        cases ho
        have h1f : l.getD 1 false = false := by rw [Array.getD_eq_getD_getElem?] at h0 ⊢; rw [Array.getElem?_eq_getElem (by omega)] at h0 ⊢; exact h0
        have e0 := g0 (hd ⟨0, .data⟩ (by simp) rfl)
        subst e0
        clear hd
        go_simp
        go_wp2_with fail
        refine (draw_w (gS h1f).rd (by omega)).mono ?_
        rintro e w4 ⟨cs, rfl, hT, hRg, h4⟩
        exact hK _ _ ⟨_, _, _, _, _, _, _, _, _, _, _, _, _, _, _, _, _, _, rfl, by simpa using hsz, fun _ => rfl, fun _ => ⟨cs, rfl, hT, hRg⟩, fun h => g2 (set_other (by decide) h), fun h => g3 (set_other (by decide) h), (fun h => by have := (g4 (set_other (by decide) h)).1; rw [h1f] at this; cases this), fun h => g6 (set_other (by decide) h), (fun h4 => by rw [set_same (by omega)] at h4; cases h4), (gS h1f).step h4⟩
      | 2, ho, h0, hK =>
        cases ho
        clear hd
        exact ow_l0 _ _ rfl gT (b := w3.heap.size) (by simp) rfl (by kernel_rfl) (by kernel_rfl) (fun q1 q2 q3 => hK _ _ ⟨_, _, _, _, _, _, _, _, _, _, _, _, _, _, _, _, _, _, rfl, by simpa using hsz, fun h => g0 (set_other (by decide) h), fun h => g1 (set_other (by decide) h), fun _ => ⟨q1, q2, q3, rfl⟩, fun h => g3 (set_other (by decide) h), fun h => ⟨by rw [set_else (by decide)]; exact (g4 (set_other (by decide) h)).1, (g4 (set_other (by decide) h)).2⟩, fun h => g6 (set_other (by decide) h), fun h4 => gS (by rw [set_else (by decide)] at h4; exact h4), gT⟩)
      | 3, ho, h0, hK =>
        cases ho
        clear hd
        go_simp
        exact hK _ _ ⟨_, _, _, _, _, _, _, _, _, _, _, _, _, _, _, _, _, _, rfl, by simpa using hsz, fun h => g0 (set_other (by decide) h), fun h => g1 (set_other (by decide) h), fun h => g2 (set_other (by decide) h), fun _ => rfl, fun h => ⟨by rw [set_else (by decide)]; exact (g4 (set_other (by decide) h)).1, (g4 (set_other (by decide) h)).2⟩, fun h => g6 (set_other (by decide) h), fun h4 => gS (by rw [set_else (by decide)] at h4; exact h4), gT⟩
      | 4, ho, h0, hK =>
        cases ho
        have h1t := hd ⟨1, .data⟩ (by simp) rfl
        obtain ⟨cs, e1, hT, hRg⟩ := g1 h1t
        subst e1
        clear hd
        exact ow_x2 _ _ _ rfl gT (b := W.heap.size) (by simp) cs rfl rfl hT hRg (by kernel_rfl) (fun w5 S5 => hK _ _ ⟨_, _, _, _, _, _, _, _, _, _, _, _, _, _, _, _, _, _, rfl, by simpa using hsz, fun h => g0 (set_other (by decide) h), fun _ => ⟨cs, rfl, hT, hRg⟩, fun h => g2 (set_other (by decide) h), fun h => g3 (set_other (by decide) h), fun _ => ⟨by rw [set_else (by decide)]; exact h1t, S5⟩, fun h => g6 (set_other (by decide) h), (fun h4 => by rw [set_else (by decide), h1t] at h4; cases h4), S5.sub⟩)
      | 5, ho, h0, hK =>
        cases ho
        obtain ⟨q1, q2, q3, e2⟩ := g2 (hd ⟨2, .data⟩ (by simp) rfl)
        subst e2
        have h1t := hd ⟨1, .phase⟩ (by simp) rfl
        clear hd
        by_cases h4t : l.getD 4 false = true
        · exact ow_x0 _ _ _ rfl (g4 h4t).2 (b := W.heap.size + 1) (by simp) q1 q2 q3 rfl rfl (by kernel_rfl) (fun w5 S5 => hK _ _ ⟨_, _, _, _, _, _, _, _, _, _, _, _, _, _, _, _, _, _, rfl, by simpa using hsz, fun h => g0 (set_other (by decide) h), fun h => g1 (set_other (by decide) h), fun _ => ⟨q1, q2, q3, rfl⟩, fun h => g3 (set_other (by decide) h), fun _ => ⟨by rw [set_else (by decide)]; exact h1t, S5⟩, fun h => g6 (set_other (by decide) h), (fun h4 => by rw [set_else (by decide), h1t] at h4; cases h4), S5.sub⟩)
        · exact ow_x0 _ _ _ rfl gT (b := W.heap.size + 1) (by simp) q1 q2 q3 rfl rfl (by kernel_rfl) (fun w5 S5 => hK _ _ ⟨_, _, _, _, _, _, _, _, _, _, _, _, _, _, _, _, _, _, rfl, by simpa using hsz, fun h => g0 (set_other (by decide) h), fun h => g1 (set_other (by decide) h), fun _ => ⟨q1, q2, q3, rfl⟩, fun h => g3 (set_other (by decide) h), fun h => absurd (set_other (by decide) h) h4t, fun h => g6 (set_other (by decide) h), (fun h4 => by rw [set_else (by decide), h1t] at h4; cases h4), S5⟩)
      | 6, ho, h0, hK =>
        cases ho
        have e3 := g3 (hd ⟨3, .data⟩ (by simp) rfl)
        subst e3
        clear hd
        go_simp
        exact hK _ _ ⟨_, _, _, _, _, _, _, _, _, _, _, _, _, _, _, _, _, _, rfl, by simpa using hsz, fun h => g0 (set_other (by decide) h), fun h => g1 (set_other (by decide) h), fun h => g2 (set_other (by decide) h), fun _ => rfl, fun h => ⟨by rw [set_else (by decide)]; exact (g4 (set_other (by decide) h)).1, (g4 (set_other (by decide) h)).2⟩, fun _ => rfl, fun h4 => gS (by rw [set_else (by decide)] at h4; exact h4), gT⟩
      | i + 7, ho, h0, hK => simp at ho
    case fin =>
      rintro l a w' ⟨v19, v20, v21, v22, v4, x0, x1, x8, x9, x10, x11, x12, x13, x14, x15, x16, x17, x18, rfl, hsz, g0, g1, g2, g3, g4, g6, gS, gT⟩ hr
      have S9 := (g4 (all_listedA (by kernel_rfl) hsz hr 4 (by decide))).2
      have e6 := g6 (all_listedA (by kernel_rfl) hsz hr 6 (by decide))
      subst e6
      clear g0 g1 g2 g3 g4 g6 gS gT hr hsz HS
      obtain ⟨⟨fcs, hf, fT, fR⟩, _⟩ := S9.2 (W.heap.size, 1) (by simp)
      obtain ⟨⟨fx, fy, fz, hf2⟩, _⟩ := S9.2 (W.heap.size + 1, 0) (by simp)
      go_wp2_with fail
      refine bodyPost_ret (v := .tuple #[.agg fcs, .agg #[.int .i64 fx, .int .i64 fy, .int .i64 fz], (.int .i16 j)]) (results_cct Tryd.results32 _ _ W.heap.size (W.heap.size + 1) 45 47 fcs #[.int .i64 fx, .int .i64 fy, .int .i64 fz] (0, 0) (0, 0) _ _ _ rfl hf Tryd.underlying45 rfl (by rw [fT.size]; kernel_rfl) rfl hf2 Tryd.underlying47 rfl (by kernel_rfl) rfl) rfl ⟨fcs, fx, fy, fz, _, rfl, fT, fR, Hj.out, S9.1.is⟩

def I_DrawMemPutReal (W : World) (g : Nat) (n : Int) (b : Nat) (bv : Value) (listed : Array Bool) (a : Act) (w : World) : Prop :=
  ∃ v19 v20 v21 v22 v4 x0 x1 x8 x9 x10 x11 x12 x13 x14 x15 x16 x17 x18, a = { tmps := #[x0, x1, .pointer (some ⟨W.heap.size, 0, none⟩), .pointer (some ⟨W.heap.size + 1, 0, none⟩), v4, .pointer (some ⟨g, 0, none⟩), bv, .pointer (some ⟨b, 0, none⟩), x8, x9, x10, x11, x12, x13, x14, x15, x16, x17, x18, v19, v20, v21, v22], defers := [] } ∧ listed.size = 7 ∧
    (listed.getD 0 false = true → v19 = .pointer (some ⟨g, 0, none⟩)) ∧ (listed.getD 1 false = true → ∃ cs, v20 = .agg cs ∧ Tagged cs ∧ Rg cs) ∧ (listed.getD 2 false = true → ∃ x y z : Int, v21 = .agg #[.int .i64 x, .int .i64 y, .int .i64 z]) ∧ (listed.getD 3 false = true → v22 = bv) ∧
    (listed.getD 4 false = true → listed.getD 1 false = true ∧ Sx ⟨W, W⟩ g (n + 148) [(W.heap.size, 1), (b, 0), (W.heap.size + 1, 0), (W.heap.size, 2)] w) ∧ (listed.getD 6 false = true → v4 = bv) ∧
    (listed.getD 1 false = false → Sx ⟨W, W⟩ g n [(b, 0), (W.heap.size + 1, 0), (W.heap.size, 2)] w) ∧ Sx ⟨W, W⟩ g (n + 148) [(b, 0), (W.heap.size + 1, 0), (W.heap.size, 2)] w

def DrawMemPutReal (W : World) (e : Ending) (w' : World) : Prop := ∃ (cs : Array Value) (k n p : Int) (v : Nat), e = .returned (.tuple #[.agg cs, .agg #[.int .i64 k, .int .i64 n, .int .i64 p], .float .f64 v]) ∧ Tagged cs ∧ Rg cs ∧ Below W.heap.size W w'
set_option maxHeartbeats 8000000 in
theorem drawMemPutReal {W : World} {A : Option Addr} {l : List Int} {c : Nat} (hc : Code_ W A l c) : Calls Tryd.prog 33 #[.slice A l.length c] W (DrawMemPutReal W) := by
  obtain ⟨z, zT, zR, hz⟩ := zero_mem
  have HC := Lib.hid hc
  have HZ := Lib.hid zT.size
  have HB := Lib.hid (((Below.refl W.heap.size W).alloc (Nat.le_refl _) (.cells z 45)).alloc (by simp) (.cells #[.int .i64 0, .int .i64 0, .int .i64 0] 47))
  clear zT zR hc
  go_enter Tryd.func33, Tryd.ntmps33
  go_wp2_with fail
  refine (open_w HB.out HC.out.1 HC.out.2.1 HC.out.2.2.1 HC.out.2.2.2).mono ?_
  rintro e w1 ⟨g, rfl, hR, hbl⟩
  have S1 := start2 HZ.out hR hbl
  clear hR hbl
  go_wp2_with fail
  refine (S1.real (by omega)).mono ?_
  rintro e w2 ⟨j, rfl, S2⟩
  clear S1
  go_wp2_with fail
  refine (asks_w S2.rd (by omega)).mono ?_
  rintro e w3 ⟨a, b, c, rfl, h3⟩
  have S3 := (S2.step h3).dev a b c
  clear S2 h3
  go_wp2_with fail
  refine (S3.pick (by omega) 2 (by decide)).mono ?_
  rintro e w4 ⟨i, rfl, hi, S4⟩
  clear S3
  by_cases hi0 : i = 0
  · subst hi0
    clear hi
    go_wp2_with fail
    refine (arg_w S4.rd (by omega) _).mono ?_
    rintro e w6 ⟨a2, b2, c2, rfl, h6⟩
    have S6 := S4.step h6
    clear S4 h6
    go_wp2_with (refine wl_x0 rfl _ _ _ rfl S6 (b := w3.heap.size) (by simp) _ _ _ rfl rfl (by kernel_rfl) ?_; intro w7 S7)
    have HS := Lib.hid S7
    clear S7
    go_wp2_with fail
    refine wp_region_any (by kernel_rfl) ?_
    refine wpAny_inv (I_DrawMemPutReal W g (0 + 12 + 9 + 1 + 3) w3.heap.size (.float .f64 j)) ?hsz ?hg ?step ?fin 7 _ _ _ (by decide) ?init
    case hsz => rintro l a w ⟨_, _, _, _, _, _, _, _, _, _, _, _, _, _, _, _, _, _, _, h, _⟩; exact h
    case hg =>
      intro i o ho
      match i, ho with
      | 0, ho => cases ho; rfl
      | 1, ho => cases ho; rfl
      | 2, ho => cases ho; rfl
      | 3, ho => cases ho; rfl
      | 4, ho => cases ho; rfl
      | 5, ho => cases ho; rfl
      | 6, ho => cases ho; rfl
      | i + 7, ho => simp at ho
    case init => exact ⟨_, _, _, _, _, _, _, _, _, _, _, _, _, _, _, _, _, _, rfl, rfl, by simp, by simp, by simp, by simp, by simp, by simp, fun _ => HS.out.below ⟨rfl, rfl, rfl, Nat.le_refl _, fun _ _ => rfl⟩, Sx.le (n := 0 + 12 + 9 + 1 + 3) (HS.out.below ⟨rfl, rfl, rfl, Nat.le_refl _, fun _ _ => rfl⟩) (by omega)⟩
    case step =>
      rintro l a w' i o ⟨v19, v20, v21, v22, v4, x0, x1, x8, x9, x10, x11, x12, x13, x14, x15, x16, x17, x18, rfl, hsz, g0, g1, g2, g3, g4, g6, gS, gT⟩ ho h0 hd K hK
      match i, ho, h0, hK with
      | 0, ho, h0, hK =>
        cases ho
        clear hd
        go_simp
        exact hK _ _ ⟨_, _, _, _, _, _, _, _, _, _, _, _, _, _, _, _, _, _, rfl, by simpa using hsz, fun _ => rfl, fun h => g1 (set_other (by decide) h), fun h => g2 (set_other (by decide) h), fun h => g3 (set_other (by decide) h), fun h => ⟨by rw [set_else (by decide)]; exact (g4 (set_other (by decide) h)).1, (g4 (set_other (by decide) h)).2⟩, fun h => g6 (set_other (by decide) h), fun h4 => gS (by rw [set_else (by decide)] at h4; exact h4), gT⟩
      | 1, ho, h0, hK =>
        cases ho
        have h1f : l.getD 1 false = false := by rw [Array.getD_eq_getD_getElem?] at h0 ⊢; rw [Array.getElem?_eq_getElem (by omega)] at h0 ⊢; exact h0
        have e0 := g0 (hd ⟨0, .data⟩ (by simp) rfl)
        subst e0
        clear hd
        go_simp
        go_wp2_with fail
        refine (draw_w (gS h1f).rd (by omega)).mono ?_
        rintro e w4 ⟨cs, rfl, hT, hRg, h4⟩
        exact hK _ _ ⟨_, _, _, _, _, _, _, _, _, _, _, _, _, _, _, _, _, _, rfl, by simpa using hsz, fun _ => rfl, fun _ => ⟨cs, rfl, hT, hRg⟩, fun h => g2 (set_other (by decide) h), fun h => g3 (set_other (by decide) h), (fun h => by have := (g4 (set_other (by decide) h)).1; rw [h1f] at this; cases this), fun h => g6 (set_other (by decide) h), (fun h4 => by rw [set_same (by omega)] at h4; cases h4), (gS h1f).step h4⟩
      | 2, ho, h0, hK =>
        cases ho
        clear hd
        exact ow_l0 _ _ rfl gT (b := w3.heap.size) (by simp) rfl (by kernel_rfl) (by kernel_rfl) (fun q1 q2 q3 => hK _ _ ⟨_, _, _, _, _, _, _, _, _, _, _, _, _, _, _, _, _, _, rfl, by simpa using hsz, fun h => g0 (set_other (by decide) h), fun h => g1 (set_other (by decide) h), fun _ => ⟨q1, q2, q3, rfl⟩, fun h => g3 (set_other (by decide) h), fun h => ⟨by rw [set_else (by decide)]; exact (g4 (set_other (by decide) h)).1, (g4 (set_other (by decide) h)).2⟩, fun h => g6 (set_other (by decide) h), fun h4 => gS (by rw [set_else (by decide)] at h4; exact h4), gT⟩)
      | 3, ho, h0, hK =>
        cases ho
        clear hd
        go_simp
        exact hK _ _ ⟨_, _, _, _, _, _, _, _, _, _, _, _, _, _, _, _, _, _, rfl, by simpa using hsz, fun h => g0 (set_other (by decide) h), fun h => g1 (set_other (by decide) h), fun h => g2 (set_other (by decide) h), fun _ => rfl, fun h => ⟨by rw [set_else (by decide)]; exact (g4 (set_other (by decide) h)).1, (g4 (set_other (by decide) h)).2⟩, fun h => g6 (set_other (by decide) h), fun h4 => gS (by rw [set_else (by decide)] at h4; exact h4), gT⟩
      | 4, ho, h0, hK =>
        cases ho
        have h1t := hd ⟨1, .data⟩ (by simp) rfl
        obtain ⟨cs, e1, hT, hRg⟩ := g1 h1t
        subst e1
        clear hd
        exact ow_x2 _ _ _ rfl gT (b := W.heap.size) (by simp) cs rfl rfl hT hRg (by kernel_rfl) (fun w5 S5 => hK _ _ ⟨_, _, _, _, _, _, _, _, _, _, _, _, _, _, _, _, _, _, rfl, by simpa using hsz, fun h => g0 (set_other (by decide) h), fun _ => ⟨cs, rfl, hT, hRg⟩, fun h => g2 (set_other (by decide) h), fun h => g3 (set_other (by decide) h), fun _ => ⟨by rw [set_else (by decide)]; exact h1t, S5⟩, fun h => g6 (set_other (by decide) h), (fun h4 => by rw [set_else (by decide), h1t] at h4; cases h4), S5.sub⟩)
      | 5, ho, h0, hK =>
        cases ho
        obtain ⟨q1, q2, q3, e2⟩ := g2 (hd ⟨2, .data⟩ (by simp) rfl)
        subst e2
        have h1t := hd ⟨1, .phase⟩ (by simp) rfl
        clear hd
        by_cases h4t : l.getD 4 false = true
        · exact ow_x0 _ _ _ rfl (g4 h4t).2 (b := W.heap.size + 1) (by simp) q1 q2 q3 rfl rfl (by kernel_rfl) (fun w5 S5 => hK _ _ ⟨_, _, _, _, _, _, _, _, _, _, _, _, _, _, _, _, _, _, rfl, by simpa using hsz, fun h => g0 (set_other (by decide) h), fun h => g1 (set_other (by decide) h), fun _ => ⟨q1, q2, q3, rfl⟩, fun h => g3 (set_other (by decide) h), fun _ => ⟨by rw [set_else (by decide)]; exact h1t, S5⟩, fun h => g6 (set_other (by decide) h), (fun h4 => by rw [set_else (by decide), h1t] at h4; cases h4), S5.sub⟩)
        · exact ow_x0 _ _ _ rfl gT (b := W.heap.size + 1) (by simp) q1 q2 q3 rfl rfl (by kernel_rfl) (fun w5 S5 => hK _ _ ⟨_, _, _, _, _, _, _, _, _, _, _, _, _, _, _, _, _, _, rfl, by simpa using hsz, fun h => g0 (set_other (by decide) h), fun h => g1 (set_other (by decide) h), fun _ => ⟨q1, q2, q3, rfl⟩, fun h => g3 (set_other (by decide) h), fun h => absurd (set_other (by decide) h) h4t, fun h => g6 (set_other (by decide) h), (fun h4 => by rw [set_else (by decide), h1t] at h4; cases h4), S5⟩)
      | 6, ho, h0, hK =>
        cases ho
        have e3 := g3 (hd ⟨3, .data⟩ (by simp) rfl)
        subst e3
        clear hd
        go_simp
        exact hK _ _ ⟨_, _, _, _, _, _, _, _, _, _, _, _, _, _, _, _, _, _, rfl, by simpa using hsz, fun h => g0 (set_other (by decide) h), fun h => g1 (set_other (by decide) h), fun h => g2 (set_other (by decide) h), fun _ => rfl, fun h => ⟨by rw [set_else (by decide)]; exact (g4 (set_other (by decide) h)).1, (g4 (set_other (by decide) h)).2⟩, fun _ => rfl, fun h4 => gS (by rw [set_else (by decide)] at h4; exact h4), gT⟩
      | i + 7, ho, h0, hK => simp at ho
    case fin =>
      rintro l a w' ⟨v19, v20, v21, v22, v4, x0, x1, x8, x9, x10, x11, x12, x13, x14, x15, x16, x17, x18, rfl, hsz, g0, g1, g2, g3, g4, g6, gS, gT⟩ hr
      have S9 := (g4 (all_listedA (by kernel_rfl) hsz hr 4 (by decide))).2
      have e6 := g6 (all_listedA (by kernel_rfl) hsz hr 6 (by decide))
      subst e6
      clear g0 g1 g2 g3 g4 g6 gS gT hr hsz HS
      obtain ⟨⟨fcs, hf, fT, fR⟩, _⟩ := S9.2 (W.heap.size, 1) (by simp)
      obtain ⟨⟨fx, fy, fz, hf2⟩, _⟩ := S9.2 (W.heap.size + 1, 0) (by simp)
      go_wp2_with fail
      refine bodyPost_ret (v := .tuple #[.agg fcs, .agg #[.int .i64 fx, .int .i64 fy, .int .i64 fz], (.float .f64 j)]) (results_cct Tryd.results33 _ _ W.heap.size (W.heap.size + 1) 45 47 fcs #[.int .i64 fx, .int .i64 fy, .int .i64 fz] (0, 0) (0, 0) _ _ _ rfl hf Tryd.underlying45 rfl (by rw [fT.size]; kernel_rfl) rfl hf2 Tryd.underlying47 rfl (by kernel_rfl) rfl) rfl ⟨fcs, fx, fy, fz, _, rfl, fT, fR, S9.1.is⟩
  · have bi0 : ((i : Int) == 0) = false := beq_eq_false_iff_ne.2 (by omega)
    clear hi0
    have HS := Lib.hid S4
    clear S4
    go_wp2_with fail
    refine wp_region_any (by kernel_rfl) ?_
    refine wpAny_inv (I_DrawMemPutReal W g (0 + 12 + 9 + 1) w3.heap.size (.float .f64 j)) ?hsz ?hg ?step ?fin 7 _ _ _ (by decide) ?init
    case hsz => rintro l a w ⟨_, _, _, _, _, _, _, _, _, _, _, _, _, _, _, _, _, _, _, h, _⟩; exact h
    case hg =>
      intro i o ho
      match i, ho with
      | 0, ho => cases ho; rfl
      | 1, ho => cases ho; rfl
      | 2, ho => cases ho; rfl
      | 3, ho => cases ho; rfl
      | 4, ho => cases ho; rfl
      | 5, ho => cases ho; rfl
      | 6, ho => cases ho; rfl
      | i + 7, ho => simp at ho
    case init => exact ⟨_, _, _, _, _, _, _, _, _, _, _, _, _, _, _, _, _, _, rfl, rfl, by simp, by simp, by simp, by simp, by simp, by simp, fun _ => HS.out.below ⟨rfl, rfl, rfl, Nat.le_refl _, fun _ _ => rfl⟩, Sx.le (n := 0 + 12 + 9 + 1) (HS.out.below ⟨rfl, rfl, rfl, Nat.le_refl _, fun _ _ => rfl⟩) (by omega)⟩
    case step =>
      rintro l a w' i o ⟨v19, v20, v21, v22, v4, x0, x1, x8, x9, x10, x11, x12, x13, x14, x15, x16, x17, x18, rfl, hsz, g0, g1, g2, g3, g4, g6, gS, gT⟩ ho h0 hd K hK
      match i, ho, h0, hK with
      | 0, ho, h0, hK =>
        cases ho
        clear hd
        go_simp
        exact hK _ _ ⟨_, _, _, _, _, _, _, _, _, _, _, _, _, _, _, _, _, _, rfl, by simpa using hsz, fun _ => rfl, fun h => g1 (set_other (by decide) h), fun h => g2 (set_other (by decide) h), fun h => g3 (set_other (by decide) h), fun h => ⟨by rw [set_else (by decide)]; exact (g4 (set_other (by decide) h)).1, (g4 (set_other (by decide) h)).2⟩, fun h => g6 (set_other (by decide) h), fun h4 => gS (by rw [set_else (by decide)] at h4; exact h4), gT⟩
      | 1, ho, h0, hK =>
        cases ho
        have h1f : l.getD 1 false = false := by rw [Array.getD_eq_getD_getElem?] at h0 ⊢; rw [Array.getElem?_eq_getElem (by omega)] at h0 ⊢; exact h0
        have e0 := g0 (hd ⟨0, .data⟩ (by simp) rfl)
        subst e0
        clear hd
        go_simp
        go_wp2_with fail
        refine (draw_w (gS h1f).rd (by omega)).mono ?_
        rintro e w4 ⟨cs, rfl, hT, hRg, h4⟩
        exact hK _ _ ⟨_, _, _, _, _, _, _, _, _, _, _, _, _, _, _, _, _, _, rfl, by simpa using hsz, fun _ => rfl, fun _ => ⟨cs, rfl, hT, hRg⟩, fun h => g2 (set_other (by decide) h), fun h => g3 (set_other (by decide) h), (fun h => by have := (g4 (set_other (by decide) h)).1; rw [h1f] at this; cases this), fun h => g6 (set_other (by decide) h), (fun h4 => by rw [set_same (by omega)] at h4; cases h4), (gS h1f).step h4⟩
      | 2, ho, h0, hK =>
        cases ho
        clear hd
        exact ow_l0 _ _ rfl gT (b := w3.heap.size) (by simp) rfl (by kernel_rfl) (by kernel_rfl) (fun q1 q2 q3 => hK _ _ ⟨_, _, _, _, _, _, _, _, _, _, _, _, _, _, _, _, _, _, rfl, by simpa using hsz, fun h => g0 (set_other (by decide) h), fun h => g1 (set_other (by decide) h), fun _ => ⟨q1, q2, q3, rfl⟩, fun h => g3 (set_other (by decide) h), fun h => ⟨by rw [set_else (by decide)]; exact (g4 (set_other (by decide) h)).1, (g4 (set_other (by decide) h)).2⟩, fun h => g6 (set_other (by decide) h), fun h4 => gS (by rw [set_else (by decide)] at h4; exact h4), gT⟩)
      | 3, ho, h0, hK =>
        cases ho
        clear hd
        go_simp
        exact hK _ _ ⟨_, _, _, _, _, _, _, _, _, _, _, _, _, _, _, _, _, _, rfl, by simpa using hsz, fun h => g0 (set_other (by decide) h), fun h => g1 (set_other (by decide) h), fun h => g2 (set_other (by decide) h), fun _ => rfl, fun h => ⟨by rw [set_else (by decide)]; exact (g4 (set_other (by decide) h)).1, (g4 (set_other (by decide) h)).2⟩, fun h => g6 (set_other (by decide) h), fun h4 => gS (by rw [set_else (by decide)] at h4; exact h4), gT⟩
      | 4, ho, h0, hK =>
        cases ho
        have h1t := hd ⟨1, .data⟩ (by simp) rfl
        obtain ⟨cs, e1, hT, hRg⟩ := g1 h1t
        subst e1
        clear hd
        exact ow_x2 _ _ _ rfl gT (b := W.heap.size) (by simp) cs rfl rfl hT hRg (by kernel_rfl) (fun w5 S5 => hK _ _ ⟨_, _, _, _, _, _, _, _, _, _, _, _, _, _, _, _, _, _, rfl, by simpa using hsz, fun h => g0 (set_other (by decide) h), fun _ => ⟨cs, rfl, hT, hRg⟩, fun h => g2 (set_other (by decide) h), fun h => g3 (set_other (by decide) h), fun _ => ⟨by rw [set_else (by decide)]; exact h1t, S5⟩, fun h => g6 (set_other (by decide) h), (fun h4 => by rw [set_else (by decide), h1t] at h4; cases h4), S5.sub⟩)
      | 5, ho, h0, hK =>
        cases ho
        obtain ⟨q1, q2, q3, e2⟩ := g2 (hd ⟨2, .data⟩ (by simp) rfl)
        subst e2
        have h1t := hd ⟨1, .phase⟩ (by simp) rfl
        clear hd
        by_cases h4t : l.getD 4 false = true
        · exact ow_x0 _ _ _ rfl (g4 h4t).2 (b := W.heap.size + 1) (by simp) q1 q2 q3 rfl rfl (by kernel_rfl) (fun w5 S5 => hK _ _ ⟨_, _, _, _, _, _, _, _, _, _, _, _, _, _, _, _, _, _, rfl, by simpa using hsz, fun h => g0 (set_other (by decide) h), fun h => g1 (set_other (by decide) h), fun _ => ⟨q1, q2, q3, rfl⟩, fun h => g3 (set_other (by decide) h), fun _ => ⟨by rw [set_else (by decide)]; exact h1t, S5⟩, fun h => g6 (set_other (by decide) h), (fun h4 => by rw [set_else (by decide), h1t] at h4; cases h4), S5.sub⟩)
        · exact ow_x0 _ _ _ rfl gT (b := W.heap.size + 1) (by simp) q1 q2 q3 rfl rfl (by kernel_rfl) (fun w5 S5 => hK _ _ ⟨_, _, _, _, _, _, _, _, _, _, _, _, _, _, _, _, _, _, rfl, by simpa using hsz, fun h => g0 (set_other (by decide) h), fun h => g1 (set_other (by decide) h), fun _ => ⟨q1, q2, q3, rfl⟩, fun h => g3 (set_other (by decide) h), fun h => absurd (set_other (by decide) h) h4t, fun h => g6 (set_other (by decide) h), (fun h4 => by rw [set_else (by decide), h1t] at h4; cases h4), S5⟩)
      | 6, ho, h0, hK =>
        cases ho
        have e3 := g3 (hd ⟨3, .data⟩ (by simp) rfl)
        subst e3
        clear hd
        go_simp
        exact hK _ _ ⟨_, _, _, _, _, _, _, _, _, _, _, _, _, _, _, _, _, _, rfl, by simpa using hsz, fun h => g0 (set_other (by decide) h), fun h => g1 (set_other (by decide) h), fun h => g2 (set_other (by decide) h), fun _ => rfl, fun h => ⟨by rw [set_else (by decide)]; exact (g4 (set_other (by decide) h)).1, (g4 (set_other (by decide) h)).2⟩, fun _ => rfl, fun h4 => gS (by rw [set_else (by decide)] at h4; exact h4), gT⟩
      | i + 7, ho, h0, hK => simp at ho
    case fin =>
      rintro l a w' ⟨v19, v20, v21, v22, v4, x0, x1, x8, x9, x10, x11, x12, x13, x14, x15, x16, x17, x18, rfl, hsz, g0, g1, g2, g3, g4, g6, gS, gT⟩ hr
      have S9 := (g4 (all_listedA (by kernel_rfl) hsz hr 4 (by decide))).2
      have e6 := g6 (all_listedA (by kernel_rfl) hsz hr 6 (by decide))
      subst e6
      clear g0 g1 g2 g3 g4 g6 gS gT hr hsz HS
      obtain ⟨⟨fcs, hf, fT, fR⟩, _⟩ := S9.2 (W.heap.size, 1) (by simp)
      obtain ⟨⟨fx, fy, fz, hf2⟩, _⟩ := S9.2 (W.heap.size + 1, 0) (by simp)
      go_wp2_with fail
      refine bodyPost_ret (v := .tuple #[.agg fcs, .agg #[.int .i64 fx, .int .i64 fy, .int .i64 fz], (.float .f64 j)]) (results_cct Tryd.results33 _ _ W.heap.size (W.heap.size + 1) 45 47 fcs #[.int .i64 fx, .int .i64 fy, .int .i64 fz] (0, 0) (0, 0) _ _ _ rfl hf Tryd.underlying45 rfl (by rw [fT.size]; kernel_rfl) rfl hf2 Tryd.underlying47 rfl (by kernel_rfl) rfl) rfl ⟨fcs, fx, fy, fz, _, rfl, fT, fR, S9.1.is⟩

end Go.Proofs.YtnffgafofkknoaaDoor.draws

/-! Bits -/
namespace Go.Proofs.YtnffgafofkknoaaDoor.bitm
open Go Go.RowKit
set_option linter.unusedVariables false
set_option linter.unusedSimpArgs false

/-- Bit j of a word. -/
def bitAt (x : Int) (j : Nat) : Bool := x / 2 ^ j % 2 == 1
/-- A word with bit j put. -/
def turned (x : Int) (j : Nat) (b : Bool) : Int := if bitAt x j = b then x else if b then x + 2 ^ j else x - 2 ^ j

theorem split_at (x j : Nat) : ∃ a c d, x = 2 ^ j * (2 * a + c) + d ∧ d < 2 ^ j ∧ c < 2 ∧ x / 2 ^ j % 2 = c ∧ x / 2 ^ j / 2 = a ∧ x % 2 ^ j = d := by
  have hp : 0 < 2 ^ j := Nat.two_pow_pos j
  refine ⟨x / 2 ^ j / 2, x / 2 ^ j % 2, x % 2 ^ j, ?_, Nat.mod_lt _ hp, Nat.mod_lt _ (by decide), rfl, rfl, rfl⟩
  rw [Nat.div_add_mod (x / 2 ^ j) 2]
  exact (Nat.div_add_mod x (2 ^ j)).symm
theorem test_split {a c d j : Nat} (hd : d < 2 ^ j) (hc : c < 2) (i : Nat) : (2 ^ j * (2 * a + c) + d).testBit i = if i < j then d.testBit i else if i = j then decide (c = 1) else a.testBit (i - j - 1) := by
  rw [Nat.testBit_two_pow_mul_add _ hd]
  by_cases h : i < j
  · rw [if_pos h, if_pos h]
  · rw [if_neg h, if_neg h]
    by_cases h2 : i = j
    · subst h2
      rw [if_pos rfl, Nat.sub_self, Nat.testBit_zero]
      congr 1
      exact propext ⟨fun h => by omega, fun h => by omega⟩
    · rw [if_neg h2]
      obtain ⟨m, hm⟩ : ∃ m, i - j = m + 1 := ⟨i - j - 1, by omega⟩
      rw [hm, Nat.testBit_succ, show (2 * a + c) / 2 = a by omega]
      congr 1
theorem put_nat (B x j : Nat) (b : Bool) (hx : x < 2 ^ B) (hj : j < B) {a c d : Nat} (e : x = 2 ^ j * (2 * a + c) + d) (hd : d < 2 ^ j) (hc : c < 2) :
    (x &&& (2 ^ B - (2 ^ j + 1))) ||| (b.toNat * 2 ^ j) = 2 ^ j * (2 * a + b.toNat) + d := by
  have hlt : 2 ^ j < 2 ^ B := Nat.pow_lt_pow_right (by decide) hj
  apply Nat.eq_of_testBit_eq
  intro i
  rw [test_split hd (by cases b <;> decide), Nat.testBit_or, Nat.testBit_and, Nat.testBit_two_pow_sub_succ hlt, Nat.testBit_two_pow]
  have hb : (b.toNat * 2 ^ j).testBit i = (b && decide (j = i)) := by
    cases b
    · simp
    · simp only [Bool.toNat_true, Nat.one_mul, Nat.testBit_two_pow, Bool.true_and]
  have hx2 := test_split (a := a) hd hc i
  rw [← e] at hx2
  rw [hb, hx2]
  by_cases hi : i < B
  · by_cases h1 : i < j
    · have : ¬ j = i := by omega
      simp [h1, this, hi]
    · by_cases h2 : i = j
      · subst h2
        cases b <;> simp
      · have : ¬ j = i := by omega
        simp [h1, h2, this, hi]
  · have h1 : ¬ i < j := by omega
    have h2 : ¬ i = j := by omega
    have h3 : ¬ j = i := by omega
    have h0 : x.testBit i = false := Nat.testBit_lt_two_pow (Nat.lt_of_lt_of_le hx (Nat.pow_le_pow_right (by decide) (by omega)))
    rw [hx2, if_neg h1, if_neg h2] at h0
    simp [h1, h2, h3, h0]
theorem pow_cast (j : Nat) : ((2 ^ j : Nat) : Int) = 2 ^ j := by simp
theorem bitAt_nat {x j a c d : Nat} (e : x = 2 ^ j * (2 * a + c) + d) (hd : d < 2 ^ j) (hc : c < 2) : bitAt (x : Int) j = decide (c = 1) := by
  unfold bitAt
  have hp : 0 < 2 ^ j := Nat.two_pow_pos j
  rw [← pow_cast, ← Int.natCast_ediv, show ((2 : Int)) = ((2 : Nat) : Int) from rfl, ← Int.natCast_emod]
  have : x / 2 ^ j % 2 = c := by
    rw [e, Nat.mul_add_div hp, Nat.div_eq_of_lt hd]
    omega
  rw [this]
  have hcc : c = 0 ∨ c = 1 := by omega
  rcases hcc with rfl | rfl <;> rfl
theorem turned_nat {x j a c d : Nat} (b : Bool) (e : x = 2 ^ j * (2 * a + c) + d) (hd : d < 2 ^ j) (hc : c < 2) : turned (x : Int) j b = ((2 ^ j * (2 * a + b.toNat) + d : Nat) : Int) := by
  unfold turned
  rw [bitAt_nat e hd hc, ← pow_cast, e]
  have hcc : c = 0 ∨ c = 1 := by omega
  generalize 2 ^ j = p
  rcases hcc with rfl | rfl <;> cases b <;> simp [Nat.mul_add] <;> omega

theorem ofInt_nat (B x : Nat) (h : x < 2 ^ B) : (BitVec.ofInt B (x : Int)).toNat = x := by
  rw [BitVec.ofInt_natCast, BitVec.toNat_ofNat]; exact Nat.mod_eq_of_lt h

/-- The kinds without a sign. -/
def un (k : IntKind) : Prop := k = .u16 ∨ k = .u32 ∨ k = .u64
theorem wrap_un {k : IntKind} (hk : un k) (x : Nat) (h : x < 2 ^ k.bits) : k.wrap (x : Int) = x := by
  rcases hk with rfl | rfl | rfl <;> simp [IntKind.wrap, IntKind.bits, IntKind.signed] at h ⊢ <;> omega
theorem and_one {k : IntKind} (hk : un k) (x : Nat) (h : x < 2 ^ k.bits) : bits .and k (x : Int) 1 = ((x % 2 : Nat) : Int) := by
  have h1 : (BitVec.ofInt k.bits (1 : Int)).toNat = 1 := by rcases hk with rfl | rfl | rfl <;> decide
  have h2 : x % 2 < 2 ^ k.bits := Nat.lt_of_le_of_lt (Nat.mod_le _ _) h
  show k.wrap ((BitVec.ofInt k.bits (x : Int) &&& BitVec.ofInt k.bits 1).toNat : Int) = _
  rw [BitVec.toNat_and, ofInt_nat _ _ h, h1, Nat.and_one_is_mod]
  exact wrap_un hk _ h2
/-- The test of a bit by a shift. -/
theorem shr_bit {k : IntKind} (hk : un k) (x : Int) (j : Nat) (h0 : 0 ≤ x) (h : x < 2 ^ k.bits) : (bits .and k (x / 2 ^ j) 1 == 1) = bitAt x j := by
  obtain ⟨x, rfl⟩ := Int.eq_ofNat_of_zero_le h0
  rw [← pow_cast] at h
  have h' : x < 2 ^ k.bits := by exact_mod_cast h
  rw [← pow_cast, ← Int.natCast_ediv, and_one hk _ (Nat.lt_of_le_of_lt (Nat.div_le_self _ _) h')]
  unfold bitAt
  rw [← pow_cast, ← Int.natCast_ediv]
  rfl
/-- A bit put by masks. -/
theorem mask_put {k : IntKind} (hk : un k) (x : Int) (j : Nat) (b : Bool) (h0 : 0 ≤ x) (h : x < 2 ^ k.bits) (hj : j < k.bits) :
    bits .or k (bits .andNot k x (2 ^ j)) ((b.toNat : Int) * 2 ^ j) = turned x j b := by
  obtain ⟨x, rfl⟩ := Int.eq_ofNat_of_zero_le h0
  rw [← pow_cast] at h
  have h' : x < 2 ^ k.bits := by exact_mod_cast h
  obtain ⟨a, c, d, e, hd, hc, _⟩ := split_at x j
  have hlt : 2 ^ j < 2 ^ k.bits := Nat.pow_lt_pow_right (by decide) hj
  have hb : b.toNat * 2 ^ j < 2 ^ k.bits := by cases b <;> simp <;> omega
  have hand : bits .andNot k (x : Int) (2 ^ j) = ((x &&& (2 ^ k.bits - (2 ^ j + 1)) : Nat) : Int) := by
    show k.wrap ((BitVec.ofInt k.bits (x : Int) &&& ~~~BitVec.ofInt k.bits (2 ^ j)).toNat : Int) = _
    rw [← pow_cast j, BitVec.toNat_and, BitVec.toNat_not, ofInt_nat _ _ h', ofInt_nat _ _ hlt, show 2 ^ k.bits - 1 - 2 ^ j = 2 ^ k.bits - (2 ^ j + 1) by omega]
    exact wrap_un hk _ (Nat.lt_of_le_of_lt Nat.and_le_left h')
  have hor := put_nat k.bits x j b h' hj e hd hc
  rw [hand, turned_nat b e hd hc, ← hor]
  show k.wrap ((BitVec.ofInt k.bits (((x &&& (2 ^ k.bits - (2 ^ j + 1)) : Nat)) : Int) ||| BitVec.ofInt k.bits ((b.toNat : Int) * 2 ^ j)).toNat : Int) = _
  rw [← pow_cast j, ← Int.natCast_mul, BitVec.toNat_or, ofInt_nat _ _ (Nat.lt_of_le_of_lt Nat.and_le_left h'), ofInt_nat _ _ hb]
  exact wrap_un hk _ (Nat.or_lt_two_pow (Nat.lt_of_le_of_lt Nat.and_le_left h') hb)
theorem turned_in (B : Nat) (x : Int) (j : Nat) (b : Bool) (h0 : 0 ≤ x) (h : x < 2 ^ B) (hj : j < B) : 0 ≤ turned x j b ∧ turned x j b < 2 ^ B := by
  obtain ⟨x, rfl⟩ := Int.eq_ofNat_of_zero_le h0
  rw [← pow_cast] at h
  have h' : x < 2 ^ B := by exact_mod_cast h
  obtain ⟨a, c, d, e, hd, hc, _⟩ := split_at x j
  have hor := put_nat B x j b h' hj e hd hc
  have hlt : 2 ^ j < 2 ^ B := Nat.pow_lt_pow_right (by decide) hj
  have hb : b.toNat * 2 ^ j < 2 ^ B := by cases b <;> simp <;> omega
  have := Nat.or_lt_two_pow (Nat.lt_of_le_of_lt Nat.and_le_left h') hb (x := x &&& (2 ^ B - (2 ^ j + 1)))
  rw [turned_nat b e hd hc, ← hor]
  refine ⟨Int.natCast_nonneg _, ?_⟩
  rw [← pow_cast]
  exact_mod_cast this
/-- Halving j times. -/
theorem halve (x : Int) (j : Nat) : x / 2 ^ j / 2 = x / 2 ^ (j + 1) := by
  rw [Int.ediv_ediv_of_nonneg (Int.pow_nonneg (by decide)), Int.pow_succ]
theorem bitAt_turned (x : Int) (j : Nat) (b : Bool) (h0 : 0 ≤ x) : bitAt (turned x j b) j = b := by
  obtain ⟨x, rfl⟩ := Int.eq_ofNat_of_zero_le h0
  obtain ⟨a, c, d, e, hd, hc, _⟩ := split_at x j
  rw [turned_nat b e hd hc, bitAt_nat (a := a) (c := b.toNat) rfl hd (by cases b <;> decide)]
  cases b <;> rfl
theorem test_bitAt (x i : Nat) : bitAt (x : Int) i = x.testBit i := by
  obtain ⟨a, c, d, e, hd, hc, _⟩ := split_at x i
  rw [bitAt_nat e hd hc, e, test_split hd hc, if_neg (by omega), if_pos rfl]
theorem bitAt_other (x : Int) (j i : Nat) (b : Bool) (h0 : 0 ≤ x) (h : i ≠ j) : bitAt (turned x j b) i = bitAt x i := by
  obtain ⟨x, rfl⟩ := Int.eq_ofNat_of_zero_le h0
  obtain ⟨a, c, d, e, hd, hc, _⟩ := split_at x j
  rw [turned_nat b e hd hc, test_bitAt, test_bitAt, e, test_split hd hc, test_split hd (by cases b <;> decide)]
  by_cases h1 : i < j
  · simp [h1]
  · simp [h1, h]
theorem turned_back (x : Int) (j : Nat) (b : Bool) (h0 : 0 ≤ x) : turned (turned x j b) j (bitAt x j) = x := by
  obtain ⟨x, rfl⟩ := Int.eq_ofNat_of_zero_le h0
  obtain ⟨a, c, d, e, hd, hc, _⟩ := split_at x j
  rw [bitAt_nat e hd hc, turned_nat b e hd hc, turned_nat (decide (c = 1)) (a := a) (c := b.toNat) rfl hd (by cases b <;> decide), e]
  have hcc : c = 0 ∨ c = 1 := by omega
  rcases hcc with rfl | rfl <;> rfl
end Go.Proofs.YtnffgafofkknoaaDoor.bitm

/-! BitWalk -/
namespace Go.Proofs.YtnffgafofkknoaaDoor.bitm
open Go Go.RowKit Go.Proofs.YtnffgafofkknoaaDoor.part
set_option linter.unusedVariables false
set_option linter.unusedSimpArgs false

theorem bit_any (b : Bool) (w : World) : Calls Tryd.prog 53 #[.bool b] w fun e w' => e = .returned (.int .u64 b.toNat) ∧ w = w' := by
  cases b
  all_goals
    go_enter Tryd.func53, Tryd.ntmps53
    go_wp2
    go_ret
    exact ⟨rfl, rfl⟩

theorem halve_w (x : Int) (k : Nat) (h0 : 0 ≤ x) (h1 : x < 18446744073709551616) : IntKind.u64.wrap ((x / 2 ^ k).tdiv 2) = x / 2 ^ (k + 1) := by
  have hp : (0 : Int) < 2 ^ k := Int.pow_pos (by decide)
  have hq : 0 ≤ x / 2 ^ k := Int.ediv_nonneg h0 (Int.le_of_lt hp)
  have hl : x / 2 ^ k ≤ x := Int.ediv_le_self _ h0
  rw [Int.tdiv_eq_ediv_of_nonneg hq, IntKind.wrap_u64, ← halve]
  omega
def small (x : Int) : Prop := 0 ≤ x ∧ x < 18446744073709551616

set_option maxRecDepth 100000 in
theorem l5Bit_any (x : Int) (j : Nat) (h : small x) (hj : j ≤ 64) (w : World) : Calls Tryd.prog 44 #[.int .u64 x, .int .i64 j] w fun e w' => e = .returned (.bool (bitAt x j)) ∧ w = w' := by
  have H := Lib.hid h
  clear h
  go_enter Tryd.func44, Tryd.ntmps44
  go_wp2
  go_loop [0, 5] (fun v i => ∃ k : Nat, k ≤ j ∧ i = .int .i64 k ∧ v = .int .u64 (x / 2 ^ k)) (fun _ i => j - (intOf i).toNat)
  case atStart => exact ⟨0, by omega, rfl, by simp⟩
  case round =>
    obtain ⟨k, hk, rfl, rfl⟩ := hrel
    have Hh := Lib.hid (halve_w x k H.out.1 H.out.2)
    have hq : 0 ≤ x / 2 ^ k := Int.ediv_nonneg H.out.1 (Int.pow_nonneg (by decide))
    by_cases hlt : k < j
    · clear hq
      go_wp2
      go_round
      case rel => exact ⟨k + 1, by omega, by go_num, by rw [Hh.out]⟩
      case measure => simp [intOf]; omega
    · obtain rfl : k = j := by omega
      go_wp2
      go_ret
      exact ⟨rfl, rfl⟩

theorem double_w (k : Nat) (h : k < 63) : IntKind.u64.wrap (2 ^ k * 2) = 2 ^ (k + 1) := by
  have h2 : (2 : Nat) ^ (k + 1) ≤ 2 ^ 63 := Nat.pow_le_pow_right (by decide) (by omega)
  rw [Int.pow_succ, IntKind.wrap_u64, ← pow_cast]
  rw [Nat.pow_succ] at h2
  omega

set_option maxRecDepth 100000 in
theorem l5Turned_any (x : Int) (j : Nat) (b : Bool) (h : small x) (ht : small (turned x j b)) (hj : j < 64) (w : World) : Calls Tryd.prog 52 #[.int .u64 x, .int .i64 j, .bool b] w fun e w' => e = .returned (.int .u64 (turned x j b)) ∧ w = w' := by
  have H := Lib.hid h
  have HT := Lib.hid ht
  by_cases hb : bitAt x j = b
  · have Hv := Lib.hid (show x = turned x j b by unfold turned; rw [if_pos hb])
    subst hb
    clear h ht
    go_enter Tryd.func52, Tryd.ntmps52
    go_wp2_with fail
    refine (l5Bit_any x j H.out (by omega) _).mono ?_
    rintro e w' ⟨rfl, rfl⟩
    go_wp2_with fail
    go_ret
    exact ⟨kit.ret_int Hv.out, rfl⟩
  · have hne : (bitAt x j == b) = false := beq_eq_false_iff_ne.2 hb
    have Hv := Lib.hid (show turned x j b = if b then x + 2 ^ j else x - 2 ^ j by unfold turned; rw [if_neg hb])
    obtain ⟨q, hq⟩ : ∃ q, bitAt x j = q := ⟨_, rfl⟩
    have Hq := Lib.hid hq
    rw [hq] at hne
    clear h ht hb hq
    go_enter Tryd.func52, Tryd.ntmps52
    go_wp2_with fail
    refine (l5Bit_any x j H.out (by omega) _).mono ?_
    rintro e w' ⟨rfl, rfl⟩
    rw [Hq.out]
    go_wp2_with fail
    go_loop [7, 8] (fun v i => ∃ k : Nat, k ≤ j ∧ i = .int .i64 k ∧ v = .int .u64 (2 ^ k)) (fun _ i => j - (intOf i).toNat)
    case atStart => exact ⟨0, by omega, rfl, by simp⟩
    case round =>
      obtain ⟨k, hk, rfl, rfl⟩ := hrel
      by_cases hlt : k < j
      · have Hh := Lib.hid (double_w k (by omega))
        go_wp2
        go_round
        case rel => exact ⟨k + 1, by omega, by go_num, by rw [Hh.out]⟩
        case measure => simp [intOf]; omega
      · obtain rfl : k = j := by omega
        cases b
        · have Hw := Lib.hid (show IntKind.u64.wrap (x - 2 ^ k) = turned x k false by
            have e : turned x k false = x - 2 ^ k := by rw [Hv.out]; rfl
            have := HT.out
            rw [e] at this ⊢
            unfold small at this
            rw [IntKind.wrap_u64]; omega)
          clear Hv
          go_wp2
          go_ret
          exact ⟨kit.ret_int Hw.out, rfl⟩
        · have Hw := Lib.hid (show IntKind.u64.wrap (x + 2 ^ k) = turned x k true by
            have e : turned x k true = x + 2 ^ k := by rw [Hv.out]; rfl
            have := HT.out
            rw [e] at this ⊢
            unfold small at this
            rw [IntKind.wrap_u64]; omega)
          clear Hv
          go_wp2
          go_ret
          exact ⟨kit.ret_int Hw.out, rfl⟩

def tru : Value → Bool | .bool b => b | _ => false
def numb : Value → Int | .int _ q => q | _ => 0
/-- A given bit. -/
def given (cs : Array Value) (j : Int) : Bool := if j = 0 then true else if j = 2 then !tru (cel cs 134) else if j = 3 then tru (cel cs 135) else if j = 4 then decide (500 ≤ numb (cel cs 133) % 1000) else false

set_option maxRecDepth 100000 in
theorem l5Given_any (cs : Array Value) (t : Int) (a b : Bool) (h1 : cs[133]? = some (.int .u32 t)) (h2 : cs[134]? = some (.bool a)) (h3 : cs[135]? = some (.bool b)) (h0 : 0 ≤ t) (j : Int) (w : World) :
    Calls Tryd.prog 45 #[.agg cs, .int .i64 j] w fun e w' => e = .returned (.bool (given cs j)) ∧ Below w.heap.size w w' := by
  have KB := Lib.hid (kit.box_new w cs 45)
  have B := Lib.hid ((Below.refl w.heap.size w).alloc (Nat.le_refl _) (.cells cs 45))
  have c1 := kit.box_cell KB.out 133 h1
  have c2 := kit.box_cell KB.out 134 h2
  have c3 := kit.box_cell KB.out 135 h3
  have g1 := cel_is h1
  have g2 := cel_is h2
  have g3 := cel_is h3
  clear h1 h2 h3
  by_cases j0 : j = 0
  · subst j0
    have Hv := Lib.hid (show true = given cs 0 from rfl)
    clear g1 g2 g3 c1 c2 c3
    go_enter Tryd.func45, Tryd.ntmps45
    go_wp2
    go_ret
    exact ⟨kit.ret_bool Hv.out, B.out⟩
  by_cases j2 : j = 2
  · subst j2
    have Hv := Lib.hid (show (!a) = given cs 2 by unfold given; rw [if_neg (by decide), if_pos rfl, g2]; rfl)
    clear g1 g2 g3 c1 c3 j0
    go_enter Tryd.func45, Tryd.ntmps45
    go_wp2
    go_ret
    exact ⟨kit.ret_bool Hv.out, B.out⟩
  by_cases j3 : j = 3
  · subst j3
    have Hv := Lib.hid (show b = given cs 3 by unfold given; rw [if_neg (by decide), if_neg (by decide), if_pos rfl, g3]; rfl)
    clear g1 g2 g3 c1 c2 j0 j2
    go_enter Tryd.func45, Tryd.ntmps45
    go_wp2
    go_ret
    exact ⟨kit.ret_bool Hv.out, B.out⟩
  by_cases j4 : j = 4
  · subst j4
    have Hv := Lib.hid (show decide (500 ≤ t % 1000) = given cs 4 by unfold given; rw [if_neg (by decide), if_neg (by decide), if_neg (by decide), if_pos rfl, g1]; rfl)
    clear g1 g2 g3 c2 c3 j0 j2 j3
    go_enter Tryd.func45, Tryd.ntmps45
    go_wp2
    go_ret
    exact ⟨kit.ret_bool Hv.out, B.out⟩
  · have Hv := Lib.hid (show false = given cs j by unfold given; rw [if_neg j0, if_neg j2, if_neg j3, if_neg j4])
    have b0 : (j == 0) = false := beq_eq_false_iff_ne.2 j0
    have b2 : (j == 2) = false := beq_eq_false_iff_ne.2 j2
    have b3 : (j == 3) = false := beq_eq_false_iff_ne.2 j3
    have b4 : (j == 4) = false := beq_eq_false_iff_ne.2 j4
    clear g1 g2 g3 c1 c2 c3 j0 j2 j3 j4
    go_enter Tryd.func45, Tryd.ntmps45
    go_wp2
    go_ret
    exact ⟨kit.ret_bool Hv.out, B.out⟩
end Go.Proofs.YtnffgafofkknoaaDoor.bitm

/-! Place -/
namespace Go.Proofs.YtnffgafofkknoaaDoor.dev
open Go Go.RowKit
set_option linter.unusedVariables false
set_option linter.unusedSimpArgs false

theorem cell_stays {w w' : World} {a : Addr} {v : Value} (h : w.cell? a = some v) (hb : Below w.heap.size w w') : w'.cell? a = some v := by
  rw [hb.cell (p := a) (block_lt_of_cell h)]; exact h
theorem Sizes.below {w w' : World} (h : Sizes w) (hb : Below w.heap.size w w') : Sizes w' := by
  obtain ⟨b, off, hc, hel⟩ := h
  exact ⟨b, off, cell_stays hc hb, fun j hj => cell_stays (hel j hj) hb⟩
theorem below_drewN {B : Nat} (w : World) (n : Nat) : Below B w (w.drewN n) := ⟨rfl, rfl, rfl, Nat.le_refl _, fun _ _ => rfl⟩
theorem Sizes.drewN {w : World} (h : Sizes w) (n : Nat) : Sizes (w.drewN n) := h.below (below_drewN w n)
theorem Sizes.alloc {w : World} (h : Sizes w) (o : Obj) : Sizes (w.alloc o) := h.below ((Below.refl _ _).alloc (Nat.le_refl _) _)

def cnt (k : Int) : Int := if k = 6 then 8 else size k
def plc (k n : Int) : Int := if cnt k = 0 then 0 else n % cnt k
theorem size_le (k : Int) : 0 ≤ size k ∧ size k ≤ 64 := by
  unfold size
  split
  · omega
  · split
    · omega
    · have h : k = 1 ∨ k = 2 ∨ k = 3 ∨ k = 4 ∨ k = 5 ∨ k = 6 ∨ k = 7 ∨ k = 8 ∨ k = 9 ∨ k = 10 := by omega
      rcases h with rfl | rfl | rfl | rfl | rfl | rfl | rfl | rfl | rfl | rfl <;> decide
theorem cnt_le (k : Int) : 0 ≤ cnt k ∧ cnt k ≤ 64 := by
  unfold cnt
  split
  · omega
  · exact size_le k
theorem plc_in (k n : Int) : 0 ≤ plc k n ∧ (cnt k ≠ 0 → plc k n < cnt k) := by
  have h := cnt_le k
  unfold plc
  split
  · exact ⟨by omega, fun h => absurd ‹_› h⟩
  · exact ⟨Int.emod_nonneg _ (by omega), fun _ => Int.emod_lt_of_pos _ (by omega)⟩
theorem w64' (n : Int) (h : -9223372036854775808 ≤ n ∧ n ≤ 9223372036854775807) : wrap64 n = n := by unfold wrap64; omega
theorem round_impl (n c : Int) (h0 : 0 < c) (h1 : c ≤ 64) : Int.tmod (wrap64 (Int.tmod n c + c)) c = n % c := by
  have h2 : Int.tmod n c = if 0 ≤ n ∨ c ∣ n then n % c else n % c - c := by
    rw [Int.tmod_eq_emod]
    split
    · simp
    · rw [show (c.natAbs : Int) = c by omega]
  have h3 := Int.emod_nonneg n (show c ≠ 0 by omega)
  have h4 := Int.emod_lt_of_pos n h0
  rw [w64' _ (by rw [h2]; split <;> omega)]
  rw [Int.tmod_eq_emod_of_nonneg (by rw [h2]; split <;> omega)]
  rw [h2]
  split
  · rw [Int.add_emod_right, Int.emod_emod]
  · rw [show n % c - c + c = n % c by omega, Int.emod_emod]
theorem round_spec (n c : Int) (h0 : 0 < c) (h1 : c ≤ 64) : (Int.tmod n c < 0 → wrap64 (Int.tmod n c + c) = n % c) ∧ (¬ Int.tmod n c < 0 → Int.tmod n c = n % c) := by
  have h2 : Int.tmod n c = if 0 ≤ n ∨ c ∣ n then n % c else n % c - c := by
    rw [Int.tmod_eq_emod]
    split
    · simp
    · rw [show (c.natAbs : Int) = c by omega]
  have h3 := Int.emod_nonneg n (show c ≠ 0 by omega)
  have h4 := Int.emod_lt_of_pos n h0
  constructor
  · intro h
    rw [w64' _ (by rw [h2]; split <;> omega)]
    rw [h2] at h ⊢
    split <;> omega
  · intro h
    rw [h2] at h ⊢
    split <;> omega

theorem impl_place (k n p : Int) (w : World) (hs : Sizes w) : Calls Tryd.prog 43 #[.agg #[.int .i64 k, .int .i64 n, .int .i64 p]] w fun e w' => e = .returned (.int .i64 (plc k n)) ∧ Below w.heap.size w w' := by
  have Hs := Lib.hid (hs.alloc (.cells #[.int .i64 k, .int .i64 n, .int .i64 p] 47))
  have hc := cnt_le k
  have hv : Hid (plc k n = if cnt k = 0 then 0 else n % cnt k) := Lib.hid rfl
  have hk : Hid (cnt k = if k = 6 then 8 else size k) := Lib.hid rfl
  have hr : Hid (0 < cnt k → Int.tmod (wrap64 (Int.tmod n (cnt k) + cnt k)) (cnt k) = n % cnt k) := Lib.hid fun h => round_impl n _ h hc.2
  clear hs
  by_cases h6 : k = 6
  · subst h6
    have hk8 : cnt 6 = 8 := rfl
    rw [hk8] at hv hr
    have Hc := Lib.hid hc
    clear hk hk8 hc
    go_enter Tryd.func43, Tryd.ntmps43
    go_wp2_with fail
    refine (impl_size _ _ Hs.out).mono ?_
    rintro e w' ⟨rfl, rfl⟩
    go_wp2_with fail
    go_ret
    exact ⟨kit.ret_int (by rw [hv.out, if_neg (by decide)]; exact hr.out (by decide)), (Below.refl _ _).alloc (Nat.le_refl _) _⟩
  · have b6 : (k == 6) = false := beq_eq_false_iff_ne.2 h6
    rw [if_neg h6] at hk
    have hkk := hk.out
    rw [hkk] at hv hr hc
    have hm : ∃ c, size k = c := ⟨_, rfl⟩
    obtain ⟨c, hsc⟩ := hm
    rw [hsc] at hv hr hc
    have Hsc := Lib.hid hsc
    clear hk hkk hsc h6
    by_cases h0 : c = 0
    · subst h0
      have Hv := Lib.hid (show plc k n = 0 by rw [hv.out, if_pos rfl])
      clear hv hr hc
      go_enter Tryd.func43, Tryd.ntmps43
      go_wp2_with fail
      refine (impl_size _ _ Hs.out).mono ?_
      rintro e w' ⟨rfl, rfl⟩
      rw [Hsc.out]
      go_wp2_with fail
      go_ret
      exact ⟨kit.ret_int Hv.out.symm, (Below.refl _ _).alloc (Nat.le_refl _) _⟩
    · have b0 : (c == 0) = false := beq_eq_false_iff_ne.2 h0
      have Hv := Lib.hid (show plc k n = Int.tmod (wrap64 (Int.tmod n c + c)) c by rw [hv.out, if_neg h0, hr.out (by omega)])
      clear hv hr hc
      go_enter Tryd.func43, Tryd.ntmps43
      go_wp2_with fail
      refine (impl_size _ _ Hs.out).mono ?_
      rintro e w' ⟨rfl, rfl⟩
      rw [Hsc.out]
      go_wp2_with fail
      go_ret
      exact ⟨kit.ret_int Hv.out.symm, (Below.refl _ _).alloc (Nat.le_refl _) _⟩
theorem spec_place (k n p : Int) (w : World) : Calls Tryd.prog 36 #[.agg #[.int .i64 k, .int .i64 n, .int .i64 p]] w fun e w' => e = .returned (.int .i64 (plc k n)) ∧ Below w.heap.size w w' := by
  have hc := cnt_le k
  have hv : Hid (plc k n = if cnt k = 0 then 0 else n % cnt k) := Lib.hid rfl
  have hk : Hid (cnt k = if k = 6 then 8 else size k) := Lib.hid rfl
  have hr : Hid (0 < cnt k → (Int.tmod n (cnt k) < 0 → wrap64 (Int.tmod n (cnt k) + cnt k) = n % cnt k) ∧ (¬ Int.tmod n (cnt k) < 0 → Int.tmod n (cnt k) = n % cnt k)) := Lib.hid fun h => round_spec n _ h hc.2
  by_cases h6 : k = 6
  · subst h6
    have hk8 : cnt 6 = 8 := rfl
    rw [hk8] at hv hr
    have Hc := Lib.hid hc
    clear hk hk8 hc
    have hv8 := hv.out
    rw [if_neg (by decide)] at hv8
    have Hv := Lib.hid hv8
    clear hv8 hv
    by_cases hneg : Int.tmod n 8 < 0
    · have Hr := Lib.hid ((hr.out (by decide)).1 hneg)
      clear hr
      go_enter Tryd.func36, Tryd.ntmps36
      go_wp2_with fail
      refine (spec_size _ _).mono ?_
      rintro e w' ⟨rfl, rfl⟩
      go_wp2_with fail
      go_ret
      exact ⟨kit.ret_int (Hr.out.trans Hv.out.symm), (Below.refl _ _).alloc (Nat.le_refl _) _⟩
    · have Hr := Lib.hid ((hr.out (by decide)).2 hneg)
      have hnd : decide (Int.tmod n 8 < 0) = false := decide_eq_false hneg
      clear hr
      go_enter Tryd.func36, Tryd.ntmps36
      go_wp2_with fail
      refine (spec_size _ _).mono ?_
      rintro e w' ⟨rfl, rfl⟩
      go_wp2_with fail
      go_ret
      exact ⟨kit.ret_int (Hr.out.trans Hv.out.symm), (Below.refl _ _).alloc (Nat.le_refl _) _⟩
  · have b6 : (k == 6) = false := beq_eq_false_iff_ne.2 h6
    rw [if_neg h6] at hk
    have hkk := hk.out
    rw [hkk] at hv hr hc
    have hm : ∃ c, size k = c := ⟨_, rfl⟩
    obtain ⟨c, hsc⟩ := hm
    rw [hsc] at hv hr hc
    have Hsc := Lib.hid hsc
    clear hk hkk hsc h6
    by_cases h0 : c = 0
    · subst h0
      have Hv := Lib.hid (show plc k n = 0 by rw [hv.out, if_pos rfl])
      clear hv hr hc
      go_enter Tryd.func36, Tryd.ntmps36
      go_wp2_with fail
      refine (spec_size _ _).mono ?_
      rintro e w' ⟨rfl, rfl⟩
      rw [Hsc.out]
      go_wp2_with fail
      go_ret
      exact ⟨kit.ret_int Hv.out.symm, (Below.refl _ _).alloc (Nat.le_refl _) _⟩
    · have b0 : (c == 0) = false := beq_eq_false_iff_ne.2 h0
      have Hv := Lib.hid (show plc k n = n % c by rw [hv.out, if_neg h0])
      by_cases hneg : Int.tmod n c < 0
      · have Hr := Lib.hid ((hr.out (by omega)).1 hneg)
        clear hr hv hc
        go_enter Tryd.func36, Tryd.ntmps36
        go_wp2_with fail
        refine (spec_size _ _).mono ?_
        rintro e w' ⟨rfl, rfl⟩
        rw [Hsc.out]
        go_wp2_with fail
        go_ret
        exact ⟨kit.ret_int (Hr.out.trans Hv.out.symm), (Below.refl _ _).alloc (Nat.le_refl _) _⟩
      · have Hr := Lib.hid ((hr.out (by omega)).2 hneg)
        have hnd : decide (Int.tmod n c < 0) = false := decide_eq_false hneg
        clear hr hv hc
        go_enter Tryd.func36, Tryd.ntmps36
        go_wp2_with fail
        refine (spec_size _ _).mono ?_
        rintro e w' ⟨rfl, rfl⟩
        rw [Hsc.out]
        go_wp2_with fail
        go_ret
        exact ⟨kit.ret_int (Hr.out.trans Hv.out.symm), (Below.refl _ _).alloc (Nat.le_refl _) _⟩

end Go.Proofs.YtnffgafofkknoaaDoor.dev

/-! MemBit -/
namespace Go.Proofs.YtnffgafofkknoaaDoor.part
open Go Go.RowKit Go.Proofs.YtnffgafofkknoaaDoor.dev Go.Proofs.YtnffgafofkknoaaDoor.bitm
set_option linter.unusedVariables false
set_option linter.unusedSimpArgs false

theorem plc_nat' {k n c : Int} (hc : cnt k = c) (h : c ≠ 0) : ∃ j : Nat, plc k n = j ∧ (j : Int) < c := by
  have h1 := plc_in k n
  obtain ⟨j, e⟩ := Int.eq_ofNat_of_zero_le h1.1
  exact ⟨j, e, by rw [← e, ← hc]; exact h1.2 (by rw [hc]; exact h)⟩
def mb (cs : Array Value) (k n : Int) : Bool :=
  if k = 1 then bitAt (numb (cel cs 0)) (plc k n).toNat else if k = 2 then bitAt (numb (cel cs 1)) (plc k n).toNat else if k = 3 then bitAt (numb (cel cs 2)) (plc k n).toNat else
  if k = 4 then bitAt (numb (cel cs 3)) (plc k n).toNat else if k = 5 then bitAt (numb (cel cs 4)) (plc k n).toNat else if k = 6 then given cs (plc k n) else
  if k = 7 then tru (cel cs (5 + (plc k n).toNat * 2)) else if k = 8 then tru (cel cs (37 + (plc k n).toNat * 3)) else false
theorem un_small {k : IntKind} (hk : un k) {x : Int} (h : k.min ≤ x ∧ x ≤ k.max) : small x := by
  rcases hk with rfl | rfl | rfl
  all_goals
    have h1 : (0 : Int) ≤ x := h.1
    have h2 := h.2
    simp only [IntKind.max, IntKind.bits, IntKind.signed] at h2
    unfold small
    omega
theorem un_lt {k : IntKind} (hk : un k) {x : Int} (h : k.min ≤ x ∧ x ≤ k.max) : x < 2 ^ k.bits := by
  rcases hk with rfl | rfl | rfl
  all_goals
    have h2 := h.2
    simp only [IntKind.max, IntKind.bits, IntKind.signed] at h2 ⊢
    omega
theorem un_nonneg {k : IntKind} (hk : un k) {x : Int} (h : k.min ≤ x ∧ x ≤ k.max) : 0 ≤ x := by
  rcases hk with rfl | rfl | rfl <;> exact h.1
theorem idx8 {j : Nat} (h : (j : Int) < 8) : j = 0 ∨ j = 1 ∨ j = 2 ∨ j = 3 ∨ j = 4 ∨ j = 5 ∨ j = 6 ∨ j = 7 := by omega

set_option maxRecDepth 100000 in
theorem ib_X (cs : Array Value) (hsh : Shape cs) (hrg : Rg cs) (n p : Int) (w : World) (hs : Sizes w) : Calls Tryd.prog 17 #[.agg cs, .agg #[.int .i64 1, .int .i64 n, .int .i64 p]] w fun e w' => e = .returned (.bool (mb cs 1 n)) ∧ Below w.heap.size w w' := by
  obtain ⟨j, hj, hlt⟩ := plc_nat' (k := 1) (n := n) (c := size 1) rfl (by decide)
  have hlt : (j : Int) < 32 := hlt
  obtain ⟨x, hc⟩ := hsh.X
  have hr := hrg 0 _ _ hc
  have hu : un .u32 := by unfold un; simp
  have Hv := Lib.hid (show bitAt x j = mb cs 1 n by unfold mb; rw [if_pos rfl]; rw [hj, Int.toNat_natCast, cel_is hc]; rfl)
  have Hm := Lib.hid (un_small hu hr)
  have Hb := Lib.hid (shr_bit hu x j (un_nonneg hu hr) (un_lt hu hr))
  have Hq := Lib.hid (show IntKind.u64.wrap x = x by have := un_small hu hr; unfold small at this; rw [IntKind.wrap_u64]; omega)
  have hq0 : 0 ≤ x := un_nonneg hu hr
  have Hj := Lib.hid hj
  have Hc := Lib.hid hc
  clear hj hc hr hu
  have Hsz := Lib.hid hsh.size
  have ka := heap_alloc2_old w (.cells cs 45) (.cells #[.int .i64 1, .int .i64 n, .int .i64 p] 47)
  have kd := heap_alloc2_new w (.cells cs 45) (.cells #[.int .i64 1, .int .i64 n, .int .i64 p] 47)
  have B0 := Lib.hid (((Below.refl w.heap.size w).alloc (Nat.le_refl _) (.cells cs 45)).alloc (by simp) (.cells #[.int .i64 1, .int .i64 n, .int .i64 p] 47))
  have Ka := Lib.hid ka
  have Kd := Lib.hid kd
  clear ka kd hsh hrg
  have Hs := Lib.hid ((hs.alloc (.cells cs 45)).alloc (.cells #[.int .i64 1, .int .i64 n, .int .i64 p] 47))
  clear hs
  go_enter Tryd.func17, Tryd.ntmps17
  go_wp2_with fail
  refine (impl_place 1 n p _ Hs.out).mono ?_
  rintro e w1 ⟨rfl, h1⟩
  have k1 := kit.box_keep Ka.out h1 (kit.box_lt Ka.out)
  have k2 := kit.box_keep Kd.out h1 (kit.box_lt Kd.out)
  have B1 := Lib.hid (B0.out.trans (h1.mono B0.out.size))
  have d0 := kit.box_cell k2 0 rfl
  have d1 := kit.box_cell k2 1 rfl
  have d2 := kit.box_cell k2 2 rfl
  clear h1 k2 Ka Kd B0
  rw [Hj.out]
  have cc : w1.cell? ⟨w.heap.size, 0, none⟩ = some (.int .u32 x) := kit.box_cell k1 0 Hc.out
  clear k1
  go_wp2_with fail
  go_ret
  exact ⟨kit.ret_bool (by first | (rw [Int.toNat_natCast]; exact Hb.out.trans Hv.out) | exact Hb.out.trans Hv.out), B1.out⟩

set_option maxRecDepth 100000 in
theorem ib_Y (cs : Array Value) (hsh : Shape cs) (hrg : Rg cs) (n p : Int) (w : World) (hs : Sizes w) : Calls Tryd.prog 17 #[.agg cs, .agg #[.int .i64 2, .int .i64 n, .int .i64 p]] w fun e w' => e = .returned (.bool (mb cs 2 n)) ∧ Below w.heap.size w w' := by
  obtain ⟨j, hj, hlt⟩ := plc_nat' (k := 2) (n := n) (c := size 2) rfl (by decide)
  have hlt : (j : Int) < 32 := hlt
  obtain ⟨x, hc⟩ := hsh.Y
  have hr := hrg 1 _ _ hc
  have hu : un .u32 := by unfold un; simp
  have Hv := Lib.hid (show bitAt x j = mb cs 2 n by unfold mb; rw [if_neg (by decide)]; rw [if_pos rfl]; rw [hj, Int.toNat_natCast, cel_is hc]; rfl)
  have Hm := Lib.hid (un_small hu hr)
  have Hb := Lib.hid (shr_bit hu x j (un_nonneg hu hr) (un_lt hu hr))
  have Hq := Lib.hid (show IntKind.u64.wrap x = x by have := un_small hu hr; unfold small at this; rw [IntKind.wrap_u64]; omega)
  have hq0 : 0 ≤ x := un_nonneg hu hr
  have Hj := Lib.hid hj
  have Hc := Lib.hid hc
  clear hj hc hr hu
  have Hsz := Lib.hid hsh.size
  have ka := heap_alloc2_old w (.cells cs 45) (.cells #[.int .i64 2, .int .i64 n, .int .i64 p] 47)
  have kd := heap_alloc2_new w (.cells cs 45) (.cells #[.int .i64 2, .int .i64 n, .int .i64 p] 47)
  have B0 := Lib.hid (((Below.refl w.heap.size w).alloc (Nat.le_refl _) (.cells cs 45)).alloc (by simp) (.cells #[.int .i64 2, .int .i64 n, .int .i64 p] 47))
  have Ka := Lib.hid ka
  have Kd := Lib.hid kd
  clear ka kd hsh hrg
  have Hs := Lib.hid ((hs.alloc (.cells cs 45)).alloc (.cells #[.int .i64 2, .int .i64 n, .int .i64 p] 47))
  clear hs
  go_enter Tryd.func17, Tryd.ntmps17
  go_wp2_with fail
  refine (impl_place 2 n p _ Hs.out).mono ?_
  rintro e w1 ⟨rfl, h1⟩
  have k1 := kit.box_keep Ka.out h1 (kit.box_lt Ka.out)
  have k2 := kit.box_keep Kd.out h1 (kit.box_lt Kd.out)
  have B1 := Lib.hid (B0.out.trans (h1.mono B0.out.size))
  have d0 := kit.box_cell k2 0 rfl
  have d1 := kit.box_cell k2 1 rfl
  have d2 := kit.box_cell k2 2 rfl
  clear h1 k2 Ka Kd B0
  rw [Hj.out]
  have cc : w1.cell? ⟨w.heap.size, 1, none⟩ = some (.int .u32 x) := kit.box_cell k1 1 Hc.out
  clear k1
  go_wp2_with fail
  go_ret
  exact ⟨kit.ret_bool (by first | (rw [Int.toNat_natCast]; exact Hb.out.trans Hv.out) | exact Hb.out.trans Hv.out), B1.out⟩

set_option maxRecDepth 100000 in
theorem ib_M (cs : Array Value) (hsh : Shape cs) (hrg : Rg cs) (n p : Int) (w : World) (hs : Sizes w) : Calls Tryd.prog 17 #[.agg cs, .agg #[.int .i64 3, .int .i64 n, .int .i64 p]] w fun e w' => e = .returned (.bool (mb cs 3 n)) ∧ Below w.heap.size w w' := by
  obtain ⟨j, hj, hlt⟩ := plc_nat' (k := 3) (n := n) (c := size 3) rfl (by decide)
  have hlt : (j : Int) < 64 := hlt
  obtain ⟨x, hc⟩ := hsh.M
  have hr := hrg 2 _ _ hc
  have hu : un .u64 := by unfold un; simp
  have Hv := Lib.hid (show bitAt x j = mb cs 3 n by unfold mb; rw [if_neg (by decide)]; rw [if_neg (by decide)]; rw [if_pos rfl]; rw [hj, Int.toNat_natCast, cel_is hc]; rfl)
  have Hm := Lib.hid (un_small hu hr)
  have Hb := Lib.hid (shr_bit hu x j (un_nonneg hu hr) (un_lt hu hr))
  have Hq := Lib.hid (show IntKind.u64.wrap x = x by have := un_small hu hr; unfold small at this; rw [IntKind.wrap_u64]; omega)
  have hq0 : 0 ≤ x := un_nonneg hu hr
  have Hj := Lib.hid hj
  have Hc := Lib.hid hc
  clear hj hc hr hu
  have Hsz := Lib.hid hsh.size
  have ka := heap_alloc2_old w (.cells cs 45) (.cells #[.int .i64 3, .int .i64 n, .int .i64 p] 47)
  have kd := heap_alloc2_new w (.cells cs 45) (.cells #[.int .i64 3, .int .i64 n, .int .i64 p] 47)
  have B0 := Lib.hid (((Below.refl w.heap.size w).alloc (Nat.le_refl _) (.cells cs 45)).alloc (by simp) (.cells #[.int .i64 3, .int .i64 n, .int .i64 p] 47))
  have Ka := Lib.hid ka
  have Kd := Lib.hid kd
  clear ka kd hsh hrg
  have Hs := Lib.hid ((hs.alloc (.cells cs 45)).alloc (.cells #[.int .i64 3, .int .i64 n, .int .i64 p] 47))
  clear hs
  go_enter Tryd.func17, Tryd.ntmps17
  go_wp2_with fail
  refine (impl_place 3 n p _ Hs.out).mono ?_
  rintro e w1 ⟨rfl, h1⟩
  have k1 := kit.box_keep Ka.out h1 (kit.box_lt Ka.out)
  have k2 := kit.box_keep Kd.out h1 (kit.box_lt Kd.out)
  have B1 := Lib.hid (B0.out.trans (h1.mono B0.out.size))
  have d0 := kit.box_cell k2 0 rfl
  have d1 := kit.box_cell k2 1 rfl
  have d2 := kit.box_cell k2 2 rfl
  clear h1 k2 Ka Kd B0
  rw [Hj.out]
  have cc : w1.cell? ⟨w.heap.size, 2, none⟩ = some (.int .u64 x) := kit.box_cell k1 2 Hc.out
  clear k1
  go_wp2_with fail
  go_ret
  exact ⟨kit.ret_bool (by first | (rw [Int.toNat_natCast]; exact Hb.out.trans Hv.out) | exact Hb.out.trans Hv.out), B1.out⟩

set_option maxRecDepth 100000 in
theorem ib_S (cs : Array Value) (hsh : Shape cs) (hrg : Rg cs) (n p : Int) (w : World) (hs : Sizes w) : Calls Tryd.prog 17 #[.agg cs, .agg #[.int .i64 4, .int .i64 n, .int .i64 p]] w fun e w' => e = .returned (.bool (mb cs 4 n)) ∧ Below w.heap.size w w' := by
  obtain ⟨j, hj, hlt⟩ := plc_nat' (k := 4) (n := n) (c := size 4) rfl (by decide)
  have hlt : (j : Int) < 16 := hlt
  obtain ⟨x, hc⟩ := hsh.S
  have hr := hrg 3 _ _ hc
  have hu : un .u16 := by unfold un; simp
  have Hv := Lib.hid (show bitAt x j = mb cs 4 n by unfold mb; rw [if_neg (by decide)]; rw [if_neg (by decide)]; rw [if_neg (by decide)]; rw [if_pos rfl]; rw [hj, Int.toNat_natCast, cel_is hc]; rfl)
  have Hm := Lib.hid (un_small hu hr)
  have Hb := Lib.hid (shr_bit hu x j (un_nonneg hu hr) (un_lt hu hr))
  have Hq := Lib.hid (show IntKind.u64.wrap x = x by have := un_small hu hr; unfold small at this; rw [IntKind.wrap_u64]; omega)
  have hq0 : 0 ≤ x := un_nonneg hu hr
  have Hj := Lib.hid hj
  have Hc := Lib.hid hc
  clear hj hc hr hu
  have Hsz := Lib.hid hsh.size
  have ka := heap_alloc2_old w (.cells cs 45) (.cells #[.int .i64 4, .int .i64 n, .int .i64 p] 47)
  have kd := heap_alloc2_new w (.cells cs 45) (.cells #[.int .i64 4, .int .i64 n, .int .i64 p] 47)
  have B0 := Lib.hid (((Below.refl w.heap.size w).alloc (Nat.le_refl _) (.cells cs 45)).alloc (by simp) (.cells #[.int .i64 4, .int .i64 n, .int .i64 p] 47))
  have Ka := Lib.hid ka
  have Kd := Lib.hid kd
  clear ka kd hsh hrg
  have Hs := Lib.hid ((hs.alloc (.cells cs 45)).alloc (.cells #[.int .i64 4, .int .i64 n, .int .i64 p] 47))
  clear hs
  go_enter Tryd.func17, Tryd.ntmps17
  go_wp2_with fail
  refine (impl_place 4 n p _ Hs.out).mono ?_
  rintro e w1 ⟨rfl, h1⟩
  have k1 := kit.box_keep Ka.out h1 (kit.box_lt Ka.out)
  have k2 := kit.box_keep Kd.out h1 (kit.box_lt Kd.out)
  have B1 := Lib.hid (B0.out.trans (h1.mono B0.out.size))
  have d0 := kit.box_cell k2 0 rfl
  have d1 := kit.box_cell k2 1 rfl
  have d2 := kit.box_cell k2 2 rfl
  clear h1 k2 Ka Kd B0
  rw [Hj.out]
  have cc : w1.cell? ⟨w.heap.size, 3, none⟩ = some (.int .u16 x) := kit.box_cell k1 3 Hc.out
  clear k1
  go_wp2_with fail
  go_ret
  exact ⟨kit.ret_bool (by first | (rw [Int.toNat_natCast]; exact Hb.out.trans Hv.out) | exact Hb.out.trans Hv.out), B1.out⟩

set_option maxRecDepth 100000 in
theorem ib_E (cs : Array Value) (hsh : Shape cs) (hrg : Rg cs) (n p : Int) (w : World) (hs : Sizes w) : Calls Tryd.prog 17 #[.agg cs, .agg #[.int .i64 5, .int .i64 n, .int .i64 p]] w fun e w' => e = .returned (.bool (mb cs 5 n)) ∧ Below w.heap.size w w' := by
  obtain ⟨j, hj, hlt⟩ := plc_nat' (k := 5) (n := n) (c := size 5) rfl (by decide)
  have hlt : (j : Int) < 32 := hlt
  obtain ⟨x, hc⟩ := hsh.E
  have hr := hrg 4 _ _ hc
  have hu : un .u32 := by unfold un; simp
  have Hv := Lib.hid (show bitAt x j = mb cs 5 n by unfold mb; rw [if_neg (by decide)]; rw [if_neg (by decide)]; rw [if_neg (by decide)]; rw [if_neg (by decide)]; rw [if_pos rfl]; rw [hj, Int.toNat_natCast, cel_is hc]; rfl)
  have Hm := Lib.hid (un_small hu hr)
  have Hb := Lib.hid (shr_bit hu x j (un_nonneg hu hr) (un_lt hu hr))
  have Hq := Lib.hid (show IntKind.u64.wrap x = x by have := un_small hu hr; unfold small at this; rw [IntKind.wrap_u64]; omega)
  have hq0 : 0 ≤ x := un_nonneg hu hr
  have Hj := Lib.hid hj
  have Hc := Lib.hid hc
  clear hj hc hr hu
  have Hsz := Lib.hid hsh.size
  have ka := heap_alloc2_old w (.cells cs 45) (.cells #[.int .i64 5, .int .i64 n, .int .i64 p] 47)
  have kd := heap_alloc2_new w (.cells cs 45) (.cells #[.int .i64 5, .int .i64 n, .int .i64 p] 47)
  have B0 := Lib.hid (((Below.refl w.heap.size w).alloc (Nat.le_refl _) (.cells cs 45)).alloc (by simp) (.cells #[.int .i64 5, .int .i64 n, .int .i64 p] 47))
  have Ka := Lib.hid ka
  have Kd := Lib.hid kd
  clear ka kd hsh hrg
  have Hs := Lib.hid ((hs.alloc (.cells cs 45)).alloc (.cells #[.int .i64 5, .int .i64 n, .int .i64 p] 47))
  clear hs
  go_enter Tryd.func17, Tryd.ntmps17
  go_wp2_with fail
  refine (impl_place 5 n p _ Hs.out).mono ?_
  rintro e w1 ⟨rfl, h1⟩
  have k1 := kit.box_keep Ka.out h1 (kit.box_lt Ka.out)
  have k2 := kit.box_keep Kd.out h1 (kit.box_lt Kd.out)
  have B1 := Lib.hid (B0.out.trans (h1.mono B0.out.size))
  have d0 := kit.box_cell k2 0 rfl
  have d1 := kit.box_cell k2 1 rfl
  have d2 := kit.box_cell k2 2 rfl
  clear h1 k2 Ka Kd B0
  rw [Hj.out]
  have cc : w1.cell? ⟨w.heap.size, 4, none⟩ = some (.int .u32 x) := kit.box_cell k1 4 Hc.out
  clear k1
  go_wp2_with fail
  go_ret
  exact ⟨kit.ret_bool (by first | (rw [Int.toNat_natCast]; exact Hb.out.trans Hv.out) | exact Hb.out.trans Hv.out), B1.out⟩

set_option maxRecDepth 100000 in
theorem ib_T (cs : Array Value) (hsh : Shape cs) (hrg : Rg cs) (n p : Int) (w : World) (hs : Sizes w) : Calls Tryd.prog 17 #[.agg cs, .agg #[.int .i64 7, .int .i64 n, .int .i64 p]] w fun e w' => e = .returned (.bool (mb cs 7 n)) ∧ Below w.heap.size w w' := by
  obtain ⟨j, hj, hlt⟩ := plc_nat' (k := 7) (n := n) (c := 16) rfl (by decide)
  obtain ⟨x, c, hc, _⟩ := hsh.T j (by omega)
  have Hv := Lib.hid (show x = mb cs 7 n by unfold mb; rw [if_neg (by decide)]; rw [if_neg (by decide)]; rw [if_neg (by decide)]; rw [if_neg (by decide)]; rw [if_neg (by decide)]; rw [if_neg (by decide)]; rw [if_pos rfl]; rw [hj, Int.toNat_natCast, cel_is hc]; rfl)
  have Hj := Lib.hid hj
  have Hc := Lib.hid hc
  clear hj hc
  have Hsz := Lib.hid hsh.size
  have ka := heap_alloc2_old w (.cells cs 45) (.cells #[.int .i64 7, .int .i64 n, .int .i64 p] 47)
  have kd := heap_alloc2_new w (.cells cs 45) (.cells #[.int .i64 7, .int .i64 n, .int .i64 p] 47)
  have B0 := Lib.hid (((Below.refl w.heap.size w).alloc (Nat.le_refl _) (.cells cs 45)).alloc (by simp) (.cells #[.int .i64 7, .int .i64 n, .int .i64 p] 47))
  have Ka := Lib.hid ka
  have Kd := Lib.hid kd
  clear ka kd hsh hrg
  have Hs := Lib.hid ((hs.alloc (.cells cs 45)).alloc (.cells #[.int .i64 7, .int .i64 n, .int .i64 p] 47))
  clear hs
  go_enter Tryd.func17, Tryd.ntmps17
  go_wp2_with fail
  refine (impl_place 7 n p _ Hs.out).mono ?_
  rintro e w1 ⟨rfl, h1⟩
  have k1 := kit.box_keep Ka.out h1 (kit.box_lt Ka.out)
  have k2 := kit.box_keep Kd.out h1 (kit.box_lt Kd.out)
  have B1 := Lib.hid (B0.out.trans (h1.mono B0.out.size))
  have d0 := kit.box_cell k2 0 rfl
  have d1 := kit.box_cell k2 1 rfl
  have d2 := kit.box_cell k2 2 rfl
  clear h1 k2 Ka Kd B0
  rw [Hj.out]
  have cc : w1.cell? ⟨w.heap.size, 5 + j * 2, none⟩ = some (.bool x) := kit.box_cell k1 (5 + j * 2) Hc.out
  clear k1
  go_wp2_with fail
  go_ret
  exact ⟨kit.ret_bool Hv.out, B1.out⟩

set_option maxRecDepth 100000 in
theorem ib_C (cs : Array Value) (hsh : Shape cs) (hrg : Rg cs) (n p : Int) (w : World) (hs : Sizes w) : Calls Tryd.prog 17 #[.agg cs, .agg #[.int .i64 8, .int .i64 n, .int .i64 p]] w fun e w' => e = .returned (.bool (mb cs 8 n)) ∧ Below w.heap.size w w' := by
  obtain ⟨j, hj, hlt⟩ := plc_nat' (k := 8) (n := n) (c := 16) rfl (by decide)
  obtain ⟨x, l, c, hc, _, _⟩ := hsh.C j (by omega)
  have Hv := Lib.hid (show x = mb cs 8 n by unfold mb; rw [if_neg (by decide)]; rw [if_neg (by decide)]; rw [if_neg (by decide)]; rw [if_neg (by decide)]; rw [if_neg (by decide)]; rw [if_neg (by decide)]; rw [if_neg (by decide)]; rw [if_pos rfl]; rw [hj, Int.toNat_natCast, cel_is hc]; rfl)
  have Hj := Lib.hid hj
  have Hc := Lib.hid hc
  clear hj hc
  have Hsz := Lib.hid hsh.size
  have ka := heap_alloc2_old w (.cells cs 45) (.cells #[.int .i64 8, .int .i64 n, .int .i64 p] 47)
  have kd := heap_alloc2_new w (.cells cs 45) (.cells #[.int .i64 8, .int .i64 n, .int .i64 p] 47)
  have B0 := Lib.hid (((Below.refl w.heap.size w).alloc (Nat.le_refl _) (.cells cs 45)).alloc (by simp) (.cells #[.int .i64 8, .int .i64 n, .int .i64 p] 47))
  have Ka := Lib.hid ka
  have Kd := Lib.hid kd
  clear ka kd hsh hrg
  have Hs := Lib.hid ((hs.alloc (.cells cs 45)).alloc (.cells #[.int .i64 8, .int .i64 n, .int .i64 p] 47))
  clear hs
  go_enter Tryd.func17, Tryd.ntmps17
  go_wp2_with fail
  refine (impl_place 8 n p _ Hs.out).mono ?_
  rintro e w1 ⟨rfl, h1⟩
  have k1 := kit.box_keep Ka.out h1 (kit.box_lt Ka.out)
  have k2 := kit.box_keep Kd.out h1 (kit.box_lt Kd.out)
  have B1 := Lib.hid (B0.out.trans (h1.mono B0.out.size))
  have d0 := kit.box_cell k2 0 rfl
  have d1 := kit.box_cell k2 1 rfl
  have d2 := kit.box_cell k2 2 rfl
  clear h1 k2 Ka Kd B0
  rw [Hj.out]
  have cc : w1.cell? ⟨w.heap.size, 37 + j * 3, none⟩ = some (.bool x) := kit.box_cell k1 (37 + j * 3) Hc.out
  clear k1
  go_wp2_with fail
  go_ret
  exact ⟨kit.ret_bool Hv.out, B1.out⟩

set_option maxHeartbeats 4000000 in
set_option maxRecDepth 100000 in
theorem ib_G (cs : Array Value) (hsh : Shape cs) (hrg : Rg cs) (n p : Int) (w : World) (hs : Sizes w) : Calls Tryd.prog 17 #[.agg cs, .agg #[.int .i64 6, .int .i64 n, .int .i64 p]] w fun e w' => e = .returned (.bool (mb cs 6 n)) ∧ Below w.heap.size w w' := by
  obtain ⟨j, hj, hlt⟩ := plc_nat' (k := 6) (n := n) (c := 8) rfl (by decide)
  obtain ⟨t, h133⟩ := hsh.Time
  obtain ⟨ra, h134⟩ := hsh.Ran
  obtain ⟨fa, h135⟩ := hsh.Fault
  have ht := (hrg 133 _ _ h133).1
  have ht : 0 ≤ t := ht
  have g1 := cel_is h133
  have g2 := cel_is h134
  have g3 := cel_is h135
  have Hv := Lib.hid (show given cs j = mb cs 6 n by unfold mb; rw [if_neg (by decide)]; rw [if_neg (by decide)]; rw [if_neg (by decide)]; rw [if_neg (by decide)]; rw [if_neg (by decide)]; rw [if_pos rfl]; rw [hj])
  have HG := Lib.hid (show given cs j = if (j : Int) = 0 then true else if (j : Int) = 2 then !ra else if (j : Int) = 3 then fa else if (j : Int) = 4 then decide (500 ≤ t % 1000) else false by unfold given; rw [g1, g2, g3]; rfl)
  have Hj := Lib.hid hj
  have Hc1 := Lib.hid h133
  have Hc2 := Lib.hid h134
  have Hc3 := Lib.hid h135
  clear hj h133 h134 h135 g1 g2 g3
  have Hsz := Lib.hid hsh.size
  have ka := heap_alloc2_old w (.cells cs 45) (.cells #[.int .i64 6, .int .i64 n, .int .i64 p] 47)
  have kd := heap_alloc2_new w (.cells cs 45) (.cells #[.int .i64 6, .int .i64 n, .int .i64 p] 47)
  have B0 := Lib.hid (((Below.refl w.heap.size w).alloc (Nat.le_refl _) (.cells cs 45)).alloc (by simp) (.cells #[.int .i64 6, .int .i64 n, .int .i64 p] 47))
  have Ka := Lib.hid ka
  have Kd := Lib.hid kd
  clear ka kd hsh hrg
  have Hs := Lib.hid ((hs.alloc (.cells cs 45)).alloc (.cells #[.int .i64 6, .int .i64 n, .int .i64 p] 47))
  clear hs
  go_enter Tryd.func17, Tryd.ntmps17
  go_wp2_with fail
  refine (impl_place 6 n p _ Hs.out).mono ?_
  rintro e w1 ⟨rfl, h1⟩
  have k1 := kit.box_keep Ka.out h1 (kit.box_lt Ka.out)
  have k2 := kit.box_keep Kd.out h1 (kit.box_lt Kd.out)
  have B1 := Lib.hid (B0.out.trans (h1.mono B0.out.size))
  have d0 := kit.box_cell k2 0 rfl
  have d1 := kit.box_cell k2 1 rfl
  have d2 := kit.box_cell k2 2 rfl
  clear h1 k2 Ka Kd B0
  rw [Hj.out]
  have c1 := kit.box_cell k1 133 Hc1.out
  have c2 := kit.box_cell k1 134 Hc2.out
  have c3 := kit.box_cell k1 135 Hc3.out
  clear k1 Hc1 Hc2 Hc3
  rcases idx8 hlt with rfl | rfl | rfl | rfl | rfl | rfl | rfl | rfl
  all_goals
    clear hlt
    go_wp2_with fail
    go_ret
    exact ⟨kit.ret_bool (by rw [← Hv.out, HG.out]; rfl), B1.out.alloc B1.out.size _⟩

set_option maxRecDepth 100000 in
theorem ib_O (cs : Array Value) (hsh : Shape cs) (hrg : Rg cs) (k n p : Int) (h1 : k ≠ 1) (h2 : k ≠ 2) (h3 : k ≠ 3) (h4 : k ≠ 4) (h5 : k ≠ 5) (h6 : k ≠ 6) (h7 : k ≠ 7) (h8 : k ≠ 8) (w : World) (hs : Sizes w) : Calls Tryd.prog 17 #[.agg cs, .agg #[.int .i64 k, .int .i64 n, .int .i64 p]] w fun e w' => e = .returned (.bool (mb cs k n)) ∧ Below w.heap.size w w' := by
  have hk1 : (k == 1) = false := beq_eq_false_iff_ne.2 h1
  have hk2 : (k == 2) = false := beq_eq_false_iff_ne.2 h2
  have hk3 : (k == 3) = false := beq_eq_false_iff_ne.2 h3
  have hk4 : (k == 4) = false := beq_eq_false_iff_ne.2 h4
  have hk5 : (k == 5) = false := beq_eq_false_iff_ne.2 h5
  have hk6 : (k == 6) = false := beq_eq_false_iff_ne.2 h6
  have hk7 : (k == 7) = false := beq_eq_false_iff_ne.2 h7
  have hk8 : (k == 8) = false := beq_eq_false_iff_ne.2 h8
  have Hv := Lib.hid (show false = mb cs k n by unfold mb; rw [if_neg h1, if_neg h2, if_neg h3, if_neg h4, if_neg h5, if_neg h6, if_neg h7, if_neg h8])
  clear h1 h2 h3 h4 h5 h6 h7 h8
  have Hsz := Lib.hid hsh.size
  have ka := heap_alloc2_old w (.cells cs 45) (.cells #[.int .i64 k, .int .i64 n, .int .i64 p] 47)
  have kd := heap_alloc2_new w (.cells cs 45) (.cells #[.int .i64 k, .int .i64 n, .int .i64 p] 47)
  have B0 := Lib.hid (((Below.refl w.heap.size w).alloc (Nat.le_refl _) (.cells cs 45)).alloc (by simp) (.cells #[.int .i64 k, .int .i64 n, .int .i64 p] 47))
  have Ka := Lib.hid ka
  have Kd := Lib.hid kd
  clear ka kd hsh hrg
  have Hs := Lib.hid ((hs.alloc (.cells cs 45)).alloc (.cells #[.int .i64 k, .int .i64 n, .int .i64 p] 47))
  clear hs
  go_enter Tryd.func17, Tryd.ntmps17
  go_wp2_with fail
  refine (impl_place k n p _ Hs.out).mono ?_
  rintro e w1 ⟨rfl, h1⟩
  have k1 := kit.box_keep Ka.out h1 (kit.box_lt Ka.out)
  have k2 := kit.box_keep Kd.out h1 (kit.box_lt Kd.out)
  have B1 := Lib.hid (B0.out.trans (h1.mono B0.out.size))
  have d0 := kit.box_cell k2 0 rfl
  have d1 := kit.box_cell k2 1 rfl
  have d2 := kit.box_cell k2 2 rfl
  clear h1 k2 Ka Kd B0
  clear k1
  go_wp2_with fail
  go_ret
  exact ⟨kit.ret_bool Hv.out, B1.out⟩

theorem ib_any (cs : Array Value) (hsh : Shape cs) (hrg : Rg cs) (k n p : Int) (w : World) (hs : Sizes w) : Calls Tryd.prog 17 #[.agg cs, .agg #[.int .i64 k, .int .i64 n, .int .i64 p]] w fun e w' => e = .returned (.bool (mb cs k n)) ∧ Below w.heap.size w w' := by
  by_cases h1 : k = 1
  · subst h1; exact ib_X cs hsh hrg n p w hs
  by_cases h2 : k = 2
  · subst h2; exact ib_Y cs hsh hrg n p w hs
  by_cases h3 : k = 3
  · subst h3; exact ib_M cs hsh hrg n p w hs
  by_cases h4 : k = 4
  · subst h4; exact ib_S cs hsh hrg n p w hs
  by_cases h5 : k = 5
  · subst h5; exact ib_E cs hsh hrg n p w hs
  by_cases h6 : k = 6
  · subst h6; exact ib_G cs hsh hrg n p w hs
  by_cases h7 : k = 7
  · subst h7; exact ib_T cs hsh hrg n p w hs
  by_cases h8 : k = 8
  · subst h8; exact ib_C cs hsh hrg n p w hs
  exact ib_O cs hsh hrg k n p h1 h2 h3 h4 h5 h6 h7 h8 w hs

set_option maxRecDepth 100000 in
theorem sb_X (cs : Array Value) (hsh : Shape cs) (hrg : Rg cs) (n p : Int) (w : World) : Calls Tryd.prog 16 #[.agg cs, .agg #[.int .i64 1, .int .i64 n, .int .i64 p]] w fun e w' => e = .returned (.bool (mb cs 1 n)) ∧ Below w.heap.size w w' := by
  obtain ⟨j, hj, hlt⟩ := plc_nat' (k := 1) (n := n) (c := size 1) rfl (by decide)
  have hlt : (j : Int) < 32 := hlt
  obtain ⟨x, hc⟩ := hsh.X
  have hr := hrg 0 _ _ hc
  have hu : un .u32 := by unfold un; simp
  have Hv := Lib.hid (show bitAt x j = mb cs 1 n by unfold mb; rw [if_pos rfl]; rw [hj, Int.toNat_natCast, cel_is hc]; rfl)
  have Hm := Lib.hid (un_small hu hr)
  have Hb := Lib.hid (shr_bit hu x j (un_nonneg hu hr) (un_lt hu hr))
  have Hq := Lib.hid (show IntKind.u64.wrap x = x by have := un_small hu hr; unfold small at this; rw [IntKind.wrap_u64]; omega)
  have hq0 : 0 ≤ x := un_nonneg hu hr
  have Hj := Lib.hid hj
  have Hc := Lib.hid hc
  clear hj hc hr hu
  have Hsz := Lib.hid hsh.size
  have ka := heap_alloc2_old w (.cells cs 45) (.cells #[.int .i64 1, .int .i64 n, .int .i64 p] 47)
  have kd := heap_alloc2_new w (.cells cs 45) (.cells #[.int .i64 1, .int .i64 n, .int .i64 p] 47)
  have B0 := Lib.hid (((Below.refl w.heap.size w).alloc (Nat.le_refl _) (.cells cs 45)).alloc (by simp) (.cells #[.int .i64 1, .int .i64 n, .int .i64 p] 47))
  have Ka := Lib.hid ka
  have Kd := Lib.hid kd
  clear ka kd hsh hrg
  go_enter Tryd.func16, Tryd.ntmps16
  go_wp2_with fail
  refine (spec_place 1 n p _).mono ?_
  rintro e w1 ⟨rfl, h1⟩
  have k1 := kit.box_keep Ka.out h1 (kit.box_lt Ka.out)
  have k2 := kit.box_keep Kd.out h1 (kit.box_lt Kd.out)
  have B1 := Lib.hid (B0.out.trans (h1.mono B0.out.size))
  have d0 := kit.box_cell k2 0 rfl
  have d1 := kit.box_cell k2 1 rfl
  have d2 := kit.box_cell k2 2 rfl
  clear h1 k2 Ka Kd B0
  rw [Hj.out]
  have cc : w1.cell? ⟨w.heap.size, 0, none⟩ = some (.int .u32 x) := kit.box_cell k1 0 Hc.out
  clear k1
  clear hq0
  go_wp2_with fail
  first | rw [Hq.out] | skip
  refine (l5Bit_any x j Hm.out (by omega) _).mono ?_
  rintro e w' ⟨rfl, rfl⟩
  go_wp2_with fail
  go_ret
  exact ⟨kit.ret_bool Hv.out, B1.out⟩

set_option maxRecDepth 100000 in
theorem sb_Y (cs : Array Value) (hsh : Shape cs) (hrg : Rg cs) (n p : Int) (w : World) : Calls Tryd.prog 16 #[.agg cs, .agg #[.int .i64 2, .int .i64 n, .int .i64 p]] w fun e w' => e = .returned (.bool (mb cs 2 n)) ∧ Below w.heap.size w w' := by
  obtain ⟨j, hj, hlt⟩ := plc_nat' (k := 2) (n := n) (c := size 2) rfl (by decide)
  have hlt : (j : Int) < 32 := hlt
  obtain ⟨x, hc⟩ := hsh.Y
  have hr := hrg 1 _ _ hc
  have hu : un .u32 := by unfold un; simp
  have Hv := Lib.hid (show bitAt x j = mb cs 2 n by unfold mb; rw [if_neg (by decide)]; rw [if_pos rfl]; rw [hj, Int.toNat_natCast, cel_is hc]; rfl)
  have Hm := Lib.hid (un_small hu hr)
  have Hb := Lib.hid (shr_bit hu x j (un_nonneg hu hr) (un_lt hu hr))
  have Hq := Lib.hid (show IntKind.u64.wrap x = x by have := un_small hu hr; unfold small at this; rw [IntKind.wrap_u64]; omega)
  have hq0 : 0 ≤ x := un_nonneg hu hr
  have Hj := Lib.hid hj
  have Hc := Lib.hid hc
  clear hj hc hr hu
  have Hsz := Lib.hid hsh.size
  have ka := heap_alloc2_old w (.cells cs 45) (.cells #[.int .i64 2, .int .i64 n, .int .i64 p] 47)
  have kd := heap_alloc2_new w (.cells cs 45) (.cells #[.int .i64 2, .int .i64 n, .int .i64 p] 47)
  have B0 := Lib.hid (((Below.refl w.heap.size w).alloc (Nat.le_refl _) (.cells cs 45)).alloc (by simp) (.cells #[.int .i64 2, .int .i64 n, .int .i64 p] 47))
  have Ka := Lib.hid ka
  have Kd := Lib.hid kd
  clear ka kd hsh hrg
  go_enter Tryd.func16, Tryd.ntmps16
  go_wp2_with fail
  refine (spec_place 2 n p _).mono ?_
  rintro e w1 ⟨rfl, h1⟩
  have k1 := kit.box_keep Ka.out h1 (kit.box_lt Ka.out)
  have k2 := kit.box_keep Kd.out h1 (kit.box_lt Kd.out)
  have B1 := Lib.hid (B0.out.trans (h1.mono B0.out.size))
  have d0 := kit.box_cell k2 0 rfl
  have d1 := kit.box_cell k2 1 rfl
  have d2 := kit.box_cell k2 2 rfl
  clear h1 k2 Ka Kd B0
  rw [Hj.out]
  have cc : w1.cell? ⟨w.heap.size, 1, none⟩ = some (.int .u32 x) := kit.box_cell k1 1 Hc.out
  clear k1
  clear hq0
  go_wp2_with fail
  first | rw [Hq.out] | skip
  refine (l5Bit_any x j Hm.out (by omega) _).mono ?_
  rintro e w' ⟨rfl, rfl⟩
  go_wp2_with fail
  go_ret
  exact ⟨kit.ret_bool Hv.out, B1.out⟩

set_option maxRecDepth 100000 in
theorem sb_M (cs : Array Value) (hsh : Shape cs) (hrg : Rg cs) (n p : Int) (w : World) : Calls Tryd.prog 16 #[.agg cs, .agg #[.int .i64 3, .int .i64 n, .int .i64 p]] w fun e w' => e = .returned (.bool (mb cs 3 n)) ∧ Below w.heap.size w w' := by
  obtain ⟨j, hj, hlt⟩ := plc_nat' (k := 3) (n := n) (c := size 3) rfl (by decide)
  have hlt : (j : Int) < 64 := hlt
  obtain ⟨x, hc⟩ := hsh.M
  have hr := hrg 2 _ _ hc
  have hu : un .u64 := by unfold un; simp
  have Hv := Lib.hid (show bitAt x j = mb cs 3 n by unfold mb; rw [if_neg (by decide)]; rw [if_neg (by decide)]; rw [if_pos rfl]; rw [hj, Int.toNat_natCast, cel_is hc]; rfl)
  have Hm := Lib.hid (un_small hu hr)
  have Hb := Lib.hid (shr_bit hu x j (un_nonneg hu hr) (un_lt hu hr))
  have Hq := Lib.hid (show IntKind.u64.wrap x = x by have := un_small hu hr; unfold small at this; rw [IntKind.wrap_u64]; omega)
  have hq0 : 0 ≤ x := un_nonneg hu hr
  have Hj := Lib.hid hj
  have Hc := Lib.hid hc
  clear hj hc hr hu
  have Hsz := Lib.hid hsh.size
  have ka := heap_alloc2_old w (.cells cs 45) (.cells #[.int .i64 3, .int .i64 n, .int .i64 p] 47)
  have kd := heap_alloc2_new w (.cells cs 45) (.cells #[.int .i64 3, .int .i64 n, .int .i64 p] 47)
  have B0 := Lib.hid (((Below.refl w.heap.size w).alloc (Nat.le_refl _) (.cells cs 45)).alloc (by simp) (.cells #[.int .i64 3, .int .i64 n, .int .i64 p] 47))
  have Ka := Lib.hid ka
  have Kd := Lib.hid kd
  clear ka kd hsh hrg
  go_enter Tryd.func16, Tryd.ntmps16
  go_wp2_with fail
  refine (spec_place 3 n p _).mono ?_
  rintro e w1 ⟨rfl, h1⟩
  have k1 := kit.box_keep Ka.out h1 (kit.box_lt Ka.out)
  have k2 := kit.box_keep Kd.out h1 (kit.box_lt Kd.out)
  have B1 := Lib.hid (B0.out.trans (h1.mono B0.out.size))
  have d0 := kit.box_cell k2 0 rfl
  have d1 := kit.box_cell k2 1 rfl
  have d2 := kit.box_cell k2 2 rfl
  clear h1 k2 Ka Kd B0
  rw [Hj.out]
  have cc : w1.cell? ⟨w.heap.size, 2, none⟩ = some (.int .u64 x) := kit.box_cell k1 2 Hc.out
  clear k1
  clear hq0
  go_wp2_with fail
  refine (l5Bit_any x j Hm.out (by omega) _).mono ?_
  rintro e w' ⟨rfl, rfl⟩
  go_wp2_with fail
  go_ret
  exact ⟨kit.ret_bool Hv.out, B1.out⟩

set_option maxRecDepth 100000 in
theorem sb_S (cs : Array Value) (hsh : Shape cs) (hrg : Rg cs) (n p : Int) (w : World) : Calls Tryd.prog 16 #[.agg cs, .agg #[.int .i64 4, .int .i64 n, .int .i64 p]] w fun e w' => e = .returned (.bool (mb cs 4 n)) ∧ Below w.heap.size w w' := by
  obtain ⟨j, hj, hlt⟩ := plc_nat' (k := 4) (n := n) (c := size 4) rfl (by decide)
  have hlt : (j : Int) < 16 := hlt
  obtain ⟨x, hc⟩ := hsh.S
  have hr := hrg 3 _ _ hc
  have hu : un .u16 := by unfold un; simp
  have Hv := Lib.hid (show bitAt x j = mb cs 4 n by unfold mb; rw [if_neg (by decide)]; rw [if_neg (by decide)]; rw [if_neg (by decide)]; rw [if_pos rfl]; rw [hj, Int.toNat_natCast, cel_is hc]; rfl)
  have Hm := Lib.hid (un_small hu hr)
  have Hb := Lib.hid (shr_bit hu x j (un_nonneg hu hr) (un_lt hu hr))
  have Hq := Lib.hid (show IntKind.u64.wrap x = x by have := un_small hu hr; unfold small at this; rw [IntKind.wrap_u64]; omega)
  have hq0 : 0 ≤ x := un_nonneg hu hr
  have Hj := Lib.hid hj
  have Hc := Lib.hid hc
  clear hj hc hr hu
  have Hsz := Lib.hid hsh.size
  have ka := heap_alloc2_old w (.cells cs 45) (.cells #[.int .i64 4, .int .i64 n, .int .i64 p] 47)
  have kd := heap_alloc2_new w (.cells cs 45) (.cells #[.int .i64 4, .int .i64 n, .int .i64 p] 47)
  have B0 := Lib.hid (((Below.refl w.heap.size w).alloc (Nat.le_refl _) (.cells cs 45)).alloc (by simp) (.cells #[.int .i64 4, .int .i64 n, .int .i64 p] 47))
  have Ka := Lib.hid ka
  have Kd := Lib.hid kd
  clear ka kd hsh hrg
  go_enter Tryd.func16, Tryd.ntmps16
  go_wp2_with fail
  refine (spec_place 4 n p _).mono ?_
  rintro e w1 ⟨rfl, h1⟩
  have k1 := kit.box_keep Ka.out h1 (kit.box_lt Ka.out)
  have k2 := kit.box_keep Kd.out h1 (kit.box_lt Kd.out)
  have B1 := Lib.hid (B0.out.trans (h1.mono B0.out.size))
  have d0 := kit.box_cell k2 0 rfl
  have d1 := kit.box_cell k2 1 rfl
  have d2 := kit.box_cell k2 2 rfl
  clear h1 k2 Ka Kd B0
  rw [Hj.out]
  have cc : w1.cell? ⟨w.heap.size, 3, none⟩ = some (.int .u16 x) := kit.box_cell k1 3 Hc.out
  clear k1
  clear hq0
  go_wp2_with fail
  first | rw [Hq.out] | skip
  refine (l5Bit_any x j Hm.out (by omega) _).mono ?_
  rintro e w' ⟨rfl, rfl⟩
  go_wp2_with fail
  go_ret
  exact ⟨kit.ret_bool Hv.out, B1.out⟩

set_option maxRecDepth 100000 in
theorem sb_E (cs : Array Value) (hsh : Shape cs) (hrg : Rg cs) (n p : Int) (w : World) : Calls Tryd.prog 16 #[.agg cs, .agg #[.int .i64 5, .int .i64 n, .int .i64 p]] w fun e w' => e = .returned (.bool (mb cs 5 n)) ∧ Below w.heap.size w w' := by
  obtain ⟨j, hj, hlt⟩ := plc_nat' (k := 5) (n := n) (c := size 5) rfl (by decide)
  have hlt : (j : Int) < 32 := hlt
  obtain ⟨x, hc⟩ := hsh.E
  have hr := hrg 4 _ _ hc
  have hu : un .u32 := by unfold un; simp
  have Hv := Lib.hid (show bitAt x j = mb cs 5 n by unfold mb; rw [if_neg (by decide)]; rw [if_neg (by decide)]; rw [if_neg (by decide)]; rw [if_neg (by decide)]; rw [if_pos rfl]; rw [hj, Int.toNat_natCast, cel_is hc]; rfl)
  have Hm := Lib.hid (un_small hu hr)
  have Hb := Lib.hid (shr_bit hu x j (un_nonneg hu hr) (un_lt hu hr))
  have Hq := Lib.hid (show IntKind.u64.wrap x = x by have := un_small hu hr; unfold small at this; rw [IntKind.wrap_u64]; omega)
  have hq0 : 0 ≤ x := un_nonneg hu hr
  have Hj := Lib.hid hj
  have Hc := Lib.hid hc
  clear hj hc hr hu
  have Hsz := Lib.hid hsh.size
  have ka := heap_alloc2_old w (.cells cs 45) (.cells #[.int .i64 5, .int .i64 n, .int .i64 p] 47)
  have kd := heap_alloc2_new w (.cells cs 45) (.cells #[.int .i64 5, .int .i64 n, .int .i64 p] 47)
  have B0 := Lib.hid (((Below.refl w.heap.size w).alloc (Nat.le_refl _) (.cells cs 45)).alloc (by simp) (.cells #[.int .i64 5, .int .i64 n, .int .i64 p] 47))
  have Ka := Lib.hid ka
  have Kd := Lib.hid kd
  clear ka kd hsh hrg
  go_enter Tryd.func16, Tryd.ntmps16
  go_wp2_with fail
  refine (spec_place 5 n p _).mono ?_
  rintro e w1 ⟨rfl, h1⟩
  have k1 := kit.box_keep Ka.out h1 (kit.box_lt Ka.out)
  have k2 := kit.box_keep Kd.out h1 (kit.box_lt Kd.out)
  have B1 := Lib.hid (B0.out.trans (h1.mono B0.out.size))
  have d0 := kit.box_cell k2 0 rfl
  have d1 := kit.box_cell k2 1 rfl
  have d2 := kit.box_cell k2 2 rfl
  clear h1 k2 Ka Kd B0
  rw [Hj.out]
  have cc : w1.cell? ⟨w.heap.size, 4, none⟩ = some (.int .u32 x) := kit.box_cell k1 4 Hc.out
  clear k1
  clear hq0
  go_wp2_with fail
  first | rw [Hq.out] | skip
  refine (l5Bit_any x j Hm.out (by omega) _).mono ?_
  rintro e w' ⟨rfl, rfl⟩
  go_wp2_with fail
  go_ret
  exact ⟨kit.ret_bool Hv.out, B1.out⟩

set_option maxRecDepth 100000 in
theorem sb_T (cs : Array Value) (hsh : Shape cs) (hrg : Rg cs) (n p : Int) (w : World) : Calls Tryd.prog 16 #[.agg cs, .agg #[.int .i64 7, .int .i64 n, .int .i64 p]] w fun e w' => e = .returned (.bool (mb cs 7 n)) ∧ Below w.heap.size w w' := by
  obtain ⟨j, hj, hlt⟩ := plc_nat' (k := 7) (n := n) (c := 16) rfl (by decide)
  obtain ⟨x, c, hc, _⟩ := hsh.T j (by omega)
  have Hv := Lib.hid (show x = mb cs 7 n by unfold mb; rw [if_neg (by decide)]; rw [if_neg (by decide)]; rw [if_neg (by decide)]; rw [if_neg (by decide)]; rw [if_neg (by decide)]; rw [if_neg (by decide)]; rw [if_pos rfl]; rw [hj, Int.toNat_natCast, cel_is hc]; rfl)
  have Hj := Lib.hid hj
  have Hc := Lib.hid hc
  clear hj hc
  have Hsz := Lib.hid hsh.size
  have ka := heap_alloc2_old w (.cells cs 45) (.cells #[.int .i64 7, .int .i64 n, .int .i64 p] 47)
  have kd := heap_alloc2_new w (.cells cs 45) (.cells #[.int .i64 7, .int .i64 n, .int .i64 p] 47)
  have B0 := Lib.hid (((Below.refl w.heap.size w).alloc (Nat.le_refl _) (.cells cs 45)).alloc (by simp) (.cells #[.int .i64 7, .int .i64 n, .int .i64 p] 47))
  have Ka := Lib.hid ka
  have Kd := Lib.hid kd
  clear ka kd hsh hrg
  go_enter Tryd.func16, Tryd.ntmps16
  go_wp2_with fail
  refine (spec_place 7 n p _).mono ?_
  rintro e w1 ⟨rfl, h1⟩
  have k1 := kit.box_keep Ka.out h1 (kit.box_lt Ka.out)
  have k2 := kit.box_keep Kd.out h1 (kit.box_lt Kd.out)
  have B1 := Lib.hid (B0.out.trans (h1.mono B0.out.size))
  have d0 := kit.box_cell k2 0 rfl
  have d1 := kit.box_cell k2 1 rfl
  have d2 := kit.box_cell k2 2 rfl
  clear h1 k2 Ka Kd B0
  rw [Hj.out]
  have cc : w1.cell? ⟨w.heap.size, 5 + j * 2, none⟩ = some (.bool x) := kit.box_cell k1 (5 + j * 2) Hc.out
  clear k1
  go_wp2_with fail
  go_ret
  exact ⟨kit.ret_bool Hv.out, B1.out⟩

set_option maxRecDepth 100000 in
theorem sb_C (cs : Array Value) (hsh : Shape cs) (hrg : Rg cs) (n p : Int) (w : World) : Calls Tryd.prog 16 #[.agg cs, .agg #[.int .i64 8, .int .i64 n, .int .i64 p]] w fun e w' => e = .returned (.bool (mb cs 8 n)) ∧ Below w.heap.size w w' := by
  obtain ⟨j, hj, hlt⟩ := plc_nat' (k := 8) (n := n) (c := 16) rfl (by decide)
  obtain ⟨x, l, c, hc, _, _⟩ := hsh.C j (by omega)
  have Hv := Lib.hid (show x = mb cs 8 n by unfold mb; rw [if_neg (by decide)]; rw [if_neg (by decide)]; rw [if_neg (by decide)]; rw [if_neg (by decide)]; rw [if_neg (by decide)]; rw [if_neg (by decide)]; rw [if_neg (by decide)]; rw [if_pos rfl]; rw [hj, Int.toNat_natCast, cel_is hc]; rfl)
  have Hj := Lib.hid hj
  have Hc := Lib.hid hc
  clear hj hc
  have Hsz := Lib.hid hsh.size
  have ka := heap_alloc2_old w (.cells cs 45) (.cells #[.int .i64 8, .int .i64 n, .int .i64 p] 47)
  have kd := heap_alloc2_new w (.cells cs 45) (.cells #[.int .i64 8, .int .i64 n, .int .i64 p] 47)
  have B0 := Lib.hid (((Below.refl w.heap.size w).alloc (Nat.le_refl _) (.cells cs 45)).alloc (by simp) (.cells #[.int .i64 8, .int .i64 n, .int .i64 p] 47))
  have Ka := Lib.hid ka
  have Kd := Lib.hid kd
  clear ka kd hsh hrg
  go_enter Tryd.func16, Tryd.ntmps16
  go_wp2_with fail
  refine (spec_place 8 n p _).mono ?_
  rintro e w1 ⟨rfl, h1⟩
  have k1 := kit.box_keep Ka.out h1 (kit.box_lt Ka.out)
  have k2 := kit.box_keep Kd.out h1 (kit.box_lt Kd.out)
  have B1 := Lib.hid (B0.out.trans (h1.mono B0.out.size))
  have d0 := kit.box_cell k2 0 rfl
  have d1 := kit.box_cell k2 1 rfl
  have d2 := kit.box_cell k2 2 rfl
  clear h1 k2 Ka Kd B0
  rw [Hj.out]
  have cc : w1.cell? ⟨w.heap.size, 37 + j * 3, none⟩ = some (.bool x) := kit.box_cell k1 (37 + j * 3) Hc.out
  clear k1
  go_wp2_with fail
  go_ret
  exact ⟨kit.ret_bool Hv.out, B1.out⟩

set_option maxRecDepth 100000 in
theorem sb_G (cs : Array Value) (hsh : Shape cs) (hrg : Rg cs) (n p : Int) (w : World) : Calls Tryd.prog 16 #[.agg cs, .agg #[.int .i64 6, .int .i64 n, .int .i64 p]] w fun e w' => e = .returned (.bool (mb cs 6 n)) ∧ Below w.heap.size w w' := by
  obtain ⟨j, hj, hlt⟩ := plc_nat' (k := 6) (n := n) (c := 8) rfl (by decide)
  obtain ⟨t, h133⟩ := hsh.Time
  obtain ⟨ra, h134⟩ := hsh.Ran
  obtain ⟨fa, h135⟩ := hsh.Fault
  have ht := (hrg 133 _ _ h133).1
  have ht : 0 ≤ t := ht
  have g1 := cel_is h133
  have g2 := cel_is h134
  have g3 := cel_is h135
  have Hv := Lib.hid (show given cs j = mb cs 6 n by unfold mb; rw [if_neg (by decide)]; rw [if_neg (by decide)]; rw [if_neg (by decide)]; rw [if_neg (by decide)]; rw [if_neg (by decide)]; rw [if_pos rfl]; rw [hj])
  have HG := Lib.hid (show given cs j = if (j : Int) = 0 then true else if (j : Int) = 2 then !ra else if (j : Int) = 3 then fa else if (j : Int) = 4 then decide (500 ≤ t % 1000) else false by unfold given; rw [g1, g2, g3]; rfl)
  have Hj := Lib.hid hj
  have Hc1 := Lib.hid h133
  have Hc2 := Lib.hid h134
  have Hc3 := Lib.hid h135
  clear hj h133 h134 h135 g1 g2 g3
  have Hsz := Lib.hid hsh.size
  have ka := heap_alloc2_old w (.cells cs 45) (.cells #[.int .i64 6, .int .i64 n, .int .i64 p] 47)
  have kd := heap_alloc2_new w (.cells cs 45) (.cells #[.int .i64 6, .int .i64 n, .int .i64 p] 47)
  have B0 := Lib.hid (((Below.refl w.heap.size w).alloc (Nat.le_refl _) (.cells cs 45)).alloc (by simp) (.cells #[.int .i64 6, .int .i64 n, .int .i64 p] 47))
  have Ka := Lib.hid ka
  have Kd := Lib.hid kd
  clear ka kd hsh hrg
  go_enter Tryd.func16, Tryd.ntmps16
  go_wp2_with fail
  refine (spec_place 6 n p _).mono ?_
  rintro e w1 ⟨rfl, h1⟩
  have k1 := kit.box_keep Ka.out h1 (kit.box_lt Ka.out)
  have k2 := kit.box_keep Kd.out h1 (kit.box_lt Kd.out)
  have B1 := Lib.hid (B0.out.trans (h1.mono B0.out.size))
  have d0 := kit.box_cell k2 0 rfl
  have d1 := kit.box_cell k2 1 rfl
  have d2 := kit.box_cell k2 2 rfl
  clear h1 k2 Ka Kd B0
  rw [Hj.out]
  have Ht := Lib.hid ht
  clear ht hlt
  go_wp2_with (refine wl_hld rfl _ _ rfl k1 rfl (by kernel_rfl) 136 Hsz.out (by kernel_rfl) ?_)
  refine (l5Given_any cs t ra fa Hc1.out Hc2.out Hc3.out Ht.out j _).mono ?_
  rintro e w2 ⟨rfl, h2⟩
  have B2 := Lib.hid (B1.out.trans (h2.mono B1.out.size))
  clear h2
  go_wp2_with fail
  go_ret
  exact ⟨kit.ret_bool Hv.out, B2.out⟩

set_option maxRecDepth 100000 in
theorem sb_O (cs : Array Value) (hsh : Shape cs) (hrg : Rg cs) (k n p : Int) (h1 : k ≠ 1) (h2 : k ≠ 2) (h3 : k ≠ 3) (h4 : k ≠ 4) (h5 : k ≠ 5) (h6 : k ≠ 6) (h7 : k ≠ 7) (h8 : k ≠ 8) (w : World) : Calls Tryd.prog 16 #[.agg cs, .agg #[.int .i64 k, .int .i64 n, .int .i64 p]] w fun e w' => e = .returned (.bool (mb cs k n)) ∧ Below w.heap.size w w' := by
  have hk1 : (k == 1) = false := beq_eq_false_iff_ne.2 h1
  have hk2 : (k == 2) = false := beq_eq_false_iff_ne.2 h2
  have hk3 : (k == 3) = false := beq_eq_false_iff_ne.2 h3
  have hk4 : (k == 4) = false := beq_eq_false_iff_ne.2 h4
  have hk5 : (k == 5) = false := beq_eq_false_iff_ne.2 h5
  have hk6 : (k == 6) = false := beq_eq_false_iff_ne.2 h6
  have hk7 : (k == 7) = false := beq_eq_false_iff_ne.2 h7
  have hk8 : (k == 8) = false := beq_eq_false_iff_ne.2 h8
  have Hv := Lib.hid (show false = mb cs k n by unfold mb; rw [if_neg h1, if_neg h2, if_neg h3, if_neg h4, if_neg h5, if_neg h6, if_neg h7, if_neg h8])
  clear h1 h2 h3 h4 h5 h6 h7 h8
  have Hsz := Lib.hid hsh.size
  have ka := heap_alloc2_old w (.cells cs 45) (.cells #[.int .i64 k, .int .i64 n, .int .i64 p] 47)
  have kd := heap_alloc2_new w (.cells cs 45) (.cells #[.int .i64 k, .int .i64 n, .int .i64 p] 47)
  have B0 := Lib.hid (((Below.refl w.heap.size w).alloc (Nat.le_refl _) (.cells cs 45)).alloc (by simp) (.cells #[.int .i64 k, .int .i64 n, .int .i64 p] 47))
  have Ka := Lib.hid ka
  have Kd := Lib.hid kd
  clear ka kd hsh hrg
  go_enter Tryd.func16, Tryd.ntmps16
  go_wp2_with fail
  refine (spec_place k n p _).mono ?_
  rintro e w1 ⟨rfl, h1⟩
  have k1 := kit.box_keep Ka.out h1 (kit.box_lt Ka.out)
  have k2 := kit.box_keep Kd.out h1 (kit.box_lt Kd.out)
  have B1 := Lib.hid (B0.out.trans (h1.mono B0.out.size))
  have d0 := kit.box_cell k2 0 rfl
  have d1 := kit.box_cell k2 1 rfl
  have d2 := kit.box_cell k2 2 rfl
  clear h1 k2 Ka Kd B0
  clear k1
  go_wp2_with fail
  go_ret
  exact ⟨kit.ret_bool Hv.out, B1.out⟩

theorem sb_any (cs : Array Value) (hsh : Shape cs) (hrg : Rg cs) (k n p : Int) (w : World) : Calls Tryd.prog 16 #[.agg cs, .agg #[.int .i64 k, .int .i64 n, .int .i64 p]] w fun e w' => e = .returned (.bool (mb cs k n)) ∧ Below w.heap.size w w' := by
  by_cases h1 : k = 1
  · subst h1; exact sb_X cs hsh hrg n p w
  by_cases h2 : k = 2
  · subst h2; exact sb_Y cs hsh hrg n p w
  by_cases h3 : k = 3
  · subst h3; exact sb_M cs hsh hrg n p w
  by_cases h4 : k = 4
  · subst h4; exact sb_S cs hsh hrg n p w
  by_cases h5 : k = 5
  · subst h5; exact sb_E cs hsh hrg n p w
  by_cases h6 : k = 6
  · subst h6; exact sb_G cs hsh hrg n p w
  by_cases h7 : k = 7
  · subst h7; exact sb_T cs hsh hrg n p w
  by_cases h8 : k = 8
  · subst h8; exact sb_C cs hsh hrg n p w
  exact sb_O cs hsh hrg k n p h1 h2 h3 h4 h5 h6 h7 h8 w

end Go.Proofs.YtnffgafofkknoaaDoor.part
