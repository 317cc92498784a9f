/-
  What a drawing function has in hand: the reader, boxes of operands; how calls, loads and stores turn it.
  Conditions: none.
-/
import Derived.Test.YtgmdpgchffapoaaDoorDraws
import Derived.Test.YtgmdpgchffapoaaDoorOrders
namespace Go.Proofs.YtgmdpgchffapoaaDoor.draws
open Go Go.RowKit Go.Proofs.YtgmdpgchffapoaaDoor.part Go.Proofs.YtgmdpgchffapoaaDoorW.PrintWords
set_option linter.unusedVariables false
set_option linter.unusedSimpArgs false

/-- Cells put one behind the other. -/
def putL (cs : Array Value) (off : Nat) : List Value → Array Value
  | [] => cs
  | v :: r => putL (cs.setIfInBounds off v) (off + 1) r
theorem storeL {P : Program} (g off : Nat) (t : TypeId) : ∀ (vs : List Value) (i : Nat) (cur : Array Value) (w : World), w.heap[g]? = some (.cells cur t (0, 0)) → off + i + vs.length ≤ cur.size → (∀ v ∈ vs, v.oneCell' = true) →
    ∃ w1, (storeCells ⟨g, off, none⟩ vs i).run P w = .ok () w1 ∧ w1.heap[g]? = some (.cells (putL cur (off + i) vs) t (0, 0)) ∧ (∀ k, k ≠ g → w1.heap[k]? = w.heap[k]?) ∧ Below g w w1
  | [], i, cur, w, hg, hl, _ => ⟨w, rfl, hg, fun _ _ => rfl, Below.refl _ _⟩
  | v :: rest, i, cur, w, hg, hl, h1 => by
    simp only [List.length_cons] at hl
    have hi : off + i < cur.size := by omega
    have hcell : w.cell? ⟨g, off + i, none⟩ = some cur[off + i] := by simp [World.cell?, hg, hi]
    have hfro : w.frozen? ⟨g, off + i, none⟩ = false := by simp [World.frozen?, hg]
    have hst : (store ((⟨g, off, none⟩ : Addr).add i) v).run P w = .ok () (w.setCell ⟨g, off + i, none⟩ v) := by
      rw [part.add_at, run_store P w _ v _ (h1 v (by simp)), hcell]
      simp [hfro]
    have hg2 : (w.setCell ⟨g, off + i, none⟩ v).heap[g]? = some (.cells (cur.setIfInBounds (off + i) v) t (0, 0)) := by
      rw [setCell_eq_setRow w g (off + i) cur t (0, 0) v hg]
      exact setRow_heap w g cur _ t _ hg
    obtain ⟨w1, a1, a2, a3, a4⟩ := storeL (P := P) g off t rest (i + 1) _ _ hg2 (by simp; omega) (fun x hx => h1 x (by simp [hx]))
    refine ⟨w1, ?_, a2, fun k hk => (a3 k hk).trans (Below.heap_setCell w ⟨g, off + i, none⟩ v k hk), ((Below.refl g w).setCell (p := ⟨g, off + i, none⟩) (Nat.le_refl _) v).trans a4⟩
    simp only [storeCells, Sem.run_bind, hst, Result.andThen_ok, a1]
theorem putL_size : ∀ (vs : List Value) (cs : Array Value) (off : Nat), (putL cs off vs).size = cs.size
  | [], _, _ => rfl
  | v :: r, cs, off => by unfold putL; rw [putL_size r]; simp
/-- A box that holds an operand. -/
def Bx (p : Nat × Nat) (w : World) : Prop := ∃ x y z : Int, w.heap[p.1]? = some (.cells #[.int .i64 x, .int .i64 y, .int .i64 z] 31 (0, 0))
theorem Bx.keep {p : Nat × Nat} {w w1 : World} (h : Bx p w) (e : w1.heap[p.1]? = w.heap[p.1]?) : Bx p w1 := by
  obtain ⟨x, y, z, h⟩ := h
  exact ⟨x, y, z, e.trans h⟩
theorem Bx.lt {p : Nat × Nat} {w : World} (h : Bx p w) : p.1 < w.heap.size := by
  obtain ⟨x, y, z, h⟩ := h
  exact kit.box_lt h
/-- All that is in hand. -/
def Sx (B : Base) (g : Nat) (n : Int) (bs : List (Nat × Nat)) (w : World) : Prop := Rd B w g n ∧ ∀ p ∈ bs, Bx p w ∧ p.1 ≠ g ∧ B.wf.heap.size ≤ p.1 ∧ B.w0.heap.size ≤ p.1
section
variable {B : Base} {w w1 : World} {g : Nat} {n m : Int} {bs : List (Nat × Nat)}
theorem Sx.rd (h : Sx B g n bs w) : Rd ⟨B.w0, w⟩ w g n := h.1.now
theorem Sx.step (h : Sx B g n bs w) (k : Rd ⟨B.w0, w⟩ w1 g m) : Sx B g m bs w1 :=
  ⟨h.1.since k, fun p hp => by obtain ⟨a, b, c⟩ := h.2 p hp; exact ⟨a.keep (k.keep.2 p.1 a.lt b (by simp)), b, c⟩⟩
theorem Sx.below (h : Sx B g n bs w) (k : Below w.heap.size w w1) : Sx B g n bs w1 := h.step (h.rd.below k)
theorem Sx.le (h : Sx B g n bs w) (hm : n ≤ m) : Sx B g m bs w := ⟨h.1.le hm, h.2⟩
theorem Sx.alloc (h : Sx B g n bs w) (o : Obj) : Sx B g n bs (w.alloc o) := h.below ((Below.refl _ _).alloc (Nat.le_refl _) _)
theorem Sx.add (h : Sx B g n bs w) (p : Nat × Nat) (hp : Bx p w) (hg : p.1 ≠ g) (h1 : B.wf.heap.size ≤ p.1) (h2 : B.w0.heap.size ≤ p.1) : Sx B g n (p :: bs) w :=
  ⟨h.1, fun q hq => by rcases List.mem_cons.1 hq with rfl | hq; exact ⟨hp, hg, h1, h2⟩; exact h.2 q hq⟩
theorem Sx.dev (h : Sx B g n bs w) (x y z : Int) : Sx B g n ((w.heap.size, 0) :: bs) (w.alloc (.cells #[.int .i64 x, .int .i64 y, .int .i64 z] 31)) :=
  (h.alloc _).add (w.heap.size, 0) ⟨x, y, z, heap_alloc_new _ _⟩ (fun e => by have := h.1.lt; simp at e; omega) h.1.keep.1 h.1.is.size
theorem Sx.set (h : Sx B g n bs w) {b k : Nat} (hb : (b, k) ∈ bs) (a3 : ∀ k, k ≠ b → w1.heap[k]? = w.heap[k]?) (a4 : Below b w w1) (hp : ∀ k, (b, k) ∈ bs → Bx (b, k) w1) : Sx B g n bs w1 := by
  obtain ⟨_, bg, bf, b0⟩ := h.2 _ hb
  refine ⟨?_, fun p hpm => ?_⟩
  · obtain ⟨l, p, k1, k2, k3, k4, k5, k6, k7⟩ := h.1
    refine ⟨l, p, ?_, k2, k3, k4, k5, k6.trans (a4.mono b0), ?_⟩
    · obtain ⟨A0, c0, e1, e2, e3⟩ := k1
      exact ⟨A0, c0, (a3 g (fun e => bg e.symm)).trans e1, e2, e3⟩
    · exact ⟨Nat.le_trans k7.1 a4.size, fun i hi hn1 hn2 => (a3 i (fun e => by simp at bf; omega)).trans (k7.2 i hi hn1 hn2)⟩
  · obtain ⟨x1, x2, x3⟩ := h.2 p hpm
    by_cases e : p.1 = b
    · obtain ⟨p1, p2⟩ := p
      simp only at e
      subst e
      exact ⟨hp p2 hpm, x2, x3⟩
    · exact ⟨x1.keep (a3 _ e), x2, x3⟩
theorem Rd.apart {b : Nat} {cs : Array Value} {t : TypeId} {fr : Nat × Nat} (h : Rd B w g n) (hb : w.heap[b]? = some (.cells cs t fr)) (ht : t ≠ 62) : b ≠ g := by
  rintro rfl
  obtain ⟨l, p, ⟨A0, c0, e, _⟩, _⟩ := h
  rw [e] at hb
  simp at hb
  exact ht hb.2.1.symm
theorem Sx.set0 (h : Sx B g n bs w) {b : Nat} (hb : (b, 0) ∈ bs) (a3 : ∀ k, k ≠ b → w1.heap[k]? = w.heap[k]?) (a4 : Below b w w1) (x y z : Int) (hw : w1.heap[b]? = some (.cells #[.int .i64 x, .int .i64 y, .int .i64 z] 31 (0, 0))) : Sx B g n bs w1 :=
  h.set hb a3 a4 (fun k hk => ⟨x, y, z, hw⟩)

/-! ### calls -/
theorem Sx.pick (h : Sx B g n bs w) (hn : n < 90000) (a : Int) (ha : 1 ≤ a) :
    Calls Tryd.prog 36 #[.pointer (some ⟨g, 0, none⟩), .int .i64 a] w fun e w' => ∃ j : Nat, e = .returned (.int .i64 j) ∧ (j : Int) < a ∧ Sx B g (n + 1) bs w' :=
  (pick_w h.rd (by omega) a ha).mono fun e w' ⟨q, he, q0, q1, k⟩ => by
    obtain ⟨j, rfl⟩ := Int.eq_ofNat_of_zero_le q0
    exact ⟨j, he, q1, h.step k⟩
theorem Sx.pickAny (h : Sx B g n bs w) (hn : n < 90000) (a : Int) :
    Calls Tryd.prog 36 #[.pointer (some ⟨g, 0, none⟩), .int .i64 a] w fun e w' => ∃ j : Int, e = .returned (.int .i64 j) ∧ Sx B g (n + 1) bs w' :=
  (pick_any h.rd (by omega) a).mono fun e w' ⟨q, he, k⟩ => ⟨q, he, h.step k⟩
theorem Sx.num (h : Sx B g n bs w) (hn : n < 90000) (xs : List Int) (cs : Array Value) (t : TypeId) (c : Nat) (hcb : w.heap.size = c) (hx : 1 ≤ xs.length) (hm : xs.length ≤ 1000) (hc : ∀ j, j < xs.length → cs[j]? = some (.int .i64 (xs.getD j 0))) :
    Calls Tryd.prog 51 #[.pointer (some ⟨g, 0, none⟩), .slice (some ⟨c, 0, none⟩) xs.length xs.length] (w.alloc (.cells cs t)) fun e w' => ∃ q, e = .returned (.int .i64 q) ∧ q ∈ xs ∧ Sx B g (n + 1) bs w' := by
  subst hcb
  exact (num_w (h.alloc (.cells cs t)).rd (by omega) w.heap.size xs cs t (0, 0) hx hm (kit.box_new _ _ _) hc (by have := h.1.lt; omega)).mono fun e w' ⟨q, he, hq, k⟩ => ⟨q, he, hq, (h.alloc _).step k⟩
end

/-! ### operations -/
section
variable {P : Program} {ops : Array Oper} {rest : List Oper} {o : Oper} {a : Act} {w : World} {K : Act → World → Prop} {Q : Exit → Act → World → Prop} {B : Base} {g b : Nat} {n : Int} {bs : List (Nat × Nat)}
theorem ow_x0 (ty : TypeId) (x y : Operand) (ho : o.op = .store ty x y) (hst : Sx B g n bs w) (hm : (b, 0) ∈ bs) (x1 x2 x3 : Int) (hx : a.eval x = .pointer (some ⟨b, 0, none⟩)) (hy : a.eval y = .agg #[.int .i64 x1, .int .i64 x2, .int .i64 x3]) (hi : (P.info? ty).map (·.size) = some 3)
    (h : ∀ w1, Sx B g n bs w1 → K (a.put o.dst undef) w1) : o.wp P a w K Q := by
  obtain ⟨⟨q1, q2, q3, hcs⟩, _⟩ := hst.2 _ hm
  obtain ⟨w1, a1, a2, a3, a4⟩ := storeL (P := P) b 0 31 [.int .i64 x1, .int .i64 x2, .int .i64 x3] 0 _ w hcs (by simp) (by intro v hv; simp at hv; rcases hv with rfl | rfl | rfl <;> rfl)
  have e : (storeVar ty ⟨b, 0, none⟩ (.agg #[.int .i64 x1, .int .i64 x2, .int .i64 x3])).run P w = .ok () w1 := by
    cases hq : P.info? ty with
    | none => simp [hq] at hi
    | some i =>
      have hs : i.size = 3 := by simpa [hq] using hi
      simp only [storeVar, sizeOf, typeInfo, Sem.run_bind, hq, Value.cells]
      simp [Sem.run_bind, hq, hs]
      simpa using a1
  unfold Oper.wp execOp
  simp only [ho, hx, hy, Instr.storeAt, Instr.sureAddr, Sem.run_bind, Sem.run_pure, Result.andThen_ok, e]
  exact h _ (hst.set0 hm a3 a4 x1 x2 x3 a2)
theorem ow_x0f (ty : TypeId) (x y : Operand) (ho : o.op = .store ty x y) (hst : Sx B g n bs w) (hm : (b, 0) ∈ bs) (off : Nat) (hoff : off < 3) (x1 : Int) (hx : a.eval x = .pointer (some ⟨b, off, none⟩)) (hy : a.eval y = .int .i64 x1) (hi : (P.info? ty).map (·.size) = some 1)
    (h : ∀ w1, Sx B g n bs w1 → K (a.put o.dst undef) w1) : o.wp P a w K Q := by
  obtain ⟨⟨q1, q2, q3, hcs⟩, _⟩ := hst.2 _ hm
  obtain ⟨w1, a1, a2, a3, a4⟩ := storeL (P := P) b off 31 [.int .i64 x1] 0 _ w hcs (by simp; omega) (by intro v hv; simp at hv; rw [hv]; rfl)
  have e : (storeVar ty ⟨b, off, none⟩ (.int .i64 x1)).run P w = .ok () w1 := by
    cases hq : P.info? ty with
    | none => simp [hq] at hi
    | some i =>
      have hs : i.size = 1 := by simpa [hq] using hi
      simp only [storeVar, sizeOf, typeInfo, Sem.run_bind, hq, Value.cells]
      simp [Sem.run_bind, hq, hs]
      simpa using a1
  unfold Oper.wp execOp
  simp only [ho, hx, hy, Instr.storeAt, Instr.sureAddr, Sem.run_bind, Sem.run_pure, Result.andThen_ok, e]
  have hoo : off = 0 ∨ off = 1 ∨ off = 2 := by omega
  rcases hoo with rfl | rfl | rfl
  · exact h _ (hst.set0 hm a3 a4 _ _ _ a2)
  · exact h _ (hst.set0 hm a3 a4 _ _ _ a2)
  · exact h _ (hst.set0 hm a3 a4 _ _ _ a2)
theorem ow_l0 (ty : TypeId) (x : Operand) (ho : o.op = .load ty x) (hst : Sx B g n bs w) (hm : (b, 0) ∈ bs) (hx : a.eval x = .pointer (some ⟨b, 0, none⟩)) (hu : aggB P ty = true) (hi : (P.info? ty).map (·.size) = some 3)
    (h : ∀ x1 x2 x3 : Int, K (a.put o.dst (.agg #[.int .i64 x1, .int .i64 x2, .int .i64 x3])) w) : o.wp P a w K Q := by
  obtain ⟨⟨q1, q2, q3, hcs⟩, _⟩ := hst.2 _ hm
  exact ow_hld ty x ho hcs hx hu 3 rfl hi (h q1 q2 q3)
theorem ow_l0f (ty : TypeId) (x : Operand) (ho : o.op = .load ty x) (hst : Sx B g n bs w) (hm : (b, 0) ∈ bs) (off : Nat) (hoff : off < 3) (hx : a.eval x = .pointer (some ⟨b, off, none⟩)) (hu : scalarB P ty = true)
    (h : ∀ x1 : Int, K (a.put o.dst (.int .i64 x1)) w) : o.wp P a w K Q := by
  obtain ⟨⟨q1, q2, q3, hcs⟩, _⟩ := hst.2 _ hm
  have hcell : ∃ x1 : Int, w.cell? ⟨b, off, none⟩ = some (.int .i64 x1) := by
    have hoo : off = 0 ∨ off = 1 ∨ off = 2 := by omega
    rcases hoo with rfl | rfl | rfl
    · exact ⟨q1, kit.box_cell hcs 0 rfl⟩
    · exact ⟨q2, kit.box_cell hcs 1 rfl⟩
    · exact ⟨q3, kit.box_cell hcs 2 rfl⟩
  obtain ⟨x1, hc⟩ := hcell
  have e : (loadVar ty ⟨b, off, none⟩).run P w = .ok (.int .i64 x1) w := by simp [loadVar, Sem.run_bind, scalar_run hu w, hc]
  unfold Oper.wp execOp
  simp only [ho, hx, Instr.loadAt, Instr.sureAddr, Sem.run_bind, Sem.run_pure, Result.andThen_ok, e]
  exact h x1
theorem wl_x0 (hgd : o.guard = none) (ty : TypeId) (x y : Operand) (ho : o.op = .store ty x y) (hst : Sx B g n bs w) (hm : (b, 0) ∈ bs) (x1 x2 x3 : Int) (hx : a.eval x = .pointer (some ⟨b, 0, none⟩)) (hy : a.eval y = .agg #[.int .i64 x1, .int .i64 x2, .int .i64 x3]) (hi : (P.info? ty).map (·.size) = some 3)
    (h : ∀ w1, Sx B g n bs w1 → wpList P ops Q rest (a.put o.dst undef) w1) : wpList P ops Q (o :: rest) a w :=
  wpList_plain hgd fun _ hK => ow_x0 ty x y ho hst hm x1 x2 x3 hx hy hi fun w1 h1 => hK _ _ (h w1 h1)
theorem wl_x0f (hgd : o.guard = none) (ty : TypeId) (x y : Operand) (ho : o.op = .store ty x y) (hst : Sx B g n bs w) (hm : (b, 0) ∈ bs) (off : Nat) (hoff : off < 3) (x1 : Int) (hx : a.eval x = .pointer (some ⟨b, off, none⟩)) (hy : a.eval y = .int .i64 x1) (hi : (P.info? ty).map (·.size) = some 1)
    (h : ∀ w1, Sx B g n bs w1 → wpList P ops Q rest (a.put o.dst undef) w1) : wpList P ops Q (o :: rest) a w :=
  wpList_plain hgd fun _ hK => ow_x0f ty x y ho hst hm off hoff x1 hx hy hi fun w1 h1 => hK _ _ (h w1 h1)
theorem wl_l0 (hgd : o.guard = none) (ty : TypeId) (x : Operand) (ho : o.op = .load ty x) (hst : Sx B g n bs w) (hm : (b, 0) ∈ bs) (hx : a.eval x = .pointer (some ⟨b, 0, none⟩)) (hu : aggB P ty = true) (hi : (P.info? ty).map (·.size) = some 3)
    (h : ∀ x1 x2 x3 : Int, wpList P ops Q rest (a.put o.dst (.agg #[.int .i64 x1, .int .i64 x2, .int .i64 x3])) w) : wpList P ops Q (o :: rest) a w :=
  wpList_plain hgd fun _ hK => ow_l0 ty x ho hst hm hx hu hi fun x1 x2 x3 => hK _ _ (h x1 x2 x3)
theorem wl_l0f (hgd : o.guard = none) (ty : TypeId) (x : Operand) (ho : o.op = .load ty x) (hst : Sx B g n bs w) (hm : (b, 0) ∈ bs) (off : Nat) (hoff : off < 3) (hx : a.eval x = .pointer (some ⟨b, off, none⟩)) (hu : scalarB P ty = true)
    (h : ∀ x1 : Int, wpList P ops Q rest (a.put o.dst (.int .i64 x1)) w) : wpList P ops Q (o :: rest) a w :=
  wpList_plain hgd fun _ hK => ow_l0f ty x ho hst hm off hoff hx hu fun x1 => hK _ _ (h x1)
theorem wl_genX (h : Sx B g n bs w) (k : ∀ w1, Sx B g n bs w1 → wpList P ops Q rest a w1) : wpList P ops Q rest a w := k w h
theorem wp_genX {c : Code} (h : Sx B g n bs w) (k : ∀ w1, Sx B g n bs w1 → c.wp P Q a w1) : c.wp P Q a w := k w h
end
end Go.Proofs.YtgmdpgchffapoaaDoor.draws
