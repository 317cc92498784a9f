/-
  What a drawing function has in hand: the reader, and boxes whose cells are known.
  Conditions: none.
-/
import Derived.Test.YtgmdpgchffapoaaDoorSx
import Derived.Test.YtgmdpgchffapoaaDoorHxG
namespace Go.Proofs.YtgmdpgchffapoaaDoor.draws
open Go Go.RowKit Go.Proofs.YtgmdpgchffapoaaDoor.part Go.Proofs.YtgmdpgchffapoaaDoor.CutEk Go.Proofs.YtgmdpgchffapoaaDoorW.PrintWords
set_option linter.unusedVariables false
set_option linter.unusedSimpArgs false
set_option maxRecDepth 100000

/-- The reader, and boxes whose cells are known. -/
def Gx (B : Base) (g : Nat) (n : Int) (bs : List (Nat × Array Value × TypeId)) (w : World) : Prop :=
  Rd B w g n ∧ ∀ p ∈ bs, w.heap[p.1]? = some (.cells p.2.1 p.2.2 (0, 0)) ∧ p.1 ≠ g ∧ B.wf.heap.size ≤ p.1 ∧ B.w0.heap.size ≤ p.1
section
variable {B : Base} {w w1 : World} {g b : Nat} {n m : Int} {bs : List (Nat × Array Value × TypeId)} {cs : Array Value} {t : TypeId}
theorem gx_nil (h : Rd B w g n) : Gx ⟨B.w0, w⟩ g n [] w := ⟨h.now, fun p hp => by cases hp⟩
theorem Gx.rd (h : Gx B g n bs w) : Rd ⟨B.w0, w⟩ w g n := h.1.now
theorem Gx.step (h : Gx B g n bs w) (k : Rd ⟨B.w0, w⟩ w1 g m) : Gx B g m bs w1 :=
  ⟨h.1.since k, fun p hp => by obtain ⟨a, b, c⟩ := h.2 p hp; exact ⟨(k.keep.2 p.1 (kit.box_lt a) b (by simp)).trans a, b, c⟩⟩
theorem Gx.below (h : Gx B g n bs w) (k : Below w.heap.size w w1) : Gx B g n bs w1 := h.step (h.rd.below k)
theorem Gx.le (h : Gx B g n bs w) (hm : n ≤ m) : Gx B g m bs w := ⟨h.1.le hm, h.2⟩
theorem Gx.drew (h : Gx B g n bs w) : Gx B g n bs { w with drawn := w.drawn + 1 } := h.below ⟨rfl, rfl, rfl, Nat.le_refl _, fun _ _ => rfl⟩
theorem Gx.box (h : Gx B g n bs w) (cs : Array Value) (t : TypeId) : Gx B g n ((w.heap.size, cs, t) :: bs) (w.alloc (.cells cs t)) := by
  have h2 : Gx B g n bs (w.alloc (.cells cs t)) := h.below ((Below.refl _ _).alloc (Nat.le_refl _) _)
  refine ⟨h2.1, fun p hp => ?_⟩
  rcases List.mem_cons.1 hp with rfl | hp
  · refine ⟨heap_alloc_new _ _, fun e => ?_, h.1.keep.1, h.1.is.size⟩
    have := h.1.lt
    simp only at e
    omega
  · exact h2.2 p hp
theorem Gx.cell (h : Gx B g n bs w) (hm : (b, cs, t) ∈ bs) (i : Nat) {v : Value} (hv : cs[i]? = some v) : w.cell? ⟨b, i, none⟩ = some v := kit.box_cell (h.2 _ hm).1 i hv
theorem Gx.frozen (h : Gx B g n bs w) (hm : (b, cs, t) ∈ bs) (i : Nat) : w.frozen? ⟨b, i, none⟩ = false := by
  have := (h.2 _ hm).1
  simp only at this
  simp [World.frozen?, this]
theorem Gx.ne (h : Gx B g n bs w) (hm : (b, cs, t) ∈ bs) : b ≠ g := (h.2 _ hm).2.1
theorem Gx.lt (h : Gx B g n bs w) (hm : (b, cs, t) ∈ bs) : b < w.heap.size := kit.box_lt (h.2 _ hm).1
/-- A box is filled anew. -/
theorem Gx.set (h : Gx B g n bs w) {old : Array Value} (hm : (b, old, t) ∈ bs) (a1 : w1.heap[b]? = some (.cells cs t (0, 0))) (a3 : ∀ k, k ≠ b → w1.heap[k]? = w.heap[k]?) (a4 : Below b w w1) (bs' : List (Nat × Array Value × TypeId)) (hs : ∀ p ∈ bs', p.1 ≠ b ∧ p ∈ bs) : Gx B g n ((b, cs, t) :: bs') w1 := by
  obtain ⟨_, bg, bf, b0⟩ := h.2 _ hm
  refine ⟨?_, fun p hpm => ?_⟩
  · obtain ⟨l, p, k1, k2, k3, k4, k5, k6, k7⟩ := h.1
    refine ⟨l, p, ?_, k2, k3, k4, k5, k6.trans (a4.mono b0), ?_⟩
    · obtain ⟨A0, c0, e1, e2, e3⟩ := k1
      exact ⟨A0, c0, (a3 g (fun e => bg e.symm)).trans e1, e2, e3⟩
    · exact ⟨Nat.le_trans k7.1 a4.size, fun i hi hn1 hn2 => (a3 i (fun e => by simp at bf; omega)).trans (k7.2 i hi hn1 hn2)⟩
  · rcases List.mem_cons.1 hpm with rfl | hp
    · exact ⟨a1, bg, bf, b0⟩
    · obtain ⟨x1, x2⟩ := h.2 p (hs p hp).2
      exact ⟨(a3 p.1 (hs p hp).1).trans x1, x2⟩
theorem Gx.setCell (h : Gx B g n bs w) {old : Array Value} (hm : (b, old, t) ∈ bs) (i : Nat) (v : Value) (bs' : List (Nat × Array Value × TypeId)) (hs : ∀ p ∈ bs', p.1 ≠ b ∧ p ∈ bs) : Gx B g n ((b, old.setIfInBounds i v, t) :: bs') (w.setCell ⟨b, i, none⟩ v) := by
  have hg := (h.2 _ hm).1
  refine h.set hm ?_ (fun k hk => Below.heap_setCell w ⟨b, i, none⟩ v k hk) ((Below.refl b w).setCell (p := ⟨b, i, none⟩) (Nat.le_refl _) v) bs' hs
  rw [setCell_eq_setRow w b i old t (0, 0) v hg]
  exact setRow_heap w b old _ t _ hg

/-! ### calls -/
theorem Gx.pick (h : Gx B g n bs w) (hn : n < 90000) (a : Int) (ha : 1 ≤ a) :
    Calls Tryd.prog 36 #[.pointer (some ⟨g, 0, none⟩), .int .i64 a] w fun e w' => ∃ j : Nat, e = .returned (.int .i64 j) ∧ (j : Int) < a ∧ Gx B g (n + 1) bs w' :=
  (pick_w h.rd (by omega) a ha).mono fun e w' ⟨q, he, q0, q1, k⟩ => by
    obtain ⟨j, rfl⟩ := Int.eq_ofNat_of_zero_le q0
    exact ⟨j, he, q1, h.step k⟩
theorem Gx.num (h : Gx B g n bs w) (hn : n < 90000) (xs : List Int) (cs : Array Value) (t : TypeId) (c : Nat) (hcb : w.heap.size = c) (hx : 1 ≤ xs.length) (hm : xs.length ≤ 1000) (hc : ∀ j, j < xs.length → cs[j]? = some (.int .i64 (xs.getD j 0))) :
    Calls Tryd.prog 51 #[.pointer (some ⟨g, 0, none⟩), .slice (some ⟨c, 0, none⟩) xs.length xs.length] (w.alloc (.cells cs t)) fun e w' => ∃ q, e = .returned (.int .i64 q) ∧ q ∈ xs ∧ Gx B g (n + 1) bs w' := by
  subst hcb
  have h2 : Gx B g n bs (w.alloc (.cells cs t)) := h.below ((Below.refl _ _).alloc (Nat.le_refl _) _)
  exact (num_w h2.rd (by omega) w.heap.size xs cs t (0, 0) hx hm (kit.box_new _ _ _) hc (by have := h.1.lt; omega)).mono fun e w' ⟨q, he, hq, k⟩ => ⟨q, he, hq, h2.step k⟩
end
theorem rowOfG (xs : List Int) : ∀ j, j < xs.length → (xs.map (Value.int .i64)).toArray[j]? = some (.int .i64 (xs.getD j 0)) := by
  intro j hj
  simp [List.getElem?_eq_getElem hj, List.getD_eq_getElem?_getD]

/-! ### stores -/
section
variable {P : Program} {ops : Array Oper} {rest : List Oper} {o : Oper} {a : Act} {w : World} {K : Act → World → Prop} {Q : Exit → Act → World → Prop} {B : Base} {g b : Nat} {n : Int} {bs : List (Nat × Array Value × TypeId)} {cs old : Array Value} {t : TypeId}
theorem putL_all : ∀ (vs : List Value) (cs : Array Value) (off : Nat), off + vs.length ≤ cs.size → ∀ i, (putL cs off vs)[i]? = if off ≤ i ∧ i < off + vs.length then vs[i - off]? else cs[i]?
  | [], cs, off, h, i => by
    unfold putL
    rw [if_neg (by intro hh; simp at hh; omega)]
  | v :: r, cs, off, h, i => by
    unfold putL
    simp only [List.length_cons] at h ⊢
    rw [putL_all r _ (off + 1) (by simp; omega) i]
    by_cases h1 : off + 1 ≤ i ∧ i < off + 1 + r.length
    · rw [if_pos h1, if_pos (by omega), show i - off = (i - (off + 1)) + 1 by omega, List.getElem?_cons_succ]
    · rw [if_neg h1]
      by_cases h2 : i = off
      · subst h2
        rw [if_pos (by omega), Nat.sub_self, List.getElem?_cons_zero, Array.getElem?_setIfInBounds]
        simp; omega
      · rw [if_neg (by omega), Array.getElem?_setIfInBounds, if_neg (by omega)]
theorem putL_whole (vs : Array Value) (cs : Array Value) (h : cs.size = vs.size) : putL cs 0 vs.toList = vs := by
  apply Array.ext_getElem?
  intro i
  rw [putL_all _ _ _ (by simp; omega)]
  by_cases hi : i < vs.size
  · rw [if_pos (by simp; omega)]; simp
  · rw [if_neg (by simp; omega), Array.getElem?_eq_none (by omega), Array.getElem?_eq_none (by omega)]
theorem ow_gst (ty : TypeId) (x y : Operand) (ho : o.op = .store ty x y) (hst : Gx B g n bs w) (hm : (b, old, t) ∈ bs) (hx : a.eval x = .pointer (some ⟨b, 0, none⟩)) (cs : Array Value) (hy : a.eval y = .agg cs) (h1 : ∀ v ∈ cs, v.oneCell' = true) (hz : old.size = cs.size) (hi : (P.info? ty).map (·.size) = some cs.size) (bs' : List (Nat × Array Value × TypeId)) (hs : ∀ p ∈ bs', p.1 ≠ b ∧ p ∈ bs)
    (h : ∀ w1, Gx B g n ((b, cs, t) :: bs') w1 → K (a.put o.dst undef) w1) : o.wp P a w K Q := by
  obtain ⟨w1, a1, a2, a3, a4⟩ := storeL (P := P) b 0 t cs.toList 0 _ w (hst.2 _ hm).1 (by simp; omega) (fun v hv => h1 v (Array.mem_toList_iff.1 hv))
  rw [Nat.zero_add, putL_whole _ _ hz] at a2
  have e : (storeVar ty ⟨b, 0, none⟩ (.agg cs)).run P w = .ok () w1 := by
    cases hq : P.info? ty with
    | none => simp [hq] at hi
    | some i =>
      have hs : i.size = cs.size := by simpa [hq] using hi
      simp only [storeVar, sizeOf, typeInfo, Sem.run_bind, hq, Value.cells]
      simp [Sem.run_bind, hq, hs]
      simpa using a1
  unfold Oper.wp execOp
  simp only [ho, hx, hy, Instr.storeAt, Instr.sureAddr, Sem.run_bind, Sem.run_pure, Result.andThen_ok, e]
  exact h w1 (hst.set hm a2 a3 a4 bs' hs)
theorem wl_gst (hgd : o.guard = none) (ty : TypeId) (x y : Operand) (ho : o.op = .store ty x y) (hst : Gx B g n bs w) (hm : (b, old, t) ∈ bs) (hx : a.eval x = .pointer (some ⟨b, 0, none⟩)) (cs : Array Value) (hy : a.eval y = .agg cs) (h1 : ∀ v ∈ cs, v.oneCell' = true) (hz : old.size = cs.size) (hi : (P.info? ty).map (·.size) = some cs.size) (bs' : List (Nat × Array Value × TypeId)) (hs : ∀ p ∈ bs', p.1 ≠ b ∧ p ∈ bs)
    (h : ∀ w1, Gx B g n ((b, cs, t) :: bs') w1 → wpList P ops Q rest (a.put o.dst undef) w1) : wpList P ops Q (o :: rest) a w := by
  refine wpList_plain hgd fun _ hK => ?_
  obtain ⟨w1, a1, a2, a3, a4⟩ := storeL (P := P) b 0 t cs.toList 0 _ w (hst.2 _ hm).1 (by simp; omega) (fun v hv => h1 v (Array.mem_toList_iff.1 hv))
  rw [Nat.zero_add, putL_whole _ _ hz] at a2
  have e : (storeVar ty ⟨b, 0, none⟩ (.agg cs)).run P w = .ok () w1 := by
    cases hq : P.info? ty with
    | none => simp [hq] at hi
    | some i =>
      have hs : i.size = cs.size := by simpa [hq] using hi
      simp only [storeVar, sizeOf, typeInfo, Sem.run_bind, hq, Value.cells]
      simp [Sem.run_bind, hq, hs]
      simpa using a1
  unfold Oper.wp execOp
  simp only [ho, hx, hy, Instr.storeAt, Instr.sureAddr, Sem.run_bind, Sem.run_pure, Result.andThen_ok, e]
  exact hK _ _ (h w1 (hst.set hm a2 a3 a4 bs' hs))
theorem wl_gstK (hgd : o.guard = none) (ty : TypeId) (x y : Operand) (ho : o.op = .store ty x y) (hst : Gx B g n bs w) (hm : (b, old, t) ∈ bs) (hx : a.eval x = .pointer (some ⟨b, 0, none⟩)) (cs : Array Value) (hy : a.eval y = .agg cs) (h1 : ∀ v ∈ cs, v.oneCell' = true) (hz : old.size = cs.size) (hi : (P.info? ty).map (·.size) = some cs.size) (bs' : List (Nat × Array Value × TypeId)) (hs : ∀ p ∈ bs', p.1 ≠ b ∧ p ∈ bs)
    (h : ∀ w1, Gx B g n ((b, cs, t) :: bs') w1 → KeepBut w w1 b none → wpList P ops Q rest (a.put o.dst undef) w1) : wpList P ops Q (o :: rest) a w := by
  refine wpList_plain hgd fun _ hK => ?_
  obtain ⟨w1, a1, a2, a3, a4⟩ := storeL (P := P) b 0 t cs.toList 0 _ w (hst.2 _ hm).1 (by simp; omega) (fun v hv => h1 v (Array.mem_toList_iff.1 hv))
  rw [Nat.zero_add, putL_whole _ _ hz] at a2
  have e : (storeVar ty ⟨b, 0, none⟩ (.agg cs)).run P w = .ok () w1 := by
    cases hq : P.info? ty with
    | none => simp [hq] at hi
    | some i =>
      have hs : i.size = cs.size := by simpa [hq] using hi
      simp only [storeVar, sizeOf, typeInfo, Sem.run_bind, hq, Value.cells]
      simp [Sem.run_bind, hq, hs]
      simpa using a1
  unfold Oper.wp execOp
  simp only [ho, hx, hy, Instr.storeAt, Instr.sureAddr, Sem.run_bind, Sem.run_pure, Result.andThen_ok, e]
  exact hK _ _ (h w1 (hst.set hm a2 a3 a4 bs' hs) ⟨a4.size, fun i _ hi _ => a3 i hi⟩)
theorem wl_gstf (hgd : o.guard = none) (ty : TypeId) (x y : Operand) (ho : o.op = .store ty x y) (hst : Gx B g n bs w) (hm : (b, old, t) ∈ bs) (off : Nat) (hx : a.eval x = .pointer (some ⟨b, off, none⟩)) (v : Value) (hy : a.eval y = v) (h1 : v.oneCell' = true) (hc : v.cells = #[v]) (hz : off < old.size) (hi : (P.info? ty).map (·.size) = some 1) (bs' : List (Nat × Array Value × TypeId)) (hs : ∀ p ∈ bs', p.1 ≠ b ∧ p ∈ bs)
    (h : ∀ w1, Gx B g n ((b, old.setIfInBounds off v, t) :: bs') w1 → wpList P ops Q rest (a.put o.dst undef) w1) : wpList P ops Q (o :: rest) a w := by
  refine wpList_plain hgd fun _ hK => ?_
  obtain ⟨w1, a1, a2, a3, a4⟩ := storeL (P := P) b off t [v] 0 _ w (hst.2 _ hm).1 (by simp; omega) (fun u hu => by simp at hu; rw [hu]; exact h1)
  have e : (storeVar ty ⟨b, off, none⟩ v).run P w = .ok () w1 := by
    cases hq : P.info? ty with
    | none => simp [hq] at hi
    | some i =>
      have hs : i.size = 1 := by simpa [hq] using hi
      simp only [storeVar, sizeOf, typeInfo, Sem.run_bind, hq, hc]
      simp [Sem.run_bind, hq, hs]
      simpa using a1
  unfold Oper.wp execOp
  simp only [ho, hx, hy, Instr.storeAt, Instr.sureAddr, Sem.run_bind, Sem.run_pure, Result.andThen_ok, e]
  exact hK _ _ (h w1 (hst.set hm a2 a3 a4 bs' hs))
theorem wl_genG (h : Gx B g n bs w) (k : ∀ w1, Gx B g n bs w1 → wpList P ops Q rest a w1) : wpList P ops Q rest a w := k w h
theorem wp_genG {c : Code} (h : Gx B g n bs w) (k : ∀ w1, Gx B g n bs w1 → c.wp P Q a w1) : c.wp P Q a w := k w h
theorem ow_gld (ty : TypeId) (x : Operand) (ho : o.op = .load ty x) (hst : Gx B g n bs w) (hm : (b, cs, t) ∈ bs) (hx : a.eval x = .pointer (some ⟨b, 0, none⟩)) (hu : aggB P ty = true) (hi : (P.info? ty).map (·.size) = some cs.size)
    (h : K (a.put o.dst (.agg cs)) w) : o.wp P a w K Q := ow_hld ty x ho (hst.2 _ hm).1 hx hu cs.size rfl hi h
theorem wl_gld (hgd : o.guard = none) (ty : TypeId) (x : Operand) (ho : o.op = .load ty x) (hst : Gx B g n bs w) (hm : (b, cs, t) ∈ bs) (hx : a.eval x = .pointer (some ⟨b, 0, none⟩)) (hu : aggB P ty = true) (hi : (P.info? ty).map (·.size) = some cs.size)
    (h : wpList P ops Q rest (a.put o.dst (.agg cs)) w) : wpList P ops Q (o :: rest) a w :=
  wpList_plain hgd fun _ hK => ow_hld ty x ho (hst.2 _ hm).1 hx hu cs.size rfl hi (hK _ _ h)
end

/-! ### a contact or a coil that was drawn -/
/-- Operands in line. -/
def flat : List S31 → List Value
  | [] => []
  | x :: r => .int .i64 x.f0 :: .int .i64 x.f1 :: .int .i64 x.f2 :: flat r
theorem flat_at : ∀ (Y : List S31) (i : Nat) (hi : i < Y.length), (flat Y)[i * 3]? = some (.int .i64 Y[i].f0) ∧ (flat Y)[i * 3 + 1]? = some (.int .i64 Y[i].f1) ∧ (flat Y)[i * 3 + 2]? = some (.int .i64 Y[i].f2)
  | [], i, hi => absurd hi (Nat.not_lt_zero _)
  | x :: r, 0, hi => ⟨rfl, rfl, rfl⟩
  | x :: r, i + 1, hi => by
    have ih := flat_at r i (Nat.lt_of_succ_lt_succ hi)
    rw [show (i + 1) * 3 = i * 3 + 3 by omega]
    exact ih
/-- Operands stay read whatever the reader's block turns. -/
def Foot (w : World) (g : Nat) (A : Option Addr) (Y : List S31) : Prop := ∀ W', KeepBut w W' g none → Kd.C k31 W' A Y.length Y
theorem foot_cells {w : World} {b g : Nat} {cs : Array Value} {t : TypeId} {fr : Nat × Nat} (h : w.heap[b]? = some (.cells cs t fr)) (hg : b ≠ g) (Y : List S31) (rest : List Value) (hY : cs.toList = flat Y ++ rest) (hl : Y.length ≤ 9223372036854775807) : Foot w g (some ⟨b, 0, none⟩) Y := by
  intro W' hk
  have h' : W'.heap[b]? = some (.cells cs t fr) := (hk.2 b (kit.box_lt h) hg (by simp)).trans h
  refine ⟨rfl, hl, fun h0 => ⟨_, rfl, fun j p hj => ?_⟩⟩
  obtain ⟨hjl, rfl⟩ := List.getElem?_eq_some_iff.1 hj
  obtain ⟨d0, d1, d2⟩ := flat_at Y j hjl
  have lift : ∀ i v, (flat Y)[i]? = some v → W'.cell? ((⟨b, 0, none⟩ : Addr).add i) = some v := by
    intro i v hv
    have e : cs[i]? = some v := by
      rw [← Array.getElem?_toList, hY, List.getElem?_append_left (List.getElem?_eq_some_iff.1 hv).1]
      exact hv
    have := kit.box_cell h' i e
    cases i with
    | zero => simpa [Addr.add] using this
    | succ i => simpa [Addr.add] using this
  refine ⟨_, rfl, k31_mk W' _, fun i u hu => ?_⟩
  match i, hu with
  | 0, hu => cases hu; exact lift _ _ d0
  | 1, hu => cases hu; exact lift _ _ d1
  | 2, hu => cases hu; exact lift _ _ d2
theorem Foot.step {w w1 : World} {g : Nat} {A : Option Addr} {Y : List S31} (h : Foot w g A Y) (k : KeepBut w w1 g none) : Foot w1 g A Y := fun W' hk' => h W' (k.trans hk' (.inl rfl))
/-- Operands lie in a box made since. -/
def Fr (n : Nat) (A : Option Addr) (Y : List S31) : Prop := ∀ ad, A = some ad → 0 < Y.length → n ≤ ad.block
theorem k_same {w w1 : World} {b : Nat} {A : Option Addr} {Y : List S31} (h : Kd.C k31 w A Y.length Y) (hb : ∀ ad, A = some ad → 0 < Y.length → ad.block ≠ b) (k : KeepBut w w1 b none) : Kd.C k31 w1 A Y.length Y := by
  refine ⟨h.1, h.2.1, fun hn => ?_⟩
  obtain ⟨ad, he, hc⟩ := h.2.2 hn
  refine ⟨ad, he, fun j p hj => ?_⟩
  obtain ⟨cs, h1, h2, h3⟩ := hc j p hj
  exact ⟨cs, h1, h2, fun i u hu => keep_cell k (h3 i u hu) (by rw [add_block]; exact hb ad he hn)⟩
theorem foot_of {w : World} {g : Nat} {A : Option Addr} {Y : List S31} (h : Kd.C k31 w A Y.length Y) (hg : ∀ ad, A = some ad → 0 < Y.length → ad.block ≠ g) : Foot w g A Y := fun W' k => k_same h hg k
theorem Foot.now {w : World} {g : Nat} {A : Option Addr} {Y : List S31} (h : Foot w g A Y) : Kd.C k31 w A Y.length Y := h w (KeepBut.refl w g none)
theorem Foot.set {w w1 : World} {g b : Nat} {A : Option Addr} {Y : List S31} {n : Nat} (h : Foot w g A Y) (hf : Fr n A Y) (hn : b < n) (hg : g < n) (k : KeepBut w w1 b none) : Foot w1 g A Y :=
  foot_of (k_same h.now (fun ad e h0 => by have := hf ad e h0; omega) k) (fun ad e h0 => by have := hf ad e h0; omega)
theorem Gx.pickF {B : Base} {w : World} {g : Nat} {n : Int} {bs : List (Nat × Array Value × TypeId)} {A : Option Addr} {Y : List S31} (h : Gx B g n bs w) (hn : n < 90000) (a : Int) (ha : 1 ≤ a) (hF : Foot w g A Y) :
    Calls Tryd.prog 36 #[.pointer (some ⟨g, 0, none⟩), .int .i64 a] w fun e w' => ∃ j : Nat, e = .returned (.int .i64 j) ∧ (j : Int) < a ∧ Gx B g (n + 1) bs w' ∧ Foot w' g A Y :=
  (pick_w h.rd (by omega) a ha).mono fun e w' ⟨q, he, q0, q1, k⟩ => by
    obtain ⟨j, rfl⟩ := Int.eq_ofNat_of_zero_le q0
    exact ⟨j, he, q1, h.step k, hF.step k.keep⟩
/-- Some contact or coil comes back; the reader has read at most m bytes. -/
def AnyElem (B : Base) (g : Nat) (m : Int) (z : Nat) (e : Ending) (w' : World) : Prop := ∃ (op : Int) (A : Option Addr) (c : Nat) (Y : List S31), e = .returned (.agg #[.int .i64 op, .slice A Y.length c]) ∧ Y.length ≤ c ∧ Y.length ≤ z ∧ Foot w' g A Y ∧ Fr B.wf.heap.size A Y ∧ Rd B w' g m
theorem elem_one (op : Int) (A : Option Addr) (n c : Nat) : ∀ v ∈ #[Value.int .i64 op, .slice A n c], v.oneCell' = true := by
  intro v hv
  simp at hv
  rcases hv with rfl | rfl <;> rfl
theorem dev_one (a b c : Int) : ∀ v ∈ #[Value.int .i64 a, .int .i64 b, .int .i64 c], v.oneCell' = true := by
  intro v hv
  simp at hv
  rcases hv with rfl | rfl | rfl <;> rfl
end Go.Proofs.YtgmdpgchffapoaaDoor.draws
