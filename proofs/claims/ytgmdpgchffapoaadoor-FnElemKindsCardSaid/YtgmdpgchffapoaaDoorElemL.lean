/-
  'impl.ElemIsCoil': what its numbers' ways share.
  Conditions: the operands' cells hold them; the variables 'devSizes', 'devWords' hold what they are laid with.
-/
import Derived.Test.YtgmdpgchffapoaaDoorElemK
import Derived.Test.YtgmdpgchffapoaaDoorHxS
namespace Go.Proofs.YtgmdpgchffapoaaDoor.dev
open Go Go.RowKit Go.Proofs.YtgmdpgchffapoaaDoor.part
set_option linter.unusedVariables false
set_option linter.unusedSimpArgs false
set_option maxRecDepth 100000

/-- An operation shown for whatever is asked of what it leaves. -/
theorem does_gen {P : Program} {o : Oper} {a : Act} {w : World} {S : Value → World → Prop} {Q : Exit → Act → World → Prop} (h : ∀ K : Act → World → Prop, (∀ v w', S v w' → K (a.put o.dst v) w') → o.wp P a w K Q) : o.wp P a w (Puts o a S) Q :=
  h _ fun v w' hs => ⟨v, rfl, hs⟩
theorem fam_move {a b : Act} (t0 : Tmp) (v : Value) (h : b.tmps = a.tmps.setIfInBounds t0 v) (hs : t0 < a.tmps.size) :
    (∀ t, some t0 ≠ some t → b.tmps.getD t undef = a.tmps.getD t undef) ∧ (∀ t, some t0 = some t → b.tmps.getD t undef = v) := by
  rw [h]
  constructor
  · intro t ht
    rw [Array.getD_eq_getD_getElem?, Array.getElem?_setIfInBounds_ne (fun e => ht (by rw [e])), ← Array.getD_eq_getD_getElem?]
  · intro t ht
    obtain rfl := Option.some.inj ht
    rw [Array.getD_eq_getD_getElem?, Array.getElem?_setIfInBounds_self_of_lt hs]
    rfl
theorem fam_put {π : Type} {aa : π → Act} {R : π → Prop} {p : π} {v : Value} (t0 : Tmp) (q : π) (h : (aa q).tmps = (aa p).tmps.setIfInBounds t0 v) (hs : t0 < (aa p).tmps.size) (hR : R q) :
    ∃ q, (∀ t, some t0 ≠ some t → (aa q).tmps.getD t undef = (aa p).tmps.getD t undef) ∧ (∀ t, some t0 = some t → (aa q).tmps.getD t undef = v) ∧ R q :=
  ⟨q, (fam_move t0 v h hs).1, (fam_move t0 v h hs).2, hR⟩
theorem ow_alloc {P : Program} {o : Oper} {a : Act} {w : World} {K : Act → World → Prop} {Q : Exit → Act → World → Prop} (ty : TypeId) (z : Value) (ho : o.op = .alloc ty) (hz : (P.info? ty).bind (·.zero) = some z)
    (h : K (a.put o.dst (.pointer (some ⟨w.heap.size, 0, none⟩))) (w.alloc (.cells z.cells ty))) : o.wp P a w K Q := by
  have e : (Instr.alloc ty true (.tuple #[])).run P w = .ok (.pointer (some ⟨w.heap.size, 0, none⟩)) (w.alloc (.cells z.cells ty)) := by
    cases hq : P.info? ty with
    | none => rw [hq] at hz; cases hz
    | some i =>
      rw [hq, Option.bind_some] at hz
      simp [Instr.alloc, zeroValue, typeInfo, hq, hz, newVar, go_sem]
  unfold Oper.wp execOp
  simp only [ho, Sem.run_bind, e, Result.andThen_ok]
  exact h
theorem storeP {P : Program} (g off : Nat) (t : TypeId) : ∀ (vs : List Value) (i : Nat) (cur : Array Value) (w : World), w.heap[g]? = some (.cells cur t (0, 0)) → off + i + vs.length ≤ cur.size → (∀ v ∈ vs, v.oneCell' = true) →
    ∃ w1 cur', (storeCells ⟨g, off, none⟩ vs i).run P w = .ok () w1 ∧ w1.heap[g]? = some (.cells cur' t (0, 0)) ∧ cur'.size = cur.size ∧ (∀ j, j < off + i → cur'[j]? = cur[j]?) ∧ (∀ j, j < vs.length → cur'[off + i + j]? = vs[j]?) ∧ (∀ j, off + i + vs.length ≤ j → cur'[j]? = cur[j]?) ∧ (∀ k, k ≠ g → w1.heap[k]? = w.heap[k]?) ∧ Below g w w1
  | [], i, cur, w, hg, hl, _ => ⟨w, cur, rfl, hg, rfl, fun _ _ => rfl, fun j hj => by simp at hj, fun _ _ => rfl, fun _ _ => rfl, Below.refl _ _⟩
  | v :: rest, i, cur, w, hg, hl, h1 => by
    simp only [List.length_cons] at hl
    have hi : off + i < cur.size := by omega
    have hcell : w.cell? ⟨g, off + i, none⟩ = some cur[off + i] := by simp [World.cell?, hg, hi]
    have hfro : w.frozen? ⟨g, off + i, none⟩ = false := by simp [World.frozen?, hg]
    have hst : (store ((⟨g, off, none⟩ : Addr).add i) v).run P w = .ok () (w.setCell ⟨g, off + i, none⟩ v) := by
      rw [part.add_at, run_store P w _ v _ (h1 v (by simp)), hcell]
      simp [hfro]
    have hg2 : (w.setCell ⟨g, off + i, none⟩ v).heap[g]? = some (.cells (cur.setIfInBounds (off + i) v) t (0, 0)) := by
      rw [setCell_eq_setRow w g (off + i) cur t (0, 0) v hg]
      exact setRow_heap w g cur _ t _ hg
    obtain ⟨w1, cur', a1, a2, a3, a4, a5, a6, a7, a8⟩ := storeP (P := P) g off t rest (i + 1) _ _ hg2 (by simp; omega) (fun x hx => h1 x (by simp [hx]))
    refine ⟨w1, cur', ?_, a2, by simpa using a3, ?_, ?_, ?_, fun k hk => (a7 k hk).trans (Below.heap_setCell w ⟨g, off + i, none⟩ v k hk), ((Below.refl g w).setCell (p := ⟨g, off + i, none⟩) (Nat.le_refl _) v).trans a8⟩
    · simp only [storeCells, Sem.run_bind, hst, Result.andThen_ok, a1]
    · intro j hj
      rw [a4 j (by omega), Array.getElem?_setIfInBounds_ne (by omega)]
    · intro j hj
      cases j with
      | zero =>
        have := a4 (off + i) (by omega)
        simp only [Nat.add_zero, List.getElem?_cons_zero]
        rw [this, Array.getElem?_setIfInBounds_self_of_lt hi]
      | succ j =>
        have := a5 j (by simpa using hj)
        rw [List.getElem?_cons_succ, ← this]
        congr 1
        omega
    · intro j hj
      simp only [List.length_cons] at hj
      rw [a6 j (by omega), Array.getElem?_setIfInBounds_ne (by omega)]
theorem ow_fill {P : Program} {o : Oper} {a : Act} {w : World} {K : Act → World → Prop} {Q : Exit → Act → World → Prop} {g : Nat} {t : TypeId} {old : Array Value} (ty : TypeId) (x y : Operand) (ho : o.op = .store ty x y) (hg : w.heap[g]? = some (.cells old t (0, 0))) (v : Value)
    (hx : a.eval x = .pointer (some ⟨g, 0, none⟩)) (hy : a.eval y = v) (h1 : ∀ x ∈ v.cells, x.oneCell' = true) (n : Nat) (hn : v.cells.size = n) (hold : old.size = n) (hi : (P.info? ty).map (·.size) = some n)
    (h : ∀ w1, w1.heap[g]? = some (.cells v.cells t (0, 0)) → (∀ k, k ≠ g → w1.heap[k]? = w.heap[k]?) → Below g w w1 → K (a.put o.dst undef) w1) : o.wp P a w K Q := by
  obtain ⟨w1, z1, e1, e2, e3, _, e5, _, e7, e6⟩ := storeP (P := P) g 0 t v.cells.toList 0 old w hg (by simp; omega) (fun x hx => h1 x (Array.mem_toList_iff.1 hx))
  have ez : z1 = v.cells := by
    apply Array.ext (by omega)
    intro i k1 k2
    have := e5 i (by simpa using k2)
    rw [show 0 + 0 + i = i by omega, Array.getElem?_toList, Array.getElem?_eq_getElem k1, Array.getElem?_eq_getElem k2] at this
    exact Option.some.inj this
  subst ez
  have e : (storeVar ty ⟨g, 0, none⟩ v).run P w = .ok () w1 := by
    cases hq : P.info? ty with
    | none => simp [hq] at hi
    | some i =>
      have hs : i.size = v.cells.size := by rw [hn]; simpa [hq] using hi
      simp only [storeVar, sizeOf, typeInfo, Sem.run_bind, hq]
      simp [Sem.run_bind, hq, hs]
      simpa using e1
  unfold Oper.wp execOp
  simp only [ho, hx, hy, Instr.storeAt, Instr.sureAddr, Sem.run_bind, Sem.run_pure, Result.andThen_ok, e]
  exact h w1 e2 e7 e6


section
variable {W w : World} {bs : List (Nat × Array Value)} {da ra : Array Value} {p : Two} {listed : Array Bool}
theorem getD_tf {i : Nat} (h : listed.getD i true = false) : listed.getD i false = false := by
  rw [Array.getD_eq_getD_getElem?] at h ⊢
  cases e : listed[i]? with
  | none => rfl
  | some b => rw [e] at h; exact h
theorem off_of {a b : Bool} (h : a = true → b = true) (hb : b = false) : a = false := by
  cases a
  · rfl
  · rw [h rfl] at hb; cases hb
/-- The first box is made. -/
theorem Rk.new1 (h : Rk W bs da ra p listed w) (hs : listed.size = 11) (h7 : listed.getD 7 true = false) (t : TypeId) (ht : t = 31) : Rk W bs da ra ⟨w.heap.size, p.two⟩ (listed.setIfInBounds 7 true) (w.alloc (.cells #[.int .i64 0, .int .i64 0, .int .i64 0] t)) := by
  subst ht
  obtain ⟨h0, h1, h2, h3, h4, h5⟩ := h
  have h9 := off_of h4 (getD_tf h7)
  refine ⟨h0.alloc _, fun _ => ⟨h0.1.size, fun q hq e => ?_, ?_⟩, fun k => ?_, fun _ k => ?_, fun _ => flag_self (by omega), fun k => ?_⟩
  · obtain ⟨_, t, b⟩ := h0.2 q hq
    have := kit.box_lt b
    have e2 : q.1 = w.heap.size := e
    omega
  · rw [flag_other (by decide), h9]
    exact heap_alloc_new _ _
  · rw [flag_other (by decide)] at k ⊢
    obtain ⟨a1, a2, a3⟩ := h2 k
    exact ⟨a1, a2, (heap_alloc_old _ _ (kit.box_lt a3)).trans a3⟩
  · rw [flag_other (by decide)] at k
    obtain ⟨a1, a2, a3⟩ := h2 k
    have := kit.box_lt a3
    show w.heap.size ≠ p.two
    omega
  · rw [flag_other (by decide)] at k ⊢
    exact h5 k
/-- The second box is made. -/
theorem Rk.new2 (h : Rk W bs da ra p listed w) (hs : listed.size = 11) (h8 : listed.getD 8 true = false) (t : TypeId) (ht : t = 23) : Rk W bs da ra ⟨p.one, w.heap.size⟩ (listed.setIfInBounds 8 true) (w.alloc (.cells #[.slice none 0 0] t)) := by
  subst ht
  obtain ⟨h0, h1, h2, h3, h4, h5⟩ := h
  have h10 := off_of h5 (getD_tf h8)
  refine ⟨h0.alloc _, fun k => ?_, fun _ => ⟨h0.1.size, fun q hq e => ?_, ?_⟩, fun k _ => ?_, fun k => ?_, fun _ => flag_self (by omega)⟩
  · rw [flag_other (by decide)] at k ⊢
    obtain ⟨a1, a2, a3⟩ := h1 k
    exact ⟨a1, a2, (heap_alloc_old _ _ (kit.box_lt a3)).trans a3⟩
  · obtain ⟨_, t, b⟩ := h0.2 q hq
    have := kit.box_lt b
    have e2 : q.1 = w.heap.size := e
    omega
  · rw [flag_other (by decide), h10]
    exact heap_alloc_new _ _
  · rw [flag_other (by decide)] at k
    obtain ⟨a1, a2, a3⟩ := h1 k
    have := kit.box_lt a3
    show p.one ≠ w.heap.size
    omega
  · rw [flag_other (by decide)] at k ⊢
    exact h4 k
/-- A box of one's own is filled. -/
theorem hx_fill {w1 : World} {g : Nat} (h0 : Hx W bs w) (hW : W.heap.size ≤ g) (hne : ∀ q ∈ bs, q.1 ≠ g) (ho : ∀ k, k ≠ g → w1.heap[k]? = w.heap[k]?) (hb : Below g w w1) : Hx W bs w1 :=
  ⟨h0.1.trans (hb.mono hW), fun q hq => by
    obtain ⟨b1, t2, b2⟩ := h0.2 q hq
    exact ⟨b1, t2, (ho q.1 (hne q hq)).trans b2⟩⟩
theorem Rk.fill1 {w1 : World} (h : Rk W bs da ra p listed w) (hs : listed.size = 11) (h7 : listed.getD 7 false = true) (e : w1.heap[p.one]? = some (.cells da 31 (0, 0))) (ho : ∀ k, k ≠ p.one → w1.heap[k]? = w.heap[k]?) (hb : Below p.one w w1) : Rk W bs da ra p (listed.setIfInBounds 9 true) w1 := by
  obtain ⟨h0, h1, h2, h3, h4, h5⟩ := h
  obtain ⟨a1, a2, a3⟩ := h1 h7
  refine ⟨hx_fill h0 a1 a2 ho hb, fun _ => ⟨a1, a2, ?_⟩, fun k => ?_, fun k l => ?_, fun _ => by rw [flag_other (by decide)]; exact h7, fun k => by rw [flag_other (by decide)] at k ⊢; exact h5 k⟩
  · rw [flag_self (by omega), if_pos rfl]
    exact e
  · rw [flag_other (by decide)] at k ⊢
    obtain ⟨b1, b2, b3⟩ := h2 k
    exact ⟨b1, b2, (ho p.two (h3 h7 k).symm).trans b3⟩
  · rw [flag_other (by decide)] at k l
    exact h3 k l
theorem Rk.fill2 {w1 : World} (h : Rk W bs da ra p listed w) (hs : listed.size = 11) (h8 : listed.getD 8 false = true) (e : w1.heap[p.two]? = some (.cells ra 23 (0, 0))) (ho : ∀ k, k ≠ p.two → w1.heap[k]? = w.heap[k]?) (hb : Below p.two w w1) : Rk W bs da ra p (listed.setIfInBounds 10 true) w1 := by
  obtain ⟨h0, h1, h2, h3, h4, h5⟩ := h
  obtain ⟨a1, a2, a3⟩ := h2 h8
  refine ⟨hx_fill h0 a1 a2 ho hb, fun k => ?_, fun _ => ⟨a1, a2, ?_⟩, fun k l => ?_, fun k => by rw [flag_other (by decide)] at k ⊢; exact h4 k, fun _ => by rw [flag_other (by decide)]; exact h8⟩
  · rw [flag_other (by decide)] at k ⊢
    obtain ⟨b1, b2, b3⟩ := h1 k
    exact ⟨b1, b2, (ho p.one (h3 k h8)).trans b3⟩
  · rw [flag_self (by omega), if_pos rfl]
    exact e
  · rw [flag_other (by decide)] at k l
    exact h3 k l
end

theorem rowOf {w : World} {B : Nat} {t : TypeId} (zs : List Int) (cs : Array Value) (he : cs = (zs.map (Value.int .i64)).toArray) (h : w.heap[B]? = some (.cells cs t (0, 0))) : Row w B 0 zs := by
  subst he
  intro j hj
  rw [Nat.zero_add, cell_of_row w B j _ _ _ h]
  simp [hj]

theorem one3 (x : Tri) : ∀ v ∈ (Value.agg #[.int .i64 x.1, .int .i64 x.2.1, .int .i64 x.2.2]).cells, v.oneCell' = true := by
  intro v hv
  simp [Value.cells] at hv
  rcases hv with rfl | rfl | rfl <;> rfl
theorem oneS (A : Option Addr) (n c : Nat) : ∀ v ∈ (Value.slice A n c).cells, v.oneCell' = true := by
  intro v hv
  simp [Value.cells] at hv
  subst hv
  rfl
def preset (y : Tri) : Bool := tKis y [11] && decide (0 ≤ y.2.1)
theorem preset_any (g b off c : Nat) (y : Tri) (w : World) (hg : w.cell? ⟨g, 0, none⟩ = some (.slice (some ⟨b, off, none⟩) 1 c)) (hT : Trip w b off [y]) (hs : Sizes w) (hw : Words w) :
    Calls Tryd.prog 18 #[.pointer (some ⟨g, 0, none⟩)] w fun e w' => e = .returned (.bool (preset y)) ∧ Below w.heap.size w w' := by
  have HT := Lib.hid hT
  have Hs := Lib.hid hs
  have Hw := Lib.hid hw
  have Hg := Lib.hid hg
  obtain ⟨d0, d1, d2⟩ := hT.at0
  clear hT hs hw
  cases hb : tKis y [11] with
  | false =>
    have Hb := Lib.hid hb
    clear hb
    go_enter Tryd.func18, Tryd.ntmps18
    go_wp2_with fail
    refine (kindIs_any y.1 y.2.1 y.2.2 _ 0 [11] _ (by decide) (rowOf [11] _ rfl (heap_alloc_new _ _)) (Hs.out.alloc _) (Hw.out.alloc _)).mono ?_
    rw [show kis y.1 y.2.1 y.2.2 [11] = false from Hb.out]
    rintro e w1 ⟨rfl, h1⟩
    go_wp2_with fail
    go_ret
    exact ⟨kit.ret_bool (by unfold preset; rw [Hb.out]; rfl), ((Below.refl _ _).alloc (Nat.le_refl _) _).trans (h1.mono (by simp))⟩
  | true =>
    have Hb := Lib.hid hb
    clear hb
    go_enter Tryd.func18, Tryd.ntmps18
    go_wp2_with fail
    refine (kindIs_any y.1 y.2.1 y.2.2 _ 0 [11] _ (by decide) (rowOf [11] _ rfl (heap_alloc_new _ _)) (Hs.out.alloc _) (Hw.out.alloc _)).mono ?_
    rw [show kis y.1 y.2.1 y.2.2 [11] = true from Hb.out]
    rintro e w1 ⟨rfl, h1⟩
    have hb1 : Below w.heap.size w w1 := ((Below.refl w.heap.size w).alloc (Nat.le_refl _) _).trans (h1.mono (by simp))
    have HB := Lib.hid hb1
    have c0 : w1.cell? ⟨g, 0, none⟩ = _ := cell_stays Hg.out hb1
    obtain ⟨e0, e1, e2⟩ := (HT.out.below hb1).at0
    clear hb1 h1 d0 d1 d2 hg
    go_wp2_with fail
    go_ret
    exact ⟨kit.ret_bool (by unfold preset; rw [Hb.out]; simp), HB.out⟩

end Go.Proofs.YtgmdpgchffapoaaDoor.dev
