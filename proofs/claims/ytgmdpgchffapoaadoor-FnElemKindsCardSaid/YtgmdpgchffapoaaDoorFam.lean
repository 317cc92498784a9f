/-
  A region that draws its order, with stores and boxes of its own: the frame behind it is one of a family (by where the boxes came to lie).
  Conditions: no guards; each slot is written once; what an operation looks at is written by operations that it stands behind.
-/
import Derived.Test.YtgmdpgchffapoaaDoorVals
namespace Go.Proofs.YtgmdpgchffapoaaDoor.part
open Go Go.RowKit
set_option linter.unusedVariables false
set_option linter.unusedSimpArgs false

def opF (ops : Array Oper) (N i : Nat) (o : Oper) : Bool :=
  (match o.dst with | some t => decide (t < N) && (List.range ops.size).all fun j => j == i || dstAt ops j != some t | none => true) &&
  ((o.looksAt ops).all fun t => (List.range ops.size).all fun j => dstAt ops j != some t || o.after.any fun e => Region.binds .any e && e.on == j) &&
  (o.after.all fun e => !Region.binds .any e || decide (e.on < i)) && (match o.op with | .select .. => false | _ => true) && o.guard.isNone
def famB (ops : Array Oper) (N : Nat) : Bool := (List.range ops.size).all fun i => match ops[i]? with | some o => opF ops N i o | none => true
theorem famB_at {ops : Array Oper} {N i : Nat} {o : Oper} (h : famB ops N = true) (ho : ops[i]? = some o) : opF ops N i o = true := by
  have := List.all_eq_true.1 h i (List.mem_range.2 (Array.getElem?_eq_some_iff.1 ho).1)
  rw [ho] at this
  exact this
theorem dst_lt {ops : Array Oper} {j : Nat} {t : Tmp} (hj : dstAt ops j = some t) : j < ops.size := by
  rcases Nat.lt_or_ge j ops.size with h | h
  · exact h
  · unfold dstAt at hj; rw [Array.getElem?_eq_none h] at hj; cases hj
theorem opF_looks {ops : Array Oper} {N i : Nat} {o : Oper} (h : opF ops N i o = true) {t : Tmp} (ht : t ∈ o.looksAt ops) {j : Nat} (hj : dstAt ops j = some t) : ∃ e ∈ o.after, Region.binds .any e = true ∧ e.on = j := by
  simp only [opF, Bool.and_eq_true] at h
  obtain ⟨⟨⟨⟨_, h2⟩, _⟩, _⟩, _⟩ := h
  have := List.all_eq_true.1 (List.all_eq_true.1 h2 t ht) j (List.mem_range.2 (dst_lt hj))
  rw [hj] at this
  simp only [bne_self_eq_false, Bool.false_or, Array.any_eq_true'] at this
  obtain ⟨e, he, h3⟩ := this
  simp only [Bool.and_eq_true, beq_iff_eq] at h3
  exact ⟨e, he, h3⟩
theorem opF_dst {ops : Array Oper} {N i : Nat} {o : Oper} (h : opF ops N i o = true) {t : Tmp} (hd : o.dst = some t) : t < N ∧ ∀ j, j < ops.size → j ≠ i → dstAt ops j ≠ some t := by
  simp only [opF, Bool.and_eq_true] at h
  obtain ⟨⟨⟨⟨h1, _⟩, _⟩, _⟩, _⟩ := h
  rw [hd] at h1
  simp only [Bool.and_eq_true, decide_eq_true_eq, List.all_eq_true, List.mem_range, Bool.or_eq_true, beq_iff_eq, bne_iff_ne] at h1
  exact ⟨h1.1, fun j hj hne => (h1.2 j hj).resolve_left hne⟩
theorem opF_sel {ops : Array Oper} {N i : Nat} {o : Oper} (h : opF ops N i o = true) (cs : Array SelectCase) (b : Bool) : o.op ≠ .select cs b := by
  intro e
  simp only [opF, Bool.and_eq_true] at h
  rw [e] at h
  cases h.1.2
theorem opF_guard {ops : Array Oper} {N i : Nat} {o : Oper} (h : opF ops N i o = true) : o.guard = none := by
  simp only [opF, Bool.and_eq_true, Option.isNone_iff_eq_none] at h
  exact h.2
theorem famB_back {ops : Array Oper} {N : Nat} (h : famB ops N = true) : backA ops = true := by
  refine List.all_eq_true.2 fun i hi => ?_
  cases ho : ops[i]? with
  | none => rfl
  | some o =>
    have := famB_at h ho
    simp only [opF, Bool.and_eq_true] at this
    exact this.1.1.2

/-- What an operation leaves, said of the value it writes. -/
def Puts (o : Oper) (b : Act) (S : Value → World → Prop) (a' : Act) (w' : World) : Prop := ∃ v, a' = b.put o.dst v ∧ S v w'
theorem upon_fam {P : Program} {o : Oper} {b a : Act} {S : Value → World → Prop} {K : Act → World → Prop} {Q : Exit → Act → World → Prop} (hd : ∀ t, o.dst = some t → t < b.tmps.size) {r : Result Next}
    (h : o.upon P b (Puts o b S) (fun _ _ _ => False) r) (hK : ∀ v w', S v w' → K (a.put o.dst v) w') : o.upon P a K Q r := by
  have key : ∀ (c : Act) (v : Value) (w' : World), c.tmps = b.tmps → Puts o b S (c.put o.dst v) w' → K (a.put o.dst v) w' := by
    intro c v w' hc ⟨u, e, hS⟩
    cases hdo : o.dst with
    | none =>
      have := hK u w' hS
      rw [hdo] at this
      exact this
    | some t =>
      have ht := hd t hdo
      have : v = u := by
        rw [hdo] at e
        have e2 := congrArg (fun x : Act => x.tmps.getD t undef) e
        simpa [Act.put, hc, ht] using e2
      rw [← hdo, this]
      exact hK u w' hS
  cases r with
  | ok n w' =>
    cases n <;> simp only [Oper.upon] at h ⊢
    case value u => exact key b u w' rfl h
    case skip => exact key b undef w' rfl h
    case defer d =>
      exfalso
      obtain ⟨v, e, _⟩ := h
      have := congrArg (fun x : Act => x.defers.length) e
      cases hdo : o.dst <;> rw [hdo] at this <;> simp [Act.put] at this
    case enter f args =>
      refine Calls.mono h fun e w'' he => ?_
      cases e with
      | returned u => exact key b u w'' rfl he
      | panicked c => exact he.elim
      | outgrown => obtain ⟨_, _, hf⟩ := he; exact hf.elim
    case row row args => exact Rows.mono h fun u w'' he => key b u w'' rfl he
  | halt x w' =>
    cases x <;> simp only [Oper.upon] at h ⊢

section
variable {P : Program} {ops : Array Oper} {Q : Exit → Act → World → Prop} {π : Type} {aa : π → Act} {R : π → Array Bool → World → Prop} {N : Nat}
/-- The frame agrees with one of the family where it has been written, or never is. -/
def Jv (ops : Array Oper) (aa : π → Act) (R : π → Array Bool → World → Prop) (listed : Array Bool) (a : Act) (w : World) : Prop :=
  listed.size = ops.size ∧ ∃ p, a.defers = (aa p).defers ∧ a.tmps.size = (aa p).tmps.size ∧
  (∀ t, (∀ j, dstAt ops j = some t → listed.getD j false = true) → a.tmps.getD t undef = (aa p).tmps.getD t undef) ∧ R p listed w

/-- What an operation must do in each frame of the family. -/
def DoesF (P : Program) (ops : Array Oper) (aa : π → Act) (R : π → Array Bool → World → Prop) (i : Nat) (o : Oper) : Prop :=
  ∀ (p : π) (listed : Array Bool) (w : World), listed.size = ops.size → listed.getD i true = false → (∀ e ∈ o.after, Region.binds .any e = true → listed.getD e.on false = true) → R p listed w →
    o.wp P (aa p) w (Puts o (aa p) fun v w' => ∃ q, (∀ t, o.dst ≠ some t → (aa q).tmps.getD t undef = (aa p).tmps.getD t undef) ∧ (∀ t, o.dst = some t → (aa q).tmps.getD t undef = v) ∧ R q (listed.setIfInBounds i true) w') (fun _ _ _ => False)

theorem wpAny_fam (hv : famB ops N = true) (hN : ∀ p, (aa p).tmps.size = N) (hdef : ∀ p q, (aa p).defers = (aa q).defers) (hdo : ∀ (i : Nat) (o : Oper), ops[i]? = some o → DoesF P ops aa R i o)
    (fin : ∀ p listed w, (∀ j, j < ops.size → listed.getD j false = true) → R p listed w → Q .normal (aa p) w) :
    ∀ (fuel : Nat) (listed : Array Bool) (a : Act) (w : World), open_ listed ≤ fuel → Jv ops aa R listed a w → wpAny P .any ops Q fuel listed a w := by
  have last : ∀ (listed : Array Bool) (a : Act) (w : World), Jv ops aa R listed a w → Region.ready .any ops listed = [] → Q .normal a w := by
    intro listed a w ⟨h1, p, h2, h3, h4, h5⟩ hr
    have hall := all_listedA (famB_back hv) h1 hr
    have e : a = aa p := by
      generalize aa p = b at *
      obtain ⟨at_, ad⟩ := a
      obtain ⟨bt, bd⟩ := b
      simp only at h2 h3 h4
      subst h2
      congr 1
      apply Array.ext h3
      intro i hi1 hi2
      have := h4 i (fun j hj => hall j (dst_lt hj))
      simpa [Array.getD_eq_getD_getElem?, hi1, hi2] using this
    rw [e]
    exact fin p listed w hall h5
  have step : ∀ (listed : Array Bool) (a : Act) (w : World) (i : Nat), Jv ops aa R listed a w → i ∈ Region.ready .any ops listed →
      ∀ K : Act → World → Prop, (∀ a' w', Jv ops aa R (listed.setIfInBounds i true) a' w' → K a' w') → wpOp P ops Q i K a w := by
    intro listed a w i ⟨h1, p, h2, h3, h4, h5⟩ hi K hK
    obtain ⟨h0, o, ho, hd⟩ := mem_ready.1 hi
    have hb := famB_at hv ho
    have look : ∀ u ∈ o.looksAt ops, a.tmps.getD u undef = (aa p).tmps.getD u undef := fun u hu => h4 u (fun j hj => by
      obtain ⟨e, he, hbi, hon⟩ := opF_looks hb hu hj
      rw [← hon]
      exact hd e he hbi)
    have hop : execOp a.eval o = execOp (aa p).eval o := execOp_congr o (opF_sel hb) fun x hx => by
      cases x with
      | tmp u => exact look u (List.mem_append_left _ (List.mem_filterMap.2 ⟨.tmp u, by simpa using hx, rfl⟩))
      | _ => rfl
    have hw : Region.wanted o (yielded ops a.tmps) = true := by unfold Region.wanted; rw [opF_guard hb]
    unfold wpOp
    simp only [ho]
    rw [if_pos hw]
    refine .inl ?_
    have h6 := hdo i o ho p listed w h1 h0 hd h5
    unfold Oper.wp at h6 ⊢
    rw [hop]
    refine upon_fam (fun t ht => by rw [hN]; exact (opF_dst hb ht).1) h6 fun v w' ⟨q, hq1, hq2, hq3⟩ => hK _ _ ⟨by simpa using h1, q, ?_, ?_, ?_, hq3⟩
    · rw [hdef q p, ← h2]
      cases o.dst <;> rfl
    · rw [hN q, ← hN p, ← h3]
      cases o.dst <;> simp [Act.put]
    · intro u hu
      cases hdo2 : o.dst with
      | none =>
        rw [hq1 u (by rw [hdo2]; simp)]
        refine h4 u fun j hj => ?_
        have hji : i ≠ j := by
          intro x
          subst x
          unfold dstAt at hj
          rw [ho, Option.bind_some, hdo2] at hj
          cases hj
        exact set_other hji (hu j hj)
      | some t =>
        by_cases e : u = t
        · subst e
          rw [hq2 u hdo2]
          have ht : u < a.tmps.size := by rw [h3, hN]; exact (opF_dst hb hdo2).1
          simp only [Act.put]
          rw [Array.getD_eq_getD_getElem?, Array.getElem?_setIfInBounds_self_of_lt ht]
          rfl
        · rw [hq1 u (by rw [hdo2]; simp; exact fun x => e x.symm)]
          simp only [Act.put]
          rw [Array.getD_eq_getD_getElem?, Array.getElem?_setIfInBounds_ne (fun x => e x.symm), ← Array.getD_eq_getD_getElem?]
          refine h4 u fun j hj => ?_
          have hji : i ≠ j := by
            intro x
            subst x
            unfold dstAt at hj
            rw [ho, Option.bind_some, hdo2] at hj
            exact e (Option.some.inj hj).symm
          exact set_other hji (hu j hj)
  intro fuel
  induction fuel with
  | zero =>
    intro listed a w hf h
    have hr : Region.ready .any ops listed = [] := by
      rw [List.eq_nil_iff_forall_not_mem]
      intro j hj
      have h1 := (mem_ready.1 hj).1
      have := open_set listed j h1
      omega
    exact ⟨hr, last listed a w h hr⟩
  | succ fuel ih =>
    intro listed a w hf h
    refine ⟨fun hr => last listed a w h hr, fun i hi => ?_⟩
    have hs := open_set listed i (mem_ready.1 hi).1
    exact step listed a w i h hi _ fun a' w' h' => ih _ a' w' (by omega) h'

theorem wp_region_fam {id : Nat} {a : Act} {w : World} (p0 : π) (hm : P.follows .mixedOrders = true) (hv : famB ops a.tmps.size = true) (hN : ∀ p, (aa p).tmps.size = a.tmps.size) (hdef : ∀ p, (aa p).defers = a.defers)
    (hbase : ∀ t, (∀ j, j < ops.size → dstAt ops j ≠ some t) → (aa p0).tmps.getD t undef = a.tmps.getD t undef) (hR : R p0 (Array.replicate ops.size false) { w with drawn := w.drawn + 1 })
    (hdo : ∀ (i : Nat) (o : Oper), ops[i]? = some o → DoesF P ops aa R i o) (fin : ∀ p listed w, (∀ j, j < ops.size → listed.getD j false = true) → R p listed w → Q .normal (aa p) w) : (Code.region id ops true).wp P Q a w := by
  refine wp_region_any hm (wpAny_fam hv hN (fun p q => (hdef p).trans (hdef q).symm) hdo fin ops.size _ a _ (by
    unfold open_
    refine Nat.le_trans (List.length_filter_le _ _) ?_
    simp) ⟨by simp, p0, (hdef p0).symm, (hN p0).symm, fun t ht => ?_, hR⟩)
  refine (hbase t fun j hj e => ?_).symm
  have := ht j e
  rw [Array.getD_eq_getD_getElem?] at this
  simp [Array.getElem?_replicate] at this
  split at this <;> cases this
/-- The same, the frame's values listed. -/
theorem wp_region_famD {id : Nat} {a : Act} {w : World} (p0 : π) (D : π → List (Tmp × Value)) (hL : ∀ p, aa p = putD a (D p)) (hm : P.follows .mixedOrders = true) (hv : famB ops a.tmps.size = true)
    (hk : ((D p0).map (·.1)).all (fun t => (List.range ops.size).any fun j => dstAt ops j == some t) = true) (hR : R p0 (Array.replicate ops.size false) { w with drawn := w.drawn + 1 })
    (hdo : ∀ (i : Nat) (o : Oper), ops[i]? = some o → DoesF P ops aa R i o) (fin : ∀ p listed w, (∀ j, j < ops.size → listed.getD j false = true) → R p listed w → Q .normal (aa p) w) : (Code.region id ops true).wp P Q a w := by
  refine wp_region_fam p0 hm hv (fun p => by rw [hL p]; exact (putD_frame (D p) a).2.1) (fun p => by rw [hL p]; exact (putD_frame (D p) a).2.2) (fun t ht => ?_) hR hdo fin
  rw [hL p0]
  refine (putD_frame (D p0) a).1 t fun hm => ?_
  have := List.all_eq_true.1 hk t hm
  obtain ⟨j, hj, e⟩ := List.any_eq_true.1 this
  exact ht j (List.mem_range.1 hj) (by simpa using e)
theorem flag_other {listed : Array Bool} {i j : Nat} (h : i ≠ j) : (listed.setIfInBounds i true).getD j false = listed.getD j false := by
  rw [Array.getD_eq_getD_getElem?, Array.getElem?_setIfInBounds_ne h, ← Array.getD_eq_getD_getElem?]
theorem flag_self {listed : Array Bool} {i : Nat} (h : i < listed.size) : (listed.setIfInBounds i true).getD i false = true := by
  rw [Array.getD_eq_getD_getElem?, Array.getElem?_setIfInBounds_self_of_lt h]
  rfl
end
end Go.Proofs.YtgmdpgchffapoaaDoor.part
