/-
  A region that draws its order, by the values that its slots hold behind it: each operation once, in that frame, guarded or not.
  Conditions: each operation has a slot of its own; what it looks at is written by operations that it stands behind.
-/
import Derived.Test.YtkiemiolellllaaOrders
namespace Go.Proofs.Ytkiemiolellllaa.part
open Go Go.RowKit
set_option linter.unusedVariables false
set_option linter.unusedSimpArgs false

/-- The operations' edges that bind point backward. -/
def backA (ops : Array Oper) : Bool := (List.range ops.size).all fun i => match ops[i]? with | some o => o.after.all fun e => !Region.binds .any e || decide (e.on < i) | none => true
theorem all_listedA {ops : Array Oper} (hb : backA ops = true) {listed : Array Bool} (hs : listed.size = ops.size) (hr : Region.ready .any ops listed = []) : ∀ j, j < ops.size → listed.getD j false = true := by
  intro j
  induction j using Nat.strongRecOn with
  | ind j ih =>
    intro hj
    have ho : ops[j]? = some ops[j] := Array.getElem?_eq_getElem hj
    cases hl : listed.getD j false with
    | true => rfl
    | false =>
      exfalso
      have h1 : j ∈ Region.ready .any ops listed := mem_ready.2 ⟨by
        rw [Array.getD_eq_getD_getElem?, Array.getElem?_eq_getElem (by omega)] at hl ⊢
        exact hl, ops[j], ho, fun e he hbi => by
        have h2 := List.all_eq_true.1 hb j (List.mem_range.2 hj)
        rw [ho] at h2
        have h3 := (Array.all_eq_true_iff_forall_mem.1 h2) e he
        rw [hbi] at h3
        have h4 : e.on < j := of_decide_eq_true (by simpa using h3)
        exact ih e.on h4 (by omega)⟩
      rw [hr] at h1
      cases h1
def dstAt (ops : Array Oper) (j : Nat) : Option Tmp := (ops[j]?).bind (·.dst)
def opB (ops : Array Oper) (N i : Nat) (o : Oper) : Bool :=
  (match o.dst with | some t => decide (t < N) && (List.range ops.size).all fun j => j == i || dstAt ops j != some t | none => false) &&
  ((o.looksAt ops).all fun t => (List.range ops.size).all fun j => dstAt ops j != some t || o.after.any fun e => Region.binds .any e && e.on == j) &&
  (o.after.all fun e => !Region.binds .any e || decide (e.on < i)) && (match o.op with | .select .. => false | _ => true)
def valsB (ops : Array Oper) (N : Nat) : Bool := (List.range ops.size).all fun i => match ops[i]? with | some o => opB ops N i o | none => true

theorem valsB_at {ops : Array Oper} {N i : Nat} {o : Oper} (h : valsB ops N = true) (ho : ops[i]? = some o) : opB ops N i o = true := by
  have := List.all_eq_true.1 h i (List.mem_range.2 (Array.getElem?_eq_some_iff.1 ho).1)
  rw [ho] at this
  exact this
theorem opB_dst {ops : Array Oper} {N i : Nat} {o : Oper} (h : opB ops N i o = true) : ∃ t, o.dst = some t ∧ t < N ∧ ∀ j, j < ops.size → j ≠ i → dstAt ops j ≠ some t := by
  simp only [opB, Bool.and_eq_true] at h
  obtain ⟨⟨⟨h1, _⟩, _⟩, _⟩ := h
  cases hd : o.dst with
  | none => rw [hd] at h1; cases h1
  | some t =>
    rw [hd] at h1
    simp only [Bool.and_eq_true, decide_eq_true_eq, List.all_eq_true, List.mem_range, Bool.or_eq_true, beq_iff_eq, bne_iff_ne] at h1
    exact ⟨t, rfl, h1.1, fun j hj hne => (h1.2 j hj).resolve_left hne⟩
theorem opB_looks {ops : Array Oper} {N i : Nat} {o : Oper} (h : opB ops N i o = true) {t : Tmp} (ht : t ∈ o.looksAt ops) {j : Nat} (hj : dstAt ops j = some t) : ∃ e ∈ o.after, Region.binds .any e = true ∧ e.on = j := by
  simp only [opB, Bool.and_eq_true] at h
  obtain ⟨⟨⟨_, h2⟩, _⟩, _⟩ := h
  have hjs : j < ops.size := by
    rcases Nat.lt_or_ge j ops.size with h | h
    · exact h
    · unfold dstAt at hj; rw [Array.getElem?_eq_none h] at hj; cases hj
  have := List.all_eq_true.1 (List.all_eq_true.1 h2 t ht) j (List.mem_range.2 hjs)
  rw [hj] at this
  simp only [bne_self_eq_false, Bool.false_or, Array.any_eq_true'] at this
  obtain ⟨e, he, h3⟩ := this
  simp only [Bool.and_eq_true, beq_iff_eq] at h3
  exact ⟨e, he, h3⟩
theorem opB_sel {ops : Array Oper} {N i : Nat} {o : Oper} (h : opB ops N i o = true) (cs : Array SelectCase) (b : Bool) : o.op ≠ .select cs b := by
  intro e
  simp only [opB, Bool.and_eq_true] at h
  rw [e] at h
  cases h.2
theorem valsB_back {ops : Array Oper} {N : Nat} (h : valsB ops N = true) : backA ops = true := by
  refine List.all_eq_true.2 fun i hi => ?_
  cases ho : ops[i]? with
  | none => rfl
  | some o =>
    have := valsB_at h ho
    simp only [opB, Bool.and_eq_true] at this
    exact this.1.2

theorem upon_vals {P : Program} {o : Oper} {aa a : Act} {R : World → Prop} {K : Act → World → Prop} {Q : Exit → Act → World → Prop} {t : Tmp} (hd : o.dst = some t) (ht : t < aa.tmps.size) {r : Result Next}
    (h : o.upon P aa (fun a' w' => a' = aa ∧ R w') (fun _ _ _ => False) r) (hK : ∀ w', R w' → K (a.put o.dst (aa.tmps.getD t undef)) w') : o.upon P a K Q r := by
  have key : ∀ (b : Act) (v : Value), b.tmps = aa.tmps → b.put o.dst v = aa → v = aa.tmps.getD t undef := by
    intro b v hb e
    rw [← e, hd]
    simp [Act.put, hb, ht]
  cases r with
  | ok n w' =>
    cases n <;> simp only [Oper.upon] at h ⊢
    case value u => rw [key aa u rfl h.1]; exact hK _ h.2
    case skip => rw [key aa undef rfl h.1]; exact hK _ h.2
    case defer d =>
      exfalso
      have := congrArg (fun x : Act => x.defers.length) h.1
      rw [hd] at this
      simp [Act.put] at this
    case enter f args =>
      refine Calls.mono h fun e w'' he => ?_
      cases e with
      | returned u => rw [key aa u rfl he.1]; exact hK _ he.2
      | panicked c => exact he.elim
      | outgrown => obtain ⟨_, _, hf⟩ := he; exact hf.elim
    case row row args => exact Rows.mono h fun u w'' he => by rw [key aa u rfl he.1]; exact hK _ he.2
  | halt x w' =>
    cases x <;> simp only [Oper.upon] at h ⊢

/-- What an operation must do in the frame that stands behind the region. -/
def Does (P : Program) (ops : Array Oper) (aa : Act) (R : World → Prop) (o : Oper) : Prop :=
  (Region.wanted o (yielded ops aa.tmps) = true ∧ ∀ w, R w → o.wp P aa w (fun a' w' => a' = aa ∧ R w') (fun _ _ _ => False)) ∨
  (Region.wanted o (yielded ops aa.tmps) = false ∧ ∀ t, o.dst = some t → aa.tmps.getD t undef = undef)

def Iv (ops : Array Oper) (aa : Act) (R : World → Prop) (listed : Array Bool) (a : Act) (w : World) : Prop :=
  listed.size = ops.size ∧ a.defers = aa.defers ∧ a.tmps.size = aa.tmps.size ∧
  (∀ t, (∀ j, dstAt ops j = some t → listed.getD j false = true) → a.tmps.getD t undef = aa.tmps.getD t undef) ∧ R w

section
variable {P : Program} {ops : Array Oper} {Q : Exit → Act → World → Prop} {aa : Act} {R : World → Prop}
theorem Iv.put {listed : Array Bool} {a : Act} {w w' : World} {i : Nat} {o : Oper} {t : Tmp} (h : Iv ops aa R listed a w) (ho : ops[i]? = some o) (hd : o.dst = some t) (ht : t < aa.tmps.size) (hdis : ∀ j, j < ops.size → j ≠ i → dstAt ops j ≠ some t) (hR : R w') :
    Iv ops aa R (listed.setIfInBounds i true) (a.put o.dst (aa.tmps.getD t undef)) w' := by
  obtain ⟨h1, h2, h3, h4, h5⟩ := h
  rw [hd]
  refine ⟨by simpa using h1, h2, by simpa [Act.put] using h3, fun u hu => ?_, hR⟩
  by_cases e : u = t
  · subst e
    simp only [Act.put]
    rw [Array.getD_eq_getD_getElem?, Array.getElem?_setIfInBounds_self_of_lt (by rw [h3]; exact ht)]
    rfl
  · simp only [Act.put]
    rw [Array.getD_eq_getD_getElem?, Array.getElem?_setIfInBounds_ne (fun x => e x.symm), ← Array.getD_eq_getD_getElem?]
    refine h4 u (fun j hj => ?_)
    have hji : i ≠ j := by
      intro x
      subst x
      unfold dstAt at hj
      rw [ho, Option.bind_some, hd] at hj
      exact e (Option.some.inj hj).symm
    exact set_other hji (hu j hj)

theorem wpAny_vals (hv : valsB ops aa.tmps.size = true) (hdo : ∀ (i : Nat) (o : Oper), ops[i]? = some o → Does P ops aa R o) (fin : ∀ w, R w → Q .normal aa w) :
    ∀ (fuel : Nat) (listed : Array Bool) (a : Act) (w : World), open_ listed ≤ fuel → Iv ops aa R listed a w → wpAny P .any ops Q fuel listed a w := by
  have last : ∀ (listed : Array Bool) (a : Act) (w : World), Iv ops aa R listed a w → Region.ready .any ops listed = [] → Q .normal a w := by
    intro listed a w h hr
    obtain ⟨h1, h2, h3, h4, h5⟩ := h
    have hall := all_listedA (valsB_back hv) h1 hr
    have e : a = aa := by
      obtain ⟨at_, ad⟩ := a
      obtain ⟨bt, bd⟩ := aa
      simp only at h2 h3 h4
      subst h2
      congr 1
      apply Array.ext h3
      intro i hi1 hi2
      have := h4 i (fun j hj => hall j (by
        rcases Nat.lt_or_ge j ops.size with h | h
        · exact h
        · unfold dstAt at hj; rw [Array.getElem?_eq_none h] at hj; cases hj))
      simpa [Array.getD_eq_getD_getElem?, hi1, hi2] using this
    rw [e]
    exact fin w h5
  have step : ∀ (listed : Array Bool) (a : Act) (w : World) (i : Nat), Iv ops aa R listed a w → i ∈ Region.ready .any ops listed →
      ∀ K : Act → World → Prop, (∀ a' w', Iv ops aa R (listed.setIfInBounds i true) a' w' → K a' w') → wpOp P ops Q i K a w := by
    intro listed a w i h hi K hK
    obtain ⟨h0, o, ho, hd⟩ := mem_ready.1 hi
    have hb := valsB_at hv ho
    obtain ⟨t, ht1, ht2, ht3⟩ := opB_dst hb
    have look : ∀ u ∈ o.looksAt ops, a.tmps.getD u undef = aa.tmps.getD u undef := fun u hu => h.2.2.2.1 u (fun j hj => by
      obtain ⟨e, he, hbi, hon⟩ := opB_looks hb hu hj
      rw [← hon]
      exact hd e he hbi)
    have hop : execOp a.eval o = execOp aa.eval o := execOp_congr o (opB_sel hb) fun x hx => by
      cases x with
      | tmp u => exact look u (List.mem_append_left _ (List.mem_filterMap.2 ⟨.tmp u, by simpa using hx, rfl⟩))
      | _ => rfl
    have hw : Region.wanted o (yielded ops a.tmps) = Region.wanted o (yielded ops aa.tmps) := by
      unfold Region.wanted
      cases hg : o.guard with
      | none => rfl
      | some gw =>
        obtain ⟨g, want⟩ := gw
        have hy : yielded ops a.tmps g = yielded ops aa.tmps g := by
          unfold yielded
          cases hdt : (ops[g]?).bind (·.dst) with
          | none => rfl
          | some u =>
            have hu := look u (by simp [Oper.looksAt, hg, hdt])
            have e : a.tmps[u]? = aa.tmps[u]? := by
              have h3 : a.tmps.size = aa.tmps.size := h.2.2.1
              rcases Nat.lt_or_ge u a.tmps.size with hlt | hge
              · have hlt2 : u < aa.tmps.size := by rw [← h3]; exact hlt
                rw [Array.getElem?_eq_getElem hlt, Array.getElem?_eq_getElem hlt2]
                congr 1
                simpa [Array.getD_eq_getD_getElem?, hlt, hlt2] using hu
              · rw [Array.getElem?_eq_none hge, Array.getElem?_eq_none (show aa.tmps.size ≤ u by rw [← h3]; exact hge)]
            simp only [Option.bind_some, e]
        simp only [hy]
    unfold wpOp
    simp only [ho]
    rw [hw]
    rcases hdo i o ho with ⟨h1, h2⟩ | ⟨h1, h2⟩
    · rw [if_pos h1]
      refine .inl ?_
      have h3 := h2 w h.2.2.2.2
      unfold Oper.wp at h3 ⊢
      rw [hop]
      exact upon_vals ht1 ht2 h3 fun w' hR => hK _ _ (h.put ho ht1 ht2 ht3 hR)
    · rw [if_neg (by rw [h1]; decide)]
      have := h.put ho ht1 ht2 ht3 h.2.2.2.2
      rw [h2 t ht1] at this
      exact hK _ _ this
  intro fuel
  induction fuel with
  | zero =>
    intro listed a w hf h
    have hr : Region.ready .any ops listed = [] := by
      rw [List.eq_nil_iff_forall_not_mem]
      intro j hj
      have h1 := (mem_ready.1 hj).1
      have := open_set listed j h1
      omega
    exact ⟨hr, last listed a w h hr⟩
  | succ fuel ih =>
    intro listed a w hf h
    refine ⟨fun hr => last listed a w h hr, fun i hi => ?_⟩
    have hs := open_set listed i (mem_ready.1 hi).1
    exact step listed a w i h hi _ fun a' w' h' => ih _ a' w' (by omega) h'

/-- The frame with values put. -/
def putD (a : Act) : List (Tmp × Value) → Act
  | [] => a
  | p :: r => putD (a.put (some p.1) p.2) r
def dstsB (ops : Array Oper) (D : List Tmp) : Bool := (List.range ops.size).map (fun i => (dstAt ops i).getD 0) == D && (List.range ops.size).all fun i => (dstAt ops i).isSome
theorem putD_frame : ∀ (D : List (Tmp × Value)) (a : Act), (∀ t, t ∉ D.map (·.1) → (putD a D).tmps.getD t undef = a.tmps.getD t undef) ∧ (putD a D).tmps.size = a.tmps.size ∧ (putD a D).defers = a.defers
  | [], a => ⟨fun _ _ => rfl, rfl, rfl⟩
  | p :: r, a => by
    obtain ⟨h1, h2, h3⟩ := putD_frame r (a.put (some p.1) p.2)
    refine ⟨fun t ht => ?_, h2.trans (by simp [Act.put]), h3⟩
    simp only [List.map_cons, List.mem_cons, not_or] at ht
    unfold putD
    rw [h1 t ht.2]
    simp only [Act.put]
    rw [Array.getD_eq_getD_getElem?, Array.getElem?_setIfInBounds_ne (fun e => ht.1 e.symm), ← Array.getD_eq_getD_getElem?]
theorem wp_region_vals {id : Nat} {a : Act} {w : World} (D : List (Tmp × Value)) (hL : aa = putD a D) (hm : P.follows .mixedOrders = true) (hv : valsB ops aa.tmps.size = true) (hD : dstsB ops (D.map (·.1)) = true)
    (hR : R { w with drawn := w.drawn + 1 }) (hdo : ∀ (i : Nat) (o : Oper), ops[i]? = some o → Does P ops aa R o) (fin : ∀ w, R w → Q .normal aa w) : (Code.region id ops true).wp P Q a w := by
  refine wp_region_any hm (wpAny_vals hv hdo fin ops.size _ a _ (by
    unfold open_
    refine Nat.le_trans (List.length_filter_le _ _) ?_
    simp) ?_)
  obtain ⟨f1, f2, f3⟩ := putD_frame D a
  rw [← hL] at f1 f2 f3
  refine ⟨by simp, f3.symm, f2.symm, fun t ht => (f1 t (fun hm => ?_)).symm, hR⟩
  simp only [dstsB, Bool.and_eq_true, beq_iff_eq, List.all_eq_true, List.mem_range] at hD
  rw [← hD.1] at hm
  obtain ⟨j, hj, e⟩ := List.mem_map.1 hm
  have hj2 := hD.2 j (List.mem_range.1 hj)
  obtain ⟨d, hd⟩ := Option.isSome_iff_exists.1 hj2
  rw [hd, Option.getD_some] at e
  subst e
  have := ht j hd
  rw [Array.getD_eq_getD_getElem?] at this
  simp [Array.getElem?_replicate] at this
  split at this <;> cases this
end
end Go.Proofs.Ytkiemiolellllaa.part
