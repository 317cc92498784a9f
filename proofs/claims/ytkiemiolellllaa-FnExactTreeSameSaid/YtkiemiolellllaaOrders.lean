/-
  A region that draws its order, by an invariant: each operation once, whatever was done before it.
  Conditions: none.
-/
import Derived.Test.YtkiemiolellllaaPart
import Derived.RegionTactic
import Derived.Deep.RegionWith
namespace Go.Proofs.Ytkiemiolellllaa.part
open Go Go.RowKit
set_option linter.unusedVariables false
set_option linter.unusedSimpArgs false

def open_ (listed : Array Bool) : Nat := (listed.toList.filter (fun b => !b)).length

theorem open_set (listed : Array Bool) (i : Nat) (h : listed.getD i true = false) : open_ (listed.setIfInBounds i true) + 1 = open_ listed := by
  unfold open_
  have hi : i < listed.size := by
    rcases Nat.lt_or_ge i listed.size with h1 | h1
    · exact h1
    · rw [Array.getD_eq_getD_getElem?, Array.getElem?_eq_none h1] at h; cases h
  have hv : listed.toList[i]? = some false := by
    rw [Array.getElem?_toList, Array.getElem?_eq_getElem hi]
    rw [Array.getD_eq_getD_getElem?, Array.getElem?_eq_getElem hi] at h
    exact congrArg some h
  rw [Array.toList_setIfInBounds]
  generalize listed.toList = l at *
  clear h hi
  induction l generalizing i with
  | nil => simp at hv
  | cons b l ih =>
    cases i with
    | zero =>
      simp only [List.getElem?_cons_zero, Option.some.injEq] at hv
      subst hv
      simp
    | succ i =>
      have := ih i (by simpa using hv)
      cases b <;> simp at this ⊢ <;> omega

section
variable {P : Program} {ops : Array Oper} {md : Region.Mode} {Q : Exit → Act → World → Prop}

theorem wpAny_inv (I : Array Bool → Act → World → Prop)
    (hsz : ∀ listed a w, I listed a w → listed.size = ops.size)
    (hg : ∀ (i : Nat) (o : Oper), ops[i]? = some o → o.guard = none)
    (step : ∀ (listed : Array Bool) (a : Act) (w : World) (i : Nat) (o : Oper), I listed a w → ops[i]? = some o → listed.getD i true = false →
      (∀ e ∈ o.after, Region.binds md e = true → listed.getD e.on false = true) →
      ∀ K : Act → World → Prop, (∀ a' w', I (listed.setIfInBounds i true) a' w' → K a' w') → o.wp P a w K Q)
    (fin : ∀ listed a w, I listed a w → Region.ready md ops listed = [] → Q .normal a w) :
    ∀ (fuel : Nat) (listed : Array Bool) (a : Act) (w : World), open_ listed ≤ fuel → I listed a w → wpAny P md ops Q fuel listed a w
  | 0, listed, a, w, hf, h => by
    have hr : Region.ready md ops listed = [] := by
      rw [List.eq_nil_iff_forall_not_mem]
      intro j hj
      have h1 := (mem_ready.1 hj).1
      have := open_set listed j h1
      omega
    exact ⟨hr, fin listed a w h hr⟩
  | fuel + 1, listed, a, w, hf, h => by
    refine ⟨fun hr => fin listed a w h hr, fun i hi => ?_⟩
    obtain ⟨h0, o, ho, hd⟩ := mem_ready.1 hi
    have hs := open_set listed i h0
    unfold wpOp
    simp only [ho]
    have hw : Region.wanted o (yielded ops a.tmps) = true := by unfold Region.wanted; rw [hg i o ho]
    rw [if_pos hw]
    exact .inl (step listed a w i o h ho h0 hd _ fun a' w' h' => wpAny_inv I hsz hg step fin fuel _ a' w' (by omega) h')

/-- The operations' edges point backward. -/
def backB (ops : Array Oper) : Bool := (List.range ops.size).all fun i => match ops[i]? with | some o => o.after.all fun e => decide (e.on < i) | none => true
theorem all_listed (hb : backB ops = true) {listed : Array Bool} (hs : listed.size = ops.size) (hr : Region.ready md ops listed = []) : ∀ j, j < ops.size → listed.getD j false = true := by
  intro j
  induction j using Nat.strongRecOn with
  | ind j ih =>
    intro hj
    have ho : ops[j]? = some ops[j] := Array.getElem?_eq_getElem hj
    cases hl : listed.getD j false with
    | true => rfl
    | false =>
      exfalso
      have h1 : j ∈ Region.ready md ops listed := mem_ready.2 ⟨by
        rw [Array.getD_eq_getD_getElem?, Array.getElem?_eq_getElem (by omega)] at hl ⊢
        exact hl, ops[j], ho, fun e he _ => by
        have h2 := List.all_eq_true.1 hb j (List.mem_range.2 hj)
        rw [ho] at h2
        have h3 := (Array.all_eq_true_iff_forall_mem.1 h2) e he
        have h4 : e.on < j := of_decide_eq_true h3
        exact ih e.on h4 (by omega)⟩
      rw [hr] at h1
      cases h1
theorem set_other {listed : Array Bool} {i j : Nat} (h : i ≠ j) (hl : (listed.setIfInBounds i true).getD j false = true) : listed.getD j false = true := by
  rw [Array.getD_eq_getD_getElem?, Array.getElem?_setIfInBounds_ne h] at hl
  rw [Array.getD_eq_getD_getElem?]; exact hl
theorem ow_hld {o : Oper} {a : Act} {w : World} {K : Act → World → Prop} {t : TypeId} {cs : Array Value} {g : Nat} {fr : Nat × Nat} (ty : TypeId) (x : Operand) (ho : o.op = .load ty x) (hg : w.heap[g]? = some (.cells cs t fr)) (hx : a.eval x = .pointer (some ⟨g, 0, none⟩)) (hu : aggB P ty = true) (n : Nat) (hn : cs.size = n) (hi : (P.info? ty).map (·.size) = some n)
    (h : K (a.put o.dst (.agg cs)) w) : o.wp P a w K Q := by
  have e := run_ldp (P := P) (ty := ty) (off := 0) (n := n) hg (by omega) (agg_run hu w) hi
  have e2 : cs.extract 0 (0 + n) = cs := by rw [← hn]; simp
  rw [e2] at e
  unfold Oper.wp execOp
  simp only [ho, hx, Instr.loadAt, Instr.sureAddr, Sem.run_bind, Sem.run_pure, Result.andThen_ok, e]
  exact h
end
end Go.Proofs.Ytkiemiolellllaa.part
