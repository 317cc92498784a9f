/-
  A ladder's weight: how many parts it has, as the laws' budget counts them.
  Conditions: none.
-/
import Derived.Test.YtkiemiolellllaaKit
import Derived.Test.YtkiemiolellllaaCutTrx1
namespace Go.Proofs.Ytkiemiolellllaa.tree
open Go Go.RowKit Go.Proofs.Ytkiemiolellllaa.CutTr Go.Proofs.YtkiemiolellllaaW.PrintWords
set_option linter.unusedVariables false
set_option linter.unusedSimpArgs false

abbrev ED := S30
abbrev EE := S39
abbrev EN := S42
abbrev EA := S45
mutual
/-- The weight of what a net holds. -/
def wN : EN → Nat
  | ⟨_, e, ks⟩ => e.f1.length + wNs ks
/-- The weight of nets. -/
def wNs : List EN → Nat
  | [] => 0
  | x :: r => 1 + wN x + wNs r
end
/-- The weight of contacts and coils. -/
def wEs : List EE → Nat
  | [] => 0
  | x :: r => 1 + x.f1.length + wEs r
mutual
/-- The weight of what an arm holds. -/
def wA : EA → Nat
  | ⟨n, cs, ks⟩ => wN n + wEs cs + wAs ks
/-- The weight of arms. -/
def wAs : List EA → Nat
  | [] => 0
  | x :: r => 1 + wA x + wAs r
end
theorem wN_eq (x : EN) : wN x = x.f1.f1.length + wNs x.f2 := by obtain ⟨a, e, ks⟩ := x; rw [wN]
theorem wA_eq (x : EA) : wA x = wN x.f0 + wEs x.f1 + wAs x.f2 := by obtain ⟨a, e, ks⟩ := x; rw [wA]
/-- A weight paid. -/
def sub (l : Int) (k : Nat) : Int := if (k : Int) ≤ l then l - k else -1
theorem sub_ok {l : Int} {k : Nat} (h : (k : Int) ≤ l) : sub l k = l - k := if_pos h
theorem sub_no {l : Int} {k : Nat} (h : ¬ (k : Int) ≤ l) : sub l k = -1 := if_neg h
theorem sub_lo {l : Int} {k : Nat} : -1 ≤ sub l k := by unfold sub; split <;> omega
theorem sub_hi {l : Int} {k : Nat} (h : 0 ≤ l) : sub l k ≤ l := by unfold sub; split <;> omega

/-- The sum of the elements' own weights. -/
def sm {α : Type} (f : α → Nat) : List α → Nat
  | [] => 0
  | x :: r => f x + sm f r
theorem wNs_eq (Y : List EN) : wNs Y = Y.length + sm wN Y := by
  induction Y with
  | nil => rfl
  | cons x r ih => rw [wNs, ih, sm, List.length_cons]; omega
theorem wAs_eq (Y : List EA) : wAs Y = Y.length + sm wA Y := by
  induction Y with
  | nil => rfl
  | cons x r ih => rw [wAs, ih, sm, List.length_cons]; omega
theorem wEs_eq (Y : List EE) : wEs Y = Y.length + sm (fun x => x.f1.length) Y := by
  induction Y with
  | nil => rfl
  | cons x r ih => rw [wEs, ih, sm, List.length_cons]; omega
theorem sm_take {α : Type} (f : α → Nat) : ∀ (Y : List α) (k : Nat) (h : k < Y.length), sm f (Y.take (k + 1)) = sm f (Y.take k) + f Y[k]
  | [], k, h => absurd h (Nat.not_lt_zero _)
  | x :: r, 0, h => by simp [sm]
  | x :: r, k + 1, h => by
    have ih := sm_take f r k (Nat.lt_of_succ_lt_succ h)
    simp only [List.take_succ_cons, sm, ih, List.getElem_cons_succ]
    omega
theorem sm_le {α : Type} (f : α → Nat) : ∀ (Y : List α) (k : Nat), sm f (Y.take k) ≤ sm f Y
  | [], k => by simp
  | x :: r, 0 => by simp [sm]
  | x :: r, k + 1 => by
    have := sm_le f r k
    simp only [List.take_succ_cons, sm]
    omega

/-! ### the printed ones -/
theorem szElem_f (op : Int) (Y : List ED) (l : Int) (hY : Y.length ≤ 9223372036854775807) (hl : 0 ≤ l ∧ l ≤ 1048576) : laws_szElem.f op Y l = some (sub l Y.length) := by
  unfold laws_szElem.f laws_szDevArgS.f
  have e : wrap64 (l - (Y.length : Int)) = l - (Y.length : Int) := by unfold wrap64; omega
  rw [e]
  by_cases h : (Y.length : Int) ≤ l
  · rw [if_neg (by omega), Option.bind_some, if_neg (by omega), sub_ok h]
  · rw [if_pos (by omega), Option.bind_some, if_pos (by omega), sub_no h]
theorem szElemS_l0 (Y : List EE) (hY : Y.length ≤ 1048576) (hE : ∀ x ∈ Y, x.f1.length ≤ 9223372036854775807) (L : Int) (hL : 0 ≤ L ∧ L ≤ 1048576) : ∀ (k i : Nat), i ≤ Y.length → Y.length - i < k → ((sm (fun x => x.f1.length) (Y.take i) : Nat) : Int) ≤ L →
    laws_szElemS.l0 k Y (L - (sm (fun x => x.f1.length) (Y.take i) : Nat)) i = some (sub L (sm (fun x => x.f1.length) Y))
  | 0, i, _, h, _ => absurd h (Nat.not_lt_zero _)
  | k + 1, i, hi, hk, hs => by
    rw [laws_szElemS.l0]
    by_cases h : i < Y.length
    · have e2 : rd_T39 Y (i : Int) = Y[i] := by
        show Y.getD (i : Int).toNat z39 = _
        simp [h]
      have hw : wrap64 ((i : Int) + 1) = ((i + 1 : Nat) : Int) := by unfold wrap64; omega
      have ht := sm_take (fun x : EE => x.f1.length) Y i h
      have hle := sm_le (fun x : EE => x.f1.length) Y (i + 1)
      rw [if_pos (by omega), if_pos (by omega), e2, szElem_f _ _ _ (hE _ (List.getElem_mem h)) (by omega), Option.bind_some, hw]
      by_cases h2 : ((Y[i].f1.length : Nat) : Int) ≤ L - (sm (fun x : EE => x.f1.length) (Y.take i) : Nat)
      · rw [sub_ok h2, if_neg (by omega)]
        have ih := szElemS_l0 Y hY hE L hL k (i + 1) (by omega) (by omega) (by omega)
        rw [← ih, ht]
        congr 1
        omega
      · rw [sub_no h2, if_pos (by omega), sub_no (by omega)]
    · have : i = Y.length := by omega
      subst this
      rw [if_neg (by omega), List.take_length]
      rw [List.take_length] at hs
      rw [sub_ok hs]
theorem szElemS_f (Y : List EE) (l : Int) (hY : Y.length ≤ 9223372036854775807) (hE : ∀ x ∈ Y, x.f1.length ≤ 9223372036854775807) (hl : 0 ≤ l ∧ l ≤ 1048576) : laws_szElemS.f (Y.length + 1) Y l = some (sub l (wEs Y)) := by
  unfold laws_szElemS.f
  have e : wrap64 (l - (Y.length : Int)) = l - (Y.length : Int) := by unfold wrap64; omega
  rw [e, wEs_eq]
  by_cases h : (Y.length : Int) ≤ l
  · rw [if_neg (by omega)]
    have := szElemS_l0 Y (by omega) hE (l - Y.length) (by omega) (Y.length + 1) 0 (Nat.zero_le _) (by omega) (by simp [sm]; omega)
    simp only [List.take_zero, sm, Int.natCast_zero, Int.sub_zero] at this
    rw [this]
    congr 1
    unfold sub
    by_cases h2 : ((sm (fun x : EE => x.f1.length) Y : Nat) : Int) ≤ l - Y.length
    · rw [if_pos h2, if_pos (by omega)]; omega
    · rw [if_neg h2, if_neg (by omega)]
  · rw [if_pos (by omega), sub_no (by omega)]
end Go.Proofs.Ytkiemiolellllaa.tree
