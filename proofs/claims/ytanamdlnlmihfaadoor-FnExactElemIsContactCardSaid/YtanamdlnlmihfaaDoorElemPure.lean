/-
  The printed functions of 'FnExactElemIsContact': what they come to.
  Conditions: none.
-/
import Derived.Test.YtanamdlnlmihfaaDoorElemC
import Derived.Test.YtanamdlnlmihfaaDoorElemArg
namespace Go.Proofs.YtanamdlnlmihfaaDoor.dev
open Go Go.RowKit Go.Proofs.YtanamdlnlmihfaaDoor.PFnExactElemIsContact
set_option linter.unusedVariables false
set_option linter.unusedSimpArgs false

theorem size_f (j : Nat) (k : Int) : spec_DevSize.f (j + 2) k = some (size k) := by
  by_cases h : 1 ≤ k ∧ k ≤ 10
  · have hk : k = 1 ∨ k = 2 ∨ k = 3 ∨ k = 4 ∨ k = 5 ∨ k = 6 ∨ k = 7 ∨ k = 8 ∨ k = 9 ∨ k = 10 := by omega
    rcases hk with rfl | rfl | rfl | rfl | rfl | rfl | rfl | rfl | rfl | rfl <;> rfl
  · have hs : size k = 0 := by
      unfold size
      split
      · rfl
      · rw [if_pos (by omega)]
    rw [hs]
    have n1 : k ≠ 1 := by omega
    have n2 : k ≠ 2 := by omega
    have n3 : k ≠ 3 := by omega
    have n4 : k ≠ 4 := by omega
    have n5 : k ≠ 5 := by omega
    have n6 : k ≠ 6 := by omega
    have n7 : k ≠ 7 := by omega
    have n8 : k ≠ 8 := by omega
    have n9 : k ≠ 9 := by omega
    have n10 : k ≠ 10 := by omega
    simp [spec_DevSize.f, spec_DevSize.j0, spec_DevSize.j1, n1, n2, n3, n4, n5, n6, n7, n8, n9, n10]
theorem ok_f (j : Nat) (k n p : Int) : spec_DevOk.f (j + 2) k n p = some (dok k n p) := by
  unfold spec_DevOk.f
  rw [size_f, Option.bind_some]
  by_cases h11 : k = 11
  · subst h11
    rw [if_pos rfl, dok11]
    repeat' split
    all_goals (congr 1; apply to_dec; simp; try omega)
  rw [if_neg h11]
  by_cases h12 : k = 12
  · subst h12
    rw [if_pos rfl, dok12]
    repeat' split
    all_goals (congr 1; apply to_dec; simp; try omega)
  rw [if_neg h12]
  by_cases h13 : k = 13
  · subst h13
    rw [if_pos rfl, dok13]
    repeat' split
    all_goals (congr 1; apply to_dec; simp; try omega)
  rw [if_neg h13, dokx h11 h12 h13]
  repeat' split
  all_goals (congr 1; apply to_dec; simp; try omega)
theorem kis_of {k n p : Int} {b : Bool} {zs : List Int} (h : (if dok k n p = true then some b else some false) = some (dok k n p && has zs k)) : (if dok k n p = true then some b else some false) = some (kis k n p zs) := h
theorem isBit_f (j : Nat) (k n p : Int) : spec_DevIsBit.f (j + 2) k n p = some (isBit k n p) := by
  unfold spec_DevIsBit.f isBit kis
  rw [ok_f, Option.bind_some]
  cases hd : dok k n p with
  | false => rfl
  | true =>
    have h := dok_kind hd
    have hk : k = 1 ∨ k = 2 ∨ k = 3 ∨ k = 4 ∨ k = 5 ∨ k = 6 ∨ k = 7 ∨ k = 8 ∨ k = 9 ∨ k = 10 ∨ k = 11 ∨ k = 12 ∨ k = 13 := by omega
    rcases hk with rfl | rfl | rfl | rfl | rfl | rfl | rfl | rfl | rfl | rfl | rfl | rfl | rfl <;> rfl
theorem isReal_f (j : Nat) (k n p : Int) : spec_DevIsReal.f (j + 2) k n p = some (isReal k n p) := by
  unfold spec_DevIsReal.f isReal kis
  rw [ok_f, Option.bind_some]
  cases hd : dok k n p with
  | false => rfl
  | true =>
    have h := dok_kind hd
    have hk : k = 1 ∨ k = 2 ∨ k = 3 ∨ k = 4 ∨ k = 5 ∨ k = 6 ∨ k = 7 ∨ k = 8 ∨ k = 9 ∨ k = 10 ∨ k = 11 ∨ k = 12 ∨ k = 13 := by omega
    rcases hk with rfl | rfl | rfl | rfl | rfl | rfl | rfl | rfl | rfl | rfl | rfl | rfl | rfl <;> rfl
theorem isWhole_f (j : Nat) (k n p : Int) : spec_DevIsWhole.f (j + 2) k n p = some (isWhole k n p) := by
  unfold spec_DevIsWhole.f isWhole kis
  rw [ok_f, Option.bind_some]
  cases hd : dok k n p with
  | false => rfl
  | true =>
    have h := dok_kind hd
    have hk : k = 1 ∨ k = 2 ∨ k = 3 ∨ k = 4 ∨ k = 5 ∨ k = 6 ∨ k = 7 ∨ k = 8 ∨ k = 9 ∨ k = 10 ∨ k = 11 ∨ k = 12 ∨ k = 13 := by omega
    rcases hk with rfl | rfl | rfl | rfl | rfl | rfl | rfl | rfl | rfl | rfl | rfl | rfl | rfl <;> rfl
theorem arityS_f (j : Nat) (op : Int) : spec_ElemArity.f (j + 2) op = some (arity op) := by
  by_cases h : 1 ≤ op ∧ op ≤ 37
  · have hk : op = 1 ∨ op = 2 ∨ op = 3 ∨ op = 4 ∨ op = 5 ∨ op = 6 ∨ op = 7 ∨ op = 8 ∨ op = 9 ∨ op = 10 ∨ op = 11 ∨ op = 12 ∨ op = 13 ∨ op = 14 ∨ op = 15 ∨ op = 16 ∨ op = 17 ∨ op = 18 ∨ op = 19 ∨ op = 20 ∨ op = 21 ∨ op = 22 ∨ op = 23 ∨ op = 24 ∨ op = 25 ∨ op = 26 ∨ op = 27 ∨ op = 28 ∨ op = 29 ∨ op = 30 ∨ op = 31 ∨ op = 32 ∨ op = 33 ∨ op = 34 ∨ op = 35 ∨ op = 36 ∨ op = 37 := by omega
    rcases hk with rfl | rfl | rfl | rfl | rfl | rfl | rfl | rfl | rfl | rfl | rfl | rfl | rfl | rfl | rfl | rfl | rfl | rfl | rfl | rfl | rfl | rfl | rfl | rfl | rfl | rfl | rfl | rfl | rfl | rfl | rfl | rfl | rfl | rfl | rfl | rfl | rfl <;> rfl
  · have ha : arity op = 0 := by
      unfold arity
      rw [if_neg (by omega), if_neg (by omega), if_neg (by omega)]
    rw [ha]
    have n1 : op ≠ 1 := by omega
    have n2 : op ≠ 2 := by omega
    have n3 : op ≠ 21 := by omega
    have n4 : op ≠ 22 := by omega
    have n5 : op ≠ 23 := by omega
    have n6 : op ≠ 25 := by omega
    have n7 : op ≠ 31 := by omega
    have n8 : op ≠ 32 := by omega
    have n9 : op ≠ 33 := by omega
    have n10 : op ≠ 34 := by omega
    have n11 : op ≠ 35 := by omega
    simp only [spec_ElemArity.f, spec_ElemArity.j0, spec_ElemArity.j1, if_neg n1, if_neg n2, if_neg n3, if_neg n4, if_neg n5, if_neg n7, if_neg n8, if_neg n9, if_neg n10, beq_eq_false_iff_ne.2 n6, beq_eq_false_iff_ne.2 n11]
    repeat' split
    all_goals first | rfl | (exfalso; omega) | simp_all

def tr (x : S25) : Tri := (x.f0, x.f1, x.f2)
def tr3 (x : S23) : Tri := (x.f0, x.f1, x.f2)
theorem rd0 (x : S25) (l : List S25) : rd_T25 (x :: l) 0 = x := rfl
theorem rd1 (x y : S25) (l : List S25) : rd_T25 (x :: y :: l) 1 = y := rfl

theorem contact_f (op : Int) (l : List S25) : spec_ElemIsContact.f 3 op l = some (contact op (l.map tr)) := by
  unfold spec_ElemIsContact.f contact
  by_cases h1 : op < 1
  · rw [if_pos h1, inB_false (by omega)]
    rfl
  by_cases h2 : op > 10
  · rw [if_neg h1, if_pos h2, inB_false (by omega)]
    rfl
  rw [if_neg h1, if_neg h2, inB_true (by omega), arityS_f 1 op, Option.bind_some, List.length_map]
  by_cases hl : (l.length : Int) = arity op
  · rw [show ((l.length : Int) != arity op) = false by simp [hl], decide_eq_true hl]
    have hop : op = 1 ∨ op = 2 ∨ op = 3 ∨ op = 4 ∨ op = 5 ∨ op = 6 ∨ op = 7 ∨ op = 8 ∨ op = 9 ∨ op = 10 := by omega
    by_cases h3 : op ≤ 2
    · have ha : arity op = 1 := by rcases hop with rfl | rfl | rfl | rfl | rfl | rfl | rfl | rfl | rfl | rfl <;> first | rfl | omega
      obtain ⟨x, rfl⟩ := kit.list1 (l := l) (by omega)
      rw [spec_ElemIsContact.j0, if_neg (by decide), if_pos h3, if_pos (by simp), rd0, isBit_f, if_pos h3]
      rfl
    · have ha : arity op = 2 := by rcases hop with rfl | rfl | rfl | rfl | rfl | rfl | rfl | rfl | rfl | rfl <;> first | rfl | omega
      obtain ⟨x, y, rfl⟩ := kit.list2 (l := l) (by omega)
      by_cases h4 : op ≤ 4
      · rw [spec_ElemIsContact.j0, if_neg (by decide), if_neg h3, if_pos h4, if_pos (by simp), if_pos (by simp), rd0, rd1, isBit_f, ok_f, Option.bind_some, Option.bind_some, if_neg h3, if_pos h4]
        show _ = some (true && true && (isBit x.f0 x.f1 x.f2 && (dok y.f0 y.f1 y.f2 && has [5] y.f0)))
        cases isBit x.f0 x.f1 x.f2 <;> cases dok y.f0 y.f1 y.f2 <;> first | (simp [has]; done) | (simp [has]; rfl)
      · rw [spec_ElemIsContact.j0, if_neg (by decide), if_neg h3, if_neg h4, if_pos (by simp), if_pos (by simp), rd0, rd1, isWhole_f, isWhole_f, isReal_f, isReal_f, if_neg h3, if_neg h4]
        show _ = some (true && true && ((isWhole x.f0 x.f1 x.f2 && (isWhole y.f0 y.f1 y.f2 && true)) || (isReal x.f0 x.f1 x.f2 && (isReal y.f0 y.f1 y.f2 && true))))
        simp only [Option.bind_some]
        cases isWhole x.f0 x.f1 x.f2 <;> cases isWhole y.f0 y.f1 y.f2 <;> cases isReal x.f0 x.f1 x.f2 <;> cases isReal y.f0 y.f1 y.f2 <;> rfl
  · rw [show ((l.length : Int) != arity op) = true by simp [hl], decide_eq_false hl]
    rfl

/-! ### the copy, the comparison, the size -/
def conv (x : S23) : S25 := ⟨x.f0, x.f1, x.f2⟩
theorem wrap_small (i : Nat) (h : i ≤ 4611686018427387904) : wrap64 ((i : Int) + 1) = ((i + 1 : Nat) : Int) := by
  unfold wrap64
  omega
theorem toS_l0 (l : List S23) (hl : l.length ≤ 1048576) : ∀ (k i : Nat), i ≤ l.length → l.length - i < k → laws_toDevArgS.l0 k l ((l.take i).map conv ++ List.replicate (l.length - i) z25) i = some (l.map conv)
  | 0, i, _, h => absurd h (Nat.not_lt_zero _)
  | k + 1, i, hi, hk => by
    rw [laws_toDevArgS.l0]
    by_cases h : i < l.length
    · rw [if_pos (by omega), if_pos (by omega)]
      show (if (i : Int) < _ then _ else _) = _
      rw [if_pos (by simp; omega), wrap_small i (by omega)]
      have ih := toS_l0 l hl k (i + 1) (by omega) (by omega)
      rw [← ih]
      congr 1
      have e1 : l.take (i + 1) = l.take i ++ [l[i]] := List.take_succ_eq_append_getElem h
      have e2 : rd_T23 l (i : Int) = l[i] := by
        show l.getD (i : Int).toNat z23 = _
        simp [h]
      have e3 : List.replicate (l.length - i) z25 = z25 :: List.replicate (l.length - (i + 1)) z25 := by
        rw [show l.length - i = (l.length - (i + 1)) + 1 by omega, List.replicate_succ]
      rw [e1, e2, e3, List.map_append, List.append_assoc, Int.toNat_natCast, List.set_append_right _ _ (by simp; omega)]
      congr 1
      simp [Nat.min_eq_left (Nat.le_of_lt h)]
      rfl
    · have : i = l.length := by omega
      subst this
      rw [if_neg (by omega)]
      simp
theorem toS_f (l : List S23) (hl : l.length ≤ 1048576) : laws_toDevArgS.f (l.length + 1) l = some (l.map conv) := by
  unfold laws_toDevArgS.f
  rw [if_pos (by omega), if_pos (by simp; omega)]
  have := toS_l0 l hl (l.length + 1) 0 (Nat.zero_le _) (by omega)
  simpa using this
theorem toElem_f (op : Int) (l : List S23) (hl : l.length ≤ 1048576) : laws_toElem.f (l.length + 1) op l = some (op, l.map conv) := by
  unfold laws_toElem.f
  rw [toS_f l hl]
  rfl
theorem eqS_l0 (l : List S25) (hl : l.length ≤ 1048576) : ∀ (k i : Nat), i ≤ l.length → l.length - i < k → laws_eqDevArgS.l0 k l l i = some true
  | 0, i, _, h => absurd h (Nat.not_lt_zero _)
  | k + 1, i, hi, hk => by
    rw [laws_eqDevArgS.l0]
    by_cases h : i < l.length
    · rw [if_pos (by omega), if_pos (by omega), if_pos (by omega), wrap_small i (by omega), eqS_l0 l hl k (i + 1) (by omega) (by omega)]
      simp [laws_eqDevArg.f]
    · rw [if_neg (by omega)]
theorem eqElem_f (op : Int) (l : List S25) (hl : l.length ≤ 1048576) : laws_eqElem.f (l.length + 1) op l op l = some true := by
  unfold laws_eqElem.f laws_eqDevArgS.f
  rw [if_pos rfl, if_pos rfl]
  have := eqS_l0 l hl (l.length + 1) 0 (Nat.zero_le _) (by omega)
  rw [show ((0 : Nat) : Int) = 0 from rfl] at this
  rw [this]
  rfl
theorem szElem_f (op : Int) (l : List S23) (hl : l.length ≤ 9223372036854775807) : laws_szElem.f op l 1048576 = some (if l.length ≤ 1048576 then 1048576 - (l.length : Int) else -1) := by
  unfold laws_szElem.f laws_szDevArgS.f
  have e : wrap64 (1048576 - (l.length : Int)) = 1048576 - (l.length : Int) := by unfold wrap64; omega
  rw [e]
  by_cases h : l.length ≤ 1048576
  · rw [if_neg (by omega), Option.bind_some, if_neg (by omega), if_pos h]
  · rw [if_pos (by omega), Option.bind_some, if_pos (by omega), if_neg h]
end Go.Proofs.YtanamdlnlmihfaaDoor.dev
