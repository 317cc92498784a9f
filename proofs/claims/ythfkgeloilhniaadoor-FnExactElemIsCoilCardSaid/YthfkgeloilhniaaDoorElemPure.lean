/-
  The printed functions of 'FnExactElemIsContact': what they come to.
  Conditions: none.
-/
import Derived.Test.YthfkgeloilhniaaDoorElemC
import Derived.Test.YthfkgeloilhniaaDoorPFnExactElemIsCoilx1
import Derived.Test.YthfkgeloilhniaaDoorElemArg
namespace Go.Proofs.YthfkgeloilhniaaDoor.dev
open Go Go.RowKit Go.Proofs.YthfkgeloilhniaaDoor.PFnExactElemIsCoil
set_option linter.unusedVariables false
set_option linter.unusedSimpArgs false

def tr (x : S35) : Tri := (x.f0, x.f1, x.f2)
def tr3 (x : S62) : Tri := (x.f0, x.f1, x.f2)
theorem rd0 (x : S35) (l : List S35) : rd_T35 (x :: l) 0 = x := rfl
theorem rd1 (x y : S35) (l : List S35) : rd_T35 (x :: y :: l) 1 = y := rfl

/-! ### the copy, the comparison, the size -/
def conv (x : S62) : S35 := ⟨x.f0, x.f1, x.f2⟩
theorem wrap_small (i : Nat) (h : i ≤ 4611686018427387904) : wrap64 ((i : Int) + 1) = ((i + 1 : Nat) : Int) := by
  unfold wrap64
  omega
theorem toS_l0 (l : List S62) (hl : l.length ≤ 1048576) : ∀ (k i : Nat), i ≤ l.length → l.length - i < k → laws_toDevArgS.l0 k l ((l.take i).map conv ++ List.replicate (l.length - i) z35) i = some (l.map conv)
  | 0, i, _, h => absurd h (Nat.not_lt_zero _)
  | k + 1, i, hi, hk => by
    rw [laws_toDevArgS.l0]
    by_cases h : i < l.length
    · rw [if_pos (by omega), if_pos (by omega)]
      show (if (i : Int) < _ then _ else _) = _
      rw [if_pos (by simp; omega), wrap_small i (by omega)]
      have ih := toS_l0 l hl k (i + 1) (by omega) (by omega)
      rw [← ih]
      congr 1
      have e1 : l.take (i + 1) = l.take i ++ [l[i]] := List.take_succ_eq_append_getElem h
      have e2 : rd_T62 l (i : Int) = l[i] := by
        show l.getD (i : Int).toNat z62 = _
        simp [h]
      have e3 : List.replicate (l.length - i) z35 = z35 :: List.replicate (l.length - (i + 1)) z35 := by
        rw [show l.length - i = (l.length - (i + 1)) + 1 by omega, List.replicate_succ]
      rw [e1, e2, e3, List.map_append, List.append_assoc, Int.toNat_natCast, List.set_append_right _ _ (by simp; omega)]
      congr 1
      simp [Nat.min_eq_left (Nat.le_of_lt h)]
      rfl
    · have : i = l.length := by omega
      subst this
      rw [if_neg (by omega)]
      simp
theorem toS_f (l : List S62) (hl : l.length ≤ 1048576) : laws_toDevArgS.f (l.length + 1) l = some (l.map conv) := by
  unfold laws_toDevArgS.f
  rw [if_pos (by omega), if_pos (by simp; omega)]
  have := toS_l0 l hl (l.length + 1) 0 (Nat.zero_le _) (by omega)
  simpa using this
theorem toElem_f (op : Int) (l : List S62) (hl : l.length ≤ 1048576) : laws_toElem.f (l.length + 1) op l = some (op, l.map conv) := by
  unfold laws_toElem.f
  rw [toS_f l hl]
  rfl
theorem eqS_l0 (l : List S35) (hl : l.length ≤ 1048576) : ∀ (k i : Nat), i ≤ l.length → l.length - i < k → laws_eqDevArgS.l0 k l l i = some true
  | 0, i, _, h => absurd h (Nat.not_lt_zero _)
  | k + 1, i, hi, hk => by
    rw [laws_eqDevArgS.l0]
    by_cases h : i < l.length
    · rw [if_pos (by omega), if_pos (by omega), if_pos (by omega), wrap_small i (by omega), eqS_l0 l hl k (i + 1) (by omega) (by omega)]
      simp [laws_eqDevArg.f]
    · rw [if_neg (by omega)]
theorem eqElem_f (op : Int) (l : List S35) (hl : l.length ≤ 1048576) : laws_eqElem.f (l.length + 1) op l op l = some true := by
  unfold laws_eqElem.f laws_eqDevArgS.f
  rw [if_pos rfl, if_pos rfl]
  have := eqS_l0 l hl (l.length + 1) 0 (Nat.zero_le _) (by omega)
  rw [show ((0 : Nat) : Int) = 0 from rfl] at this
  rw [this]
  rfl
theorem szElem_f (op : Int) (l : List S62) (hl : l.length ≤ 9223372036854775807) : laws_szElem.f op l 1048576 = some (if l.length ≤ 1048576 then 1048576 - (l.length : Int) else -1) := by
  unfold laws_szElem.f laws_szDevArgS.f
  have e : wrap64 (1048576 - (l.length : Int)) = 1048576 - (l.length : Int) := by unfold wrap64; omega
  rw [e]
  by_cases h : l.length ≤ 1048576
  · rw [if_neg (by omega), Option.bind_some, if_neg (by omega), if_pos h]
  · rw [if_pos (by omega), Option.bind_some, if_pos (by omega), if_neg h]
end Go.Proofs.YthfkgeloilhniaaDoor.dev
