/-
  'l26Dec' of the document, as printed: a number's decimal text.
  Conditions: the number is one of 64 bits, and not the least.
-/
import Derived.Test.YtcjlkekekalgdaaDoorCutDec
import Derived.Lib.ItoaLen
import Derived.Test.YtcjlkekekalgdaaDoorTxtOps
namespace Go.Proofs.YtcjlkekekalgdaaDoor.txt
open Go Go.RowKit Go.Lib Go.Proofs.YtcjlkekekalgdaaDoor.CutDec Go.Proofs.YtcjlkekekalgdaaDoorW.PrintWords Go.Proofs.YtcjlkekekalgdaaDoorW.PrintLast Go.Proofs.YtcjlkekekalgdaaDoorW.PrintMore
set_option linter.unusedVariables false
set_option linter.unusedSimpArgs false

theorem w64 (n : Int) (h : -9223372036854775808 ≤ n ∧ n ≤ 9223372036854775807) : wrap64 n = n := by unfold wrap64; omega
theorem one_str (d : Nat) (h : d < 10) : strOfNums [(wrap64 (48 + (d : Int))) % 256] = ⟨#[UInt8.ofNat (48 + d)]⟩ := by
  have e : (wrap64 (48 + (d : Int))) % 256 = ((48 + d : Nat) : Int) := by rw [w64 _ (by omega)]; omega
  rw [e]
  rfl
theorem cons_str (c : UInt8) (b : ByteArray) : (⟨#[c]⟩ : ByteArray) ++ b = ⟨(c :: b.data.toList).toArray⟩ := by
  apply ByteArray.ext
  simp [ByteArray.data_append]
theorem dec_l0 : ∀ (k u : Nat) (acc : ByteArray), nDigits u ≤ k → u < 9223372036854775808 → acc.size + nDigits u ≤ 1000 → spec_l26Dec.l0 k (u : Int) acc = some ⟨(decDigits u ++ acc.data.toList).toArray⟩
  | 0, u, acc, h, _, _ => by have := nDigits_pos u; omega
  | k + 1, u, acc, h, hu, hs => by
    rw [spec_l26Dec.l0]
    by_cases h9 : u < 10
    · rw [if_neg (by omega), Option.bind_some, one_str u h9]
      rw [nDigits_small h9] at hs
      rw [if_pos (by show (1 : Nat) + _ ≤ _; omega), cons_str, decDigits, dif_pos h9]
      rfl
    · have e1 : Int.tmod (u : Int) 10 = ((u % 10 : Nat) : Int) := by rw [Int.tmod_eq_emod_of_nonneg (by omega)]; omega
      have e2 : wrap64 (Int.tdiv (u : Int) 10) = ((u / 10 : Nat) : Int) := by rw [Int.tdiv_eq_ediv_of_nonneg (by omega), w64 _ (by omega)]; omega
      rw [nDigits_big h9] at h hs
      rw [if_pos (by omega), Option.bind_some, e1, e2, one_str _ (by omega)]
      rw [if_pos (by show (1 : Nat) + _ ≤ _; omega), cons_str, dec_l0 k (u / 10) _ (by omega) (by omega) (by show acc.data.toList.length + 1 + _ ≤ _; rw [Array.length_toList]; show acc.size + 1 + _ ≤ _; omega)]
      rw [decDigits.eq_1 u, dif_neg h9]
      simp
theorem dec_f (n : Int) (h : -9223372036854775807 ≤ n ∧ n ≤ 9223372036854775807) : spec_l26Dec.f 30 n = some ⟨(itoa n).toArray⟩ := by
  rw [spec_l26Dec.f, if_neg (by omega)]
  by_cases h0 : n < 0
  · have e : wrap64 (-n) = ((n.natAbs : Nat) : Int) := by rw [w64 _ (by omega)]; omega
    rw [if_pos h0, e, spec_l26Dec.f, if_neg (by omega), if_neg (by omega)]
    have hd := nDigits_le20 n.natAbs (by omega)
    rw [dec_l0 28 n.natAbs _ (by omega) (by omega) (by show 0 + _ ≤ _; omega), Option.bind_some]
    have hl := decDigits_length n.natAbs
    rw [if_pos (by
      have : (⟨(decDigits n.natAbs ++ (⟨#[]⟩ : ByteArray).data.toList).toArray⟩ : ByteArray).size = nDigits n.natAbs := by
        show (decDigits n.natAbs ++ []).toArray.size = _
        rw [List.append_nil, List.size_toArray, hl]
      omega), cons_str]
    unfold itoa
    rw [if_pos h0]
    simp
  · obtain ⟨u, rfl⟩ := Int.eq_ofNat_of_zero_le (show 0 ≤ n by omega)
    have hd := nDigits_le20 u (by omega)
    rw [if_neg h0, dec_l0 29 u _ (by omega) (by omega) (by show 0 + _ ≤ _; omega)]
    unfold itoa
    rw [if_neg h0]
    simp
theorem dec_any (n : Int) (h : -9223372036854775807 ≤ n ∧ n ≤ 9223372036854775807) (w : World) : Calls Tryd.prog 36 #[.int .i64 n] w fun e w' => e = .returned (.string ⟨(itoa n).toArray⟩) ∧ Below w.heap.size w w' :=
  spec_l26Dec.calls 30 n _ w (dec_f n h)
end Go.Proofs.YtcjlkekekalgdaaDoor.txt
