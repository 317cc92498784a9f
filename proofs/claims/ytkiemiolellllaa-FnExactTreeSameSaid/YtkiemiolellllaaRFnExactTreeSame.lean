/-
  The row of 'FnExactTreeSame': for every input the law returns true, and what was there reads as it did.
  Conditions: none beyond the given row's own.
-/
import Derived.Test.YtkiemiolellllaaKit
import Derived.Test.YtkiemiolellllaaArmArg
import Derived.Test.YtkiemiolellllaaGFnExactTreeSame
import Derived.SizedLaws
namespace Go.Proofs.Ytkiemiolellllaa.fnExactTreeSame
open Go.ChangeShapes Go.WideShapes Go.ChangeAt Go.RowKit
set_option linter.unusedVariables false

theorem fn_true {H : Type} (ds gs : List (DataW H)) (h1 : ds.length = Try.f5.params.toList.length) (h2 : gs.length = Rows.fnExactTreeSameSpec.vars.length) :
    Rows.fnExactTreeSameSpec.fn H (ds ++ gs) = { results := [.lit (.bool true)], args := ds, vars := gs } := by
  rw [Try.params5] at h1
  obtain ⟨d0, d1, rfl⟩ := kit.list2 h1
  obtain ⟨rfl⟩ := kit.list0 h2
  rfl

set_option maxRecDepth 100000 in
theorem contract (H : Type) (enc : TypeId × Value → H) (W : World) (base : Nat) (args : Array Value) (ds gs : List (DataW H)) (before : List MemPlace)
    (hval : ∀ (j : Nat) t v, Try.f5.params[j]? = some t → args[j]? = some v → Value.okWide Try.prog W .any base t v)
    (hW : DataW.Whole enc Try.prog Try.f5.params.toList Rows.fnExactTreeSameSpec.vars false W args.toList ds gs before)
    (hsz : (DataW.weightsEach Try.prog (Try.f5.params.toList ++ Rows.fnExactTreeSameSpec.plain.varTypes Try.prog) (ds ++ gs)).all (· ≤ reachBytes) = true) :
    Calls Try.prog 5 args W fun e W' => ∃ v, e = .returned v ∧ Rows.fnExactTreeSameSpec.post enc Try.prog Try.f5 false true false false W args v W' := by
  have hW' := hW
  obtain ⟨p, q, hA, hV, _, _, _⟩ := hW
  have hn := (kit.trodAll_length hA).1
  rw [Try.params5] at hn
  obtain ⟨v0, v1, rfl⟩ := kit.arr2 hn
  have hval' := hval
  rw [Try.params5] at hval'
  have hn2 := (kit.trodAll_length hA).2
  rw [Try.params5] at hn2
  obtain ⟨d0, d1, rfl⟩ := kit.list2 hn2
  have hA2 := hA
  rw [Try.params5] at hA2
  obtain ⟨p0, q0, t0, r0, _⟩ := hA2
  obtain ⟨p1, q1, t1, r1, _⟩ := r0
  have b0 : kit.Arms W v0 := kit.arms_arg (hval' 0 22 v0 rfl rfl) t0
  have b1 : kit.Arms W v1 := kit.arms_arg (hval' 1 22 v1 rfl rfl) t1
  refine (walk W base v0 v1 (hval' 0 22 v0 rfl rfl) (hval' 1 22 v1 rfl rfl) b0 b1).mono fun e W' ⟨he, bel⟩ => ?_
  subst he
  exact ⟨_, rfl, kit.post_true kit.laidOut (by kernel_rfl) (by kernel_rfl) (by kernel_rfl) Try.underlying4 hW' (fn_true _ gs) bel⟩

set_option maxRecDepth 100000 in
theorem lifted (os : Os) (started : os.Started) (H : Type) (enc : TypeId × Value → H) :
    ReturnsInHanded {} Try.checked os 5 .any (Rows.fnExactTreeSameSpec.pre6 enc Try.prog Try.f5 Rows.fnExactTreeSameRow.domain false) (Rows.fnExactTreeSameSpec.post enc Try.prog Try.f5 false true false false) := by
  refine returnsInHanded_of_change_sized (C := Try.checked) kit.own started (by kernel_rfl) Try.func5
    (ChangeSpec.witness6 (enc := enc) (C := Try.checked) false ⟨#[], #[.slice none 0 0, .slice none 0 0], []⟩ 8 (by kernel_rfl) (by kernel_rfl) (by kernel_rfl) (by kernel_rfl)) ?_
  intro W base args ds gs before hval hW _ hsz _
  exact contract H enc W base args ds gs before hval hW hsz

theorem said : Rows.FnExactTreeSameSaid :=
  OpenClaim.holds_of_wide 5 Try.f5 rfl rfl rfl rfl rfl rfl rfl ⟨rfl, rfl, rfl, rfl, rfl⟩ rfl rfl rfl rfl rfl (by kernel_rfl) Try.func5 (by kernel_rfl)
    (of_decide_eq_true (by kernel_rfl)) (by unfold Func.isWrapper; first | (rw [if_pos (by decide +kernel)]; kernel_rfl) | (rw [if_neg (by decide +kernel)]; exact ⟨rfl, rfl⟩))
    (fun os started H enc _ => lifted os started H enc)

end Go.Proofs.Ytkiemiolellllaa.fnExactTreeSame
namespace Go.Proofs.Ytkiemiolellllaa
/-- The statement, under a short name. -/
theorem fnExactTreeSame_holds : Rows.FnExactTreeSameSaid := fnExactTreeSame.said
#print axioms fnExactTreeSame_holds
end Go.Proofs.Ytkiemiolellllaa
