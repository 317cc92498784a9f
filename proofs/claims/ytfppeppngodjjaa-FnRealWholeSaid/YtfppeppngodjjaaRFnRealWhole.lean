/-
  The row of 'FnRealWhole': for every input the law returns true, and what was there reads as it did.
  Conditions: none beyond the given row's own.
-/
import Derived.Test.YtfppeppngodjjaaKit
import Derived.Test.YtfppeppngodjjaaBytes
import Derived.Test.YtfppeppngodjjaaGFnRealWhole
import Derived.SizedLaws
namespace Go.Proofs.Ytfppeppngodjjaa.fnRealWhole
open Go.ChangeShapes Go.WideShapes Go.ChangeAt Go.RowKit
set_option linter.unusedVariables false

theorem fn_true {H : Type} (ds gs : List (DataW H)) (h1 : ds.length = Try.f6.params.toList.length) (h2 : gs.length = Rows.fnRealWholeSpec.vars.length) :
    Rows.fnRealWholeSpec.fn H (ds ++ gs) = { results := [.lit (.bool true)], args := ds, vars := gs } := by
  rw [Try.params6] at h1
  obtain ⟨d0, rfl⟩ := kit.list1 h1
  obtain ⟨rfl⟩ := kit.list0 h2
  rfl

set_option maxRecDepth 100000 in
theorem contract (H : Type) (enc : TypeId × Value → H) (W : World) (base : Nat) (args : Array Value) (ds gs : List (DataW H)) (before : List MemPlace)
    (hval : ∀ (j : Nat) t v, Try.f6.params[j]? = some t → args[j]? = some v → Value.okWide Try.prog W .any base t v)
    (hW : DataW.Whole enc Try.prog Try.f6.params.toList Rows.fnRealWholeSpec.vars false W args.toList ds gs before)
    (hsz : (DataW.weightsEach Try.prog (Try.f6.params.toList ++ Rows.fnRealWholeSpec.plain.varTypes Try.prog) (ds ++ gs)).all (· ≤ reachBytes) = true) :
    Calls Try.prog 6 args W fun e W' => ∃ v, e = .returned v ∧ Rows.fnRealWholeSpec.post enc Try.prog Try.f6 false true false false W args v W' := by
  have hW' := hW
  obtain ⟨p, q, hA, hV, _, _, _⟩ := hW
  have hn := (kit.trodAll_length hA).1
  rw [Try.params6] at hn
  obtain ⟨v0, rfl⟩ := kit.arr1 hn
  have hval' := hval
  rw [Try.params6] at hval'
  have hn2 := (kit.trodAll_length hA).2
  rw [Try.params6] at hn2
  obtain ⟨d0, rfl⟩ := kit.list1 hn2
  have hA2 := hA
  rw [Try.params6] at hA2
  obtain ⟨p0, q0, t0, r0, _⟩ := hA2
  have b0 : kit.Bytes W v0 := kit.bytes_arg (t := 30) (j := 0) Try.underlying30 Try.underlying5 (by kernel_rfl) (by kernel_rfl) (hval' 0 30 v0 rfl rfl) t0 hsz rfl rfl
  refine (walk W base v0 (hval' 0 30 v0 rfl rfl) b0).mono fun e W' ⟨he, bel⟩ => ?_
  subst he
  exact ⟨_, rfl, kit.post_true kit.laidOut (by kernel_rfl) (by kernel_rfl) (by kernel_rfl) Try.underlying4 hW' (fn_true _ gs) bel⟩

set_option maxRecDepth 100000 in
theorem lifted (os : Os) (started : os.Started) (H : Type) (enc : TypeId × Value → H) :
    ReturnsInHanded {} Try.checked os 6 .any (Rows.fnRealWholeSpec.pre6 enc Try.prog Try.f6 Rows.fnRealWholeRow.domain false) (Rows.fnRealWholeSpec.post enc Try.prog Try.f6 false true false false) := by
  refine returnsInHanded_of_change_sized (C := Try.checked) kit.own started (by kernel_rfl) Try.func6
    (ChangeSpec.witness6 (enc := enc) (C := Try.checked) false ⟨#[], #[.slice none 0 0], []⟩ 8 (by kernel_rfl) (by kernel_rfl) (by kernel_rfl) (by kernel_rfl)) ?_
  intro W base args ds gs before hval hW _ hsz _
  exact contract H enc W base args ds gs before hval hW hsz

theorem said : Rows.FnRealWholeSaid :=
  OpenClaim.holds_of_wide 6 Try.f6 rfl rfl rfl rfl rfl rfl rfl ⟨rfl, rfl, rfl, rfl, rfl⟩ rfl rfl rfl rfl rfl (by kernel_rfl) Try.func6 (by kernel_rfl)
    (of_decide_eq_true (by kernel_rfl)) (by unfold Func.isWrapper; first | (rw [if_pos (by decide +kernel)]; kernel_rfl) | (rw [if_neg (by decide +kernel)]; exact ⟨rfl, rfl⟩))
    (fun os started H enc _ => lifted os started H enc)

end Go.Proofs.Ytfppeppngodjjaa.fnRealWhole
namespace Go.Proofs.Ytfppeppngodjjaa
/-- The statement, under a short name. -/
theorem fnRealWhole_holds : Rows.FnRealWholeSaid := fnRealWhole.said
#print axioms fnRealWhole_holds
end Go.Proofs.Ytfppeppngodjjaa
