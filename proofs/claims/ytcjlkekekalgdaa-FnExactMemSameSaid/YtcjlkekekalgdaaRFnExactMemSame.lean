/-
  The row of 'FnExactMemSame': for every input the law returns true, and what was there reads as it did.
  Conditions: none beyond the given row's own.
-/
import Derived.Test.YtcjlkekekalgdaaKit
import Derived.Test.YtcjlkekekalgdaaGFnExactMemSame
import Derived.SizedLaws
namespace Go.Proofs.Ytcjlkekekalgdaa.fnExactMemSame
open Go.ChangeShapes Go.WideShapes Go.ChangeAt Go.RowKit
set_option linter.unusedVariables false

theorem fn_true {H : Type} (ds gs : List (DataW H)) (h1 : ds.length = Try.f3.params.toList.length) (h2 : gs.length = Rows.fnExactMemSameSpec.vars.length) :
    Rows.fnExactMemSameSpec.fn H (ds ++ gs) = { results := [.lit (.bool true)], args := ds, vars := gs } := by
  rw [Try.params3] at h1
  obtain ⟨d0, d1, rfl⟩ := kit.list2 h1
  obtain ⟨rfl⟩ := kit.list0 h2
  rfl

set_option maxRecDepth 100000 in
theorem contract (H : Type) (enc : TypeId × Value → H) (W : World) (base : Nat) (args : Array Value) (ds gs : List (DataW H)) (before : List MemPlace)
    (hval : ∀ (j : Nat) t v, Try.f3.params[j]? = some t → args[j]? = some v → Value.okWide Try.prog W .any base t v)
    (hW : DataW.Whole enc Try.prog Try.f3.params.toList Rows.fnExactMemSameSpec.vars false W args.toList ds gs before)
    (hsz : (DataW.weightsEach Try.prog (Try.f3.params.toList ++ Rows.fnExactMemSameSpec.plain.varTypes Try.prog) (ds ++ gs)).all (· ≤ reachBytes) = true) :
    Calls Try.prog 3 args W fun e W' => ∃ v, e = .returned v ∧ Rows.fnExactMemSameSpec.post enc Try.prog Try.f3 false true false false W args v W' := by
  have hW' := hW
  obtain ⟨p, q, hA, hV, _, _, _⟩ := hW
  have hn := (kit.trodAll_length hA).1
  rw [Try.params3] at hn
  obtain ⟨v0, v1, rfl⟩ := kit.arr2 hn
  have hval' := hval
  rw [Try.params3] at hval'
  refine (walk W base v0 v1 (hval' 0 36 v0 rfl rfl) (hval' 1 36 v1 rfl rfl)).mono fun e W' ⟨he, bel⟩ => ?_
  subst he
  exact ⟨_, rfl, kit.post_true kit.laidOut (by kernel_rfl) (by kernel_rfl) (by kernel_rfl) Try.underlying4 hW' (fn_true _ gs) bel⟩

set_option maxRecDepth 100000 in
theorem lifted (os : Os) (started : os.Started) (H : Type) (enc : TypeId × Value → H) :
    ReturnsInHanded {} Try.checked os 3 .any (Rows.fnExactMemSameSpec.pre6 enc Try.prog Try.f3 Rows.fnExactMemSameRow.domain false) (Rows.fnExactMemSameSpec.post enc Try.prog Try.f3 false true false false) := by
  refine returnsInHanded_of_change_sized (C := Try.checked) kit.own started (by kernel_rfl) Try.func3
    (ChangeSpec.witness6 (enc := enc) (C := Try.checked) false ⟨#[], #[.agg #[.int .u32 0, .int .u32 0, .int .u64 0, .int .u16 0, .int .u32 0, .bool false, .int .u16 0, .bool false, .int .u16 0, .bool false, .int .u16 0, .bool false, .int .u16 0, .bool false, .int .u16 0, .bool false, .int .u16 0, .bool false, .int .u16 0, .bool false, .int .u16 0, .bool false, .int .u16 0, .bool false, .int .u16 0, .bool false, .int .u16 0, .bool false, .int .u16 0, .bool false, .int .u16 0, .bool false, .int .u16 0, .bool false, .int .u16 0, .bool false, .int .u16 0, .bool false, .bool false, .int .u16 0, .bool false, .bool false, .int .u16 0, .bool false, .bool false, .int .u16 0, .bool false, .bool false, .int .u16 0, .bool false, .bool false, .int .u16 0, .bool false, .bool false, .int .u16 0, .bool false, .bool false, .int .u16 0, .bool false, .bool false, .int .u16 0, .bool false, .bool false, .int .u16 0, .bool false, .bool false, .int .u16 0, .bool false, .bool false, .int .u16 0, .bool false, .bool false, .int .u16 0, .bool false, .bool false, .int .u16 0, .bool false, .bool false, .int .u16 0, .bool false, .bool false, .int .u16 0, .bool false, .bool false, .int .u16 0, .int .i16 0, .int .i16 0, .int .i16 0, .int .i16 0, .int .i16 0, .int .i16 0, .int .i16 0, .int .i16 0, .int .i16 0, .int .i16 0, .int .i16 0, .int .i16 0, .int .i16 0, .int .i16 0, .int .i16 0, .int .i16 0, .int .i16 0, .int .i16 0, .int .i16 0, .int .i16 0, .int .i16 0, .int .i16 0, .int .i16 0, .int .i16 0, .int .i16 0, .int .i16 0, .int .i16 0, .int .i16 0, .int .i16 0, .int .i16 0, .int .i16 0, .int .i16 0, .float .f64 0, .float .f64 0, .float .f64 0, .float .f64 0, .float .f64 0, .float .f64 0, .float .f64 0, .float .f64 0, .float .f64 0, .float .f64 0, .float .f64 0, .float .f64 0, .float .f64 0, .float .f64 0, .float .f64 0, .float .f64 0, .int .u32 0, .bool false, .bool false], .agg #[.int .u32 0, .int .u32 0, .int .u64 0, .int .u16 0, .int .u32 0, .bool false, .int .u16 0, .bool false, .int .u16 0, .bool false, .int .u16 0, .bool false, .int .u16 0, .bool false, .int .u16 0, .bool false, .int .u16 0, .bool false, .int .u16 0, .bool false, .int .u16 0, .bool false, .int .u16 0, .bool false, .int .u16 0, .bool false, .int .u16 0, .bool false, .int .u16 0, .bool false, .int .u16 0, .bool false, .int .u16 0, .bool false, .int .u16 0, .bool false, .int .u16 0, .bool false, .bool false, .int .u16 0, .bool false, .bool false, .int .u16 0, .bool false, .bool false, .int .u16 0, .bool false, .bool false, .int .u16 0, .bool false, .bool false, .int .u16 0, .bool false, .bool false, .int .u16 0, .bool false, .bool false, .int .u16 0, .bool false, .bool false, .int .u16 0, .bool false, .bool false, .int .u16 0, .bool false, .bool false, .int .u16 0, .bool false, .bool false, .int .u16 0, .bool false, .bool false, .int .u16 0, .bool false, .bool false, .int .u16 0, .bool false, .bool false, .int .u16 0, .bool false, .bool false, .int .u16 0, .bool false, .bool false, .int .u16 0, .int .i16 0, .int .i16 0, .int .i16 0, .int .i16 0, .int .i16 0, .int .i16 0, .int .i16 0, .int .i16 0, .int .i16 0, .int .i16 0, .int .i16 0, .int .i16 0, .int .i16 0, .int .i16 0, .int .i16 0, .int .i16 0, .int .i16 0, .int .i16 0, .int .i16 0, .int .i16 0, .int .i16 0, .int .i16 0, .int .i16 0, .int .i16 0, .int .i16 0, .int .i16 0, .int .i16 0, .int .i16 0, .int .i16 0, .int .i16 0, .int .i16 0, .int .i16 0, .float .f64 0, .float .f64 0, .float .f64 0, .float .f64 0, .float .f64 0, .float .f64 0, .float .f64 0, .float .f64 0, .float .f64 0, .float .f64 0, .float .f64 0, .float .f64 0, .float .f64 0, .float .f64 0, .float .f64 0, .float .f64 0, .int .u32 0, .bool false, .bool false]], []⟩ 8 (by kernel_rfl) (by kernel_rfl) (by kernel_rfl) (by kernel_rfl)) ?_
  intro W base args ds gs before hval hW _ hsz _
  exact contract H enc W base args ds gs before hval hW hsz

theorem said : Rows.FnExactMemSameSaid :=
  OpenClaim.holds_of_wide 3 Try.f3 rfl rfl rfl rfl rfl rfl rfl ⟨rfl, rfl, rfl, rfl, rfl⟩ rfl rfl rfl rfl rfl (by kernel_rfl) Try.func3 (by kernel_rfl)
    (of_decide_eq_true (by kernel_rfl)) (by unfold Func.isWrapper; first | (rw [if_pos (by decide +kernel)]; kernel_rfl) | (rw [if_neg (by decide +kernel)]; exact ⟨rfl, rfl⟩))
    (fun os started H enc _ => lifted os started H enc)

end Go.Proofs.Ytcjlkekekalgdaa.fnExactMemSame
namespace Go.Proofs.Ytcjlkekekalgdaa
/-- The statement, under a short name. -/
theorem fnExactMemSame_holds : Rows.FnExactMemSameSaid := fnExactMemSame.said
#print axioms fnExactMemSame_holds
end Go.Proofs.Ytcjlkekekalgdaa
