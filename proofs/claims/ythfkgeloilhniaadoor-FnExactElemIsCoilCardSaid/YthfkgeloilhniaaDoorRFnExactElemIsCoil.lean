/-
  The row and its tied card of 'FnExactElemIsCoil': for every input the law returns true, and what was there reads as it did.
  Conditions: none beyond the given row's own.
-/
import Derived.Test.YthfkgeloilhniaaDoorKit
import Derived.Test.YthfkgeloilhniaaDoorElemArg
import Derived.Test.YthfkgeloilhniaaDoorGFnExactElemIsCoil
import Derived.SizedLaws
import Derived.LaidMore
import Derived.Stop.Joined
import Derived.Test.YthfkgeloilhniaaDoorCards
import Derived.Test.YthfkgeloilhniaaDoorTie
import Derived.SevenTiedAt
namespace Go.Proofs.YthfkgeloilhniaaDoor.fnExactElemIsCoil
open Go.ChangeShapes Go.WideShapes Go.ChangeAt Go.RowKit
set_option linter.unusedVariables false

theorem fn_true {H : Type} (ds gs : List (DataW H)) (h1 : ds.length = Tryd.f5.params.toList.length) (h2 : gs.length = Rows.fnExactElemIsCoilSpec.vars.length) :
    Rows.fnExactElemIsCoilSpec.fn H (ds ++ gs) = { results := [.lit (.bool true)], args := ds, vars := gs } := by
  rw [Tryd.params5] at h1
  obtain ⟨d0, rfl⟩ := kit.list1 h1
  obtain ⟨g0, g1, rfl⟩ := kit.list2 h2
  rfl

theorem door_met (os : Os) (args : Array Value) : laidMetH Tryd.prog Rows.fnExactElemIsCoilRow.laid ((World.doorLaid Tryd.prog 19 os).forCall (fun _ _ => 0) ⟨#[], args, []⟩).memory :=
  laidMetH_of_parts3 (fuel := 8) (laidMet_of_run' 8 (by kernel_rfl) (by kernel_rfl)) (by kernel_rfl) (by kernel_rfl)

set_option maxRecDepth 100000 in
theorem contract (H : Type) (enc : TypeId × Value → H) (W : World) (base : Nat) (args : Array Value) (ds gs : List (DataW H)) (before : List MemPlace)
    (hval : ∀ (j : Nat) t v, Tryd.f5.params[j]? = some t → args[j]? = some v → Value.okWide Tryd.prog W .any base t v)
    (hW : DataW.Whole enc Tryd.prog Tryd.f5.params.toList Rows.fnExactElemIsCoilSpec.vars false W args.toList ds gs before)
    (hsz : (DataW.weightsEach Tryd.prog (Tryd.f5.params.toList ++ Rows.fnExactElemIsCoilSpec.plain.varTypes Tryd.prog) (ds ++ gs)).all (· ≤ reachBytes) = true) (hL : laidMetH Tryd.prog Rows.fnExactElemIsCoilRow.laid W) :
    Calls Tryd.prog 5 args W fun e W' => ∃ v, e = .returned v ∧ Rows.fnExactElemIsCoilSpec.post enc Tryd.prog Tryd.f5 false true false false W args v W' := by
  have hW' := hW
  obtain ⟨p, q, hA, hV, _, _, _⟩ := hW
  have hn := (kit.trodAll_length hA).1
  rw [Tryd.params5] at hn
  obtain ⟨v0, rfl⟩ := kit.arr1 hn
  have hval' := hval
  rw [Tryd.params5] at hval'
  have hn2 := (kit.trodAll_length hA).2
  rw [Tryd.params5] at hn2
  obtain ⟨d0, rfl⟩ := kit.list1 hn2
  have hA2 := hA
  rw [Tryd.params5] at hA2
  obtain ⟨p0, q0, t0, r0, _⟩ := hA2
  have b0 : kit.Elem W v0 := kit.elem_arg Tryd.underlying24 (by kernel_rfl) (by kernel_rfl) Tryd.underlying3 Tryd.underlying22 Tryd.underlying62 (by kernel_rfl) ⟨rfl, rfl, rfl⟩ Tryd.underlying3 Tryd.underlying3 Tryd.underlying3 ⟨by kernel_rfl, by kernel_rfl, by kernel_rfl⟩ (hval' 0 24 v0 rfl rfl) t0
  refine (walk W base v0 (hval' 0 24 v0 rfl rfl) b0 hL).mono fun e W' ⟨he, bel⟩ => ?_
  subst he
  exact ⟨_, rfl, kit.post_true kit.laidOut (by kernel_rfl) (by kernel_rfl) (by kernel_rfl) Tryd.underlying4 hW' (fn_true _ gs) bel⟩

set_option maxRecDepth 100000 in
theorem lifted (os : Os) (started : os.Started) (H : Type) (enc : TypeId × Value → H) :
    ReturnsInHanded {} Tryd.checked os 5 .any (fun w args => (Rows.fnExactElemIsCoilSpec.pre enc Tryd.prog Tryd.f5 [] false w args ∧ laidMetH Tryd.prog Rows.fnExactElemIsCoilRow.laid w) ∧ sizedMet enc Tryd.prog Tryd.f5 (OpenSpec.ofChange Rows.fnExactElemIsCoilSpec) false w args) (Rows.fnExactElemIsCoilSpec.post enc Tryd.prog Tryd.f5 false true false false) := by
  refine returnsInHanded_of_change_and (C := Tryd.checked) (X := fun w _ => laidMetH Tryd.prog Rows.fnExactElemIsCoilRow.laid w) (fun _ _ _ hh h => h.of_heap hh) kit.own started (by kernel_rfl) Tryd.func5
    (ChangeSpec.witness_shaped (enc := enc) (C := Tryd.checked) (os := os) (X := fun w _ => laidMetH Tryd.prog Rows.fnExactElemIsCoilRow.laid w) false (World.doorLaid Tryd.prog 19 os) #[.agg #[.int .i64 0, .slice none 0 0]] 8 rfl (World.shaped_of_RefB (by kernel_rfl) (by kernel_rfl)) (by kernel_rfl) (by kernel_rfl) (by kernel_rfl) (door_met os _)) ?_
  intro W base args ds gs before hval hW _ hsz hL _
  exact contract H enc W base args ds gs before hval hW hsz hL

theorem said : Rows.FnExactElemIsCoilSaid :=
  OpenClaim.holds_of_wide 5 Tryd.f5 rfl rfl rfl rfl rfl rfl rfl ⟨rfl, rfl, rfl, rfl, rfl⟩ rfl rfl rfl rfl rfl (by kernel_rfl) Tryd.func5 (by kernel_rfl)
    (of_decide_eq_true (by kernel_rfl)) (by unfold Func.isWrapper; first | (rw [if_pos (by decide +kernel)]; kernel_rfl) | (rw [if_neg (by decide +kernel)]; exact ⟨rfl, rfl⟩))
    (fun os started H enc _ => lifted os started H enc)

theorem plain (f : FuncId) (fn : Func) (hf : Tryd.pinned.checked.prog.funcNamed "loop.example/stile/laws.FnExactElemIsCoil" = some f) (hfn : Tryd.pinned.checked.prog.funcs[f]? = some fn) :
    false = Tryd.pinned.checked.prog.looks [] ∧ ∀ (j : Nat) t, fn.params[j]? = some t → Tryd.pinned.checked.prog.wantsStandIn t = false := by
  obtain rfl : f = 5 := Option.some.inj ((show Tryd.prog.funcNamed "loop.example/stile/laws.FnExactElemIsCoil" = some 5 by kernel_rfl).symm.trans hf) |>.symm
  obtain rfl : fn = Tryd.f5 := (Option.some.inj (Tryd.func5.symm.trans hfn)).symm
  refine ⟨by kernel_rfl, fun j t ht => ?_⟩
  rw [Tryd.params5] at ht
  have hm : t ∈ [24] := by simpa using Array.mem_of_getElem? ht
  have hall : ([24].all fun u => !Tryd.prog.wantsStandIn u) = true := by kernel_rfl
  exact (show Tryd.prog.wantsStandIn t = false by simpa using List.all_eq_true.1 hall t hm)

theorem card : Rows.FnExactElemIsCoilCardSaid :=
  Claim7.holds_tied_plain_at .later [] _ _ _ _ said (fun _ h => by cases h) (by kernel_rfl) (fun _ h => by cases h) fnExactElemIsCoil_row_tie rfl ⟨rfl, rfl⟩ (by kernel_rfl) rfl plain (by kernel_rfl)

end Go.Proofs.YthfkgeloilhniaaDoor.fnExactElemIsCoil
namespace Go.Proofs.YthfkgeloilhniaaDoor
/-- The statement, under a short name. -/
theorem fnExactElemIsCoil_holds : Rows.FnExactElemIsCoilCardSaid := fnExactElemIsCoil.card
#print axioms fnExactElemIsCoil_holds
end Go.Proofs.YthfkgeloilhniaaDoor
