/-
  The row and its tied card of 'FnElemKinds': for every input the law returns true, and what was there reads as it did.
  Conditions: none beyond the given row's own.
-/
import Derived.Test.YtgmdpgchffapoaaDoorKit
import Derived.Test.YtgmdpgchffapoaaDoorBytes
import Derived.Test.YtgmdpgchffapoaaDoorGFnElemKinds
import Derived.SizedLaws
import Derived.LaidMore
import Derived.Stop.Joined
import Derived.Test.YtgmdpgchffapoaaDoorCards
import Derived.Test.YtgmdpgchffapoaaDoorTie
import Derived.SevenTiedAt
namespace Go.Proofs.YtgmdpgchffapoaaDoor.fnElemKinds
open Go.ChangeShapes Go.WideShapes Go.ChangeAt Go.RowKit
set_option linter.unusedVariables false

theorem fn_true {H : Type} (ds gs : List (DataW H)) (h1 : ds.length = Tryd.f3.params.toList.length) (h2 : gs.length = Rows.fnElemKindsSpec.vars.length) :
    Rows.fnElemKindsSpec.fn H (ds ++ gs) = { results := [.lit (.bool true)], args := ds, vars := gs } := by
  rw [Tryd.params3] at h1
  obtain ⟨d0, rfl⟩ := kit.list1 h1
  obtain ⟨g0, g1, g2, g3, g4, rfl⟩ := kit.list5 h2
  rfl

theorem door_met (os : Os) (args : Array Value) : laidMetH Tryd.prog Rows.fnElemKindsRow.laid ((World.doorLaid Tryd.prog 44 os).forCall (fun _ _ => 0) ⟨#[], args, []⟩).memory :=
  laidMetH_of_parts3 (fuel := 8) (laidMet_of_run' 8 (by kernel_rfl) (by kernel_rfl)) (by kernel_rfl) (by kernel_rfl)

set_option maxRecDepth 100000 in
theorem contract (H : Type) (enc : TypeId × Value → H) (W : World) (base : Nat) (args : Array Value) (ds gs : List (DataW H)) (before : List MemPlace)
    (hval : ∀ (j : Nat) t v, Tryd.f3.params[j]? = some t → args[j]? = some v → Value.okWide Tryd.prog W .any base t v)
    (hW : DataW.Whole enc Tryd.prog Tryd.f3.params.toList Rows.fnElemKindsSpec.vars false W args.toList ds gs before)
    (hsz : (DataW.weightsEach Tryd.prog (Tryd.f3.params.toList ++ Rows.fnElemKindsSpec.plain.varTypes Tryd.prog) (ds ++ gs)).all (· ≤ reachBytes) = true) (hL : laidMetH Tryd.prog Rows.fnElemKindsRow.laid W) :
    Calls Tryd.prog 3 args W fun e W' => ∃ v, e = .returned v ∧ Rows.fnElemKindsSpec.post enc Tryd.prog Tryd.f3 false true false false W args v W' := by
  have hW' := hW
  obtain ⟨p, q, hA, hV, _, _, _⟩ := hW
  have hn := (kit.trodAll_length hA).1
  rw [Tryd.params3] at hn
  obtain ⟨v0, rfl⟩ := kit.arr1 hn
  have hval' := hval
  rw [Tryd.params3] at hval'
  have hn2 := (kit.trodAll_length hA).2
  rw [Tryd.params3] at hn2
  obtain ⟨d0, rfl⟩ := kit.list1 hn2
  have hA2 := hA
  rw [Tryd.params3] at hA2
  obtain ⟨p0, q0, t0, r0, _⟩ := hA2
  have b0 : kit.Bytes W v0 := kit.bytes_arg (t := 22) (j := 0) Tryd.underlying22 Tryd.underlying5 (by kernel_rfl) (by kernel_rfl) (hval' 0 22 v0 rfl rfl) t0 hsz rfl rfl
  refine (walk W base v0 (hval' 0 22 v0 rfl rfl) b0 hL).mono fun e W' ⟨he, bel⟩ => ?_
  subst he
  exact ⟨_, rfl, kit.post_true kit.laidOut (by kernel_rfl) (by kernel_rfl) (by kernel_rfl) Tryd.underlying4 hW' (fn_true _ gs) bel⟩

set_option maxRecDepth 100000 in
theorem lifted (os : Os) (started : os.Started) (H : Type) (enc : TypeId × Value → H) :
    ReturnsInHanded {} Tryd.checked os 3 .any (fun w args => (Rows.fnElemKindsSpec.pre enc Tryd.prog Tryd.f3 [] false w args ∧ laidMetH Tryd.prog Rows.fnElemKindsRow.laid w) ∧ sizedMet enc Tryd.prog Tryd.f3 (OpenSpec.ofChange Rows.fnElemKindsSpec) false w args) (Rows.fnElemKindsSpec.post enc Tryd.prog Tryd.f3 false true false false) := by
  refine returnsInHanded_of_change_and (C := Tryd.checked) (X := fun w _ => laidMetH Tryd.prog Rows.fnElemKindsRow.laid w) (fun _ _ _ hh h => h.of_heap hh) kit.own started (by kernel_rfl) Tryd.func3
    (ChangeSpec.witness_shaped (enc := enc) (C := Tryd.checked) (os := os) (X := fun w _ => laidMetH Tryd.prog Rows.fnElemKindsRow.laid w) false (World.doorLaid Tryd.prog 44 os) #[.slice none 0 0] 8 rfl (World.shaped_of_RefB (by kernel_rfl) (by kernel_rfl)) (by kernel_rfl) (by kernel_rfl) (by kernel_rfl) (door_met os _)) ?_
  intro W base args ds gs before hval hW _ hsz hL _
  exact contract H enc W base args ds gs before hval hW hsz hL

theorem said : Rows.FnElemKindsSaid :=
  OpenClaim.holds_of_wide 3 Tryd.f3 rfl rfl rfl rfl rfl rfl rfl ⟨rfl, rfl, rfl, rfl, rfl⟩ rfl rfl rfl rfl rfl (by kernel_rfl) Tryd.func3 (by kernel_rfl)
    (of_decide_eq_true (by kernel_rfl)) (by unfold Func.isWrapper; first | (rw [if_pos (by decide +kernel)]; kernel_rfl) | (rw [if_neg (by decide +kernel)]; exact ⟨rfl, rfl⟩))
    (fun os started H enc _ => lifted os started H enc)

theorem plain (f : FuncId) (fn : Func) (hf : Tryd.pinned.checked.prog.funcNamed "loop.example/stile/laws.FnElemKinds" = some f) (hfn : Tryd.pinned.checked.prog.funcs[f]? = some fn) :
    false = Tryd.pinned.checked.prog.looks [] ∧ ∀ (j : Nat) t, fn.params[j]? = some t → Tryd.pinned.checked.prog.wantsStandIn t = false := by
  obtain rfl : f = 3 := Option.some.inj ((show Tryd.prog.funcNamed "loop.example/stile/laws.FnElemKinds" = some 3 by kernel_rfl).symm.trans hf) |>.symm
  obtain rfl : fn = Tryd.f3 := (Option.some.inj (Tryd.func3.symm.trans hfn)).symm
  refine ⟨by kernel_rfl, fun j t ht => ?_⟩
  rw [Tryd.params3] at ht
  have hm : t ∈ [22] := by simpa using Array.mem_of_getElem? ht
  have hall : ([22].all fun u => !Tryd.prog.wantsStandIn u) = true := by kernel_rfl
  exact (show Tryd.prog.wantsStandIn t = false by simpa using List.all_eq_true.1 hall t hm)

theorem card : Rows.FnElemKindsCardSaid :=
  Claim7.holds_tied_plain_at .later [] _ _ _ _ said (fun _ h => by cases h) (by kernel_rfl) (fun _ h => by cases h) fnElemKinds_row_tie rfl ⟨rfl, rfl⟩ (by kernel_rfl) rfl plain (by kernel_rfl)

end Go.Proofs.YtgmdpgchffapoaaDoor.fnElemKinds
namespace Go.Proofs.YtgmdpgchffapoaaDoor
/-- The statement, under a short name. -/
theorem fnElemKinds_holds : Rows.FnElemKindsCardSaid := fnElemKinds.card
#print axioms fnElemKinds_holds
end Go.Proofs.YtgmdpgchffapoaaDoor
