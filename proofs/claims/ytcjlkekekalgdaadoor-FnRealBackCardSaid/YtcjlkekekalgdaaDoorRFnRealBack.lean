/-
  The row and its tied card of 'FnRealBack': for every input the law returns true, and what was there reads as it did.
  Conditions: none beyond the given row's own.
-/
import Derived.Test.YtcjlkekekalgdaaDoorKit
import Derived.Test.YtcjlkekekalgdaaDoorBytes
import Derived.Test.YtcjlkekekalgdaaDoorGFnRealBack
import Derived.SizedLaws
import Derived.LaidMore
import Derived.Stop.Joined
import Derived.Test.YtcjlkekekalgdaaDoorCards
import Derived.Test.YtcjlkekekalgdaaDoorTie
import Derived.SevenTiedAt
namespace Go.Proofs.YtcjlkekekalgdaaDoor.fnRealBack
open Go.ChangeShapes Go.WideShapes Go.ChangeAt Go.RowKit
set_option linter.unusedVariables false

theorem fn_true {H : Type} (ds gs : List (DataW H)) (h1 : ds.length = Tryd.f5.params.toList.length) (h2 : gs.length = Rows.fnRealBackSpec.vars.length) :
    Rows.fnRealBackSpec.fn H (ds ++ gs) = { results := [.lit (.bool true)], args := ds, vars := gs } := by
  rw [Tryd.params5] at h1
  obtain ⟨d0, d1, rfl⟩ := kit.list2 h1
  obtain ⟨rfl⟩ := kit.list0 h2
  rfl

theorem door_met (os : Os) (args : Array Value) : laidMetH Tryd.prog Rows.fnRealBackRow.laid ((World.doorLaid Tryd.prog 62 os).forCall (fun _ _ => 0) ⟨#[], args, []⟩).memory :=
  laidMetH_of_parts3 (fuel := 8) (laidMet_of_run' 8 (by kernel_rfl) (by kernel_rfl)) (by kernel_rfl) (by kernel_rfl)

set_option maxRecDepth 100000 in
theorem contract (H : Type) (enc : TypeId × Value → H) (W : World) (base : Nat) (args : Array Value) (ds gs : List (DataW H)) (before : List MemPlace)
    (hval : ∀ (j : Nat) t v, Tryd.f5.params[j]? = some t → args[j]? = some v → Value.okWide Tryd.prog W .any base t v)
    (hW : DataW.Whole enc Tryd.prog Tryd.f5.params.toList Rows.fnRealBackSpec.vars false W args.toList ds gs before)
    (hsz : (DataW.weightsEach Tryd.prog (Tryd.f5.params.toList ++ Rows.fnRealBackSpec.plain.varTypes Tryd.prog) (ds ++ gs)).all (· ≤ reachBytes) = true) (hL : laidMetH Tryd.prog Rows.fnRealBackRow.laid W) (hsh : W.ShapedOpen Tryd.prog) :
    Calls Tryd.prog 5 args W fun e W' => ∃ v, e = .returned v ∧ Rows.fnRealBackSpec.post enc Tryd.prog Tryd.f5 false true false false W args v W' := by
  have hW' := hW
  obtain ⟨p, q, hA, hV, _, _, _⟩ := hW
  have hn := (kit.trodAll_length hA).1
  rw [Tryd.params5] at hn
  obtain ⟨v0, v1, rfl⟩ := kit.arr2 hn
  have hval' := hval
  rw [Tryd.params5] at hval'
  have hn2 := (kit.trodAll_length hA).2
  rw [Tryd.params5] at hn2
  obtain ⟨d0, d1, rfl⟩ := kit.list2 hn2
  have hA2 := hA
  rw [Tryd.params5] at hA2
  obtain ⟨p0, q0, t0, r0, _⟩ := hA2
  obtain ⟨p1, q1, t1, r1, _⟩ := r0
  have b0 : kit.Bytes W v0 := kit.bytes_arg (t := 29) (j := 0) Tryd.underlying29 Tryd.underlying5 (by kernel_rfl) (by kernel_rfl) (hval' 0 29 v0 rfl rfl) t0 hsz rfl rfl
  have b1 : kit.Bytes W v1 := kit.bytes_arg (t := 29) (j := 1) Tryd.underlying29 Tryd.underlying5 (by kernel_rfl) (by kernel_rfl) (hval' 1 29 v1 rfl rfl) t1 hsz rfl rfl
  refine (walk W base v0 v1 (hval' 0 29 v0 rfl rfl) (hval' 1 29 v1 rfl rfl) b0 b1 hL hsh).mono fun e W' ⟨he, bel⟩ => ?_
  subst he
  exact ⟨_, rfl, kit.post_true kit.laidOut (by kernel_rfl) (by kernel_rfl) (by kernel_rfl) Tryd.underlying4 hW' (fn_true _ gs) bel⟩

set_option maxRecDepth 100000 in
theorem lifted (os : Os) (started : os.Started) (H : Type) (enc : TypeId × Value → H) :
    ReturnsInHanded {} Tryd.checked os 5 .any (fun w args => (Rows.fnRealBackSpec.pre enc Tryd.prog Tryd.f5 [] false w args ∧ laidMetH Tryd.prog Rows.fnRealBackRow.laid w) ∧ sizedMet enc Tryd.prog Tryd.f5 (OpenSpec.ofChange Rows.fnRealBackSpec) false w args) (Rows.fnRealBackSpec.post enc Tryd.prog Tryd.f5 false true false false) := by
  refine returnsInHanded_of_calls (C := Tryd.checked) kit.own started (by kernel_rfl)
    (ChangeSpec.witness_shaped (enc := enc) (C := Tryd.checked) (os := os) (X := fun w _ => laidMetH Tryd.prog Rows.fnRealBackRow.laid w) false (World.doorLaid Tryd.prog 62 os) #[.slice none 0 0, .slice none 0 0] 8 rfl (World.shaped_of_RefB (by kernel_rfl) (by kernel_rfl)) (by kernel_rfl) (by kernel_rfl) (by kernel_rfl) (door_met os _)) ?_
  intro w tape i _ hsh _ hok hpre hholds
  obtain ⟨_, _, _, fn, hfn, _, _, _, _, hval⟩ := hok
  obtain rfl : fn = Tryd.f5 := Option.some.inj (hfn.symm.trans Tryd.func5)
  obtain ⟨⟨⟨ds, gs, before, hw, hc⟩, hx⟩, hz⟩ := hpre
  have hw2 := DataW.Whole.of_heap (w' := w.forCall tape i) (by rfl) hw
  have hx2 : laidMetH Tryd.prog Rows.fnRealBackRow.laid (w.forCall tape i) := hx.of_heap (by rfl)
  refine (contract H enc (w.forCall tape i) w.heap.size i.args ds gs before hval hw2 (hz.weights hw) hx2 hsh).mono fun e W' ⟨v, he, hp⟩ => ?_
  subst he
  exact ChangeSpec.post_blind hp

theorem said : Rows.FnRealBackSaid :=
  OpenClaim.holds_of_wide 5 Tryd.f5 rfl rfl rfl rfl rfl rfl rfl ⟨rfl, rfl, rfl, rfl, rfl⟩ rfl rfl rfl rfl rfl (by kernel_rfl) Tryd.func5 (by kernel_rfl)
    (of_decide_eq_true (by kernel_rfl)) (by unfold Func.isWrapper; first | (rw [if_pos (by decide +kernel)]; kernel_rfl) | (rw [if_neg (by decide +kernel)]; exact ⟨rfl, rfl⟩))
    (fun os started H enc _ => lifted os started H enc)

theorem plain (f : FuncId) (fn : Func) (hf : Tryd.pinned.checked.prog.funcNamed "loop.example/stile/laws.FnRealBack" = some f) (hfn : Tryd.pinned.checked.prog.funcs[f]? = some fn) :
    true = Tryd.pinned.checked.prog.looks [] ∧ ∀ (j : Nat) t, fn.params[j]? = some t → Tryd.pinned.checked.prog.wantsStandIn t = false := by
  obtain rfl : f = 5 := Option.some.inj ((show Tryd.prog.funcNamed "loop.example/stile/laws.FnRealBack" = some 5 by kernel_rfl).symm.trans hf) |>.symm
  obtain rfl : fn = Tryd.f5 := (Option.some.inj (Tryd.func5.symm.trans hfn)).symm
  refine ⟨by kernel_rfl, fun j t ht => ?_⟩
  rw [Tryd.params5] at ht
  have hm : t ∈ [29, 29] := by simpa using Array.mem_of_getElem? ht
  have hall : ([29, 29].all fun u => !Tryd.prog.wantsStandIn u) = true := by kernel_rfl
  exact (show Tryd.prog.wantsStandIn t = false by simpa using List.all_eq_true.1 hall t hm)

theorem card : Rows.FnRealBackCardSaid :=
  Claim7.holds_tied_plain_at .later [] _ _ _ _ said (fun _ h => by cases h) (by kernel_rfl) (fun _ h => by cases h) fnRealBack_row_tie rfl ⟨rfl, rfl⟩ (by kernel_rfl) rfl plain (by kernel_rfl)

end Go.Proofs.YtcjlkekekalgdaaDoor.fnRealBack
namespace Go.Proofs.YtcjlkekekalgdaaDoor
/-- The statement, under a short name. -/
theorem fnRealBack_holds : Rows.FnRealBackCardSaid := fnRealBack.card
#print axioms fnRealBack_holds
end Go.Proofs.YtcjlkekekalgdaaDoor
