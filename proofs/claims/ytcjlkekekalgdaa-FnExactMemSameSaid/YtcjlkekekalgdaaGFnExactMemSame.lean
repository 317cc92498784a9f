/-
  'FnExactMemSame': the law's walk.
  Conditions: none.
-/
import Derived.Test.YtcjlkekekalgdaaMemSpecW
import Derived.Test.YtcjlkekekalgdaaToMem
namespace Go.Proofs.Ytcjlkekekalgdaa.fnExactMemSame
open Go Go.RowKit Go.Proofs.Ytcjlkekekalgdaa.part
set_option linter.unusedVariables false
set_option linter.unusedSimpArgs false
set_option maxRecDepth 100000

theorem cell_fl {P : Program} {w : World} {r : Reach} {b : Nat} {t : TypeId} {n : Nat} (h : Cell.okWide P w r b t (.float .f64 n)) : FloatKind.f64.has n := by
  cases hu : P.underlying t with
  | none => simp only [hu, Cell.okWide, Cell.ok] at h
  | some d => cases d <;> simp_all [Cell.okWide, Cell.ok]
theorem fr_of {W : World} {base : Nat} {cs : Array Value} (hs : Tagged cs) (h : Value.okWide Try.prog W .any base 36 (.agg cs)) : FR cs := by
  intro j hj
  obtain ⟨n, hn⟩ := (tags_of hs).R j hj
  rw [getD_of hn]
  obtain ⟨cs', e, hsz, hts⟩ := kit.ok_cells Try.underlying36 h
  cases e
  cases hc : Try.prog.cellTypes Try.prog.depth 36 with
  | none =>
    have ht := tags_ok 0 (by decide)
    rw [show at_ Try.prog 36 0 = none by unfold at_; rw [hc]] at ht
    cases ht
  | some ts =>
    obtain ⟨u, hu, hok⟩ := hts ts hc _ _ hn
    exact cell_fl hok
set_option maxHeartbeats 4000000 in
theorem walkI (cs ds : Array Value) (hs : Shape cs) (hd : Shape ds) (hf : FR cs) (hg : FR ds) (r : Bool) (hr : r = true ↔ MemEq cs ds) (W : World) :
    Calls Try.prog 3 #[.agg cs, .agg ds] W fun e w' => e = .returned (.bool true) ∧ Below W.heap.size W w' := by
  have HS := Lib.hid hs
  have HD := Lib.hid hd
  have HF := Lib.hid hf
  have HG := Lib.hid hg
  have HI := Lib.hid (fun w => (show Calls Try.prog 6 #[.agg cs, .agg ds] w fun e w' => e = .returned (.bool r) ∧ Below w.heap.size w w' from (memSame_any cs ds hs hd w).mono fun e w' ⟨q, he, hq, hb⟩ => ⟨by rw [he, Bool.eq_iff_iff.2 (hq.trans hr.symm)], hb⟩))
  have HP := Lib.hid (fun w => (show Calls Try.prog 4 #[.agg cs, .agg ds] w fun e w' => e = .returned (.bool r) ∧ Below w.heap.size w w' from (memSpec_any cs ds hs.tagged hd.tagged hf hg w).mono fun e w' ⟨q, he, hq, hb⟩ => ⟨by rw [he, Bool.eq_iff_iff.2 (hq.trans hr.symm)], hb⟩))
  clear hs hd hf hg hr
  have H1 := Lib.hid ((Hx.box (Hx.nil (Below.refl W.heap.size W)) cs 36).box ds 36)
  rw [show (W.alloc (.cells cs 36)).heap.size = W.heap.size + 1 from size_alloc _ _] at H1
  go_enter Try.func3, Try.ntmps3
  go_wp2_with fail
  refine wp_region_vals (R := Hx W [(W.heap.size + 1, ds), (W.heap.size, cs)]) (aa := ?aa1) [(7, .agg cs), (8, .agg cs), (9, .agg ds), (10, .agg ds), (11, .bool r), (5, .bool r)] ?hL1 (by kernel_rfl) ?hv1 ?hD1 ?hR1 ?hdo1 ?fin1
  case hL1 =>
    simp only [putD, Act.put]
    go_simp
    rfl
  case hv1 => kernel_rfl
  case hD1 => kernel_rfl
  case hdo1 =>
    intro i o ho
    match i, ho with
    | 0, ho =>
      cases ho
      refine .inl ⟨by kernel_rfl, fun w hR => ?_⟩
      exact ow_hx _ _ rfl hR (g := W.heap.size) (cs := cs) (by simp) rfl (by kernel_rfl) 136 HS.out.size (by kernel_rfl) ⟨rfl, hR⟩
    | 1, ho =>
      cases ho
      refine .inl ⟨by kernel_rfl, fun w hR => ?_⟩
      go_simp
      go_wp2_with fail
      refine (toMem cs HS.out.size HS.out.one w).mono ?_
      rintro e w4 ⟨rfl, h5⟩
      exact ⟨rfl, hR.below h5⟩
    | 2, ho =>
      cases ho
      refine .inl ⟨by kernel_rfl, fun w hR => ?_⟩
      exact ow_hx _ _ rfl hR (g := W.heap.size + 1) (cs := ds) (by simp) rfl (by kernel_rfl) 136 HD.out.size (by kernel_rfl) ⟨rfl, hR⟩
    | 3, ho =>
      cases ho
      refine .inl ⟨by kernel_rfl, fun w hR => ?_⟩
      go_simp
      go_wp2_with fail
      refine (toMem ds HD.out.size HD.out.one w).mono ?_
      rintro e w4 ⟨rfl, h5⟩
      exact ⟨rfl, hR.below h5⟩
    | 4, ho =>
      cases ho
      refine .inl ⟨by kernel_rfl, fun w hR => ?_⟩
      go_simp
      go_wp2_with fail
      refine (HP.out w).mono ?_
      rintro e w4 ⟨rfl, h5⟩
      exact ⟨rfl, hR.below h5⟩
    | 5, ho =>
      cases ho
      refine .inl ⟨by kernel_rfl, fun w hR => ?_⟩
      first | (go_simp; done) | (go_simp; exact ⟨rfl, hR⟩)
    | i + 6, ho => simp at ho
  case hR1 => exact H1.out.drew
  case fin1 =>
    intro w2 h
    have Hw2 := Lib.hid h
    clear h H1
    go_wp2_with fail
    refine wp_region_vals (R := Hx W [(W.heap.size + 1, ds), (W.heap.size, cs)]) (aa := ?aa2) [(12, .agg cs), (13, .agg cs), (14, .agg ds), (15, .agg ds), (16, .bool r), (6, .bool r)] ?hL2 (by kernel_rfl) ?hv2 ?hD2 ?hR2 ?hdo2 ?fin2
    case hL2 =>
      simp only [putD, Act.put]
      go_simp
      rfl
    case hv2 => kernel_rfl
    case hD2 => kernel_rfl
    case hdo2 =>
      intro i o ho
      match i, ho with
      | 0, ho =>
        cases ho
        refine .inl ⟨by kernel_rfl, fun w hR => ?_⟩
        exact ow_hx _ _ rfl hR (g := W.heap.size) (cs := cs) (by simp) rfl (by kernel_rfl) 136 HS.out.size (by kernel_rfl) ⟨rfl, hR⟩
      | 1, ho =>
        cases ho
        refine .inl ⟨by kernel_rfl, fun w hR => ?_⟩
        go_simp
        go_wp2_with fail
        refine (toMem cs HS.out.size HS.out.one w).mono ?_
        rintro e w4 ⟨rfl, h5⟩
        exact ⟨rfl, hR.below h5⟩
      | 2, ho =>
        cases ho
        refine .inl ⟨by kernel_rfl, fun w hR => ?_⟩
        exact ow_hx _ _ rfl hR (g := W.heap.size + 1) (cs := ds) (by simp) rfl (by kernel_rfl) 136 HD.out.size (by kernel_rfl) ⟨rfl, hR⟩
      | 3, ho =>
        cases ho
        refine .inl ⟨by kernel_rfl, fun w hR => ?_⟩
        go_simp
        go_wp2_with fail
        refine (toMem ds HD.out.size HD.out.one w).mono ?_
        rintro e w4 ⟨rfl, h5⟩
        exact ⟨rfl, hR.below h5⟩
      | 4, ho =>
        cases ho
        refine .inl ⟨by kernel_rfl, fun w hR => ?_⟩
        go_simp
        go_wp2_with fail
        refine (HI.out w).mono ?_
        rintro e w4 ⟨rfl, h5⟩
        exact ⟨rfl, hR.below h5⟩
      | 5, ho =>
        cases ho
        refine .inl ⟨by kernel_rfl, fun w hR => ?_⟩
        first | (go_simp; done) | (go_simp; exact ⟨rfl, hR⟩)
      | i + 6, ho => simp at ho
    case hR2 => exact Hw2.out.drew
    case fin2 =>
      intro w3 h
      have Hw3 := Lib.hid h
      clear h Hw2
      go_wp2_with fail
      go_ret
      exact ⟨by first | rfl | simp, Hw3.out.1⟩

theorem walk (W : World) (base : Nat) (v0 v1 : Value) (o0 : Value.okWide Try.prog W .any base 36 v0) (o1 : Value.okWide Try.prog W .any base 36 v1) :
    Calls Try.prog 3 #[v0, v1] W fun e w' => e = .returned (.bool true) ∧ Below W.heap.size W w' := by
  obtain ⟨cs, rfl, hs⟩ := shape_of o0
  obtain ⟨ds, rfl, hd⟩ := shape_of o1
  by_cases h : MemEq cs ds
  · exact walkI cs ds hs hd (fr_of hs.tagged o0) (fr_of hd.tagged o1) true ⟨fun _ => h, fun _ => rfl⟩ W
  · exact walkI cs ds hs hd (fr_of hs.tagged o0) (fr_of hd.tagged o1) false ⟨fun x => (by cases x), fun x => absurd x h⟩ W
end Go.Proofs.Ytcjlkekekalgdaa.fnExactMemSame
