/-
  'spec.ElemIsCoil', number by number.
  Conditions: the operands' cells hold them.
-/
import Derived.Test.YtgmdpgchffapoaaDoorElemQ
namespace Go.Proofs.YtgmdpgchffapoaaDoor.dev
open Go Go.RowKit Go.Proofs.YtgmdpgchffapoaaDoor.part
set_option linter.unusedVariables false
set_option linter.unusedSimpArgs false
set_option maxRecDepth 100000

set_option maxHeartbeats 8000000 in
theorem scoil_28 (x y : Tri) (b off c : Nat) (W : World) (hT : Trip W b off [x, y]) :
    Calls Tryd.prog 8 #[.agg #[.int .i64 28, .slice (some ⟨b, off, none⟩) 2 c]] W fun e w' => e = .returned (.bool (tKis x [7, 7] && tKis y [11, 11] && decide (0 ≤ y.2.1))) ∧ Below W.heap.size W w' := by
  have Har := Lib.hid (show arity 28 = 2 by decide)
  have HT := Lib.hid hT
  clear hT
  have H1 := Lib.hid (Hx.box (Hx.nil (Below.refl W.heap.size W)) #[.int .i64 28, .slice (some ⟨b, off, none⟩) 2 c] 25)
  go_enter Tryd.func8, Tryd.ntmps8
  go_wp2_with fail
  refine wp_region_vals (R := Hx W [(W.heap.size, #[.int .i64 28, .slice (some ⟨b, off, none⟩) 2 c])]) (aa := ?aa11) [(4, .pointer (some ⟨W.heap.size, 0, none⟩)), (5, .int .i64 28), (6, .bool false), (7, .bool false), (8, .pointer (some ⟨W.heap.size, 0, none⟩)), (9, .int .i64 28), (10, .bool false), (11, .bool false), (12, .bool false), (13, .pointer (some ⟨W.heap.size, 1, none⟩)), (14, .slice (some ⟨b, off, none⟩) 2 c), (15, .int .i64 2), (16, .pointer (some ⟨W.heap.size, 0, none⟩)), (17, .int .i64 28), (18, .int .i64 2), (19, .bool false), (20, .bool false)] ?hL11 (by kernel_rfl) ?hv11 ?hD11 ?hR11 ?hdo11 ?fin11
  case hL11 =>
    simp only [putD, Act.put]
    go_simp
    rfl
  case hv11 => kernel_rfl
  case hD11 => kernel_rfl
  case hdo11 =>
    intro i o ho
    match i, ho with
    | 0, ho =>
      cases ho
      refine .inl ⟨by kernel_rfl, fun w hR => ?_⟩
      first | (go_simp; done) | (go_simp; exact ⟨rfl, hR⟩) | (go_simp; exact ⟨Hx.out, hR⟩) | (go_simp; exact Hx.out)
    | 1, ho =>
      cases ho
      refine .inl ⟨by kernel_rfl, fun w hR => ?_⟩
      exact ow_hxf _ _ rfl hR (cs := #[.int .i64 28, .slice (some ⟨b, off, none⟩) 2 c]) (by simp) 0 (.int .i64 28) rfl rfl (by decide +kernel) ⟨rfl, hR⟩
    | 2, ho =>
      cases ho
      refine .inl ⟨by kernel_rfl, fun w hR => ?_⟩
      first | (go_simp; done) | (go_simp; exact ⟨rfl, hR⟩) | (go_simp; exact ⟨Hlt.out, hR⟩) | (go_simp; exact Hlt.out)
    | 3, ho =>
      cases ho
      refine .inl ⟨by kernel_rfl, fun w hR => ?_⟩
      first | (go_simp; done) | (go_simp; exact ⟨rfl, hR⟩) | (go_simp; exact ⟨Hlt.out, hR⟩) | (go_simp; exact Hlt.out)
    | 4, ho =>
      cases ho
      refine .inl ⟨by kernel_rfl, fun w hR => ?_⟩
      first | (go_simp; done) | (go_simp; exact ⟨rfl, hR⟩) | (go_simp; exact ⟨Hx.out, hR⟩) | (go_simp; exact Hx.out)
    | 5, ho =>
      cases ho
      refine .inl ⟨by kernel_rfl, fun w hR => ?_⟩
      exact ow_hxf _ _ rfl hR (cs := #[.int .i64 28, .slice (some ⟨b, off, none⟩) 2 c]) (by simp) 0 (.int .i64 28) rfl rfl (by decide +kernel) ⟨rfl, hR⟩
    | 6, ho =>
      cases ho
      refine .inl ⟨by kernel_rfl, fun w hR => ?_⟩
      first | (go_simp; done) | (go_simp; exact ⟨rfl, hR⟩) | (go_simp; exact ⟨Hgt.out, hR⟩) | (go_simp; exact Hgt.out)
    | 7, ho =>
      cases ho
      refine .inl ⟨by kernel_rfl, fun w hR => ?_⟩
      first | (go_simp; done) | (go_simp; exact ⟨rfl, hR⟩) | (go_simp; exact ⟨Hx.out, hR⟩) | (go_simp; exact Hx.out)
    | 8, ho =>
      cases ho
      refine .inl ⟨by kernel_rfl, fun w hR => ?_⟩
      first | (go_simp; done) | (go_simp; exact ⟨rfl, hR⟩) | (go_simp; exact ⟨Hx.out, hR⟩) | (go_simp; exact Hx.out)
    | 9, ho =>
      cases ho
      refine .inl ⟨by kernel_rfl, fun w hR => ?_⟩
      first | (go_simp; done) | (go_simp; exact ⟨rfl, hR⟩) | (go_simp; exact ⟨Hx.out, hR⟩) | (go_simp; exact Hx.out)
    | 10, ho =>
      cases ho
      refine .inl ⟨by kernel_rfl, fun w hR => ?_⟩
      exact ow_hxf _ _ rfl hR (cs := #[.int .i64 28, .slice (some ⟨b, off, none⟩) 2 c]) (by simp) 1 (.slice (some ⟨b, off, none⟩) 2 c) rfl rfl (by decide +kernel) ⟨rfl, hR⟩
    | 11, ho =>
      cases ho
      refine .inl ⟨by kernel_rfl, fun w hR => ?_⟩
      first | (go_simp; done) | (go_simp; exact ⟨rfl, hR⟩) | (go_simp; exact ⟨Hx.out, hR⟩) | (go_simp; exact Hx.out)
    | 12, ho =>
      cases ho
      refine .inl ⟨by kernel_rfl, fun w hR => ?_⟩
      first | (go_simp; done) | (go_simp; exact ⟨rfl, hR⟩) | (go_simp; exact ⟨Hx.out, hR⟩) | (go_simp; exact Hx.out)
    | 13, ho =>
      cases ho
      refine .inl ⟨by kernel_rfl, fun w hR => ?_⟩
      exact ow_hxf _ _ rfl hR (cs := #[.int .i64 28, .slice (some ⟨b, off, none⟩) 2 c]) (by simp) 0 (.int .i64 28) rfl rfl (by decide +kernel) ⟨rfl, hR⟩
    | 14, ho =>
      cases ho
      refine .inl ⟨by kernel_rfl, fun w hR => ?_⟩
      go_simp
      go_wp2_with fail
      refine (arityS_any 28 w).mono ?_
      rintro e w4 ⟨rfl, h5⟩
      rw [Har.out]
      exact ⟨rfl, hR.below h5⟩
    | 15, ho =>
      cases ho
      refine .inl ⟨by kernel_rfl, fun w hR => ?_⟩
      first | (go_simp; done) | (go_simp; exact ⟨rfl, hR⟩) | (go_simp; exact ⟨Hne.out, hR⟩) | (go_simp; exact Hne.out)
    | 16, ho =>
      cases ho
      refine .inl ⟨by kernel_rfl, fun w hR => ?_⟩
      first | (go_simp; done) | (go_simp; exact ⟨rfl, hR⟩) | (go_simp; exact ⟨Hx.out, hR⟩) | (go_simp; exact Hx.out)
    | i + 17, ho => simp at ho
  case hR11 => exact H1.out.drew
  case fin11 =>
    intro w2 h2
    have H2 := Lib.hid h2
    clear h2 H1
    have c1 := H2.out.cell (g := W.heap.size) (cs := #[.int .i64 28, .slice (some ⟨b, off, none⟩) 2 c]) (by simp) 1 rfl
    obtain ⟨x0, x1, x2⟩ := (HT.out.below H2.out.1).at0
    have H3 := Lib.hid (H2.out.box #[.int .i64 x.1, .int .i64 x.2.1, .int .i64 x.2.2] 31)
    have c0 := H3.out.cell (g := W.heap.size) (cs := #[.int .i64 28, .slice (some ⟨b, off, none⟩) 2 c]) (by simp) 0 rfl
    go_upto_block 0 with (fail)
    clear c1 x0 x1 x2 c0 H2
    cases hb : tKis x [7, 7] with
    | false =>
      have Hb3 := Lib.hid hb
      clear hb
      have T3 := Lib.hid (HT.out.below H3.out.1)
      have c0 := H3.out.cell (g := W.heap.size) (cs := #[.int .i64 28, .slice (some ⟨b, off, none⟩) 2 c]) (by simp) 0 rfl
      have c1 := H3.out.cell (g := W.heap.size) (cs := #[.int .i64 28, .slice (some ⟨b, off, none⟩) 2 c]) (by simp) 1 rfl
      have a0 := H3.out.cell (g := w2.heap.size) (cs := #[.int .i64 x.1, .int .i64 x.2.1, .int .i64 x.2.2]) (by simp) 0 rfl
      have a1 := H3.out.cell (g := w2.heap.size) (cs := #[.int .i64 x.1, .int .i64 x.2.1, .int .i64 x.2.2]) (by simp) 1 rfl
      have a2 := H3.out.cell (g := w2.heap.size) (cs := #[.int .i64 x.1, .int .i64 x.2.1, .int .i64 x.2.2]) (by simp) 2 rfl
      go_wp2_with fail
      refine (kind_any x.1 x.2.1 x.2.2 7 7 _).mono ?_
      rw [show kis x.1 x.2.1 x.2.2 [7, 7] = false from Hb3.out]
      rintro e w4 ⟨rfl, h⟩
      have H4 := Lib.hid ((H3.out).below h)
      clear h H3 c0 c1 a0 a1 a2
      go_wp2_with fail
      go_ret
      exact ⟨kit.ret_bool (by rw [Hb3.out]; try rfl), H4.out.1⟩
    | true =>
      have Hb3 := Lib.hid hb
      clear hb
      have T3 := Lib.hid (HT.out.below H3.out.1)
      have c0 := H3.out.cell (g := W.heap.size) (cs := #[.int .i64 28, .slice (some ⟨b, off, none⟩) 2 c]) (by simp) 0 rfl
      have c1 := H3.out.cell (g := W.heap.size) (cs := #[.int .i64 28, .slice (some ⟨b, off, none⟩) 2 c]) (by simp) 1 rfl
      have a0 := H3.out.cell (g := w2.heap.size) (cs := #[.int .i64 x.1, .int .i64 x.2.1, .int .i64 x.2.2]) (by simp) 0 rfl
      have a1 := H3.out.cell (g := w2.heap.size) (cs := #[.int .i64 x.1, .int .i64 x.2.1, .int .i64 x.2.2]) (by simp) 1 rfl
      have a2 := H3.out.cell (g := w2.heap.size) (cs := #[.int .i64 x.1, .int .i64 x.2.1, .int .i64 x.2.2]) (by simp) 2 rfl
      go_wp2_with fail
      refine (kind_any x.1 x.2.1 x.2.2 7 7 _).mono ?_
      rw [show kis x.1 x.2.1 x.2.2 [7, 7] = true from Hb3.out]
      rintro e w4 ⟨rfl, h⟩
      have H4 := Lib.hid ((H3.out).below h)
      clear h H3 c0 c1 a0 a1 a2
      cases hb : tKis y [11, 11] with
      | false =>
        have Hb4 := Lib.hid hb
        clear hb
        have T4 := Lib.hid (HT.out.below H4.out.1)
        have c0 := H4.out.cell (g := W.heap.size) (cs := #[.int .i64 28, .slice (some ⟨b, off, none⟩) 2 c]) (by simp) 0 rfl
        have c1 := H4.out.cell (g := W.heap.size) (cs := #[.int .i64 28, .slice (some ⟨b, off, none⟩) 2 c]) (by simp) 1 rfl
        have a0 := H4.out.cell (g := w2.heap.size) (cs := #[.int .i64 x.1, .int .i64 x.2.1, .int .i64 x.2.2]) (by simp) 0 rfl
        have a1 := H4.out.cell (g := w2.heap.size) (cs := #[.int .i64 x.1, .int .i64 x.2.1, .int .i64 x.2.2]) (by simp) 1 rfl
        have a2 := H4.out.cell (g := w2.heap.size) (cs := #[.int .i64 x.1, .int .i64 x.2.1, .int .i64 x.2.2]) (by simp) 2 rfl
        obtain ⟨y0, y1, y2⟩ := T4.out.at1
        go_wp2_with fail
        refine (kind_any y.1 y.2.1 y.2.2 11 11 _).mono ?_
        rw [show kis y.1 y.2.1 y.2.2 [11, 11] = false from Hb4.out]
        rintro e w5 ⟨rfl, h⟩
        have H5 := Lib.hid ((H4.out).below h)
        clear h H4 c0 c1 a0 a1 a2 y0 y1 y2
        go_wp2_with fail
        go_ret
        exact ⟨kit.ret_bool (by rw [Hb3.out, Hb4.out]; try rfl), H5.out.1⟩
      | true =>
        have Hb4 := Lib.hid hb
        clear hb
        have T4 := Lib.hid (HT.out.below H4.out.1)
        have c0 := H4.out.cell (g := W.heap.size) (cs := #[.int .i64 28, .slice (some ⟨b, off, none⟩) 2 c]) (by simp) 0 rfl
        have c1 := H4.out.cell (g := W.heap.size) (cs := #[.int .i64 28, .slice (some ⟨b, off, none⟩) 2 c]) (by simp) 1 rfl
        have a0 := H4.out.cell (g := w2.heap.size) (cs := #[.int .i64 x.1, .int .i64 x.2.1, .int .i64 x.2.2]) (by simp) 0 rfl
        have a1 := H4.out.cell (g := w2.heap.size) (cs := #[.int .i64 x.1, .int .i64 x.2.1, .int .i64 x.2.2]) (by simp) 1 rfl
        have a2 := H4.out.cell (g := w2.heap.size) (cs := #[.int .i64 x.1, .int .i64 x.2.1, .int .i64 x.2.2]) (by simp) 2 rfl
        obtain ⟨y0, y1, y2⟩ := T4.out.at1
        go_wp2_with fail
        refine (kind_any y.1 y.2.1 y.2.2 11 11 _).mono ?_
        rw [show kis y.1 y.2.1 y.2.2 [11, 11] = true from Hb4.out]
        rintro e w5 ⟨rfl, h⟩
        have H5 := Lib.hid ((H4.out).below h)
        clear h H4 c0 c1 a0 a1 a2 y0 y1 y2
        have T5 := Lib.hid (HT.out.below H5.out.1)
        have c0 := H5.out.cell (g := W.heap.size) (cs := #[.int .i64 28, .slice (some ⟨b, off, none⟩) 2 c]) (by simp) 0 rfl
        have c1 := H5.out.cell (g := W.heap.size) (cs := #[.int .i64 28, .slice (some ⟨b, off, none⟩) 2 c]) (by simp) 1 rfl
        have a0 := H5.out.cell (g := w2.heap.size) (cs := #[.int .i64 x.1, .int .i64 x.2.1, .int .i64 x.2.2]) (by simp) 0 rfl
        have a1 := H5.out.cell (g := w2.heap.size) (cs := #[.int .i64 x.1, .int .i64 x.2.1, .int .i64 x.2.2]) (by simp) 1 rfl
        have a2 := H5.out.cell (g := w2.heap.size) (cs := #[.int .i64 x.1, .int .i64 x.2.1, .int .i64 x.2.2]) (by simp) 2 rfl
        obtain ⟨y0, y1, y2⟩ := T5.out.at1
        go_wp2_with fail
        go_ret
        exact ⟨kit.ret_bool (by rw [Hb3.out, Hb4.out]; simp), H5.out.1⟩
set_option maxHeartbeats 8000000 in
theorem scoil_29 (x y : Tri) (b off c : Nat) (W : World) (hT : Trip W b off [x, y]) :
    Calls Tryd.prog 8 #[.agg #[.int .i64 29, .slice (some ⟨b, off, none⟩) 2 c]] W fun e w' => e = .returned (.bool (tKis x [8, 8] && tKis y [11, 11] && decide (0 ≤ y.2.1))) ∧ Below W.heap.size W w' := by
  have Har := Lib.hid (show arity 29 = 2 by decide)
  have HT := Lib.hid hT
  clear hT
  have H1 := Lib.hid (Hx.box (Hx.nil (Below.refl W.heap.size W)) #[.int .i64 29, .slice (some ⟨b, off, none⟩) 2 c] 25)
  go_enter Tryd.func8, Tryd.ntmps8
  go_wp2_with fail
  refine wp_region_vals (R := Hx W [(W.heap.size, #[.int .i64 29, .slice (some ⟨b, off, none⟩) 2 c])]) (aa := ?aa12) [(4, .pointer (some ⟨W.heap.size, 0, none⟩)), (5, .int .i64 29), (6, .bool false), (7, .bool false), (8, .pointer (some ⟨W.heap.size, 0, none⟩)), (9, .int .i64 29), (10, .bool false), (11, .bool false), (12, .bool false), (13, .pointer (some ⟨W.heap.size, 1, none⟩)), (14, .slice (some ⟨b, off, none⟩) 2 c), (15, .int .i64 2), (16, .pointer (some ⟨W.heap.size, 0, none⟩)), (17, .int .i64 29), (18, .int .i64 2), (19, .bool false), (20, .bool false)] ?hL12 (by kernel_rfl) ?hv12 ?hD12 ?hR12 ?hdo12 ?fin12
  case hL12 =>
    simp only [putD, Act.put]
    go_simp
    rfl
  case hv12 => kernel_rfl
  case hD12 => kernel_rfl
  case hdo12 =>
    intro i o ho
    match i, ho with
    | 0, ho =>
      cases ho
      refine .inl ⟨by kernel_rfl, fun w hR => ?_⟩
      first | (go_simp; done) | (go_simp; exact ⟨rfl, hR⟩) | (go_simp; exact ⟨Hx.out, hR⟩) | (go_simp; exact Hx.out)
    | 1, ho =>
      cases ho
      refine .inl ⟨by kernel_rfl, fun w hR => ?_⟩
      exact ow_hxf _ _ rfl hR (cs := #[.int .i64 29, .slice (some ⟨b, off, none⟩) 2 c]) (by simp) 0 (.int .i64 29) rfl rfl (by decide +kernel) ⟨rfl, hR⟩
    | 2, ho =>
      cases ho
      refine .inl ⟨by kernel_rfl, fun w hR => ?_⟩
      first | (go_simp; done) | (go_simp; exact ⟨rfl, hR⟩) | (go_simp; exact ⟨Hlt.out, hR⟩) | (go_simp; exact Hlt.out)
    | 3, ho =>
      cases ho
      refine .inl ⟨by kernel_rfl, fun w hR => ?_⟩
      first | (go_simp; done) | (go_simp; exact ⟨rfl, hR⟩) | (go_simp; exact ⟨Hlt.out, hR⟩) | (go_simp; exact Hlt.out)
    | 4, ho =>
      cases ho
      refine .inl ⟨by kernel_rfl, fun w hR => ?_⟩
      first | (go_simp; done) | (go_simp; exact ⟨rfl, hR⟩) | (go_simp; exact ⟨Hx.out, hR⟩) | (go_simp; exact Hx.out)
    | 5, ho =>
      cases ho
      refine .inl ⟨by kernel_rfl, fun w hR => ?_⟩
      exact ow_hxf _ _ rfl hR (cs := #[.int .i64 29, .slice (some ⟨b, off, none⟩) 2 c]) (by simp) 0 (.int .i64 29) rfl rfl (by decide +kernel) ⟨rfl, hR⟩
    | 6, ho =>
      cases ho
      refine .inl ⟨by kernel_rfl, fun w hR => ?_⟩
      first | (go_simp; done) | (go_simp; exact ⟨rfl, hR⟩) | (go_simp; exact ⟨Hgt.out, hR⟩) | (go_simp; exact Hgt.out)
    | 7, ho =>
      cases ho
      refine .inl ⟨by kernel_rfl, fun w hR => ?_⟩
      first | (go_simp; done) | (go_simp; exact ⟨rfl, hR⟩) | (go_simp; exact ⟨Hx.out, hR⟩) | (go_simp; exact Hx.out)
    | 8, ho =>
      cases ho
      refine .inl ⟨by kernel_rfl, fun w hR => ?_⟩
      first | (go_simp; done) | (go_simp; exact ⟨rfl, hR⟩) | (go_simp; exact ⟨Hx.out, hR⟩) | (go_simp; exact Hx.out)
    | 9, ho =>
      cases ho
      refine .inl ⟨by kernel_rfl, fun w hR => ?_⟩
      first | (go_simp; done) | (go_simp; exact ⟨rfl, hR⟩) | (go_simp; exact ⟨Hx.out, hR⟩) | (go_simp; exact Hx.out)
    | 10, ho =>
      cases ho
      refine .inl ⟨by kernel_rfl, fun w hR => ?_⟩
      exact ow_hxf _ _ rfl hR (cs := #[.int .i64 29, .slice (some ⟨b, off, none⟩) 2 c]) (by simp) 1 (.slice (some ⟨b, off, none⟩) 2 c) rfl rfl (by decide +kernel) ⟨rfl, hR⟩
    | 11, ho =>
      cases ho
      refine .inl ⟨by kernel_rfl, fun w hR => ?_⟩
      first | (go_simp; done) | (go_simp; exact ⟨rfl, hR⟩) | (go_simp; exact ⟨Hx.out, hR⟩) | (go_simp; exact Hx.out)
    | 12, ho =>
      cases ho
      refine .inl ⟨by kernel_rfl, fun w hR => ?_⟩
      first | (go_simp; done) | (go_simp; exact ⟨rfl, hR⟩) | (go_simp; exact ⟨Hx.out, hR⟩) | (go_simp; exact Hx.out)
    | 13, ho =>
      cases ho
      refine .inl ⟨by kernel_rfl, fun w hR => ?_⟩
      exact ow_hxf _ _ rfl hR (cs := #[.int .i64 29, .slice (some ⟨b, off, none⟩) 2 c]) (by simp) 0 (.int .i64 29) rfl rfl (by decide +kernel) ⟨rfl, hR⟩
    | 14, ho =>
      cases ho
      refine .inl ⟨by kernel_rfl, fun w hR => ?_⟩
      go_simp
      go_wp2_with fail
      refine (arityS_any 29 w).mono ?_
      rintro e w4 ⟨rfl, h5⟩
      rw [Har.out]
      exact ⟨rfl, hR.below h5⟩
    | 15, ho =>
      cases ho
      refine .inl ⟨by kernel_rfl, fun w hR => ?_⟩
      first | (go_simp; done) | (go_simp; exact ⟨rfl, hR⟩) | (go_simp; exact ⟨Hne.out, hR⟩) | (go_simp; exact Hne.out)
    | 16, ho =>
      cases ho
      refine .inl ⟨by kernel_rfl, fun w hR => ?_⟩
      first | (go_simp; done) | (go_simp; exact ⟨rfl, hR⟩) | (go_simp; exact ⟨Hx.out, hR⟩) | (go_simp; exact Hx.out)
    | i + 17, ho => simp at ho
  case hR12 => exact H1.out.drew
  case fin12 =>
    intro w2 h2
    have H2 := Lib.hid h2
    clear h2 H1
    have c1 := H2.out.cell (g := W.heap.size) (cs := #[.int .i64 29, .slice (some ⟨b, off, none⟩) 2 c]) (by simp) 1 rfl
    obtain ⟨x0, x1, x2⟩ := (HT.out.below H2.out.1).at0
    have H3 := Lib.hid (H2.out.box #[.int .i64 x.1, .int .i64 x.2.1, .int .i64 x.2.2] 31)
    have c0 := H3.out.cell (g := W.heap.size) (cs := #[.int .i64 29, .slice (some ⟨b, off, none⟩) 2 c]) (by simp) 0 rfl
    go_upto_block 0 with (fail)
    clear c1 x0 x1 x2 c0 H2
    cases hb : tKis x [8, 8] with
    | false =>
      have Hb3 := Lib.hid hb
      clear hb
      have T3 := Lib.hid (HT.out.below H3.out.1)
      have c0 := H3.out.cell (g := W.heap.size) (cs := #[.int .i64 29, .slice (some ⟨b, off, none⟩) 2 c]) (by simp) 0 rfl
      have c1 := H3.out.cell (g := W.heap.size) (cs := #[.int .i64 29, .slice (some ⟨b, off, none⟩) 2 c]) (by simp) 1 rfl
      have a0 := H3.out.cell (g := w2.heap.size) (cs := #[.int .i64 x.1, .int .i64 x.2.1, .int .i64 x.2.2]) (by simp) 0 rfl
      have a1 := H3.out.cell (g := w2.heap.size) (cs := #[.int .i64 x.1, .int .i64 x.2.1, .int .i64 x.2.2]) (by simp) 1 rfl
      have a2 := H3.out.cell (g := w2.heap.size) (cs := #[.int .i64 x.1, .int .i64 x.2.1, .int .i64 x.2.2]) (by simp) 2 rfl
      go_wp2_with fail
      refine (kind_any x.1 x.2.1 x.2.2 8 8 _).mono ?_
      rw [show kis x.1 x.2.1 x.2.2 [8, 8] = false from Hb3.out]
      rintro e w4 ⟨rfl, h⟩
      have H4 := Lib.hid ((H3.out).below h)
      clear h H3 c0 c1 a0 a1 a2
      go_wp2_with fail
      go_ret
      exact ⟨kit.ret_bool (by rw [Hb3.out]; try rfl), H4.out.1⟩
    | true =>
      have Hb3 := Lib.hid hb
      clear hb
      have T3 := Lib.hid (HT.out.below H3.out.1)
      have c0 := H3.out.cell (g := W.heap.size) (cs := #[.int .i64 29, .slice (some ⟨b, off, none⟩) 2 c]) (by simp) 0 rfl
      have c1 := H3.out.cell (g := W.heap.size) (cs := #[.int .i64 29, .slice (some ⟨b, off, none⟩) 2 c]) (by simp) 1 rfl
      have a0 := H3.out.cell (g := w2.heap.size) (cs := #[.int .i64 x.1, .int .i64 x.2.1, .int .i64 x.2.2]) (by simp) 0 rfl
      have a1 := H3.out.cell (g := w2.heap.size) (cs := #[.int .i64 x.1, .int .i64 x.2.1, .int .i64 x.2.2]) (by simp) 1 rfl
      have a2 := H3.out.cell (g := w2.heap.size) (cs := #[.int .i64 x.1, .int .i64 x.2.1, .int .i64 x.2.2]) (by simp) 2 rfl
      go_wp2_with fail
      refine (kind_any x.1 x.2.1 x.2.2 8 8 _).mono ?_
      rw [show kis x.1 x.2.1 x.2.2 [8, 8] = true from Hb3.out]
      rintro e w4 ⟨rfl, h⟩
      have H4 := Lib.hid ((H3.out).below h)
      clear h H3 c0 c1 a0 a1 a2
      cases hb : tKis y [11, 11] with
      | false =>
        have Hb4 := Lib.hid hb
        clear hb
        have T4 := Lib.hid (HT.out.below H4.out.1)
        have c0 := H4.out.cell (g := W.heap.size) (cs := #[.int .i64 29, .slice (some ⟨b, off, none⟩) 2 c]) (by simp) 0 rfl
        have c1 := H4.out.cell (g := W.heap.size) (cs := #[.int .i64 29, .slice (some ⟨b, off, none⟩) 2 c]) (by simp) 1 rfl
        have a0 := H4.out.cell (g := w2.heap.size) (cs := #[.int .i64 x.1, .int .i64 x.2.1, .int .i64 x.2.2]) (by simp) 0 rfl
        have a1 := H4.out.cell (g := w2.heap.size) (cs := #[.int .i64 x.1, .int .i64 x.2.1, .int .i64 x.2.2]) (by simp) 1 rfl
        have a2 := H4.out.cell (g := w2.heap.size) (cs := #[.int .i64 x.1, .int .i64 x.2.1, .int .i64 x.2.2]) (by simp) 2 rfl
        obtain ⟨y0, y1, y2⟩ := T4.out.at1
        go_wp2_with fail
        refine (kind_any y.1 y.2.1 y.2.2 11 11 _).mono ?_
        rw [show kis y.1 y.2.1 y.2.2 [11, 11] = false from Hb4.out]
        rintro e w5 ⟨rfl, h⟩
        have H5 := Lib.hid ((H4.out).below h)
        clear h H4 c0 c1 a0 a1 a2 y0 y1 y2
        go_wp2_with fail
        go_ret
        exact ⟨kit.ret_bool (by rw [Hb3.out, Hb4.out]; try rfl), H5.out.1⟩
      | true =>
        have Hb4 := Lib.hid hb
        clear hb
        have T4 := Lib.hid (HT.out.below H4.out.1)
        have c0 := H4.out.cell (g := W.heap.size) (cs := #[.int .i64 29, .slice (some ⟨b, off, none⟩) 2 c]) (by simp) 0 rfl
        have c1 := H4.out.cell (g := W.heap.size) (cs := #[.int .i64 29, .slice (some ⟨b, off, none⟩) 2 c]) (by simp) 1 rfl
        have a0 := H4.out.cell (g := w2.heap.size) (cs := #[.int .i64 x.1, .int .i64 x.2.1, .int .i64 x.2.2]) (by simp) 0 rfl
        have a1 := H4.out.cell (g := w2.heap.size) (cs := #[.int .i64 x.1, .int .i64 x.2.1, .int .i64 x.2.2]) (by simp) 1 rfl
        have a2 := H4.out.cell (g := w2.heap.size) (cs := #[.int .i64 x.1, .int .i64 x.2.1, .int .i64 x.2.2]) (by simp) 2 rfl
        obtain ⟨y0, y1, y2⟩ := T4.out.at1
        go_wp2_with fail
        refine (kind_any y.1 y.2.1 y.2.2 11 11 _).mono ?_
        rw [show kis y.1 y.2.1 y.2.2 [11, 11] = true from Hb4.out]
        rintro e w5 ⟨rfl, h⟩
        have H5 := Lib.hid ((H4.out).below h)
        clear h H4 c0 c1 a0 a1 a2 y0 y1 y2
        have T5 := Lib.hid (HT.out.below H5.out.1)
        have c0 := H5.out.cell (g := W.heap.size) (cs := #[.int .i64 29, .slice (some ⟨b, off, none⟩) 2 c]) (by simp) 0 rfl
        have c1 := H5.out.cell (g := W.heap.size) (cs := #[.int .i64 29, .slice (some ⟨b, off, none⟩) 2 c]) (by simp) 1 rfl
        have a0 := H5.out.cell (g := w2.heap.size) (cs := #[.int .i64 x.1, .int .i64 x.2.1, .int .i64 x.2.2]) (by simp) 0 rfl
        have a1 := H5.out.cell (g := w2.heap.size) (cs := #[.int .i64 x.1, .int .i64 x.2.1, .int .i64 x.2.2]) (by simp) 1 rfl
        have a2 := H5.out.cell (g := w2.heap.size) (cs := #[.int .i64 x.1, .int .i64 x.2.1, .int .i64 x.2.2]) (by simp) 2 rfl
        obtain ⟨y0, y1, y2⟩ := T5.out.at1
        go_wp2_with fail
        go_ret
        exact ⟨kit.ret_bool (by rw [Hb3.out, Hb4.out]; simp), H5.out.1⟩
set_option maxHeartbeats 8000000 in
theorem scoil_30 (x y : Tri) (b off c : Nat) (W : World) (hT : Trip W b off [x, y]) :
    Calls Tryd.prog 8 #[.agg #[.int .i64 30, .slice (some ⟨b, off, none⟩) 2 c]] W fun e w' => e = .returned (.bool (calcB 30 x [y])) ∧ Below W.heap.size W w' := by
  have Har := Lib.hid (show arity 30 = 2 by decide)
  have HT := Lib.hid hT
  clear hT
  have H1 := Lib.hid (Hx.box (Hx.nil (Below.refl W.heap.size W)) #[.int .i64 30, .slice (some ⟨b, off, none⟩) 2 c] 25)
  go_enter Tryd.func8, Tryd.ntmps8
  go_wp2_with fail
  refine wp_region_vals (R := Hx W [(W.heap.size, #[.int .i64 30, .slice (some ⟨b, off, none⟩) 2 c])]) (aa := ?aa13) [(4, .pointer (some ⟨W.heap.size, 0, none⟩)), (5, .int .i64 30), (6, .bool false), (7, .bool false), (8, .pointer (some ⟨W.heap.size, 0, none⟩)), (9, .int .i64 30), (10, .bool false), (11, .bool false), (12, .bool false), (13, .pointer (some ⟨W.heap.size, 1, none⟩)), (14, .slice (some ⟨b, off, none⟩) 2 c), (15, .int .i64 2), (16, .pointer (some ⟨W.heap.size, 0, none⟩)), (17, .int .i64 30), (18, .int .i64 2), (19, .bool false), (20, .bool false)] ?hL13 (by kernel_rfl) ?hv13 ?hD13 ?hR13 ?hdo13 ?fin13
  case hL13 =>
    simp only [putD, Act.put]
    go_simp
    rfl
  case hv13 => kernel_rfl
  case hD13 => kernel_rfl
  case hdo13 =>
    intro i o ho
    match i, ho with
    | 0, ho =>
      cases ho
      refine .inl ⟨by kernel_rfl, fun w hR => ?_⟩
      first | (go_simp; done) | (go_simp; exact ⟨rfl, hR⟩) | (go_simp; exact ⟨Hx.out, hR⟩) | (go_simp; exact Hx.out)
    | 1, ho =>
      cases ho
      refine .inl ⟨by kernel_rfl, fun w hR => ?_⟩
      exact ow_hxf _ _ rfl hR (cs := #[.int .i64 30, .slice (some ⟨b, off, none⟩) 2 c]) (by simp) 0 (.int .i64 30) rfl rfl (by decide +kernel) ⟨rfl, hR⟩
    | 2, ho =>
      cases ho
      refine .inl ⟨by kernel_rfl, fun w hR => ?_⟩
      first | (go_simp; done) | (go_simp; exact ⟨rfl, hR⟩) | (go_simp; exact ⟨Hlt.out, hR⟩) | (go_simp; exact Hlt.out)
    | 3, ho =>
      cases ho
      refine .inl ⟨by kernel_rfl, fun w hR => ?_⟩
      first | (go_simp; done) | (go_simp; exact ⟨rfl, hR⟩) | (go_simp; exact ⟨Hlt.out, hR⟩) | (go_simp; exact Hlt.out)
    | 4, ho =>
      cases ho
      refine .inl ⟨by kernel_rfl, fun w hR => ?_⟩
      first | (go_simp; done) | (go_simp; exact ⟨rfl, hR⟩) | (go_simp; exact ⟨Hx.out, hR⟩) | (go_simp; exact Hx.out)
    | 5, ho =>
      cases ho
      refine .inl ⟨by kernel_rfl, fun w hR => ?_⟩
      exact ow_hxf _ _ rfl hR (cs := #[.int .i64 30, .slice (some ⟨b, off, none⟩) 2 c]) (by simp) 0 (.int .i64 30) rfl rfl (by decide +kernel) ⟨rfl, hR⟩
    | 6, ho =>
      cases ho
      refine .inl ⟨by kernel_rfl, fun w hR => ?_⟩
      first | (go_simp; done) | (go_simp; exact ⟨rfl, hR⟩) | (go_simp; exact ⟨Hgt.out, hR⟩) | (go_simp; exact Hgt.out)
    | 7, ho =>
      cases ho
      refine .inl ⟨by kernel_rfl, fun w hR => ?_⟩
      first | (go_simp; done) | (go_simp; exact ⟨rfl, hR⟩) | (go_simp; exact ⟨Hx.out, hR⟩) | (go_simp; exact Hx.out)
    | 8, ho =>
      cases ho
      refine .inl ⟨by kernel_rfl, fun w hR => ?_⟩
      first | (go_simp; done) | (go_simp; exact ⟨rfl, hR⟩) | (go_simp; exact ⟨Hx.out, hR⟩) | (go_simp; exact Hx.out)
    | 9, ho =>
      cases ho
      refine .inl ⟨by kernel_rfl, fun w hR => ?_⟩
      first | (go_simp; done) | (go_simp; exact ⟨rfl, hR⟩) | (go_simp; exact ⟨Hx.out, hR⟩) | (go_simp; exact Hx.out)
    | 10, ho =>
      cases ho
      refine .inl ⟨by kernel_rfl, fun w hR => ?_⟩
      exact ow_hxf _ _ rfl hR (cs := #[.int .i64 30, .slice (some ⟨b, off, none⟩) 2 c]) (by simp) 1 (.slice (some ⟨b, off, none⟩) 2 c) rfl rfl (by decide +kernel) ⟨rfl, hR⟩
    | 11, ho =>
      cases ho
      refine .inl ⟨by kernel_rfl, fun w hR => ?_⟩
      first | (go_simp; done) | (go_simp; exact ⟨rfl, hR⟩) | (go_simp; exact ⟨Hx.out, hR⟩) | (go_simp; exact Hx.out)
    | 12, ho =>
      cases ho
      refine .inl ⟨by kernel_rfl, fun w hR => ?_⟩
      first | (go_simp; done) | (go_simp; exact ⟨rfl, hR⟩) | (go_simp; exact ⟨Hx.out, hR⟩) | (go_simp; exact Hx.out)
    | 13, ho =>
      cases ho
      refine .inl ⟨by kernel_rfl, fun w hR => ?_⟩
      exact ow_hxf _ _ rfl hR (cs := #[.int .i64 30, .slice (some ⟨b, off, none⟩) 2 c]) (by simp) 0 (.int .i64 30) rfl rfl (by decide +kernel) ⟨rfl, hR⟩
    | 14, ho =>
      cases ho
      refine .inl ⟨by kernel_rfl, fun w hR => ?_⟩
      go_simp
      go_wp2_with fail
      refine (arityS_any 30 w).mono ?_
      rintro e w4 ⟨rfl, h5⟩
      rw [Har.out]
      exact ⟨rfl, hR.below h5⟩
    | 15, ho =>
      cases ho
      refine .inl ⟨by kernel_rfl, fun w hR => ?_⟩
      first | (go_simp; done) | (go_simp; exact ⟨rfl, hR⟩) | (go_simp; exact ⟨Hne.out, hR⟩) | (go_simp; exact Hne.out)
    | 16, ho =>
      cases ho
      refine .inl ⟨by kernel_rfl, fun w hR => ?_⟩
      first | (go_simp; done) | (go_simp; exact ⟨rfl, hR⟩) | (go_simp; exact ⟨Hx.out, hR⟩) | (go_simp; exact Hx.out)
    | i + 17, ho => simp at ho
  case hR13 => exact H1.out.drew
  case fin13 =>
    intro w2 h2
    have H2 := Lib.hid h2
    clear h2 H1
    have c1 := H2.out.cell (g := W.heap.size) (cs := #[.int .i64 30, .slice (some ⟨b, off, none⟩) 2 c]) (by simp) 1 rfl
    obtain ⟨x0, x1, x2⟩ := (HT.out.below H2.out.1).at0
    have H3 := Lib.hid (H2.out.box #[.int .i64 x.1, .int .i64 x.2.1, .int .i64 x.2.2] 31)
    have c0 := H3.out.cell (g := W.heap.size) (cs := #[.int .i64 30, .slice (some ⟨b, off, none⟩) 2 c]) (by simp) 0 rfl
    go_upto_block 0 with (fail)
    clear c1 x0 x1 x2 c0 H2
    have T3 := Lib.hid (HT.out.below H3.out.1)
    have c0 := H3.out.cell (g := W.heap.size) (cs := #[.int .i64 30, .slice (some ⟨b, off, none⟩) 2 c]) (by simp) 0 rfl
    have c1 := H3.out.cell (g := W.heap.size) (cs := #[.int .i64 30, .slice (some ⟨b, off, none⟩) 2 c]) (by simp) 1 rfl
    have a0 := H3.out.cell (g := w2.heap.size) (cs := #[.int .i64 x.1, .int .i64 x.2.1, .int .i64 x.2.2]) (by simp) 0 rfl
    have a1 := H3.out.cell (g := w2.heap.size) (cs := #[.int .i64 x.1, .int .i64 x.2.1, .int .i64 x.2.2]) (by simp) 1 rfl
    have a2 := H3.out.cell (g := w2.heap.size) (cs := #[.int .i64 x.1, .int .i64 x.2.1, .int .i64 x.2.2]) (by simp) 2 rfl
    go_wp2_with fail
    refine (calc_any 30 x [y] b off c _ (by simp) T3.out).mono ?_
    rintro e w4 ⟨rfl, h⟩
    have H4 := Lib.hid ((H3.out).below h)
    clear h H3 c0 c1 a0 a1 a2
    go_wp2_with fail
    go_ret
    exact ⟨rfl, H4.out.1⟩
set_option maxHeartbeats 8000000 in
theorem scoil_31 (x y z : Tri) (b off c : Nat) (W : World) (hT : Trip W b off [x, y, z]) :
    Calls Tryd.prog 8 #[.agg #[.int .i64 31, .slice (some ⟨b, off, none⟩) 3 c]] W fun e w' => e = .returned (.bool (calcB 31 x [y, z])) ∧ Below W.heap.size W w' := by
  have Har := Lib.hid (show arity 31 = 3 by decide)
  have HT := Lib.hid hT
  clear hT
  have H1 := Lib.hid (Hx.box (Hx.nil (Below.refl W.heap.size W)) #[.int .i64 31, .slice (some ⟨b, off, none⟩) 3 c] 25)
  go_enter Tryd.func8, Tryd.ntmps8
  go_wp2_with fail
  refine wp_region_vals (R := Hx W [(W.heap.size, #[.int .i64 31, .slice (some ⟨b, off, none⟩) 3 c])]) (aa := ?aa14) [(4, .pointer (some ⟨W.heap.size, 0, none⟩)), (5, .int .i64 31), (6, .bool false), (7, .bool false), (8, .pointer (some ⟨W.heap.size, 0, none⟩)), (9, .int .i64 31), (10, .bool false), (11, .bool false), (12, .bool false), (13, .pointer (some ⟨W.heap.size, 1, none⟩)), (14, .slice (some ⟨b, off, none⟩) 3 c), (15, .int .i64 3), (16, .pointer (some ⟨W.heap.size, 0, none⟩)), (17, .int .i64 31), (18, .int .i64 3), (19, .bool false), (20, .bool false)] ?hL14 (by kernel_rfl) ?hv14 ?hD14 ?hR14 ?hdo14 ?fin14
  case hL14 =>
    simp only [putD, Act.put]
    go_simp
    rfl
  case hv14 => kernel_rfl
  case hD14 => kernel_rfl
  case hdo14 =>
    intro i o ho
    match i, ho with
    | 0, ho =>
      cases ho
      refine .inl ⟨by kernel_rfl, fun w hR => ?_⟩
      first | (go_simp; done) | (go_simp; exact ⟨rfl, hR⟩) | (go_simp; exact ⟨Hx.out, hR⟩) | (go_simp; exact Hx.out)
    | 1, ho =>
      cases ho
      refine .inl ⟨by kernel_rfl, fun w hR => ?_⟩
      exact ow_hxf _ _ rfl hR (cs := #[.int .i64 31, .slice (some ⟨b, off, none⟩) 3 c]) (by simp) 0 (.int .i64 31) rfl rfl (by decide +kernel) ⟨rfl, hR⟩
    | 2, ho =>
      cases ho
      refine .inl ⟨by kernel_rfl, fun w hR => ?_⟩
      first | (go_simp; done) | (go_simp; exact ⟨rfl, hR⟩) | (go_simp; exact ⟨Hlt.out, hR⟩) | (go_simp; exact Hlt.out)
    | 3, ho =>
      cases ho
      refine .inl ⟨by kernel_rfl, fun w hR => ?_⟩
      first | (go_simp; done) | (go_simp; exact ⟨rfl, hR⟩) | (go_simp; exact ⟨Hlt.out, hR⟩) | (go_simp; exact Hlt.out)
    | 4, ho =>
      cases ho
      refine .inl ⟨by kernel_rfl, fun w hR => ?_⟩
      first | (go_simp; done) | (go_simp; exact ⟨rfl, hR⟩) | (go_simp; exact ⟨Hx.out, hR⟩) | (go_simp; exact Hx.out)
    | 5, ho =>
      cases ho
      refine .inl ⟨by kernel_rfl, fun w hR => ?_⟩
      exact ow_hxf _ _ rfl hR (cs := #[.int .i64 31, .slice (some ⟨b, off, none⟩) 3 c]) (by simp) 0 (.int .i64 31) rfl rfl (by decide +kernel) ⟨rfl, hR⟩
    | 6, ho =>
      cases ho
      refine .inl ⟨by kernel_rfl, fun w hR => ?_⟩
      first | (go_simp; done) | (go_simp; exact ⟨rfl, hR⟩) | (go_simp; exact ⟨Hgt.out, hR⟩) | (go_simp; exact Hgt.out)
    | 7, ho =>
      cases ho
      refine .inl ⟨by kernel_rfl, fun w hR => ?_⟩
      first | (go_simp; done) | (go_simp; exact ⟨rfl, hR⟩) | (go_simp; exact ⟨Hx.out, hR⟩) | (go_simp; exact Hx.out)
    | 8, ho =>
      cases ho
      refine .inl ⟨by kernel_rfl, fun w hR => ?_⟩
      first | (go_simp; done) | (go_simp; exact ⟨rfl, hR⟩) | (go_simp; exact ⟨Hx.out, hR⟩) | (go_simp; exact Hx.out)
    | 9, ho =>
      cases ho
      refine .inl ⟨by kernel_rfl, fun w hR => ?_⟩
      first | (go_simp; done) | (go_simp; exact ⟨rfl, hR⟩) | (go_simp; exact ⟨Hx.out, hR⟩) | (go_simp; exact Hx.out)
    | 10, ho =>
      cases ho
      refine .inl ⟨by kernel_rfl, fun w hR => ?_⟩
      exact ow_hxf _ _ rfl hR (cs := #[.int .i64 31, .slice (some ⟨b, off, none⟩) 3 c]) (by simp) 1 (.slice (some ⟨b, off, none⟩) 3 c) rfl rfl (by decide +kernel) ⟨rfl, hR⟩
    | 11, ho =>
      cases ho
      refine .inl ⟨by kernel_rfl, fun w hR => ?_⟩
      first | (go_simp; done) | (go_simp; exact ⟨rfl, hR⟩) | (go_simp; exact ⟨Hx.out, hR⟩) | (go_simp; exact Hx.out)
    | 12, ho =>
      cases ho
      refine .inl ⟨by kernel_rfl, fun w hR => ?_⟩
      first | (go_simp; done) | (go_simp; exact ⟨rfl, hR⟩) | (go_simp; exact ⟨Hx.out, hR⟩) | (go_simp; exact Hx.out)
    | 13, ho =>
      cases ho
      refine .inl ⟨by kernel_rfl, fun w hR => ?_⟩
      exact ow_hxf _ _ rfl hR (cs := #[.int .i64 31, .slice (some ⟨b, off, none⟩) 3 c]) (by simp) 0 (.int .i64 31) rfl rfl (by decide +kernel) ⟨rfl, hR⟩
    | 14, ho =>
      cases ho
      refine .inl ⟨by kernel_rfl, fun w hR => ?_⟩
      go_simp
      go_wp2_with fail
      refine (arityS_any 31 w).mono ?_
      rintro e w4 ⟨rfl, h5⟩
      rw [Har.out]
      exact ⟨rfl, hR.below h5⟩
    | 15, ho =>
      cases ho
      refine .inl ⟨by kernel_rfl, fun w hR => ?_⟩
      first | (go_simp; done) | (go_simp; exact ⟨rfl, hR⟩) | (go_simp; exact ⟨Hne.out, hR⟩) | (go_simp; exact Hne.out)
    | 16, ho =>
      cases ho
      refine .inl ⟨by kernel_rfl, fun w hR => ?_⟩
      first | (go_simp; done) | (go_simp; exact ⟨rfl, hR⟩) | (go_simp; exact ⟨Hx.out, hR⟩) | (go_simp; exact Hx.out)
    | i + 17, ho => simp at ho
  case hR14 => exact H1.out.drew
  case fin14 =>
    intro w2 h2
    have H2 := Lib.hid h2
    clear h2 H1
    have c1 := H2.out.cell (g := W.heap.size) (cs := #[.int .i64 31, .slice (some ⟨b, off, none⟩) 3 c]) (by simp) 1 rfl
    obtain ⟨x0, x1, x2⟩ := (HT.out.below H2.out.1).at0
    have H3 := Lib.hid (H2.out.box #[.int .i64 x.1, .int .i64 x.2.1, .int .i64 x.2.2] 31)
    have c0 := H3.out.cell (g := W.heap.size) (cs := #[.int .i64 31, .slice (some ⟨b, off, none⟩) 3 c]) (by simp) 0 rfl
    go_upto_block 0 with (fail)
    clear c1 x0 x1 x2 c0 H2
    have T3 := Lib.hid (HT.out.below H3.out.1)
    have c0 := H3.out.cell (g := W.heap.size) (cs := #[.int .i64 31, .slice (some ⟨b, off, none⟩) 3 c]) (by simp) 0 rfl
    have c1 := H3.out.cell (g := W.heap.size) (cs := #[.int .i64 31, .slice (some ⟨b, off, none⟩) 3 c]) (by simp) 1 rfl
    have a0 := H3.out.cell (g := w2.heap.size) (cs := #[.int .i64 x.1, .int .i64 x.2.1, .int .i64 x.2.2]) (by simp) 0 rfl
    have a1 := H3.out.cell (g := w2.heap.size) (cs := #[.int .i64 x.1, .int .i64 x.2.1, .int .i64 x.2.2]) (by simp) 1 rfl
    have a2 := H3.out.cell (g := w2.heap.size) (cs := #[.int .i64 x.1, .int .i64 x.2.1, .int .i64 x.2.2]) (by simp) 2 rfl
    go_wp2_with fail
    refine (calc_any 31 x [y, z] b off c _ (by simp) T3.out).mono ?_
    rintro e w4 ⟨rfl, h⟩
    have H4 := Lib.hid ((H3.out).below h)
    clear h H3 c0 c1 a0 a1 a2
    go_wp2_with fail
    go_ret
    exact ⟨rfl, H4.out.1⟩
set_option maxHeartbeats 8000000 in
theorem scoil_32 (x y z : Tri) (b off c : Nat) (W : World) (hT : Trip W b off [x, y, z]) :
    Calls Tryd.prog 8 #[.agg #[.int .i64 32, .slice (some ⟨b, off, none⟩) 3 c]] W fun e w' => e = .returned (.bool (calcB 32 x [y, z])) ∧ Below W.heap.size W w' := by
  have Har := Lib.hid (show arity 32 = 3 by decide)
  have HT := Lib.hid hT
  clear hT
  have H1 := Lib.hid (Hx.box (Hx.nil (Below.refl W.heap.size W)) #[.int .i64 32, .slice (some ⟨b, off, none⟩) 3 c] 25)
  go_enter Tryd.func8, Tryd.ntmps8
  go_wp2_with fail
  refine wp_region_vals (R := Hx W [(W.heap.size, #[.int .i64 32, .slice (some ⟨b, off, none⟩) 3 c])]) (aa := ?aa15) [(4, .pointer (some ⟨W.heap.size, 0, none⟩)), (5, .int .i64 32), (6, .bool false), (7, .bool false), (8, .pointer (some ⟨W.heap.size, 0, none⟩)), (9, .int .i64 32), (10, .bool false), (11, .bool false), (12, .bool false), (13, .pointer (some ⟨W.heap.size, 1, none⟩)), (14, .slice (some ⟨b, off, none⟩) 3 c), (15, .int .i64 3), (16, .pointer (some ⟨W.heap.size, 0, none⟩)), (17, .int .i64 32), (18, .int .i64 3), (19, .bool false), (20, .bool false)] ?hL15 (by kernel_rfl) ?hv15 ?hD15 ?hR15 ?hdo15 ?fin15
  case hL15 =>
    simp only [putD, Act.put]
    go_simp
    rfl
  case hv15 => kernel_rfl
  case hD15 => kernel_rfl
  case hdo15 =>
    intro i o ho
    match i, ho with
    | 0, ho =>
      cases ho
      refine .inl ⟨by kernel_rfl, fun w hR => ?_⟩
      first | (go_simp; done) | (go_simp; exact ⟨rfl, hR⟩) | (go_simp; exact ⟨Hx.out, hR⟩) | (go_simp; exact Hx.out)
    | 1, ho =>
      cases ho
      refine .inl ⟨by kernel_rfl, fun w hR => ?_⟩
      exact ow_hxf _ _ rfl hR (cs := #[.int .i64 32, .slice (some ⟨b, off, none⟩) 3 c]) (by simp) 0 (.int .i64 32) rfl rfl (by decide +kernel) ⟨rfl, hR⟩
    | 2, ho =>
      cases ho
      refine .inl ⟨by kernel_rfl, fun w hR => ?_⟩
      first | (go_simp; done) | (go_simp; exact ⟨rfl, hR⟩) | (go_simp; exact ⟨Hlt.out, hR⟩) | (go_simp; exact Hlt.out)
    | 3, ho =>
      cases ho
      refine .inl ⟨by kernel_rfl, fun w hR => ?_⟩
      first | (go_simp; done) | (go_simp; exact ⟨rfl, hR⟩) | (go_simp; exact ⟨Hlt.out, hR⟩) | (go_simp; exact Hlt.out)
    | 4, ho =>
      cases ho
      refine .inl ⟨by kernel_rfl, fun w hR => ?_⟩
      first | (go_simp; done) | (go_simp; exact ⟨rfl, hR⟩) | (go_simp; exact ⟨Hx.out, hR⟩) | (go_simp; exact Hx.out)
    | 5, ho =>
      cases ho
      refine .inl ⟨by kernel_rfl, fun w hR => ?_⟩
      exact ow_hxf _ _ rfl hR (cs := #[.int .i64 32, .slice (some ⟨b, off, none⟩) 3 c]) (by simp) 0 (.int .i64 32) rfl rfl (by decide +kernel) ⟨rfl, hR⟩
    | 6, ho =>
      cases ho
      refine .inl ⟨by kernel_rfl, fun w hR => ?_⟩
      first | (go_simp; done) | (go_simp; exact ⟨rfl, hR⟩) | (go_simp; exact ⟨Hgt.out, hR⟩) | (go_simp; exact Hgt.out)
    | 7, ho =>
      cases ho
      refine .inl ⟨by kernel_rfl, fun w hR => ?_⟩
      first | (go_simp; done) | (go_simp; exact ⟨rfl, hR⟩) | (go_simp; exact ⟨Hx.out, hR⟩) | (go_simp; exact Hx.out)
    | 8, ho =>
      cases ho
      refine .inl ⟨by kernel_rfl, fun w hR => ?_⟩
      first | (go_simp; done) | (go_simp; exact ⟨rfl, hR⟩) | (go_simp; exact ⟨Hx.out, hR⟩) | (go_simp; exact Hx.out)
    | 9, ho =>
      cases ho
      refine .inl ⟨by kernel_rfl, fun w hR => ?_⟩
      first | (go_simp; done) | (go_simp; exact ⟨rfl, hR⟩) | (go_simp; exact ⟨Hx.out, hR⟩) | (go_simp; exact Hx.out)
    | 10, ho =>
      cases ho
      refine .inl ⟨by kernel_rfl, fun w hR => ?_⟩
      exact ow_hxf _ _ rfl hR (cs := #[.int .i64 32, .slice (some ⟨b, off, none⟩) 3 c]) (by simp) 1 (.slice (some ⟨b, off, none⟩) 3 c) rfl rfl (by decide +kernel) ⟨rfl, hR⟩
    | 11, ho =>
      cases ho
      refine .inl ⟨by kernel_rfl, fun w hR => ?_⟩
      first | (go_simp; done) | (go_simp; exact ⟨rfl, hR⟩) | (go_simp; exact ⟨Hx.out, hR⟩) | (go_simp; exact Hx.out)
    | 12, ho =>
      cases ho
      refine .inl ⟨by kernel_rfl, fun w hR => ?_⟩
      first | (go_simp; done) | (go_simp; exact ⟨rfl, hR⟩) | (go_simp; exact ⟨Hx.out, hR⟩) | (go_simp; exact Hx.out)
    | 13, ho =>
      cases ho
      refine .inl ⟨by kernel_rfl, fun w hR => ?_⟩
      exact ow_hxf _ _ rfl hR (cs := #[.int .i64 32, .slice (some ⟨b, off, none⟩) 3 c]) (by simp) 0 (.int .i64 32) rfl rfl (by decide +kernel) ⟨rfl, hR⟩
    | 14, ho =>
      cases ho
      refine .inl ⟨by kernel_rfl, fun w hR => ?_⟩
      go_simp
      go_wp2_with fail
      refine (arityS_any 32 w).mono ?_
      rintro e w4 ⟨rfl, h5⟩
      rw [Har.out]
      exact ⟨rfl, hR.below h5⟩
    | 15, ho =>
      cases ho
      refine .inl ⟨by kernel_rfl, fun w hR => ?_⟩
      first | (go_simp; done) | (go_simp; exact ⟨rfl, hR⟩) | (go_simp; exact ⟨Hne.out, hR⟩) | (go_simp; exact Hne.out)
    | 16, ho =>
      cases ho
      refine .inl ⟨by kernel_rfl, fun w hR => ?_⟩
      first | (go_simp; done) | (go_simp; exact ⟨rfl, hR⟩) | (go_simp; exact ⟨Hx.out, hR⟩) | (go_simp; exact Hx.out)
    | i + 17, ho => simp at ho
  case hR15 => exact H1.out.drew
  case fin15 =>
    intro w2 h2
    have H2 := Lib.hid h2
    clear h2 H1
    have c1 := H2.out.cell (g := W.heap.size) (cs := #[.int .i64 32, .slice (some ⟨b, off, none⟩) 3 c]) (by simp) 1 rfl
    obtain ⟨x0, x1, x2⟩ := (HT.out.below H2.out.1).at0
    have H3 := Lib.hid (H2.out.box #[.int .i64 x.1, .int .i64 x.2.1, .int .i64 x.2.2] 31)
    have c0 := H3.out.cell (g := W.heap.size) (cs := #[.int .i64 32, .slice (some ⟨b, off, none⟩) 3 c]) (by simp) 0 rfl
    go_upto_block 0 with (fail)
    clear c1 x0 x1 x2 c0 H2
    have T3 := Lib.hid (HT.out.below H3.out.1)
    have c0 := H3.out.cell (g := W.heap.size) (cs := #[.int .i64 32, .slice (some ⟨b, off, none⟩) 3 c]) (by simp) 0 rfl
    have c1 := H3.out.cell (g := W.heap.size) (cs := #[.int .i64 32, .slice (some ⟨b, off, none⟩) 3 c]) (by simp) 1 rfl
    have a0 := H3.out.cell (g := w2.heap.size) (cs := #[.int .i64 x.1, .int .i64 x.2.1, .int .i64 x.2.2]) (by simp) 0 rfl
    have a1 := H3.out.cell (g := w2.heap.size) (cs := #[.int .i64 x.1, .int .i64 x.2.1, .int .i64 x.2.2]) (by simp) 1 rfl
    have a2 := H3.out.cell (g := w2.heap.size) (cs := #[.int .i64 x.1, .int .i64 x.2.1, .int .i64 x.2.2]) (by simp) 2 rfl
    go_wp2_with fail
    refine (calc_any 32 x [y, z] b off c _ (by simp) T3.out).mono ?_
    rintro e w4 ⟨rfl, h⟩
    have H4 := Lib.hid ((H3.out).below h)
    clear h H3 c0 c1 a0 a1 a2
    go_wp2_with fail
    go_ret
    exact ⟨rfl, H4.out.1⟩
set_option maxHeartbeats 8000000 in
theorem scoil_33 (x y z : Tri) (b off c : Nat) (W : World) (hT : Trip W b off [x, y, z]) :
    Calls Tryd.prog 8 #[.agg #[.int .i64 33, .slice (some ⟨b, off, none⟩) 3 c]] W fun e w' => e = .returned (.bool (calcB 33 x [y, z])) ∧ Below W.heap.size W w' := by
  have Har := Lib.hid (show arity 33 = 3 by decide)
  have HT := Lib.hid hT
  clear hT
  have H1 := Lib.hid (Hx.box (Hx.nil (Below.refl W.heap.size W)) #[.int .i64 33, .slice (some ⟨b, off, none⟩) 3 c] 25)
  go_enter Tryd.func8, Tryd.ntmps8
  go_wp2_with fail
  refine wp_region_vals (R := Hx W [(W.heap.size, #[.int .i64 33, .slice (some ⟨b, off, none⟩) 3 c])]) (aa := ?aa16) [(4, .pointer (some ⟨W.heap.size, 0, none⟩)), (5, .int .i64 33), (6, .bool false), (7, .bool false), (8, .pointer (some ⟨W.heap.size, 0, none⟩)), (9, .int .i64 33), (10, .bool false), (11, .bool false), (12, .bool false), (13, .pointer (some ⟨W.heap.size, 1, none⟩)), (14, .slice (some ⟨b, off, none⟩) 3 c), (15, .int .i64 3), (16, .pointer (some ⟨W.heap.size, 0, none⟩)), (17, .int .i64 33), (18, .int .i64 3), (19, .bool false), (20, .bool false)] ?hL16 (by kernel_rfl) ?hv16 ?hD16 ?hR16 ?hdo16 ?fin16
  case hL16 =>
    simp only [putD, Act.put]
    go_simp
    rfl
  case hv16 => kernel_rfl
  case hD16 => kernel_rfl
  case hdo16 =>
    intro i o ho
    match i, ho with
    | 0, ho =>
      cases ho
      refine .inl ⟨by kernel_rfl, fun w hR => ?_⟩
      first | (go_simp; done) | (go_simp; exact ⟨rfl, hR⟩) | (go_simp; exact ⟨Hx.out, hR⟩) | (go_simp; exact Hx.out)
    | 1, ho =>
      cases ho
      refine .inl ⟨by kernel_rfl, fun w hR => ?_⟩
      exact ow_hxf _ _ rfl hR (cs := #[.int .i64 33, .slice (some ⟨b, off, none⟩) 3 c]) (by simp) 0 (.int .i64 33) rfl rfl (by decide +kernel) ⟨rfl, hR⟩
    | 2, ho =>
      cases ho
      refine .inl ⟨by kernel_rfl, fun w hR => ?_⟩
      first | (go_simp; done) | (go_simp; exact ⟨rfl, hR⟩) | (go_simp; exact ⟨Hlt.out, hR⟩) | (go_simp; exact Hlt.out)
    | 3, ho =>
      cases ho
      refine .inl ⟨by kernel_rfl, fun w hR => ?_⟩
      first | (go_simp; done) | (go_simp; exact ⟨rfl, hR⟩) | (go_simp; exact ⟨Hlt.out, hR⟩) | (go_simp; exact Hlt.out)
    | 4, ho =>
      cases ho
      refine .inl ⟨by kernel_rfl, fun w hR => ?_⟩
      first | (go_simp; done) | (go_simp; exact ⟨rfl, hR⟩) | (go_simp; exact ⟨Hx.out, hR⟩) | (go_simp; exact Hx.out)
    | 5, ho =>
      cases ho
      refine .inl ⟨by kernel_rfl, fun w hR => ?_⟩
      exact ow_hxf _ _ rfl hR (cs := #[.int .i64 33, .slice (some ⟨b, off, none⟩) 3 c]) (by simp) 0 (.int .i64 33) rfl rfl (by decide +kernel) ⟨rfl, hR⟩
    | 6, ho =>
      cases ho
      refine .inl ⟨by kernel_rfl, fun w hR => ?_⟩
      first | (go_simp; done) | (go_simp; exact ⟨rfl, hR⟩) | (go_simp; exact ⟨Hgt.out, hR⟩) | (go_simp; exact Hgt.out)
    | 7, ho =>
      cases ho
      refine .inl ⟨by kernel_rfl, fun w hR => ?_⟩
      first | (go_simp; done) | (go_simp; exact ⟨rfl, hR⟩) | (go_simp; exact ⟨Hx.out, hR⟩) | (go_simp; exact Hx.out)
    | 8, ho =>
      cases ho
      refine .inl ⟨by kernel_rfl, fun w hR => ?_⟩
      first | (go_simp; done) | (go_simp; exact ⟨rfl, hR⟩) | (go_simp; exact ⟨Hx.out, hR⟩) | (go_simp; exact Hx.out)
    | 9, ho =>
      cases ho
      refine .inl ⟨by kernel_rfl, fun w hR => ?_⟩
      first | (go_simp; done) | (go_simp; exact ⟨rfl, hR⟩) | (go_simp; exact ⟨Hx.out, hR⟩) | (go_simp; exact Hx.out)
    | 10, ho =>
      cases ho
      refine .inl ⟨by kernel_rfl, fun w hR => ?_⟩
      exact ow_hxf _ _ rfl hR (cs := #[.int .i64 33, .slice (some ⟨b, off, none⟩) 3 c]) (by simp) 1 (.slice (some ⟨b, off, none⟩) 3 c) rfl rfl (by decide +kernel) ⟨rfl, hR⟩
    | 11, ho =>
      cases ho
      refine .inl ⟨by kernel_rfl, fun w hR => ?_⟩
      first | (go_simp; done) | (go_simp; exact ⟨rfl, hR⟩) | (go_simp; exact ⟨Hx.out, hR⟩) | (go_simp; exact Hx.out)
    | 12, ho =>
      cases ho
      refine .inl ⟨by kernel_rfl, fun w hR => ?_⟩
      first | (go_simp; done) | (go_simp; exact ⟨rfl, hR⟩) | (go_simp; exact ⟨Hx.out, hR⟩) | (go_simp; exact Hx.out)
    | 13, ho =>
      cases ho
      refine .inl ⟨by kernel_rfl, fun w hR => ?_⟩
      exact ow_hxf _ _ rfl hR (cs := #[.int .i64 33, .slice (some ⟨b, off, none⟩) 3 c]) (by simp) 0 (.int .i64 33) rfl rfl (by decide +kernel) ⟨rfl, hR⟩
    | 14, ho =>
      cases ho
      refine .inl ⟨by kernel_rfl, fun w hR => ?_⟩
      go_simp
      go_wp2_with fail
      refine (arityS_any 33 w).mono ?_
      rintro e w4 ⟨rfl, h5⟩
      rw [Har.out]
      exact ⟨rfl, hR.below h5⟩
    | 15, ho =>
      cases ho
      refine .inl ⟨by kernel_rfl, fun w hR => ?_⟩
      first | (go_simp; done) | (go_simp; exact ⟨rfl, hR⟩) | (go_simp; exact ⟨Hne.out, hR⟩) | (go_simp; exact Hne.out)
    | 16, ho =>
      cases ho
      refine .inl ⟨by kernel_rfl, fun w hR => ?_⟩
      first | (go_simp; done) | (go_simp; exact ⟨rfl, hR⟩) | (go_simp; exact ⟨Hx.out, hR⟩) | (go_simp; exact Hx.out)
    | i + 17, ho => simp at ho
  case hR16 => exact H1.out.drew
  case fin16 =>
    intro w2 h2
    have H2 := Lib.hid h2
    clear h2 H1
    have c1 := H2.out.cell (g := W.heap.size) (cs := #[.int .i64 33, .slice (some ⟨b, off, none⟩) 3 c]) (by simp) 1 rfl
    obtain ⟨x0, x1, x2⟩ := (HT.out.below H2.out.1).at0
    have H3 := Lib.hid (H2.out.box #[.int .i64 x.1, .int .i64 x.2.1, .int .i64 x.2.2] 31)
    have c0 := H3.out.cell (g := W.heap.size) (cs := #[.int .i64 33, .slice (some ⟨b, off, none⟩) 3 c]) (by simp) 0 rfl
    go_upto_block 0 with (fail)
    clear c1 x0 x1 x2 c0 H2
    have T3 := Lib.hid (HT.out.below H3.out.1)
    have c0 := H3.out.cell (g := W.heap.size) (cs := #[.int .i64 33, .slice (some ⟨b, off, none⟩) 3 c]) (by simp) 0 rfl
    have c1 := H3.out.cell (g := W.heap.size) (cs := #[.int .i64 33, .slice (some ⟨b, off, none⟩) 3 c]) (by simp) 1 rfl
    have a0 := H3.out.cell (g := w2.heap.size) (cs := #[.int .i64 x.1, .int .i64 x.2.1, .int .i64 x.2.2]) (by simp) 0 rfl
    have a1 := H3.out.cell (g := w2.heap.size) (cs := #[.int .i64 x.1, .int .i64 x.2.1, .int .i64 x.2.2]) (by simp) 1 rfl
    have a2 := H3.out.cell (g := w2.heap.size) (cs := #[.int .i64 x.1, .int .i64 x.2.1, .int .i64 x.2.2]) (by simp) 2 rfl
    go_wp2_with fail
    refine (calc_any 33 x [y, z] b off c _ (by simp) T3.out).mono ?_
    rintro e w4 ⟨rfl, h⟩
    have H4 := Lib.hid ((H3.out).below h)
    clear h H3 c0 c1 a0 a1 a2
    go_wp2_with fail
    go_ret
    exact ⟨rfl, H4.out.1⟩
set_option maxHeartbeats 8000000 in
theorem scoil_34 (x y z : Tri) (b off c : Nat) (W : World) (hT : Trip W b off [x, y, z]) :
    Calls Tryd.prog 8 #[.agg #[.int .i64 34, .slice (some ⟨b, off, none⟩) 3 c]] W fun e w' => e = .returned (.bool (calcB 34 x [y, z])) ∧ Below W.heap.size W w' := by
  have Har := Lib.hid (show arity 34 = 3 by decide)
  have HT := Lib.hid hT
  clear hT
  have H1 := Lib.hid (Hx.box (Hx.nil (Below.refl W.heap.size W)) #[.int .i64 34, .slice (some ⟨b, off, none⟩) 3 c] 25)
  go_enter Tryd.func8, Tryd.ntmps8
  go_wp2_with fail
  refine wp_region_vals (R := Hx W [(W.heap.size, #[.int .i64 34, .slice (some ⟨b, off, none⟩) 3 c])]) (aa := ?aa17) [(4, .pointer (some ⟨W.heap.size, 0, none⟩)), (5, .int .i64 34), (6, .bool false), (7, .bool false), (8, .pointer (some ⟨W.heap.size, 0, none⟩)), (9, .int .i64 34), (10, .bool false), (11, .bool false), (12, .bool false), (13, .pointer (some ⟨W.heap.size, 1, none⟩)), (14, .slice (some ⟨b, off, none⟩) 3 c), (15, .int .i64 3), (16, .pointer (some ⟨W.heap.size, 0, none⟩)), (17, .int .i64 34), (18, .int .i64 3), (19, .bool false), (20, .bool false)] ?hL17 (by kernel_rfl) ?hv17 ?hD17 ?hR17 ?hdo17 ?fin17
  case hL17 =>
    simp only [putD, Act.put]
    go_simp
    rfl
  case hv17 => kernel_rfl
  case hD17 => kernel_rfl
  case hdo17 =>
    intro i o ho
    match i, ho with
    | 0, ho =>
      cases ho
      refine .inl ⟨by kernel_rfl, fun w hR => ?_⟩
      first | (go_simp; done) | (go_simp; exact ⟨rfl, hR⟩) | (go_simp; exact ⟨Hx.out, hR⟩) | (go_simp; exact Hx.out)
    | 1, ho =>
      cases ho
      refine .inl ⟨by kernel_rfl, fun w hR => ?_⟩
      exact ow_hxf _ _ rfl hR (cs := #[.int .i64 34, .slice (some ⟨b, off, none⟩) 3 c]) (by simp) 0 (.int .i64 34) rfl rfl (by decide +kernel) ⟨rfl, hR⟩
    | 2, ho =>
      cases ho
      refine .inl ⟨by kernel_rfl, fun w hR => ?_⟩
      first | (go_simp; done) | (go_simp; exact ⟨rfl, hR⟩) | (go_simp; exact ⟨Hlt.out, hR⟩) | (go_simp; exact Hlt.out)
    | 3, ho =>
      cases ho
      refine .inl ⟨by kernel_rfl, fun w hR => ?_⟩
      first | (go_simp; done) | (go_simp; exact ⟨rfl, hR⟩) | (go_simp; exact ⟨Hlt.out, hR⟩) | (go_simp; exact Hlt.out)
    | 4, ho =>
      cases ho
      refine .inl ⟨by kernel_rfl, fun w hR => ?_⟩
      first | (go_simp; done) | (go_simp; exact ⟨rfl, hR⟩) | (go_simp; exact ⟨Hx.out, hR⟩) | (go_simp; exact Hx.out)
    | 5, ho =>
      cases ho
      refine .inl ⟨by kernel_rfl, fun w hR => ?_⟩
      exact ow_hxf _ _ rfl hR (cs := #[.int .i64 34, .slice (some ⟨b, off, none⟩) 3 c]) (by simp) 0 (.int .i64 34) rfl rfl (by decide +kernel) ⟨rfl, hR⟩
    | 6, ho =>
      cases ho
      refine .inl ⟨by kernel_rfl, fun w hR => ?_⟩
      first | (go_simp; done) | (go_simp; exact ⟨rfl, hR⟩) | (go_simp; exact ⟨Hgt.out, hR⟩) | (go_simp; exact Hgt.out)
    | 7, ho =>
      cases ho
      refine .inl ⟨by kernel_rfl, fun w hR => ?_⟩
      first | (go_simp; done) | (go_simp; exact ⟨rfl, hR⟩) | (go_simp; exact ⟨Hx.out, hR⟩) | (go_simp; exact Hx.out)
    | 8, ho =>
      cases ho
      refine .inl ⟨by kernel_rfl, fun w hR => ?_⟩
      first | (go_simp; done) | (go_simp; exact ⟨rfl, hR⟩) | (go_simp; exact ⟨Hx.out, hR⟩) | (go_simp; exact Hx.out)
    | 9, ho =>
      cases ho
      refine .inl ⟨by kernel_rfl, fun w hR => ?_⟩
      first | (go_simp; done) | (go_simp; exact ⟨rfl, hR⟩) | (go_simp; exact ⟨Hx.out, hR⟩) | (go_simp; exact Hx.out)
    | 10, ho =>
      cases ho
      refine .inl ⟨by kernel_rfl, fun w hR => ?_⟩
      exact ow_hxf _ _ rfl hR (cs := #[.int .i64 34, .slice (some ⟨b, off, none⟩) 3 c]) (by simp) 1 (.slice (some ⟨b, off, none⟩) 3 c) rfl rfl (by decide +kernel) ⟨rfl, hR⟩
    | 11, ho =>
      cases ho
      refine .inl ⟨by kernel_rfl, fun w hR => ?_⟩
      first | (go_simp; done) | (go_simp; exact ⟨rfl, hR⟩) | (go_simp; exact ⟨Hx.out, hR⟩) | (go_simp; exact Hx.out)
    | 12, ho =>
      cases ho
      refine .inl ⟨by kernel_rfl, fun w hR => ?_⟩
      first | (go_simp; done) | (go_simp; exact ⟨rfl, hR⟩) | (go_simp; exact ⟨Hx.out, hR⟩) | (go_simp; exact Hx.out)
    | 13, ho =>
      cases ho
      refine .inl ⟨by kernel_rfl, fun w hR => ?_⟩
      exact ow_hxf _ _ rfl hR (cs := #[.int .i64 34, .slice (some ⟨b, off, none⟩) 3 c]) (by simp) 0 (.int .i64 34) rfl rfl (by decide +kernel) ⟨rfl, hR⟩
    | 14, ho =>
      cases ho
      refine .inl ⟨by kernel_rfl, fun w hR => ?_⟩
      go_simp
      go_wp2_with fail
      refine (arityS_any 34 w).mono ?_
      rintro e w4 ⟨rfl, h5⟩
      rw [Har.out]
      exact ⟨rfl, hR.below h5⟩
    | 15, ho =>
      cases ho
      refine .inl ⟨by kernel_rfl, fun w hR => ?_⟩
      first | (go_simp; done) | (go_simp; exact ⟨rfl, hR⟩) | (go_simp; exact ⟨Hne.out, hR⟩) | (go_simp; exact Hne.out)
    | 16, ho =>
      cases ho
      refine .inl ⟨by kernel_rfl, fun w hR => ?_⟩
      first | (go_simp; done) | (go_simp; exact ⟨rfl, hR⟩) | (go_simp; exact ⟨Hx.out, hR⟩) | (go_simp; exact Hx.out)
    | i + 17, ho => simp at ho
  case hR17 => exact H1.out.drew
  case fin17 =>
    intro w2 h2
    have H2 := Lib.hid h2
    clear h2 H1
    have c1 := H2.out.cell (g := W.heap.size) (cs := #[.int .i64 34, .slice (some ⟨b, off, none⟩) 3 c]) (by simp) 1 rfl
    obtain ⟨x0, x1, x2⟩ := (HT.out.below H2.out.1).at0
    have H3 := Lib.hid (H2.out.box #[.int .i64 x.1, .int .i64 x.2.1, .int .i64 x.2.2] 31)
    have c0 := H3.out.cell (g := W.heap.size) (cs := #[.int .i64 34, .slice (some ⟨b, off, none⟩) 3 c]) (by simp) 0 rfl
    go_upto_block 0 with (fail)
    clear c1 x0 x1 x2 c0 H2
    have T3 := Lib.hid (HT.out.below H3.out.1)
    have c0 := H3.out.cell (g := W.heap.size) (cs := #[.int .i64 34, .slice (some ⟨b, off, none⟩) 3 c]) (by simp) 0 rfl
    have c1 := H3.out.cell (g := W.heap.size) (cs := #[.int .i64 34, .slice (some ⟨b, off, none⟩) 3 c]) (by simp) 1 rfl
    have a0 := H3.out.cell (g := w2.heap.size) (cs := #[.int .i64 x.1, .int .i64 x.2.1, .int .i64 x.2.2]) (by simp) 0 rfl
    have a1 := H3.out.cell (g := w2.heap.size) (cs := #[.int .i64 x.1, .int .i64 x.2.1, .int .i64 x.2.2]) (by simp) 1 rfl
    have a2 := H3.out.cell (g := w2.heap.size) (cs := #[.int .i64 x.1, .int .i64 x.2.1, .int .i64 x.2.2]) (by simp) 2 rfl
    go_wp2_with fail
    refine (calc_any 34 x [y, z] b off c _ (by simp) T3.out).mono ?_
    rintro e w4 ⟨rfl, h⟩
    have H4 := Lib.hid ((H3.out).below h)
    clear h H3 c0 c1 a0 a1 a2
    go_wp2_with fail
    go_ret
    exact ⟨rfl, H4.out.1⟩
set_option maxHeartbeats 8000000 in
theorem scoil_35 (x y z : Tri) (b off c : Nat) (W : World) (hT : Trip W b off [x, y, z]) :
    Calls Tryd.prog 8 #[.agg #[.int .i64 35, .slice (some ⟨b, off, none⟩) 3 c]] W fun e w' => e = .returned (.bool (calcB 35 x [y, z])) ∧ Below W.heap.size W w' := by
  have Har := Lib.hid (show arity 35 = 3 by decide)
  have HT := Lib.hid hT
  clear hT
  have H1 := Lib.hid (Hx.box (Hx.nil (Below.refl W.heap.size W)) #[.int .i64 35, .slice (some ⟨b, off, none⟩) 3 c] 25)
  go_enter Tryd.func8, Tryd.ntmps8
  go_wp2_with fail
  refine wp_region_vals (R := Hx W [(W.heap.size, #[.int .i64 35, .slice (some ⟨b, off, none⟩) 3 c])]) (aa := ?aa18) [(4, .pointer (some ⟨W.heap.size, 0, none⟩)), (5, .int .i64 35), (6, .bool false), (7, .bool false), (8, .pointer (some ⟨W.heap.size, 0, none⟩)), (9, .int .i64 35), (10, .bool false), (11, .bool false), (12, .bool false), (13, .pointer (some ⟨W.heap.size, 1, none⟩)), (14, .slice (some ⟨b, off, none⟩) 3 c), (15, .int .i64 3), (16, .pointer (some ⟨W.heap.size, 0, none⟩)), (17, .int .i64 35), (18, .int .i64 3), (19, .bool false), (20, .bool false)] ?hL18 (by kernel_rfl) ?hv18 ?hD18 ?hR18 ?hdo18 ?fin18
  case hL18 =>
    simp only [putD, Act.put]
    go_simp
    rfl
  case hv18 => kernel_rfl
  case hD18 => kernel_rfl
  case hdo18 =>
    intro i o ho
    match i, ho with
    | 0, ho =>
      cases ho
      refine .inl ⟨by kernel_rfl, fun w hR => ?_⟩
      first | (go_simp; done) | (go_simp; exact ⟨rfl, hR⟩) | (go_simp; exact ⟨Hx.out, hR⟩) | (go_simp; exact Hx.out)
    | 1, ho =>
      cases ho
      refine .inl ⟨by kernel_rfl, fun w hR => ?_⟩
      exact ow_hxf _ _ rfl hR (cs := #[.int .i64 35, .slice (some ⟨b, off, none⟩) 3 c]) (by simp) 0 (.int .i64 35) rfl rfl (by decide +kernel) ⟨rfl, hR⟩
    | 2, ho =>
      cases ho
      refine .inl ⟨by kernel_rfl, fun w hR => ?_⟩
      first | (go_simp; done) | (go_simp; exact ⟨rfl, hR⟩) | (go_simp; exact ⟨Hlt.out, hR⟩) | (go_simp; exact Hlt.out)
    | 3, ho =>
      cases ho
      refine .inl ⟨by kernel_rfl, fun w hR => ?_⟩
      first | (go_simp; done) | (go_simp; exact ⟨rfl, hR⟩) | (go_simp; exact ⟨Hlt.out, hR⟩) | (go_simp; exact Hlt.out)
    | 4, ho =>
      cases ho
      refine .inl ⟨by kernel_rfl, fun w hR => ?_⟩
      first | (go_simp; done) | (go_simp; exact ⟨rfl, hR⟩) | (go_simp; exact ⟨Hx.out, hR⟩) | (go_simp; exact Hx.out)
    | 5, ho =>
      cases ho
      refine .inl ⟨by kernel_rfl, fun w hR => ?_⟩
      exact ow_hxf _ _ rfl hR (cs := #[.int .i64 35, .slice (some ⟨b, off, none⟩) 3 c]) (by simp) 0 (.int .i64 35) rfl rfl (by decide +kernel) ⟨rfl, hR⟩
    | 6, ho =>
      cases ho
      refine .inl ⟨by kernel_rfl, fun w hR => ?_⟩
      first | (go_simp; done) | (go_simp; exact ⟨rfl, hR⟩) | (go_simp; exact ⟨Hgt.out, hR⟩) | (go_simp; exact Hgt.out)
    | 7, ho =>
      cases ho
      refine .inl ⟨by kernel_rfl, fun w hR => ?_⟩
      first | (go_simp; done) | (go_simp; exact ⟨rfl, hR⟩) | (go_simp; exact ⟨Hx.out, hR⟩) | (go_simp; exact Hx.out)
    | 8, ho =>
      cases ho
      refine .inl ⟨by kernel_rfl, fun w hR => ?_⟩
      first | (go_simp; done) | (go_simp; exact ⟨rfl, hR⟩) | (go_simp; exact ⟨Hx.out, hR⟩) | (go_simp; exact Hx.out)
    | 9, ho =>
      cases ho
      refine .inl ⟨by kernel_rfl, fun w hR => ?_⟩
      first | (go_simp; done) | (go_simp; exact ⟨rfl, hR⟩) | (go_simp; exact ⟨Hx.out, hR⟩) | (go_simp; exact Hx.out)
    | 10, ho =>
      cases ho
      refine .inl ⟨by kernel_rfl, fun w hR => ?_⟩
      exact ow_hxf _ _ rfl hR (cs := #[.int .i64 35, .slice (some ⟨b, off, none⟩) 3 c]) (by simp) 1 (.slice (some ⟨b, off, none⟩) 3 c) rfl rfl (by decide +kernel) ⟨rfl, hR⟩
    | 11, ho =>
      cases ho
      refine .inl ⟨by kernel_rfl, fun w hR => ?_⟩
      first | (go_simp; done) | (go_simp; exact ⟨rfl, hR⟩) | (go_simp; exact ⟨Hx.out, hR⟩) | (go_simp; exact Hx.out)
    | 12, ho =>
      cases ho
      refine .inl ⟨by kernel_rfl, fun w hR => ?_⟩
      first | (go_simp; done) | (go_simp; exact ⟨rfl, hR⟩) | (go_simp; exact ⟨Hx.out, hR⟩) | (go_simp; exact Hx.out)
    | 13, ho =>
      cases ho
      refine .inl ⟨by kernel_rfl, fun w hR => ?_⟩
      exact ow_hxf _ _ rfl hR (cs := #[.int .i64 35, .slice (some ⟨b, off, none⟩) 3 c]) (by simp) 0 (.int .i64 35) rfl rfl (by decide +kernel) ⟨rfl, hR⟩
    | 14, ho =>
      cases ho
      refine .inl ⟨by kernel_rfl, fun w hR => ?_⟩
      go_simp
      go_wp2_with fail
      refine (arityS_any 35 w).mono ?_
      rintro e w4 ⟨rfl, h5⟩
      rw [Har.out]
      exact ⟨rfl, hR.below h5⟩
    | 15, ho =>
      cases ho
      refine .inl ⟨by kernel_rfl, fun w hR => ?_⟩
      first | (go_simp; done) | (go_simp; exact ⟨rfl, hR⟩) | (go_simp; exact ⟨Hne.out, hR⟩) | (go_simp; exact Hne.out)
    | 16, ho =>
      cases ho
      refine .inl ⟨by kernel_rfl, fun w hR => ?_⟩
      first | (go_simp; done) | (go_simp; exact ⟨rfl, hR⟩) | (go_simp; exact ⟨Hx.out, hR⟩) | (go_simp; exact Hx.out)
    | i + 17, ho => simp at ho
  case hR18 => exact H1.out.drew
  case fin18 =>
    intro w2 h2
    have H2 := Lib.hid h2
    clear h2 H1
    have c1 := H2.out.cell (g := W.heap.size) (cs := #[.int .i64 35, .slice (some ⟨b, off, none⟩) 3 c]) (by simp) 1 rfl
    obtain ⟨x0, x1, x2⟩ := (HT.out.below H2.out.1).at0
    have H3 := Lib.hid (H2.out.box #[.int .i64 x.1, .int .i64 x.2.1, .int .i64 x.2.2] 31)
    have c0 := H3.out.cell (g := W.heap.size) (cs := #[.int .i64 35, .slice (some ⟨b, off, none⟩) 3 c]) (by simp) 0 rfl
    go_upto_block 0 with (fail)
    clear c1 x0 x1 x2 c0 H2
    have T3 := Lib.hid (HT.out.below H3.out.1)
    have c0 := H3.out.cell (g := W.heap.size) (cs := #[.int .i64 35, .slice (some ⟨b, off, none⟩) 3 c]) (by simp) 0 rfl
    have c1 := H3.out.cell (g := W.heap.size) (cs := #[.int .i64 35, .slice (some ⟨b, off, none⟩) 3 c]) (by simp) 1 rfl
    have a0 := H3.out.cell (g := w2.heap.size) (cs := #[.int .i64 x.1, .int .i64 x.2.1, .int .i64 x.2.2]) (by simp) 0 rfl
    have a1 := H3.out.cell (g := w2.heap.size) (cs := #[.int .i64 x.1, .int .i64 x.2.1, .int .i64 x.2.2]) (by simp) 1 rfl
    have a2 := H3.out.cell (g := w2.heap.size) (cs := #[.int .i64 x.1, .int .i64 x.2.1, .int .i64 x.2.2]) (by simp) 2 rfl
    go_wp2_with fail
    refine (calc_any 35 x [y, z] b off c _ (by simp) T3.out).mono ?_
    rintro e w4 ⟨rfl, h⟩
    have H4 := Lib.hid ((H3.out).below h)
    clear h H3 c0 c1 a0 a1 a2
    go_wp2_with fail
    go_ret
    exact ⟨rfl, H4.out.1⟩
set_option maxHeartbeats 8000000 in
theorem scoil_36 (x y : Tri) (b off c : Nat) (W : World) (hT : Trip W b off [x, y]) :
    Calls Tryd.prog 8 #[.agg #[.int .i64 36, .slice (some ⟨b, off, none⟩) 2 c]] W fun e w' => e = .returned (.bool (tKis x [10, 10] && tWhole y)) ∧ Below W.heap.size W w' := by
  have Har := Lib.hid (show arity 36 = 2 by decide)
  have HT := Lib.hid hT
  clear hT
  have H1 := Lib.hid (Hx.box (Hx.nil (Below.refl W.heap.size W)) #[.int .i64 36, .slice (some ⟨b, off, none⟩) 2 c] 25)
  go_enter Tryd.func8, Tryd.ntmps8
  go_wp2_with fail
  refine wp_region_vals (R := Hx W [(W.heap.size, #[.int .i64 36, .slice (some ⟨b, off, none⟩) 2 c])]) (aa := ?aa19) [(4, .pointer (some ⟨W.heap.size, 0, none⟩)), (5, .int .i64 36), (6, .bool false), (7, .bool false), (8, .pointer (some ⟨W.heap.size, 0, none⟩)), (9, .int .i64 36), (10, .bool false), (11, .bool false), (12, .bool false), (13, .pointer (some ⟨W.heap.size, 1, none⟩)), (14, .slice (some ⟨b, off, none⟩) 2 c), (15, .int .i64 2), (16, .pointer (some ⟨W.heap.size, 0, none⟩)), (17, .int .i64 36), (18, .int .i64 2), (19, .bool false), (20, .bool false)] ?hL19 (by kernel_rfl) ?hv19 ?hD19 ?hR19 ?hdo19 ?fin19
  case hL19 =>
    simp only [putD, Act.put]
    go_simp
    rfl
  case hv19 => kernel_rfl
  case hD19 => kernel_rfl
  case hdo19 =>
    intro i o ho
    match i, ho with
    | 0, ho =>
      cases ho
      refine .inl ⟨by kernel_rfl, fun w hR => ?_⟩
      first | (go_simp; done) | (go_simp; exact ⟨rfl, hR⟩) | (go_simp; exact ⟨Hx.out, hR⟩) | (go_simp; exact Hx.out)
    | 1, ho =>
      cases ho
      refine .inl ⟨by kernel_rfl, fun w hR => ?_⟩
      exact ow_hxf _ _ rfl hR (cs := #[.int .i64 36, .slice (some ⟨b, off, none⟩) 2 c]) (by simp) 0 (.int .i64 36) rfl rfl (by decide +kernel) ⟨rfl, hR⟩
    | 2, ho =>
      cases ho
      refine .inl ⟨by kernel_rfl, fun w hR => ?_⟩
      first | (go_simp; done) | (go_simp; exact ⟨rfl, hR⟩) | (go_simp; exact ⟨Hlt.out, hR⟩) | (go_simp; exact Hlt.out)
    | 3, ho =>
      cases ho
      refine .inl ⟨by kernel_rfl, fun w hR => ?_⟩
      first | (go_simp; done) | (go_simp; exact ⟨rfl, hR⟩) | (go_simp; exact ⟨Hlt.out, hR⟩) | (go_simp; exact Hlt.out)
    | 4, ho =>
      cases ho
      refine .inl ⟨by kernel_rfl, fun w hR => ?_⟩
      first | (go_simp; done) | (go_simp; exact ⟨rfl, hR⟩) | (go_simp; exact ⟨Hx.out, hR⟩) | (go_simp; exact Hx.out)
    | 5, ho =>
      cases ho
      refine .inl ⟨by kernel_rfl, fun w hR => ?_⟩
      exact ow_hxf _ _ rfl hR (cs := #[.int .i64 36, .slice (some ⟨b, off, none⟩) 2 c]) (by simp) 0 (.int .i64 36) rfl rfl (by decide +kernel) ⟨rfl, hR⟩
    | 6, ho =>
      cases ho
      refine .inl ⟨by kernel_rfl, fun w hR => ?_⟩
      first | (go_simp; done) | (go_simp; exact ⟨rfl, hR⟩) | (go_simp; exact ⟨Hgt.out, hR⟩) | (go_simp; exact Hgt.out)
    | 7, ho =>
      cases ho
      refine .inl ⟨by kernel_rfl, fun w hR => ?_⟩
      first | (go_simp; done) | (go_simp; exact ⟨rfl, hR⟩) | (go_simp; exact ⟨Hx.out, hR⟩) | (go_simp; exact Hx.out)
    | 8, ho =>
      cases ho
      refine .inl ⟨by kernel_rfl, fun w hR => ?_⟩
      first | (go_simp; done) | (go_simp; exact ⟨rfl, hR⟩) | (go_simp; exact ⟨Hx.out, hR⟩) | (go_simp; exact Hx.out)
    | 9, ho =>
      cases ho
      refine .inl ⟨by kernel_rfl, fun w hR => ?_⟩
      first | (go_simp; done) | (go_simp; exact ⟨rfl, hR⟩) | (go_simp; exact ⟨Hx.out, hR⟩) | (go_simp; exact Hx.out)
    | 10, ho =>
      cases ho
      refine .inl ⟨by kernel_rfl, fun w hR => ?_⟩
      exact ow_hxf _ _ rfl hR (cs := #[.int .i64 36, .slice (some ⟨b, off, none⟩) 2 c]) (by simp) 1 (.slice (some ⟨b, off, none⟩) 2 c) rfl rfl (by decide +kernel) ⟨rfl, hR⟩
    | 11, ho =>
      cases ho
      refine .inl ⟨by kernel_rfl, fun w hR => ?_⟩
      first | (go_simp; done) | (go_simp; exact ⟨rfl, hR⟩) | (go_simp; exact ⟨Hx.out, hR⟩) | (go_simp; exact Hx.out)
    | 12, ho =>
      cases ho
      refine .inl ⟨by kernel_rfl, fun w hR => ?_⟩
      first | (go_simp; done) | (go_simp; exact ⟨rfl, hR⟩) | (go_simp; exact ⟨Hx.out, hR⟩) | (go_simp; exact Hx.out)
    | 13, ho =>
      cases ho
      refine .inl ⟨by kernel_rfl, fun w hR => ?_⟩
      exact ow_hxf _ _ rfl hR (cs := #[.int .i64 36, .slice (some ⟨b, off, none⟩) 2 c]) (by simp) 0 (.int .i64 36) rfl rfl (by decide +kernel) ⟨rfl, hR⟩
    | 14, ho =>
      cases ho
      refine .inl ⟨by kernel_rfl, fun w hR => ?_⟩
      go_simp
      go_wp2_with fail
      refine (arityS_any 36 w).mono ?_
      rintro e w4 ⟨rfl, h5⟩
      rw [Har.out]
      exact ⟨rfl, hR.below h5⟩
    | 15, ho =>
      cases ho
      refine .inl ⟨by kernel_rfl, fun w hR => ?_⟩
      first | (go_simp; done) | (go_simp; exact ⟨rfl, hR⟩) | (go_simp; exact ⟨Hne.out, hR⟩) | (go_simp; exact Hne.out)
    | 16, ho =>
      cases ho
      refine .inl ⟨by kernel_rfl, fun w hR => ?_⟩
      first | (go_simp; done) | (go_simp; exact ⟨rfl, hR⟩) | (go_simp; exact ⟨Hx.out, hR⟩) | (go_simp; exact Hx.out)
    | i + 17, ho => simp at ho
  case hR19 => exact H1.out.drew
  case fin19 =>
    intro w2 h2
    have H2 := Lib.hid h2
    clear h2 H1
    have c1 := H2.out.cell (g := W.heap.size) (cs := #[.int .i64 36, .slice (some ⟨b, off, none⟩) 2 c]) (by simp) 1 rfl
    obtain ⟨x0, x1, x2⟩ := (HT.out.below H2.out.1).at0
    have H3 := Lib.hid (H2.out.box #[.int .i64 x.1, .int .i64 x.2.1, .int .i64 x.2.2] 31)
    have c0 := H3.out.cell (g := W.heap.size) (cs := #[.int .i64 36, .slice (some ⟨b, off, none⟩) 2 c]) (by simp) 0 rfl
    go_upto_block 0 with (fail)
    clear c1 x0 x1 x2 c0 H2
    cases hb : tKis x [10, 10] with
    | false =>
      have Hb3 := Lib.hid hb
      clear hb
      have T3 := Lib.hid (HT.out.below H3.out.1)
      have c0 := H3.out.cell (g := W.heap.size) (cs := #[.int .i64 36, .slice (some ⟨b, off, none⟩) 2 c]) (by simp) 0 rfl
      have c1 := H3.out.cell (g := W.heap.size) (cs := #[.int .i64 36, .slice (some ⟨b, off, none⟩) 2 c]) (by simp) 1 rfl
      have a0 := H3.out.cell (g := w2.heap.size) (cs := #[.int .i64 x.1, .int .i64 x.2.1, .int .i64 x.2.2]) (by simp) 0 rfl
      have a1 := H3.out.cell (g := w2.heap.size) (cs := #[.int .i64 x.1, .int .i64 x.2.1, .int .i64 x.2.2]) (by simp) 1 rfl
      have a2 := H3.out.cell (g := w2.heap.size) (cs := #[.int .i64 x.1, .int .i64 x.2.1, .int .i64 x.2.2]) (by simp) 2 rfl
      go_wp2_with fail
      refine (kind_any x.1 x.2.1 x.2.2 10 10 _).mono ?_
      rw [show kis x.1 x.2.1 x.2.2 [10, 10] = false from Hb3.out]
      rintro e w4 ⟨rfl, h⟩
      have H4 := Lib.hid ((H3.out).below h)
      clear h H3 c0 c1 a0 a1 a2
      go_wp2_with fail
      go_ret
      exact ⟨kit.ret_bool (by rw [Hb3.out]; try rfl), H4.out.1⟩
    | true =>
      have Hb3 := Lib.hid hb
      clear hb
      have T3 := Lib.hid (HT.out.below H3.out.1)
      have c0 := H3.out.cell (g := W.heap.size) (cs := #[.int .i64 36, .slice (some ⟨b, off, none⟩) 2 c]) (by simp) 0 rfl
      have c1 := H3.out.cell (g := W.heap.size) (cs := #[.int .i64 36, .slice (some ⟨b, off, none⟩) 2 c]) (by simp) 1 rfl
      have a0 := H3.out.cell (g := w2.heap.size) (cs := #[.int .i64 x.1, .int .i64 x.2.1, .int .i64 x.2.2]) (by simp) 0 rfl
      have a1 := H3.out.cell (g := w2.heap.size) (cs := #[.int .i64 x.1, .int .i64 x.2.1, .int .i64 x.2.2]) (by simp) 1 rfl
      have a2 := H3.out.cell (g := w2.heap.size) (cs := #[.int .i64 x.1, .int .i64 x.2.1, .int .i64 x.2.2]) (by simp) 2 rfl
      go_wp2_with fail
      refine (kind_any x.1 x.2.1 x.2.2 10 10 _).mono ?_
      rw [show kis x.1 x.2.1 x.2.2 [10, 10] = true from Hb3.out]
      rintro e w4 ⟨rfl, h⟩
      have H4 := Lib.hid ((H3.out).below h)
      clear h H3 c0 c1 a0 a1 a2
      cases hb : tWhole y with
      | false =>
        have Hb4 := Lib.hid hb
        clear hb
        have T4 := Lib.hid (HT.out.below H4.out.1)
        have c0 := H4.out.cell (g := W.heap.size) (cs := #[.int .i64 36, .slice (some ⟨b, off, none⟩) 2 c]) (by simp) 0 rfl
        have c1 := H4.out.cell (g := W.heap.size) (cs := #[.int .i64 36, .slice (some ⟨b, off, none⟩) 2 c]) (by simp) 1 rfl
        have a0 := H4.out.cell (g := w2.heap.size) (cs := #[.int .i64 x.1, .int .i64 x.2.1, .int .i64 x.2.2]) (by simp) 0 rfl
        have a1 := H4.out.cell (g := w2.heap.size) (cs := #[.int .i64 x.1, .int .i64 x.2.1, .int .i64 x.2.2]) (by simp) 1 rfl
        have a2 := H4.out.cell (g := w2.heap.size) (cs := #[.int .i64 x.1, .int .i64 x.2.1, .int .i64 x.2.2]) (by simp) 2 rfl
        obtain ⟨y0, y1, y2⟩ := T4.out.at1
        go_wp2_with fail
        refine (spec_isWhole y.1 y.2.1 y.2.2 _).mono ?_
        rw [show isWhole y.1 y.2.1 y.2.2 = false from Hb4.out]
        rintro e w5 ⟨rfl, h⟩
        have H5 := Lib.hid ((H4.out).below h)
        clear h H4 c0 c1 a0 a1 a2 y0 y1 y2
        go_wp2_with fail
        go_ret
        exact ⟨kit.ret_bool (by rw [Hb3.out, Hb4.out]; try rfl), H5.out.1⟩
      | true =>
        have Hb4 := Lib.hid hb
        clear hb
        have T4 := Lib.hid (HT.out.below H4.out.1)
        have c0 := H4.out.cell (g := W.heap.size) (cs := #[.int .i64 36, .slice (some ⟨b, off, none⟩) 2 c]) (by simp) 0 rfl
        have c1 := H4.out.cell (g := W.heap.size) (cs := #[.int .i64 36, .slice (some ⟨b, off, none⟩) 2 c]) (by simp) 1 rfl
        have a0 := H4.out.cell (g := w2.heap.size) (cs := #[.int .i64 x.1, .int .i64 x.2.1, .int .i64 x.2.2]) (by simp) 0 rfl
        have a1 := H4.out.cell (g := w2.heap.size) (cs := #[.int .i64 x.1, .int .i64 x.2.1, .int .i64 x.2.2]) (by simp) 1 rfl
        have a2 := H4.out.cell (g := w2.heap.size) (cs := #[.int .i64 x.1, .int .i64 x.2.1, .int .i64 x.2.2]) (by simp) 2 rfl
        obtain ⟨y0, y1, y2⟩ := T4.out.at1
        go_wp2_with fail
        refine (spec_isWhole y.1 y.2.1 y.2.2 _).mono ?_
        rw [show isWhole y.1 y.2.1 y.2.2 = true from Hb4.out]
        rintro e w5 ⟨rfl, h⟩
        have H5 := Lib.hid ((H4.out).below h)
        clear h H4 c0 c1 a0 a1 a2 y0 y1 y2
        go_wp2_with fail
        go_ret
        exact ⟨kit.ret_bool (by rw [Hb3.out, Hb4.out]; try rfl), H5.out.1⟩
set_option maxHeartbeats 8000000 in
theorem scoil_37 (x y : Tri) (b off c : Nat) (W : World) (hT : Trip W b off [x, y]) :
    Calls Tryd.prog 8 #[.agg #[.int .i64 37, .slice (some ⟨b, off, none⟩) 2 c]] W fun e w' => e = .returned (.bool (tKis x [9, 9] && tReal y)) ∧ Below W.heap.size W w' := by
  have Har := Lib.hid (show arity 37 = 2 by decide)
  have HT := Lib.hid hT
  clear hT
  have H1 := Lib.hid (Hx.box (Hx.nil (Below.refl W.heap.size W)) #[.int .i64 37, .slice (some ⟨b, off, none⟩) 2 c] 25)
  go_enter Tryd.func8, Tryd.ntmps8
  go_wp2_with fail
  refine wp_region_vals (R := Hx W [(W.heap.size, #[.int .i64 37, .slice (some ⟨b, off, none⟩) 2 c])]) (aa := ?aa20) [(4, .pointer (some ⟨W.heap.size, 0, none⟩)), (5, .int .i64 37), (6, .bool false), (7, .bool false), (8, .pointer (some ⟨W.heap.size, 0, none⟩)), (9, .int .i64 37), (10, .bool false), (11, .bool false), (12, .bool false), (13, .pointer (some ⟨W.heap.size, 1, none⟩)), (14, .slice (some ⟨b, off, none⟩) 2 c), (15, .int .i64 2), (16, .pointer (some ⟨W.heap.size, 0, none⟩)), (17, .int .i64 37), (18, .int .i64 2), (19, .bool false), (20, .bool false)] ?hL20 (by kernel_rfl) ?hv20 ?hD20 ?hR20 ?hdo20 ?fin20
  case hL20 =>
    simp only [putD, Act.put]
    go_simp
    rfl
  case hv20 => kernel_rfl
  case hD20 => kernel_rfl
  case hdo20 =>
    intro i o ho
    match i, ho with
    | 0, ho =>
      cases ho
      refine .inl ⟨by kernel_rfl, fun w hR => ?_⟩
      first | (go_simp; done) | (go_simp; exact ⟨rfl, hR⟩) | (go_simp; exact ⟨Hx.out, hR⟩) | (go_simp; exact Hx.out)
    | 1, ho =>
      cases ho
      refine .inl ⟨by kernel_rfl, fun w hR => ?_⟩
      exact ow_hxf _ _ rfl hR (cs := #[.int .i64 37, .slice (some ⟨b, off, none⟩) 2 c]) (by simp) 0 (.int .i64 37) rfl rfl (by decide +kernel) ⟨rfl, hR⟩
    | 2, ho =>
      cases ho
      refine .inl ⟨by kernel_rfl, fun w hR => ?_⟩
      first | (go_simp; done) | (go_simp; exact ⟨rfl, hR⟩) | (go_simp; exact ⟨Hlt.out, hR⟩) | (go_simp; exact Hlt.out)
    | 3, ho =>
      cases ho
      refine .inl ⟨by kernel_rfl, fun w hR => ?_⟩
      first | (go_simp; done) | (go_simp; exact ⟨rfl, hR⟩) | (go_simp; exact ⟨Hlt.out, hR⟩) | (go_simp; exact Hlt.out)
    | 4, ho =>
      cases ho
      refine .inl ⟨by kernel_rfl, fun w hR => ?_⟩
      first | (go_simp; done) | (go_simp; exact ⟨rfl, hR⟩) | (go_simp; exact ⟨Hx.out, hR⟩) | (go_simp; exact Hx.out)
    | 5, ho =>
      cases ho
      refine .inl ⟨by kernel_rfl, fun w hR => ?_⟩
      exact ow_hxf _ _ rfl hR (cs := #[.int .i64 37, .slice (some ⟨b, off, none⟩) 2 c]) (by simp) 0 (.int .i64 37) rfl rfl (by decide +kernel) ⟨rfl, hR⟩
    | 6, ho =>
      cases ho
      refine .inl ⟨by kernel_rfl, fun w hR => ?_⟩
      first | (go_simp; done) | (go_simp; exact ⟨rfl, hR⟩) | (go_simp; exact ⟨Hgt.out, hR⟩) | (go_simp; exact Hgt.out)
    | 7, ho =>
      cases ho
      refine .inl ⟨by kernel_rfl, fun w hR => ?_⟩
      first | (go_simp; done) | (go_simp; exact ⟨rfl, hR⟩) | (go_simp; exact ⟨Hx.out, hR⟩) | (go_simp; exact Hx.out)
    | 8, ho =>
      cases ho
      refine .inl ⟨by kernel_rfl, fun w hR => ?_⟩
      first | (go_simp; done) | (go_simp; exact ⟨rfl, hR⟩) | (go_simp; exact ⟨Hx.out, hR⟩) | (go_simp; exact Hx.out)
    | 9, ho =>
      cases ho
      refine .inl ⟨by kernel_rfl, fun w hR => ?_⟩
      first | (go_simp; done) | (go_simp; exact ⟨rfl, hR⟩) | (go_simp; exact ⟨Hx.out, hR⟩) | (go_simp; exact Hx.out)
    | 10, ho =>
      cases ho
      refine .inl ⟨by kernel_rfl, fun w hR => ?_⟩
      exact ow_hxf _ _ rfl hR (cs := #[.int .i64 37, .slice (some ⟨b, off, none⟩) 2 c]) (by simp) 1 (.slice (some ⟨b, off, none⟩) 2 c) rfl rfl (by decide +kernel) ⟨rfl, hR⟩
    | 11, ho =>
      cases ho
      refine .inl ⟨by kernel_rfl, fun w hR => ?_⟩
      first | (go_simp; done) | (go_simp; exact ⟨rfl, hR⟩) | (go_simp; exact ⟨Hx.out, hR⟩) | (go_simp; exact Hx.out)
    | 12, ho =>
      cases ho
      refine .inl ⟨by kernel_rfl, fun w hR => ?_⟩
      first | (go_simp; done) | (go_simp; exact ⟨rfl, hR⟩) | (go_simp; exact ⟨Hx.out, hR⟩) | (go_simp; exact Hx.out)
    | 13, ho =>
      cases ho
      refine .inl ⟨by kernel_rfl, fun w hR => ?_⟩
      exact ow_hxf _ _ rfl hR (cs := #[.int .i64 37, .slice (some ⟨b, off, none⟩) 2 c]) (by simp) 0 (.int .i64 37) rfl rfl (by decide +kernel) ⟨rfl, hR⟩
    | 14, ho =>
      cases ho
      refine .inl ⟨by kernel_rfl, fun w hR => ?_⟩
      go_simp
      go_wp2_with fail
      refine (arityS_any 37 w).mono ?_
      rintro e w4 ⟨rfl, h5⟩
      rw [Har.out]
      exact ⟨rfl, hR.below h5⟩
    | 15, ho =>
      cases ho
      refine .inl ⟨by kernel_rfl, fun w hR => ?_⟩
      first | (go_simp; done) | (go_simp; exact ⟨rfl, hR⟩) | (go_simp; exact ⟨Hne.out, hR⟩) | (go_simp; exact Hne.out)
    | 16, ho =>
      cases ho
      refine .inl ⟨by kernel_rfl, fun w hR => ?_⟩
      first | (go_simp; done) | (go_simp; exact ⟨rfl, hR⟩) | (go_simp; exact ⟨Hx.out, hR⟩) | (go_simp; exact Hx.out)
    | i + 17, ho => simp at ho
  case hR20 => exact H1.out.drew
  case fin20 =>
    intro w2 h2
    have H2 := Lib.hid h2
    clear h2 H1
    have c1 := H2.out.cell (g := W.heap.size) (cs := #[.int .i64 37, .slice (some ⟨b, off, none⟩) 2 c]) (by simp) 1 rfl
    obtain ⟨x0, x1, x2⟩ := (HT.out.below H2.out.1).at0
    have H3 := Lib.hid (H2.out.box #[.int .i64 x.1, .int .i64 x.2.1, .int .i64 x.2.2] 31)
    have c0 := H3.out.cell (g := W.heap.size) (cs := #[.int .i64 37, .slice (some ⟨b, off, none⟩) 2 c]) (by simp) 0 rfl
    go_upto_block 0 with (fail)
    clear c1 x0 x1 x2 c0 H2
    cases hb : tKis x [9, 9] with
    | false =>
      have Hb3 := Lib.hid hb
      clear hb
      have T3 := Lib.hid (HT.out.below H3.out.1)
      have c0 := H3.out.cell (g := W.heap.size) (cs := #[.int .i64 37, .slice (some ⟨b, off, none⟩) 2 c]) (by simp) 0 rfl
      have c1 := H3.out.cell (g := W.heap.size) (cs := #[.int .i64 37, .slice (some ⟨b, off, none⟩) 2 c]) (by simp) 1 rfl
      have a0 := H3.out.cell (g := w2.heap.size) (cs := #[.int .i64 x.1, .int .i64 x.2.1, .int .i64 x.2.2]) (by simp) 0 rfl
      have a1 := H3.out.cell (g := w2.heap.size) (cs := #[.int .i64 x.1, .int .i64 x.2.1, .int .i64 x.2.2]) (by simp) 1 rfl
      have a2 := H3.out.cell (g := w2.heap.size) (cs := #[.int .i64 x.1, .int .i64 x.2.1, .int .i64 x.2.2]) (by simp) 2 rfl
      go_wp2_with fail
      refine (kind_any x.1 x.2.1 x.2.2 9 9 _).mono ?_
      rw [show kis x.1 x.2.1 x.2.2 [9, 9] = false from Hb3.out]
      rintro e w4 ⟨rfl, h⟩
      have H4 := Lib.hid ((H3.out).below h)
      clear h H3 c0 c1 a0 a1 a2
      go_wp2_with fail
      go_ret
      exact ⟨kit.ret_bool (by rw [Hb3.out]; try rfl), H4.out.1⟩
    | true =>
      have Hb3 := Lib.hid hb
      clear hb
      have T3 := Lib.hid (HT.out.below H3.out.1)
      have c0 := H3.out.cell (g := W.heap.size) (cs := #[.int .i64 37, .slice (some ⟨b, off, none⟩) 2 c]) (by simp) 0 rfl
      have c1 := H3.out.cell (g := W.heap.size) (cs := #[.int .i64 37, .slice (some ⟨b, off, none⟩) 2 c]) (by simp) 1 rfl
      have a0 := H3.out.cell (g := w2.heap.size) (cs := #[.int .i64 x.1, .int .i64 x.2.1, .int .i64 x.2.2]) (by simp) 0 rfl
      have a1 := H3.out.cell (g := w2.heap.size) (cs := #[.int .i64 x.1, .int .i64 x.2.1, .int .i64 x.2.2]) (by simp) 1 rfl
      have a2 := H3.out.cell (g := w2.heap.size) (cs := #[.int .i64 x.1, .int .i64 x.2.1, .int .i64 x.2.2]) (by simp) 2 rfl
      go_wp2_with fail
      refine (kind_any x.1 x.2.1 x.2.2 9 9 _).mono ?_
      rw [show kis x.1 x.2.1 x.2.2 [9, 9] = true from Hb3.out]
      rintro e w4 ⟨rfl, h⟩
      have H4 := Lib.hid ((H3.out).below h)
      clear h H3 c0 c1 a0 a1 a2
      cases hb : tReal y with
      | false =>
        have Hb4 := Lib.hid hb
        clear hb
        have T4 := Lib.hid (HT.out.below H4.out.1)
        have c0 := H4.out.cell (g := W.heap.size) (cs := #[.int .i64 37, .slice (some ⟨b, off, none⟩) 2 c]) (by simp) 0 rfl
        have c1 := H4.out.cell (g := W.heap.size) (cs := #[.int .i64 37, .slice (some ⟨b, off, none⟩) 2 c]) (by simp) 1 rfl
        have a0 := H4.out.cell (g := w2.heap.size) (cs := #[.int .i64 x.1, .int .i64 x.2.1, .int .i64 x.2.2]) (by simp) 0 rfl
        have a1 := H4.out.cell (g := w2.heap.size) (cs := #[.int .i64 x.1, .int .i64 x.2.1, .int .i64 x.2.2]) (by simp) 1 rfl
        have a2 := H4.out.cell (g := w2.heap.size) (cs := #[.int .i64 x.1, .int .i64 x.2.1, .int .i64 x.2.2]) (by simp) 2 rfl
        obtain ⟨y0, y1, y2⟩ := T4.out.at1
        go_wp2_with fail
        refine (spec_isReal y.1 y.2.1 y.2.2 _).mono ?_
        rw [show isReal y.1 y.2.1 y.2.2 = false from Hb4.out]
        rintro e w5 ⟨rfl, h⟩
        have H5 := Lib.hid ((H4.out).below h)
        clear h H4 c0 c1 a0 a1 a2 y0 y1 y2
        go_wp2_with fail
        go_ret
        exact ⟨kit.ret_bool (by rw [Hb3.out, Hb4.out]; try rfl), H5.out.1⟩
      | true =>
        have Hb4 := Lib.hid hb
        clear hb
        have T4 := Lib.hid (HT.out.below H4.out.1)
        have c0 := H4.out.cell (g := W.heap.size) (cs := #[.int .i64 37, .slice (some ⟨b, off, none⟩) 2 c]) (by simp) 0 rfl
        have c1 := H4.out.cell (g := W.heap.size) (cs := #[.int .i64 37, .slice (some ⟨b, off, none⟩) 2 c]) (by simp) 1 rfl
        have a0 := H4.out.cell (g := w2.heap.size) (cs := #[.int .i64 x.1, .int .i64 x.2.1, .int .i64 x.2.2]) (by simp) 0 rfl
        have a1 := H4.out.cell (g := w2.heap.size) (cs := #[.int .i64 x.1, .int .i64 x.2.1, .int .i64 x.2.2]) (by simp) 1 rfl
        have a2 := H4.out.cell (g := w2.heap.size) (cs := #[.int .i64 x.1, .int .i64 x.2.1, .int .i64 x.2.2]) (by simp) 2 rfl
        obtain ⟨y0, y1, y2⟩ := T4.out.at1
        go_wp2_with fail
        refine (spec_isReal y.1 y.2.1 y.2.2 _).mono ?_
        rw [show isReal y.1 y.2.1 y.2.2 = true from Hb4.out]
        rintro e w5 ⟨rfl, h⟩
        have H5 := Lib.hid ((H4.out).below h)
        clear h H4 c0 c1 a0 a1 a2 y0 y1 y2
        go_wp2_with fail
        go_ret
        exact ⟨kit.ret_bool (by rw [Hb3.out, Hb4.out]; try rfl), H5.out.1⟩
end Go.Proofs.YtgmdpgchffapoaaDoor.dev
