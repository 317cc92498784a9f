/-
  'spec.ElemIsCoil', number by number.
  Conditions: the operands' cells hold them.
-/
import Derived.Test.YtgmdpgchffapoaaDoorElemQ
namespace Go.Proofs.YtgmdpgchffapoaaDoor.dev
open Go Go.RowKit Go.Proofs.YtgmdpgchffapoaaDoor.part
set_option linter.unusedVariables false
set_option linter.unusedSimpArgs false
set_option maxRecDepth 100000

set_option maxHeartbeats 8000000 in
theorem scoil_21 (x : Tri) (b off c : Nat) (W : World) (hT : Trip W b off [x]) :
    Calls Tryd.prog 8 #[.agg #[.int .i64 21, .slice (some ⟨b, off, none⟩) 1 c]] W fun e w' => e = .returned (.bool (tKis x [2, 3])) ∧ Below W.heap.size W w' := by
  have Har := Lib.hid (show arity 21 = 1 by decide)
  have HT := Lib.hid hT
  clear hT
  have H1 := Lib.hid (Hx.box (Hx.nil (Below.refl W.heap.size W)) #[.int .i64 21, .slice (some ⟨b, off, none⟩) 1 c] 25)
  go_enter Tryd.func8, Tryd.ntmps8
  go_wp2_with fail
  refine wp_region_vals (R := Hx W [(W.heap.size, #[.int .i64 21, .slice (some ⟨b, off, none⟩) 1 c])]) (aa := ?aa4) [(4, .pointer (some ⟨W.heap.size, 0, none⟩)), (5, .int .i64 21), (6, .bool false), (7, .bool false), (8, .pointer (some ⟨W.heap.size, 0, none⟩)), (9, .int .i64 21), (10, .bool false), (11, .bool false), (12, .bool false), (13, .pointer (some ⟨W.heap.size, 1, none⟩)), (14, .slice (some ⟨b, off, none⟩) 1 c), (15, .int .i64 1), (16, .pointer (some ⟨W.heap.size, 0, none⟩)), (17, .int .i64 21), (18, .int .i64 1), (19, .bool false), (20, .bool false)] ?hL4 (by kernel_rfl) ?hv4 ?hD4 ?hR4 ?hdo4 ?fin4
  case hL4 =>
    simp only [putD, Act.put]
    go_simp
    rfl
  case hv4 => kernel_rfl
  case hD4 => kernel_rfl
  case hdo4 =>
    intro i o ho
    match i, ho with
    | 0, ho =>
      cases ho
      refine .inl ⟨by kernel_rfl, fun w hR => ?_⟩
      first | (go_simp; done) | (go_simp; exact ⟨rfl, hR⟩) | (go_simp; exact ⟨Hx.out, hR⟩) | (go_simp; exact Hx.out)
    | 1, ho =>
      cases ho
      refine .inl ⟨by kernel_rfl, fun w hR => ?_⟩
      exact ow_hxf _ _ rfl hR (cs := #[.int .i64 21, .slice (some ⟨b, off, none⟩) 1 c]) (by simp) 0 (.int .i64 21) rfl rfl (by decide +kernel) ⟨rfl, hR⟩
    | 2, ho =>
      cases ho
      refine .inl ⟨by kernel_rfl, fun w hR => ?_⟩
      first | (go_simp; done) | (go_simp; exact ⟨rfl, hR⟩) | (go_simp; exact ⟨Hlt.out, hR⟩) | (go_simp; exact Hlt.out)
    | 3, ho =>
      cases ho
      refine .inl ⟨by kernel_rfl, fun w hR => ?_⟩
      first | (go_simp; done) | (go_simp; exact ⟨rfl, hR⟩) | (go_simp; exact ⟨Hlt.out, hR⟩) | (go_simp; exact Hlt.out)
    | 4, ho =>
      cases ho
      refine .inl ⟨by kernel_rfl, fun w hR => ?_⟩
      first | (go_simp; done) | (go_simp; exact ⟨rfl, hR⟩) | (go_simp; exact ⟨Hx.out, hR⟩) | (go_simp; exact Hx.out)
    | 5, ho =>
      cases ho
      refine .inl ⟨by kernel_rfl, fun w hR => ?_⟩
      exact ow_hxf _ _ rfl hR (cs := #[.int .i64 21, .slice (some ⟨b, off, none⟩) 1 c]) (by simp) 0 (.int .i64 21) rfl rfl (by decide +kernel) ⟨rfl, hR⟩
    | 6, ho =>
      cases ho
      refine .inl ⟨by kernel_rfl, fun w hR => ?_⟩
      first | (go_simp; done) | (go_simp; exact ⟨rfl, hR⟩) | (go_simp; exact ⟨Hgt.out, hR⟩) | (go_simp; exact Hgt.out)
    | 7, ho =>
      cases ho
      refine .inl ⟨by kernel_rfl, fun w hR => ?_⟩
      first | (go_simp; done) | (go_simp; exact ⟨rfl, hR⟩) | (go_simp; exact ⟨Hx.out, hR⟩) | (go_simp; exact Hx.out)
    | 8, ho =>
      cases ho
      refine .inl ⟨by kernel_rfl, fun w hR => ?_⟩
      first | (go_simp; done) | (go_simp; exact ⟨rfl, hR⟩) | (go_simp; exact ⟨Hx.out, hR⟩) | (go_simp; exact Hx.out)
    | 9, ho =>
      cases ho
      refine .inl ⟨by kernel_rfl, fun w hR => ?_⟩
      first | (go_simp; done) | (go_simp; exact ⟨rfl, hR⟩) | (go_simp; exact ⟨Hx.out, hR⟩) | (go_simp; exact Hx.out)
    | 10, ho =>
      cases ho
      refine .inl ⟨by kernel_rfl, fun w hR => ?_⟩
      exact ow_hxf _ _ rfl hR (cs := #[.int .i64 21, .slice (some ⟨b, off, none⟩) 1 c]) (by simp) 1 (.slice (some ⟨b, off, none⟩) 1 c) rfl rfl (by decide +kernel) ⟨rfl, hR⟩
    | 11, ho =>
      cases ho
      refine .inl ⟨by kernel_rfl, fun w hR => ?_⟩
      first | (go_simp; done) | (go_simp; exact ⟨rfl, hR⟩) | (go_simp; exact ⟨Hx.out, hR⟩) | (go_simp; exact Hx.out)
    | 12, ho =>
      cases ho
      refine .inl ⟨by kernel_rfl, fun w hR => ?_⟩
      first | (go_simp; done) | (go_simp; exact ⟨rfl, hR⟩) | (go_simp; exact ⟨Hx.out, hR⟩) | (go_simp; exact Hx.out)
    | 13, ho =>
      cases ho
      refine .inl ⟨by kernel_rfl, fun w hR => ?_⟩
      exact ow_hxf _ _ rfl hR (cs := #[.int .i64 21, .slice (some ⟨b, off, none⟩) 1 c]) (by simp) 0 (.int .i64 21) rfl rfl (by decide +kernel) ⟨rfl, hR⟩
    | 14, ho =>
      cases ho
      refine .inl ⟨by kernel_rfl, fun w hR => ?_⟩
      go_simp
      go_wp2_with fail
      refine (arityS_any 21 w).mono ?_
      rintro e w4 ⟨rfl, h5⟩
      rw [Har.out]
      exact ⟨rfl, hR.below h5⟩
    | 15, ho =>
      cases ho
      refine .inl ⟨by kernel_rfl, fun w hR => ?_⟩
      first | (go_simp; done) | (go_simp; exact ⟨rfl, hR⟩) | (go_simp; exact ⟨Hne.out, hR⟩) | (go_simp; exact Hne.out)
    | 16, ho =>
      cases ho
      refine .inl ⟨by kernel_rfl, fun w hR => ?_⟩
      first | (go_simp; done) | (go_simp; exact ⟨rfl, hR⟩) | (go_simp; exact ⟨Hx.out, hR⟩) | (go_simp; exact Hx.out)
    | i + 17, ho => simp at ho
  case hR4 => exact H1.out.drew
  case fin4 =>
    intro w2 h2
    have H2 := Lib.hid h2
    clear h2 H1
    have c1 := H2.out.cell (g := W.heap.size) (cs := #[.int .i64 21, .slice (some ⟨b, off, none⟩) 1 c]) (by simp) 1 rfl
    obtain ⟨x0, x1, x2⟩ := (HT.out.below H2.out.1).at0
    have H3 := Lib.hid (H2.out.box #[.int .i64 x.1, .int .i64 x.2.1, .int .i64 x.2.2] 31)
    have c0 := H3.out.cell (g := W.heap.size) (cs := #[.int .i64 21, .slice (some ⟨b, off, none⟩) 1 c]) (by simp) 0 rfl
    go_upto_block 0 with (fail)
    clear c1 x0 x1 x2 c0 H2
    cases hb : tKis x [2, 3] with
    | false =>
      have Hb3 := Lib.hid hb
      clear hb
      have T3 := Lib.hid (HT.out.below H3.out.1)
      have c0 := H3.out.cell (g := W.heap.size) (cs := #[.int .i64 21, .slice (some ⟨b, off, none⟩) 1 c]) (by simp) 0 rfl
      have c1 := H3.out.cell (g := W.heap.size) (cs := #[.int .i64 21, .slice (some ⟨b, off, none⟩) 1 c]) (by simp) 1 rfl
      have a0 := H3.out.cell (g := w2.heap.size) (cs := #[.int .i64 x.1, .int .i64 x.2.1, .int .i64 x.2.2]) (by simp) 0 rfl
      have a1 := H3.out.cell (g := w2.heap.size) (cs := #[.int .i64 x.1, .int .i64 x.2.1, .int .i64 x.2.2]) (by simp) 1 rfl
      have a2 := H3.out.cell (g := w2.heap.size) (cs := #[.int .i64 x.1, .int .i64 x.2.1, .int .i64 x.2.2]) (by simp) 2 rfl
      go_wp2_with fail
      refine (kind_any x.1 x.2.1 x.2.2 2 3 _).mono ?_
      rw [show kis x.1 x.2.1 x.2.2 [2, 3] = false from Hb3.out]
      rintro e w4 ⟨rfl, h⟩
      have H4 := Lib.hid ((H3.out).below h)
      clear h H3 c0 c1 a0 a1 a2
      go_wp2_with fail
      go_ret
      exact ⟨kit.ret_bool (by rw [Hb3.out]; try rfl), H4.out.1⟩
    | true =>
      have Hb3 := Lib.hid hb
      clear hb
      have T3 := Lib.hid (HT.out.below H3.out.1)
      have c0 := H3.out.cell (g := W.heap.size) (cs := #[.int .i64 21, .slice (some ⟨b, off, none⟩) 1 c]) (by simp) 0 rfl
      have c1 := H3.out.cell (g := W.heap.size) (cs := #[.int .i64 21, .slice (some ⟨b, off, none⟩) 1 c]) (by simp) 1 rfl
      have a0 := H3.out.cell (g := w2.heap.size) (cs := #[.int .i64 x.1, .int .i64 x.2.1, .int .i64 x.2.2]) (by simp) 0 rfl
      have a1 := H3.out.cell (g := w2.heap.size) (cs := #[.int .i64 x.1, .int .i64 x.2.1, .int .i64 x.2.2]) (by simp) 1 rfl
      have a2 := H3.out.cell (g := w2.heap.size) (cs := #[.int .i64 x.1, .int .i64 x.2.1, .int .i64 x.2.2]) (by simp) 2 rfl
      go_wp2_with fail
      refine (kind_any x.1 x.2.1 x.2.2 2 3 _).mono ?_
      rw [show kis x.1 x.2.1 x.2.2 [2, 3] = true from Hb3.out]
      rintro e w4 ⟨rfl, h⟩
      have H4 := Lib.hid ((H3.out).below h)
      clear h H3 c0 c1 a0 a1 a2
      go_wp2_with fail
      go_ret
      exact ⟨kit.ret_bool (by rw [Hb3.out]; try rfl), H4.out.1⟩
set_option maxHeartbeats 8000000 in
theorem scoil_22 (x : Tri) (b off c : Nat) (W : World) (hT : Trip W b off [x]) :
    Calls Tryd.prog 8 #[.agg #[.int .i64 22, .slice (some ⟨b, off, none⟩) 1 c]] W fun e w' => e = .returned (.bool (tKis x [2, 3] || tKis x [4, 4])) ∧ Below W.heap.size W w' := by
  have Har := Lib.hid (show arity 22 = 1 by decide)
  have HT := Lib.hid hT
  clear hT
  have H1 := Lib.hid (Hx.box (Hx.nil (Below.refl W.heap.size W)) #[.int .i64 22, .slice (some ⟨b, off, none⟩) 1 c] 25)
  go_enter Tryd.func8, Tryd.ntmps8
  go_wp2_with fail
  refine wp_region_vals (R := Hx W [(W.heap.size, #[.int .i64 22, .slice (some ⟨b, off, none⟩) 1 c])]) (aa := ?aa5) [(4, .pointer (some ⟨W.heap.size, 0, none⟩)), (5, .int .i64 22), (6, .bool false), (7, .bool false), (8, .pointer (some ⟨W.heap.size, 0, none⟩)), (9, .int .i64 22), (10, .bool false), (11, .bool false), (12, .bool false), (13, .pointer (some ⟨W.heap.size, 1, none⟩)), (14, .slice (some ⟨b, off, none⟩) 1 c), (15, .int .i64 1), (16, .pointer (some ⟨W.heap.size, 0, none⟩)), (17, .int .i64 22), (18, .int .i64 1), (19, .bool false), (20, .bool false)] ?hL5 (by kernel_rfl) ?hv5 ?hD5 ?hR5 ?hdo5 ?fin5
  case hL5 =>
    simp only [putD, Act.put]
    go_simp
    rfl
  case hv5 => kernel_rfl
  case hD5 => kernel_rfl
  case hdo5 =>
    intro i o ho
    match i, ho with
    | 0, ho =>
      cases ho
      refine .inl ⟨by kernel_rfl, fun w hR => ?_⟩
      first | (go_simp; done) | (go_simp; exact ⟨rfl, hR⟩) | (go_simp; exact ⟨Hx.out, hR⟩) | (go_simp; exact Hx.out)
    | 1, ho =>
      cases ho
      refine .inl ⟨by kernel_rfl, fun w hR => ?_⟩
      exact ow_hxf _ _ rfl hR (cs := #[.int .i64 22, .slice (some ⟨b, off, none⟩) 1 c]) (by simp) 0 (.int .i64 22) rfl rfl (by decide +kernel) ⟨rfl, hR⟩
    | 2, ho =>
      cases ho
      refine .inl ⟨by kernel_rfl, fun w hR => ?_⟩
      first | (go_simp; done) | (go_simp; exact ⟨rfl, hR⟩) | (go_simp; exact ⟨Hlt.out, hR⟩) | (go_simp; exact Hlt.out)
    | 3, ho =>
      cases ho
      refine .inl ⟨by kernel_rfl, fun w hR => ?_⟩
      first | (go_simp; done) | (go_simp; exact ⟨rfl, hR⟩) | (go_simp; exact ⟨Hlt.out, hR⟩) | (go_simp; exact Hlt.out)
    | 4, ho =>
      cases ho
      refine .inl ⟨by kernel_rfl, fun w hR => ?_⟩
      first | (go_simp; done) | (go_simp; exact ⟨rfl, hR⟩) | (go_simp; exact ⟨Hx.out, hR⟩) | (go_simp; exact Hx.out)
    | 5, ho =>
      cases ho
      refine .inl ⟨by kernel_rfl, fun w hR => ?_⟩
      exact ow_hxf _ _ rfl hR (cs := #[.int .i64 22, .slice (some ⟨b, off, none⟩) 1 c]) (by simp) 0 (.int .i64 22) rfl rfl (by decide +kernel) ⟨rfl, hR⟩
    | 6, ho =>
      cases ho
      refine .inl ⟨by kernel_rfl, fun w hR => ?_⟩
      first | (go_simp; done) | (go_simp; exact ⟨rfl, hR⟩) | (go_simp; exact ⟨Hgt.out, hR⟩) | (go_simp; exact Hgt.out)
    | 7, ho =>
      cases ho
      refine .inl ⟨by kernel_rfl, fun w hR => ?_⟩
      first | (go_simp; done) | (go_simp; exact ⟨rfl, hR⟩) | (go_simp; exact ⟨Hx.out, hR⟩) | (go_simp; exact Hx.out)
    | 8, ho =>
      cases ho
      refine .inl ⟨by kernel_rfl, fun w hR => ?_⟩
      first | (go_simp; done) | (go_simp; exact ⟨rfl, hR⟩) | (go_simp; exact ⟨Hx.out, hR⟩) | (go_simp; exact Hx.out)
    | 9, ho =>
      cases ho
      refine .inl ⟨by kernel_rfl, fun w hR => ?_⟩
      first | (go_simp; done) | (go_simp; exact ⟨rfl, hR⟩) | (go_simp; exact ⟨Hx.out, hR⟩) | (go_simp; exact Hx.out)
    | 10, ho =>
      cases ho
      refine .inl ⟨by kernel_rfl, fun w hR => ?_⟩
      exact ow_hxf _ _ rfl hR (cs := #[.int .i64 22, .slice (some ⟨b, off, none⟩) 1 c]) (by simp) 1 (.slice (some ⟨b, off, none⟩) 1 c) rfl rfl (by decide +kernel) ⟨rfl, hR⟩
    | 11, ho =>
      cases ho
      refine .inl ⟨by kernel_rfl, fun w hR => ?_⟩
      first | (go_simp; done) | (go_simp; exact ⟨rfl, hR⟩) | (go_simp; exact ⟨Hx.out, hR⟩) | (go_simp; exact Hx.out)
    | 12, ho =>
      cases ho
      refine .inl ⟨by kernel_rfl, fun w hR => ?_⟩
      first | (go_simp; done) | (go_simp; exact ⟨rfl, hR⟩) | (go_simp; exact ⟨Hx.out, hR⟩) | (go_simp; exact Hx.out)
    | 13, ho =>
      cases ho
      refine .inl ⟨by kernel_rfl, fun w hR => ?_⟩
      exact ow_hxf _ _ rfl hR (cs := #[.int .i64 22, .slice (some ⟨b, off, none⟩) 1 c]) (by simp) 0 (.int .i64 22) rfl rfl (by decide +kernel) ⟨rfl, hR⟩
    | 14, ho =>
      cases ho
      refine .inl ⟨by kernel_rfl, fun w hR => ?_⟩
      go_simp
      go_wp2_with fail
      refine (arityS_any 22 w).mono ?_
      rintro e w4 ⟨rfl, h5⟩
      rw [Har.out]
      exact ⟨rfl, hR.below h5⟩
    | 15, ho =>
      cases ho
      refine .inl ⟨by kernel_rfl, fun w hR => ?_⟩
      first | (go_simp; done) | (go_simp; exact ⟨rfl, hR⟩) | (go_simp; exact ⟨Hne.out, hR⟩) | (go_simp; exact Hne.out)
    | 16, ho =>
      cases ho
      refine .inl ⟨by kernel_rfl, fun w hR => ?_⟩
      first | (go_simp; done) | (go_simp; exact ⟨rfl, hR⟩) | (go_simp; exact ⟨Hx.out, hR⟩) | (go_simp; exact Hx.out)
    | i + 17, ho => simp at ho
  case hR5 => exact H1.out.drew
  case fin5 =>
    intro w2 h2
    have H2 := Lib.hid h2
    clear h2 H1
    have c1 := H2.out.cell (g := W.heap.size) (cs := #[.int .i64 22, .slice (some ⟨b, off, none⟩) 1 c]) (by simp) 1 rfl
    obtain ⟨x0, x1, x2⟩ := (HT.out.below H2.out.1).at0
    have H3 := Lib.hid (H2.out.box #[.int .i64 x.1, .int .i64 x.2.1, .int .i64 x.2.2] 31)
    have c0 := H3.out.cell (g := W.heap.size) (cs := #[.int .i64 22, .slice (some ⟨b, off, none⟩) 1 c]) (by simp) 0 rfl
    go_upto_block 0 with (fail)
    clear c1 x0 x1 x2 c0 H2
    cases hb : tKis x [2, 3] with
    | false =>
      have Hb3 := Lib.hid hb
      clear hb
      have T3 := Lib.hid (HT.out.below H3.out.1)
      have c0 := H3.out.cell (g := W.heap.size) (cs := #[.int .i64 22, .slice (some ⟨b, off, none⟩) 1 c]) (by simp) 0 rfl
      have c1 := H3.out.cell (g := W.heap.size) (cs := #[.int .i64 22, .slice (some ⟨b, off, none⟩) 1 c]) (by simp) 1 rfl
      have a0 := H3.out.cell (g := w2.heap.size) (cs := #[.int .i64 x.1, .int .i64 x.2.1, .int .i64 x.2.2]) (by simp) 0 rfl
      have a1 := H3.out.cell (g := w2.heap.size) (cs := #[.int .i64 x.1, .int .i64 x.2.1, .int .i64 x.2.2]) (by simp) 1 rfl
      have a2 := H3.out.cell (g := w2.heap.size) (cs := #[.int .i64 x.1, .int .i64 x.2.1, .int .i64 x.2.2]) (by simp) 2 rfl
      go_wp2_with fail
      refine (kind_any x.1 x.2.1 x.2.2 2 3 _).mono ?_
      rw [show kis x.1 x.2.1 x.2.2 [2, 3] = false from Hb3.out]
      rintro e w4 ⟨rfl, h⟩
      have H4 := Lib.hid ((H3.out).below h)
      clear h H3 c0 c1 a0 a1 a2
      cases hb : tKis x [4, 4] with
      | false =>
        have Hb4 := Lib.hid hb
        clear hb
        have T4 := Lib.hid (HT.out.below H4.out.1)
        have c0 := H4.out.cell (g := W.heap.size) (cs := #[.int .i64 22, .slice (some ⟨b, off, none⟩) 1 c]) (by simp) 0 rfl
        have c1 := H4.out.cell (g := W.heap.size) (cs := #[.int .i64 22, .slice (some ⟨b, off, none⟩) 1 c]) (by simp) 1 rfl
        have a0 := H4.out.cell (g := w2.heap.size) (cs := #[.int .i64 x.1, .int .i64 x.2.1, .int .i64 x.2.2]) (by simp) 0 rfl
        have a1 := H4.out.cell (g := w2.heap.size) (cs := #[.int .i64 x.1, .int .i64 x.2.1, .int .i64 x.2.2]) (by simp) 1 rfl
        have a2 := H4.out.cell (g := w2.heap.size) (cs := #[.int .i64 x.1, .int .i64 x.2.1, .int .i64 x.2.2]) (by simp) 2 rfl
        go_wp2_with fail
        refine (kind_any x.1 x.2.1 x.2.2 4 4 _).mono ?_
        rw [show kis x.1 x.2.1 x.2.2 [4, 4] = false from Hb4.out]
        rintro e w5 ⟨rfl, h⟩
        have H5 := Lib.hid ((H4.out).below h)
        clear h H4 c0 c1 a0 a1 a2
        go_wp2_with fail
        go_ret
        exact ⟨kit.ret_bool (by rw [Hb3.out, Hb4.out]; try rfl), H5.out.1⟩
      | true =>
        have Hb4 := Lib.hid hb
        clear hb
        have T4 := Lib.hid (HT.out.below H4.out.1)
        have c0 := H4.out.cell (g := W.heap.size) (cs := #[.int .i64 22, .slice (some ⟨b, off, none⟩) 1 c]) (by simp) 0 rfl
        have c1 := H4.out.cell (g := W.heap.size) (cs := #[.int .i64 22, .slice (some ⟨b, off, none⟩) 1 c]) (by simp) 1 rfl
        have a0 := H4.out.cell (g := w2.heap.size) (cs := #[.int .i64 x.1, .int .i64 x.2.1, .int .i64 x.2.2]) (by simp) 0 rfl
        have a1 := H4.out.cell (g := w2.heap.size) (cs := #[.int .i64 x.1, .int .i64 x.2.1, .int .i64 x.2.2]) (by simp) 1 rfl
        have a2 := H4.out.cell (g := w2.heap.size) (cs := #[.int .i64 x.1, .int .i64 x.2.1, .int .i64 x.2.2]) (by simp) 2 rfl
        go_wp2_with fail
        refine (kind_any x.1 x.2.1 x.2.2 4 4 _).mono ?_
        rw [show kis x.1 x.2.1 x.2.2 [4, 4] = true from Hb4.out]
        rintro e w5 ⟨rfl, h⟩
        have H5 := Lib.hid ((H4.out).below h)
        clear h H4 c0 c1 a0 a1 a2
        go_wp2_with fail
        go_ret
        exact ⟨kit.ret_bool (by rw [Hb3.out, Hb4.out]; try rfl), H5.out.1⟩
    | true =>
      have Hb3 := Lib.hid hb
      clear hb
      have T3 := Lib.hid (HT.out.below H3.out.1)
      have c0 := H3.out.cell (g := W.heap.size) (cs := #[.int .i64 22, .slice (some ⟨b, off, none⟩) 1 c]) (by simp) 0 rfl
      have c1 := H3.out.cell (g := W.heap.size) (cs := #[.int .i64 22, .slice (some ⟨b, off, none⟩) 1 c]) (by simp) 1 rfl
      have a0 := H3.out.cell (g := w2.heap.size) (cs := #[.int .i64 x.1, .int .i64 x.2.1, .int .i64 x.2.2]) (by simp) 0 rfl
      have a1 := H3.out.cell (g := w2.heap.size) (cs := #[.int .i64 x.1, .int .i64 x.2.1, .int .i64 x.2.2]) (by simp) 1 rfl
      have a2 := H3.out.cell (g := w2.heap.size) (cs := #[.int .i64 x.1, .int .i64 x.2.1, .int .i64 x.2.2]) (by simp) 2 rfl
      go_wp2_with fail
      refine (kind_any x.1 x.2.1 x.2.2 2 3 _).mono ?_
      rw [show kis x.1 x.2.1 x.2.2 [2, 3] = true from Hb3.out]
      rintro e w4 ⟨rfl, h⟩
      have H4 := Lib.hid ((H3.out).below h)
      clear h H3 c0 c1 a0 a1 a2
      go_wp2_with fail
      go_ret
      exact ⟨kit.ret_bool (by rw [Hb3.out]; try rfl), H4.out.1⟩
set_option maxHeartbeats 8000000 in
theorem scoil_23 (x : Tri) (b off c : Nat) (W : World) (hT : Trip W b off [x]) :
    Calls Tryd.prog 8 #[.agg #[.int .i64 23, .slice (some ⟨b, off, none⟩) 1 c]] W fun e w' => e = .returned (.bool (tKis x [2, 3] || tKis x [4, 7] || tKis x [8, 8])) ∧ Below W.heap.size W w' := by
  have Har := Lib.hid (show arity 23 = 1 by decide)
  have HT := Lib.hid hT
  clear hT
  have H1 := Lib.hid (Hx.box (Hx.nil (Below.refl W.heap.size W)) #[.int .i64 23, .slice (some ⟨b, off, none⟩) 1 c] 25)
  go_enter Tryd.func8, Tryd.ntmps8
  go_wp2_with fail
  refine wp_region_vals (R := Hx W [(W.heap.size, #[.int .i64 23, .slice (some ⟨b, off, none⟩) 1 c])]) (aa := ?aa6) [(4, .pointer (some ⟨W.heap.size, 0, none⟩)), (5, .int .i64 23), (6, .bool false), (7, .bool false), (8, .pointer (some ⟨W.heap.size, 0, none⟩)), (9, .int .i64 23), (10, .bool false), (11, .bool false), (12, .bool false), (13, .pointer (some ⟨W.heap.size, 1, none⟩)), (14, .slice (some ⟨b, off, none⟩) 1 c), (15, .int .i64 1), (16, .pointer (some ⟨W.heap.size, 0, none⟩)), (17, .int .i64 23), (18, .int .i64 1), (19, .bool false), (20, .bool false)] ?hL6 (by kernel_rfl) ?hv6 ?hD6 ?hR6 ?hdo6 ?fin6
  case hL6 =>
    simp only [putD, Act.put]
    go_simp
    rfl
  case hv6 => kernel_rfl
  case hD6 => kernel_rfl
  case hdo6 =>
    intro i o ho
    match i, ho with
    | 0, ho =>
      cases ho
      refine .inl ⟨by kernel_rfl, fun w hR => ?_⟩
      first | (go_simp; done) | (go_simp; exact ⟨rfl, hR⟩) | (go_simp; exact ⟨Hx.out, hR⟩) | (go_simp; exact Hx.out)
    | 1, ho =>
      cases ho
      refine .inl ⟨by kernel_rfl, fun w hR => ?_⟩
      exact ow_hxf _ _ rfl hR (cs := #[.int .i64 23, .slice (some ⟨b, off, none⟩) 1 c]) (by simp) 0 (.int .i64 23) rfl rfl (by decide +kernel) ⟨rfl, hR⟩
    | 2, ho =>
      cases ho
      refine .inl ⟨by kernel_rfl, fun w hR => ?_⟩
      first | (go_simp; done) | (go_simp; exact ⟨rfl, hR⟩) | (go_simp; exact ⟨Hlt.out, hR⟩) | (go_simp; exact Hlt.out)
    | 3, ho =>
      cases ho
      refine .inl ⟨by kernel_rfl, fun w hR => ?_⟩
      first | (go_simp; done) | (go_simp; exact ⟨rfl, hR⟩) | (go_simp; exact ⟨Hlt.out, hR⟩) | (go_simp; exact Hlt.out)
    | 4, ho =>
      cases ho
      refine .inl ⟨by kernel_rfl, fun w hR => ?_⟩
      first | (go_simp; done) | (go_simp; exact ⟨rfl, hR⟩) | (go_simp; exact ⟨Hx.out, hR⟩) | (go_simp; exact Hx.out)
    | 5, ho =>
      cases ho
      refine .inl ⟨by kernel_rfl, fun w hR => ?_⟩
      exact ow_hxf _ _ rfl hR (cs := #[.int .i64 23, .slice (some ⟨b, off, none⟩) 1 c]) (by simp) 0 (.int .i64 23) rfl rfl (by decide +kernel) ⟨rfl, hR⟩
    | 6, ho =>
      cases ho
      refine .inl ⟨by kernel_rfl, fun w hR => ?_⟩
      first | (go_simp; done) | (go_simp; exact ⟨rfl, hR⟩) | (go_simp; exact ⟨Hgt.out, hR⟩) | (go_simp; exact Hgt.out)
    | 7, ho =>
      cases ho
      refine .inl ⟨by kernel_rfl, fun w hR => ?_⟩
      first | (go_simp; done) | (go_simp; exact ⟨rfl, hR⟩) | (go_simp; exact ⟨Hx.out, hR⟩) | (go_simp; exact Hx.out)
    | 8, ho =>
      cases ho
      refine .inl ⟨by kernel_rfl, fun w hR => ?_⟩
      first | (go_simp; done) | (go_simp; exact ⟨rfl, hR⟩) | (go_simp; exact ⟨Hx.out, hR⟩) | (go_simp; exact Hx.out)
    | 9, ho =>
      cases ho
      refine .inl ⟨by kernel_rfl, fun w hR => ?_⟩
      first | (go_simp; done) | (go_simp; exact ⟨rfl, hR⟩) | (go_simp; exact ⟨Hx.out, hR⟩) | (go_simp; exact Hx.out)
    | 10, ho =>
      cases ho
      refine .inl ⟨by kernel_rfl, fun w hR => ?_⟩
      exact ow_hxf _ _ rfl hR (cs := #[.int .i64 23, .slice (some ⟨b, off, none⟩) 1 c]) (by simp) 1 (.slice (some ⟨b, off, none⟩) 1 c) rfl rfl (by decide +kernel) ⟨rfl, hR⟩
    | 11, ho =>
      cases ho
      refine .inl ⟨by kernel_rfl, fun w hR => ?_⟩
      first | (go_simp; done) | (go_simp; exact ⟨rfl, hR⟩) | (go_simp; exact ⟨Hx.out, hR⟩) | (go_simp; exact Hx.out)
    | 12, ho =>
      cases ho
      refine .inl ⟨by kernel_rfl, fun w hR => ?_⟩
      first | (go_simp; done) | (go_simp; exact ⟨rfl, hR⟩) | (go_simp; exact ⟨Hx.out, hR⟩) | (go_simp; exact Hx.out)
    | 13, ho =>
      cases ho
      refine .inl ⟨by kernel_rfl, fun w hR => ?_⟩
      exact ow_hxf _ _ rfl hR (cs := #[.int .i64 23, .slice (some ⟨b, off, none⟩) 1 c]) (by simp) 0 (.int .i64 23) rfl rfl (by decide +kernel) ⟨rfl, hR⟩
    | 14, ho =>
      cases ho
      refine .inl ⟨by kernel_rfl, fun w hR => ?_⟩
      go_simp
      go_wp2_with fail
      refine (arityS_any 23 w).mono ?_
      rintro e w4 ⟨rfl, h5⟩
      rw [Har.out]
      exact ⟨rfl, hR.below h5⟩
    | 15, ho =>
      cases ho
      refine .inl ⟨by kernel_rfl, fun w hR => ?_⟩
      first | (go_simp; done) | (go_simp; exact ⟨rfl, hR⟩) | (go_simp; exact ⟨Hne.out, hR⟩) | (go_simp; exact Hne.out)
    | 16, ho =>
      cases ho
      refine .inl ⟨by kernel_rfl, fun w hR => ?_⟩
      first | (go_simp; done) | (go_simp; exact ⟨rfl, hR⟩) | (go_simp; exact ⟨Hx.out, hR⟩) | (go_simp; exact Hx.out)
    | i + 17, ho => simp at ho
  case hR6 => exact H1.out.drew
  case fin6 =>
    intro w2 h2
    have H2 := Lib.hid h2
    clear h2 H1
    have c1 := H2.out.cell (g := W.heap.size) (cs := #[.int .i64 23, .slice (some ⟨b, off, none⟩) 1 c]) (by simp) 1 rfl
    obtain ⟨x0, x1, x2⟩ := (HT.out.below H2.out.1).at0
    have H3 := Lib.hid (H2.out.box #[.int .i64 x.1, .int .i64 x.2.1, .int .i64 x.2.2] 31)
    have c0 := H3.out.cell (g := W.heap.size) (cs := #[.int .i64 23, .slice (some ⟨b, off, none⟩) 1 c]) (by simp) 0 rfl
    go_upto_block 0 with (fail)
    clear c1 x0 x1 x2 c0 H2
    cases hb : tKis x [2, 3] with
    | false =>
      have Hb3 := Lib.hid hb
      clear hb
      have T3 := Lib.hid (HT.out.below H3.out.1)
      have c0 := H3.out.cell (g := W.heap.size) (cs := #[.int .i64 23, .slice (some ⟨b, off, none⟩) 1 c]) (by simp) 0 rfl
      have c1 := H3.out.cell (g := W.heap.size) (cs := #[.int .i64 23, .slice (some ⟨b, off, none⟩) 1 c]) (by simp) 1 rfl
      have a0 := H3.out.cell (g := w2.heap.size) (cs := #[.int .i64 x.1, .int .i64 x.2.1, .int .i64 x.2.2]) (by simp) 0 rfl
      have a1 := H3.out.cell (g := w2.heap.size) (cs := #[.int .i64 x.1, .int .i64 x.2.1, .int .i64 x.2.2]) (by simp) 1 rfl
      have a2 := H3.out.cell (g := w2.heap.size) (cs := #[.int .i64 x.1, .int .i64 x.2.1, .int .i64 x.2.2]) (by simp) 2 rfl
      go_wp2_with fail
      refine (kind_any x.1 x.2.1 x.2.2 2 3 _).mono ?_
      rw [show kis x.1 x.2.1 x.2.2 [2, 3] = false from Hb3.out]
      rintro e w4 ⟨rfl, h⟩
      have H4 := Lib.hid ((H3.out).below h)
      clear h H3 c0 c1 a0 a1 a2
      cases hb : tKis x [4, 7] with
      | false =>
        have Hb4 := Lib.hid hb
        clear hb
        have T4 := Lib.hid (HT.out.below H4.out.1)
        have c0 := H4.out.cell (g := W.heap.size) (cs := #[.int .i64 23, .slice (some ⟨b, off, none⟩) 1 c]) (by simp) 0 rfl
        have c1 := H4.out.cell (g := W.heap.size) (cs := #[.int .i64 23, .slice (some ⟨b, off, none⟩) 1 c]) (by simp) 1 rfl
        have a0 := H4.out.cell (g := w2.heap.size) (cs := #[.int .i64 x.1, .int .i64 x.2.1, .int .i64 x.2.2]) (by simp) 0 rfl
        have a1 := H4.out.cell (g := w2.heap.size) (cs := #[.int .i64 x.1, .int .i64 x.2.1, .int .i64 x.2.2]) (by simp) 1 rfl
        have a2 := H4.out.cell (g := w2.heap.size) (cs := #[.int .i64 x.1, .int .i64 x.2.1, .int .i64 x.2.2]) (by simp) 2 rfl
        go_wp2_with fail
        refine (kind_any x.1 x.2.1 x.2.2 4 7 _).mono ?_
        rw [show kis x.1 x.2.1 x.2.2 [4, 7] = false from Hb4.out]
        rintro e w5 ⟨rfl, h⟩
        have H5 := Lib.hid ((H4.out).below h)
        clear h H4 c0 c1 a0 a1 a2
        cases hb : tKis x [8, 8] with
        | false =>
          have Hb5 := Lib.hid hb
          clear hb
          have T5 := Lib.hid (HT.out.below H5.out.1)
          have c0 := H5.out.cell (g := W.heap.size) (cs := #[.int .i64 23, .slice (some ⟨b, off, none⟩) 1 c]) (by simp) 0 rfl
          have c1 := H5.out.cell (g := W.heap.size) (cs := #[.int .i64 23, .slice (some ⟨b, off, none⟩) 1 c]) (by simp) 1 rfl
          have a0 := H5.out.cell (g := w2.heap.size) (cs := #[.int .i64 x.1, .int .i64 x.2.1, .int .i64 x.2.2]) (by simp) 0 rfl
          have a1 := H5.out.cell (g := w2.heap.size) (cs := #[.int .i64 x.1, .int .i64 x.2.1, .int .i64 x.2.2]) (by simp) 1 rfl
          have a2 := H5.out.cell (g := w2.heap.size) (cs := #[.int .i64 x.1, .int .i64 x.2.1, .int .i64 x.2.2]) (by simp) 2 rfl
          go_wp2_with fail
          refine (kind_any x.1 x.2.1 x.2.2 8 8 _).mono ?_
          rw [show kis x.1 x.2.1 x.2.2 [8, 8] = false from Hb5.out]
          rintro e w6 ⟨rfl, h⟩
          have H6 := Lib.hid ((H5.out).below h)
          clear h H5 c0 c1 a0 a1 a2
          go_wp2_with fail
          go_ret
          exact ⟨kit.ret_bool (by rw [Hb3.out, Hb4.out, Hb5.out]; try rfl), H6.out.1⟩
        | true =>
          have Hb5 := Lib.hid hb
          clear hb
          have T5 := Lib.hid (HT.out.below H5.out.1)
          have c0 := H5.out.cell (g := W.heap.size) (cs := #[.int .i64 23, .slice (some ⟨b, off, none⟩) 1 c]) (by simp) 0 rfl
          have c1 := H5.out.cell (g := W.heap.size) (cs := #[.int .i64 23, .slice (some ⟨b, off, none⟩) 1 c]) (by simp) 1 rfl
          have a0 := H5.out.cell (g := w2.heap.size) (cs := #[.int .i64 x.1, .int .i64 x.2.1, .int .i64 x.2.2]) (by simp) 0 rfl
          have a1 := H5.out.cell (g := w2.heap.size) (cs := #[.int .i64 x.1, .int .i64 x.2.1, .int .i64 x.2.2]) (by simp) 1 rfl
          have a2 := H5.out.cell (g := w2.heap.size) (cs := #[.int .i64 x.1, .int .i64 x.2.1, .int .i64 x.2.2]) (by simp) 2 rfl
          go_wp2_with fail
          refine (kind_any x.1 x.2.1 x.2.2 8 8 _).mono ?_
          rw [show kis x.1 x.2.1 x.2.2 [8, 8] = true from Hb5.out]
          rintro e w6 ⟨rfl, h⟩
          have H6 := Lib.hid ((H5.out).below h)
          clear h H5 c0 c1 a0 a1 a2
          go_wp2_with fail
          go_ret
          exact ⟨kit.ret_bool (by rw [Hb3.out, Hb4.out, Hb5.out]; try rfl), H6.out.1⟩
      | true =>
        have Hb4 := Lib.hid hb
        clear hb
        have T4 := Lib.hid (HT.out.below H4.out.1)
        have c0 := H4.out.cell (g := W.heap.size) (cs := #[.int .i64 23, .slice (some ⟨b, off, none⟩) 1 c]) (by simp) 0 rfl
        have c1 := H4.out.cell (g := W.heap.size) (cs := #[.int .i64 23, .slice (some ⟨b, off, none⟩) 1 c]) (by simp) 1 rfl
        have a0 := H4.out.cell (g := w2.heap.size) (cs := #[.int .i64 x.1, .int .i64 x.2.1, .int .i64 x.2.2]) (by simp) 0 rfl
        have a1 := H4.out.cell (g := w2.heap.size) (cs := #[.int .i64 x.1, .int .i64 x.2.1, .int .i64 x.2.2]) (by simp) 1 rfl
        have a2 := H4.out.cell (g := w2.heap.size) (cs := #[.int .i64 x.1, .int .i64 x.2.1, .int .i64 x.2.2]) (by simp) 2 rfl
        go_wp2_with fail
        refine (kind_any x.1 x.2.1 x.2.2 4 7 _).mono ?_
        rw [show kis x.1 x.2.1 x.2.2 [4, 7] = true from Hb4.out]
        rintro e w5 ⟨rfl, h⟩
        have H5 := Lib.hid ((H4.out).below h)
        clear h H4 c0 c1 a0 a1 a2
        go_wp2_with fail
        go_ret
        exact ⟨kit.ret_bool (by rw [Hb3.out, Hb4.out]; try rfl), H5.out.1⟩
    | true =>
      have Hb3 := Lib.hid hb
      clear hb
      have T3 := Lib.hid (HT.out.below H3.out.1)
      have c0 := H3.out.cell (g := W.heap.size) (cs := #[.int .i64 23, .slice (some ⟨b, off, none⟩) 1 c]) (by simp) 0 rfl
      have c1 := H3.out.cell (g := W.heap.size) (cs := #[.int .i64 23, .slice (some ⟨b, off, none⟩) 1 c]) (by simp) 1 rfl
      have a0 := H3.out.cell (g := w2.heap.size) (cs := #[.int .i64 x.1, .int .i64 x.2.1, .int .i64 x.2.2]) (by simp) 0 rfl
      have a1 := H3.out.cell (g := w2.heap.size) (cs := #[.int .i64 x.1, .int .i64 x.2.1, .int .i64 x.2.2]) (by simp) 1 rfl
      have a2 := H3.out.cell (g := w2.heap.size) (cs := #[.int .i64 x.1, .int .i64 x.2.1, .int .i64 x.2.2]) (by simp) 2 rfl
      go_wp2_with fail
      refine (kind_any x.1 x.2.1 x.2.2 2 3 _).mono ?_
      rw [show kis x.1 x.2.1 x.2.2 [2, 3] = true from Hb3.out]
      rintro e w4 ⟨rfl, h⟩
      have H4 := Lib.hid ((H3.out).below h)
      clear h H3 c0 c1 a0 a1 a2
      go_wp2_with fail
      go_ret
      exact ⟨kit.ret_bool (by rw [Hb3.out]; try rfl), H4.out.1⟩
set_option maxHeartbeats 8000000 in
theorem scoil_24 (x y : Tri) (b off c : Nat) (W : World) (hT : Trip W b off [x, y]) :
    Calls Tryd.prog 8 #[.agg #[.int .i64 24, .slice (some ⟨b, off, none⟩) 2 c]] W fun e w' => e = .returned (.bool (tKis x [2, 3] && tKis y [5, 5])) ∧ Below W.heap.size W w' := by
  have Har := Lib.hid (show arity 24 = 2 by decide)
  have HT := Lib.hid hT
  clear hT
  have H1 := Lib.hid (Hx.box (Hx.nil (Below.refl W.heap.size W)) #[.int .i64 24, .slice (some ⟨b, off, none⟩) 2 c] 25)
  go_enter Tryd.func8, Tryd.ntmps8
  go_wp2_with fail
  refine wp_region_vals (R := Hx W [(W.heap.size, #[.int .i64 24, .slice (some ⟨b, off, none⟩) 2 c])]) (aa := ?aa7) [(4, .pointer (some ⟨W.heap.size, 0, none⟩)), (5, .int .i64 24), (6, .bool false), (7, .bool false), (8, .pointer (some ⟨W.heap.size, 0, none⟩)), (9, .int .i64 24), (10, .bool false), (11, .bool false), (12, .bool false), (13, .pointer (some ⟨W.heap.size, 1, none⟩)), (14, .slice (some ⟨b, off, none⟩) 2 c), (15, .int .i64 2), (16, .pointer (some ⟨W.heap.size, 0, none⟩)), (17, .int .i64 24), (18, .int .i64 2), (19, .bool false), (20, .bool false)] ?hL7 (by kernel_rfl) ?hv7 ?hD7 ?hR7 ?hdo7 ?fin7
  case hL7 =>
    simp only [putD, Act.put]
    go_simp
    rfl
  case hv7 => kernel_rfl
  case hD7 => kernel_rfl
  case hdo7 =>
    intro i o ho
    match i, ho with
    | 0, ho =>
      cases ho
      refine .inl ⟨by kernel_rfl, fun w hR => ?_⟩
      first | (go_simp; done) | (go_simp; exact ⟨rfl, hR⟩) | (go_simp; exact ⟨Hx.out, hR⟩) | (go_simp; exact Hx.out)
    | 1, ho =>
      cases ho
      refine .inl ⟨by kernel_rfl, fun w hR => ?_⟩
      exact ow_hxf _ _ rfl hR (cs := #[.int .i64 24, .slice (some ⟨b, off, none⟩) 2 c]) (by simp) 0 (.int .i64 24) rfl rfl (by decide +kernel) ⟨rfl, hR⟩
    | 2, ho =>
      cases ho
      refine .inl ⟨by kernel_rfl, fun w hR => ?_⟩
      first | (go_simp; done) | (go_simp; exact ⟨rfl, hR⟩) | (go_simp; exact ⟨Hlt.out, hR⟩) | (go_simp; exact Hlt.out)
    | 3, ho =>
      cases ho
      refine .inl ⟨by kernel_rfl, fun w hR => ?_⟩
      first | (go_simp; done) | (go_simp; exact ⟨rfl, hR⟩) | (go_simp; exact ⟨Hlt.out, hR⟩) | (go_simp; exact Hlt.out)
    | 4, ho =>
      cases ho
      refine .inl ⟨by kernel_rfl, fun w hR => ?_⟩
      first | (go_simp; done) | (go_simp; exact ⟨rfl, hR⟩) | (go_simp; exact ⟨Hx.out, hR⟩) | (go_simp; exact Hx.out)
    | 5, ho =>
      cases ho
      refine .inl ⟨by kernel_rfl, fun w hR => ?_⟩
      exact ow_hxf _ _ rfl hR (cs := #[.int .i64 24, .slice (some ⟨b, off, none⟩) 2 c]) (by simp) 0 (.int .i64 24) rfl rfl (by decide +kernel) ⟨rfl, hR⟩
    | 6, ho =>
      cases ho
      refine .inl ⟨by kernel_rfl, fun w hR => ?_⟩
      first | (go_simp; done) | (go_simp; exact ⟨rfl, hR⟩) | (go_simp; exact ⟨Hgt.out, hR⟩) | (go_simp; exact Hgt.out)
    | 7, ho =>
      cases ho
      refine .inl ⟨by kernel_rfl, fun w hR => ?_⟩
      first | (go_simp; done) | (go_simp; exact ⟨rfl, hR⟩) | (go_simp; exact ⟨Hx.out, hR⟩) | (go_simp; exact Hx.out)
    | 8, ho =>
      cases ho
      refine .inl ⟨by kernel_rfl, fun w hR => ?_⟩
      first | (go_simp; done) | (go_simp; exact ⟨rfl, hR⟩) | (go_simp; exact ⟨Hx.out, hR⟩) | (go_simp; exact Hx.out)
    | 9, ho =>
      cases ho
      refine .inl ⟨by kernel_rfl, fun w hR => ?_⟩
      first | (go_simp; done) | (go_simp; exact ⟨rfl, hR⟩) | (go_simp; exact ⟨Hx.out, hR⟩) | (go_simp; exact Hx.out)
    | 10, ho =>
      cases ho
      refine .inl ⟨by kernel_rfl, fun w hR => ?_⟩
      exact ow_hxf _ _ rfl hR (cs := #[.int .i64 24, .slice (some ⟨b, off, none⟩) 2 c]) (by simp) 1 (.slice (some ⟨b, off, none⟩) 2 c) rfl rfl (by decide +kernel) ⟨rfl, hR⟩
    | 11, ho =>
      cases ho
      refine .inl ⟨by kernel_rfl, fun w hR => ?_⟩
      first | (go_simp; done) | (go_simp; exact ⟨rfl, hR⟩) | (go_simp; exact ⟨Hx.out, hR⟩) | (go_simp; exact Hx.out)
    | 12, ho =>
      cases ho
      refine .inl ⟨by kernel_rfl, fun w hR => ?_⟩
      first | (go_simp; done) | (go_simp; exact ⟨rfl, hR⟩) | (go_simp; exact ⟨Hx.out, hR⟩) | (go_simp; exact Hx.out)
    | 13, ho =>
      cases ho
      refine .inl ⟨by kernel_rfl, fun w hR => ?_⟩
      exact ow_hxf _ _ rfl hR (cs := #[.int .i64 24, .slice (some ⟨b, off, none⟩) 2 c]) (by simp) 0 (.int .i64 24) rfl rfl (by decide +kernel) ⟨rfl, hR⟩
    | 14, ho =>
      cases ho
      refine .inl ⟨by kernel_rfl, fun w hR => ?_⟩
      go_simp
      go_wp2_with fail
      refine (arityS_any 24 w).mono ?_
      rintro e w4 ⟨rfl, h5⟩
      rw [Har.out]
      exact ⟨rfl, hR.below h5⟩
    | 15, ho =>
      cases ho
      refine .inl ⟨by kernel_rfl, fun w hR => ?_⟩
      first | (go_simp; done) | (go_simp; exact ⟨rfl, hR⟩) | (go_simp; exact ⟨Hne.out, hR⟩) | (go_simp; exact Hne.out)
    | 16, ho =>
      cases ho
      refine .inl ⟨by kernel_rfl, fun w hR => ?_⟩
      first | (go_simp; done) | (go_simp; exact ⟨rfl, hR⟩) | (go_simp; exact ⟨Hx.out, hR⟩) | (go_simp; exact Hx.out)
    | i + 17, ho => simp at ho
  case hR7 => exact H1.out.drew
  case fin7 =>
    intro w2 h2
    have H2 := Lib.hid h2
    clear h2 H1
    have c1 := H2.out.cell (g := W.heap.size) (cs := #[.int .i64 24, .slice (some ⟨b, off, none⟩) 2 c]) (by simp) 1 rfl
    obtain ⟨x0, x1, x2⟩ := (HT.out.below H2.out.1).at0
    have H3 := Lib.hid (H2.out.box #[.int .i64 x.1, .int .i64 x.2.1, .int .i64 x.2.2] 31)
    have c0 := H3.out.cell (g := W.heap.size) (cs := #[.int .i64 24, .slice (some ⟨b, off, none⟩) 2 c]) (by simp) 0 rfl
    go_upto_block 0 with (fail)
    clear c1 x0 x1 x2 c0 H2
    cases hb : tKis x [2, 3] with
    | false =>
      have Hb3 := Lib.hid hb
      clear hb
      have T3 := Lib.hid (HT.out.below H3.out.1)
      have c0 := H3.out.cell (g := W.heap.size) (cs := #[.int .i64 24, .slice (some ⟨b, off, none⟩) 2 c]) (by simp) 0 rfl
      have c1 := H3.out.cell (g := W.heap.size) (cs := #[.int .i64 24, .slice (some ⟨b, off, none⟩) 2 c]) (by simp) 1 rfl
      have a0 := H3.out.cell (g := w2.heap.size) (cs := #[.int .i64 x.1, .int .i64 x.2.1, .int .i64 x.2.2]) (by simp) 0 rfl
      have a1 := H3.out.cell (g := w2.heap.size) (cs := #[.int .i64 x.1, .int .i64 x.2.1, .int .i64 x.2.2]) (by simp) 1 rfl
      have a2 := H3.out.cell (g := w2.heap.size) (cs := #[.int .i64 x.1, .int .i64 x.2.1, .int .i64 x.2.2]) (by simp) 2 rfl
      go_wp2_with fail
      refine (kind_any x.1 x.2.1 x.2.2 2 3 _).mono ?_
      rw [show kis x.1 x.2.1 x.2.2 [2, 3] = false from Hb3.out]
      rintro e w4 ⟨rfl, h⟩
      have H4 := Lib.hid ((H3.out).below h)
      clear h H3 c0 c1 a0 a1 a2
      go_wp2_with fail
      go_ret
      exact ⟨kit.ret_bool (by rw [Hb3.out]; try rfl), H4.out.1⟩
    | true =>
      have Hb3 := Lib.hid hb
      clear hb
      have T3 := Lib.hid (HT.out.below H3.out.1)
      have c0 := H3.out.cell (g := W.heap.size) (cs := #[.int .i64 24, .slice (some ⟨b, off, none⟩) 2 c]) (by simp) 0 rfl
      have c1 := H3.out.cell (g := W.heap.size) (cs := #[.int .i64 24, .slice (some ⟨b, off, none⟩) 2 c]) (by simp) 1 rfl
      have a0 := H3.out.cell (g := w2.heap.size) (cs := #[.int .i64 x.1, .int .i64 x.2.1, .int .i64 x.2.2]) (by simp) 0 rfl
      have a1 := H3.out.cell (g := w2.heap.size) (cs := #[.int .i64 x.1, .int .i64 x.2.1, .int .i64 x.2.2]) (by simp) 1 rfl
      have a2 := H3.out.cell (g := w2.heap.size) (cs := #[.int .i64 x.1, .int .i64 x.2.1, .int .i64 x.2.2]) (by simp) 2 rfl
      go_wp2_with fail
      refine (kind_any x.1 x.2.1 x.2.2 2 3 _).mono ?_
      rw [show kis x.1 x.2.1 x.2.2 [2, 3] = true from Hb3.out]
      rintro e w4 ⟨rfl, h⟩
      have H4 := Lib.hid ((H3.out).below h)
      clear h H3 c0 c1 a0 a1 a2
      cases hb : tKis y [5, 5] with
      | false =>
        have Hb4 := Lib.hid hb
        clear hb
        have T4 := Lib.hid (HT.out.below H4.out.1)
        have c0 := H4.out.cell (g := W.heap.size) (cs := #[.int .i64 24, .slice (some ⟨b, off, none⟩) 2 c]) (by simp) 0 rfl
        have c1 := H4.out.cell (g := W.heap.size) (cs := #[.int .i64 24, .slice (some ⟨b, off, none⟩) 2 c]) (by simp) 1 rfl
        have a0 := H4.out.cell (g := w2.heap.size) (cs := #[.int .i64 x.1, .int .i64 x.2.1, .int .i64 x.2.2]) (by simp) 0 rfl
        have a1 := H4.out.cell (g := w2.heap.size) (cs := #[.int .i64 x.1, .int .i64 x.2.1, .int .i64 x.2.2]) (by simp) 1 rfl
        have a2 := H4.out.cell (g := w2.heap.size) (cs := #[.int .i64 x.1, .int .i64 x.2.1, .int .i64 x.2.2]) (by simp) 2 rfl
        obtain ⟨y0, y1, y2⟩ := T4.out.at1
        go_wp2_with fail
        refine (kind_any y.1 y.2.1 y.2.2 5 5 _).mono ?_
        rw [show kis y.1 y.2.1 y.2.2 [5, 5] = false from Hb4.out]
        rintro e w5 ⟨rfl, h⟩
        have H5 := Lib.hid ((H4.out).below h)
        clear h H4 c0 c1 a0 a1 a2 y0 y1 y2
        go_wp2_with fail
        go_ret
        exact ⟨kit.ret_bool (by rw [Hb3.out, Hb4.out]; try rfl), H5.out.1⟩
      | true =>
        have Hb4 := Lib.hid hb
        clear hb
        have T4 := Lib.hid (HT.out.below H4.out.1)
        have c0 := H4.out.cell (g := W.heap.size) (cs := #[.int .i64 24, .slice (some ⟨b, off, none⟩) 2 c]) (by simp) 0 rfl
        have c1 := H4.out.cell (g := W.heap.size) (cs := #[.int .i64 24, .slice (some ⟨b, off, none⟩) 2 c]) (by simp) 1 rfl
        have a0 := H4.out.cell (g := w2.heap.size) (cs := #[.int .i64 x.1, .int .i64 x.2.1, .int .i64 x.2.2]) (by simp) 0 rfl
        have a1 := H4.out.cell (g := w2.heap.size) (cs := #[.int .i64 x.1, .int .i64 x.2.1, .int .i64 x.2.2]) (by simp) 1 rfl
        have a2 := H4.out.cell (g := w2.heap.size) (cs := #[.int .i64 x.1, .int .i64 x.2.1, .int .i64 x.2.2]) (by simp) 2 rfl
        obtain ⟨y0, y1, y2⟩ := T4.out.at1
        go_wp2_with fail
        refine (kind_any y.1 y.2.1 y.2.2 5 5 _).mono ?_
        rw [show kis y.1 y.2.1 y.2.2 [5, 5] = true from Hb4.out]
        rintro e w5 ⟨rfl, h⟩
        have H5 := Lib.hid ((H4.out).below h)
        clear h H4 c0 c1 a0 a1 a2 y0 y1 y2
        go_wp2_with fail
        go_ret
        exact ⟨kit.ret_bool (by rw [Hb3.out, Hb4.out]; try rfl), H5.out.1⟩
set_option maxHeartbeats 8000000 in
theorem scoil_25 (x : Tri) (b off c : Nat) (W : World) (hT : Trip W b off [x]) :
    Calls Tryd.prog 8 #[.agg #[.int .i64 25, .slice (some ⟨b, off, none⟩) 1 c]] W fun e w' => e = .returned (.bool (tKis x [4, 4])) ∧ Below W.heap.size W w' := by
  have Har := Lib.hid (show arity 25 = 1 by decide)
  have HT := Lib.hid hT
  clear hT
  have H1 := Lib.hid (Hx.box (Hx.nil (Below.refl W.heap.size W)) #[.int .i64 25, .slice (some ⟨b, off, none⟩) 1 c] 25)
  go_enter Tryd.func8, Tryd.ntmps8
  go_wp2_with fail
  refine wp_region_vals (R := Hx W [(W.heap.size, #[.int .i64 25, .slice (some ⟨b, off, none⟩) 1 c])]) (aa := ?aa8) [(4, .pointer (some ⟨W.heap.size, 0, none⟩)), (5, .int .i64 25), (6, .bool false), (7, .bool false), (8, .pointer (some ⟨W.heap.size, 0, none⟩)), (9, .int .i64 25), (10, .bool false), (11, .bool false), (12, .bool false), (13, .pointer (some ⟨W.heap.size, 1, none⟩)), (14, .slice (some ⟨b, off, none⟩) 1 c), (15, .int .i64 1), (16, .pointer (some ⟨W.heap.size, 0, none⟩)), (17, .int .i64 25), (18, .int .i64 1), (19, .bool false), (20, .bool false)] ?hL8 (by kernel_rfl) ?hv8 ?hD8 ?hR8 ?hdo8 ?fin8
  case hL8 =>
    simp only [putD, Act.put]
    go_simp
    rfl
  case hv8 => kernel_rfl
  case hD8 => kernel_rfl
  case hdo8 =>
    intro i o ho
    match i, ho with
    | 0, ho =>
      cases ho
      refine .inl ⟨by kernel_rfl, fun w hR => ?_⟩
      first | (go_simp; done) | (go_simp; exact ⟨rfl, hR⟩) | (go_simp; exact ⟨Hx.out, hR⟩) | (go_simp; exact Hx.out)
    | 1, ho =>
      cases ho
      refine .inl ⟨by kernel_rfl, fun w hR => ?_⟩
      exact ow_hxf _ _ rfl hR (cs := #[.int .i64 25, .slice (some ⟨b, off, none⟩) 1 c]) (by simp) 0 (.int .i64 25) rfl rfl (by decide +kernel) ⟨rfl, hR⟩
    | 2, ho =>
      cases ho
      refine .inl ⟨by kernel_rfl, fun w hR => ?_⟩
      first | (go_simp; done) | (go_simp; exact ⟨rfl, hR⟩) | (go_simp; exact ⟨Hlt.out, hR⟩) | (go_simp; exact Hlt.out)
    | 3, ho =>
      cases ho
      refine .inl ⟨by kernel_rfl, fun w hR => ?_⟩
      first | (go_simp; done) | (go_simp; exact ⟨rfl, hR⟩) | (go_simp; exact ⟨Hlt.out, hR⟩) | (go_simp; exact Hlt.out)
    | 4, ho =>
      cases ho
      refine .inl ⟨by kernel_rfl, fun w hR => ?_⟩
      first | (go_simp; done) | (go_simp; exact ⟨rfl, hR⟩) | (go_simp; exact ⟨Hx.out, hR⟩) | (go_simp; exact Hx.out)
    | 5, ho =>
      cases ho
      refine .inl ⟨by kernel_rfl, fun w hR => ?_⟩
      exact ow_hxf _ _ rfl hR (cs := #[.int .i64 25, .slice (some ⟨b, off, none⟩) 1 c]) (by simp) 0 (.int .i64 25) rfl rfl (by decide +kernel) ⟨rfl, hR⟩
    | 6, ho =>
      cases ho
      refine .inl ⟨by kernel_rfl, fun w hR => ?_⟩
      first | (go_simp; done) | (go_simp; exact ⟨rfl, hR⟩) | (go_simp; exact ⟨Hgt.out, hR⟩) | (go_simp; exact Hgt.out)
    | 7, ho =>
      cases ho
      refine .inl ⟨by kernel_rfl, fun w hR => ?_⟩
      first | (go_simp; done) | (go_simp; exact ⟨rfl, hR⟩) | (go_simp; exact ⟨Hx.out, hR⟩) | (go_simp; exact Hx.out)
    | 8, ho =>
      cases ho
      refine .inl ⟨by kernel_rfl, fun w hR => ?_⟩
      first | (go_simp; done) | (go_simp; exact ⟨rfl, hR⟩) | (go_simp; exact ⟨Hx.out, hR⟩) | (go_simp; exact Hx.out)
    | 9, ho =>
      cases ho
      refine .inl ⟨by kernel_rfl, fun w hR => ?_⟩
      first | (go_simp; done) | (go_simp; exact ⟨rfl, hR⟩) | (go_simp; exact ⟨Hx.out, hR⟩) | (go_simp; exact Hx.out)
    | 10, ho =>
      cases ho
      refine .inl ⟨by kernel_rfl, fun w hR => ?_⟩
      exact ow_hxf _ _ rfl hR (cs := #[.int .i64 25, .slice (some ⟨b, off, none⟩) 1 c]) (by simp) 1 (.slice (some ⟨b, off, none⟩) 1 c) rfl rfl (by decide +kernel) ⟨rfl, hR⟩
    | 11, ho =>
      cases ho
      refine .inl ⟨by kernel_rfl, fun w hR => ?_⟩
      first | (go_simp; done) | (go_simp; exact ⟨rfl, hR⟩) | (go_simp; exact ⟨Hx.out, hR⟩) | (go_simp; exact Hx.out)
    | 12, ho =>
      cases ho
      refine .inl ⟨by kernel_rfl, fun w hR => ?_⟩
      first | (go_simp; done) | (go_simp; exact ⟨rfl, hR⟩) | (go_simp; exact ⟨Hx.out, hR⟩) | (go_simp; exact Hx.out)
    | 13, ho =>
      cases ho
      refine .inl ⟨by kernel_rfl, fun w hR => ?_⟩
      exact ow_hxf _ _ rfl hR (cs := #[.int .i64 25, .slice (some ⟨b, off, none⟩) 1 c]) (by simp) 0 (.int .i64 25) rfl rfl (by decide +kernel) ⟨rfl, hR⟩
    | 14, ho =>
      cases ho
      refine .inl ⟨by kernel_rfl, fun w hR => ?_⟩
      go_simp
      go_wp2_with fail
      refine (arityS_any 25 w).mono ?_
      rintro e w4 ⟨rfl, h5⟩
      rw [Har.out]
      exact ⟨rfl, hR.below h5⟩
    | 15, ho =>
      cases ho
      refine .inl ⟨by kernel_rfl, fun w hR => ?_⟩
      first | (go_simp; done) | (go_simp; exact ⟨rfl, hR⟩) | (go_simp; exact ⟨Hne.out, hR⟩) | (go_simp; exact Hne.out)
    | 16, ho =>
      cases ho
      refine .inl ⟨by kernel_rfl, fun w hR => ?_⟩
      first | (go_simp; done) | (go_simp; exact ⟨rfl, hR⟩) | (go_simp; exact ⟨Hx.out, hR⟩) | (go_simp; exact Hx.out)
    | i + 17, ho => simp at ho
  case hR8 => exact H1.out.drew
  case fin8 =>
    intro w2 h2
    have H2 := Lib.hid h2
    clear h2 H1
    have c1 := H2.out.cell (g := W.heap.size) (cs := #[.int .i64 25, .slice (some ⟨b, off, none⟩) 1 c]) (by simp) 1 rfl
    obtain ⟨x0, x1, x2⟩ := (HT.out.below H2.out.1).at0
    have H3 := Lib.hid (H2.out.box #[.int .i64 x.1, .int .i64 x.2.1, .int .i64 x.2.2] 31)
    have c0 := H3.out.cell (g := W.heap.size) (cs := #[.int .i64 25, .slice (some ⟨b, off, none⟩) 1 c]) (by simp) 0 rfl
    go_upto_block 0 with (fail)
    clear c1 x0 x1 x2 c0 H2
    cases hb : tKis x [4, 4] with
    | false =>
      have Hb3 := Lib.hid hb
      clear hb
      have T3 := Lib.hid (HT.out.below H3.out.1)
      have c0 := H3.out.cell (g := W.heap.size) (cs := #[.int .i64 25, .slice (some ⟨b, off, none⟩) 1 c]) (by simp) 0 rfl
      have c1 := H3.out.cell (g := W.heap.size) (cs := #[.int .i64 25, .slice (some ⟨b, off, none⟩) 1 c]) (by simp) 1 rfl
      have a0 := H3.out.cell (g := w2.heap.size) (cs := #[.int .i64 x.1, .int .i64 x.2.1, .int .i64 x.2.2]) (by simp) 0 rfl
      have a1 := H3.out.cell (g := w2.heap.size) (cs := #[.int .i64 x.1, .int .i64 x.2.1, .int .i64 x.2.2]) (by simp) 1 rfl
      have a2 := H3.out.cell (g := w2.heap.size) (cs := #[.int .i64 x.1, .int .i64 x.2.1, .int .i64 x.2.2]) (by simp) 2 rfl
      go_wp2_with fail
      refine (kind_any x.1 x.2.1 x.2.2 4 4 _).mono ?_
      rw [show kis x.1 x.2.1 x.2.2 [4, 4] = false from Hb3.out]
      rintro e w4 ⟨rfl, h⟩
      have H4 := Lib.hid ((H3.out).below h)
      clear h H3 c0 c1 a0 a1 a2
      go_wp2_with fail
      go_ret
      exact ⟨kit.ret_bool (by rw [Hb3.out]; try rfl), H4.out.1⟩
    | true =>
      have Hb3 := Lib.hid hb
      clear hb
      have T3 := Lib.hid (HT.out.below H3.out.1)
      have c0 := H3.out.cell (g := W.heap.size) (cs := #[.int .i64 25, .slice (some ⟨b, off, none⟩) 1 c]) (by simp) 0 rfl
      have c1 := H3.out.cell (g := W.heap.size) (cs := #[.int .i64 25, .slice (some ⟨b, off, none⟩) 1 c]) (by simp) 1 rfl
      have a0 := H3.out.cell (g := w2.heap.size) (cs := #[.int .i64 x.1, .int .i64 x.2.1, .int .i64 x.2.2]) (by simp) 0 rfl
      have a1 := H3.out.cell (g := w2.heap.size) (cs := #[.int .i64 x.1, .int .i64 x.2.1, .int .i64 x.2.2]) (by simp) 1 rfl
      have a2 := H3.out.cell (g := w2.heap.size) (cs := #[.int .i64 x.1, .int .i64 x.2.1, .int .i64 x.2.2]) (by simp) 2 rfl
      go_wp2_with fail
      refine (kind_any x.1 x.2.1 x.2.2 4 4 _).mono ?_
      rw [show kis x.1 x.2.1 x.2.2 [4, 4] = true from Hb3.out]
      rintro e w4 ⟨rfl, h⟩
      have H4 := Lib.hid ((H3.out).below h)
      clear h H3 c0 c1 a0 a1 a2
      go_wp2_with fail
      go_ret
      exact ⟨kit.ret_bool (by rw [Hb3.out]; try rfl), H4.out.1⟩
set_option maxHeartbeats 8000000 in
theorem scoil_26 (x y : Tri) (b off c : Nat) (W : World) (hT : Trip W b off [x, y]) :
    Calls Tryd.prog 8 #[.agg #[.int .i64 26, .slice (some ⟨b, off, none⟩) 2 c]] W fun e w' => e = .returned (.bool (tKis x [7, 7] && tKis y [11, 11] && decide (0 ≤ y.2.1))) ∧ Below W.heap.size W w' := by
  have Har := Lib.hid (show arity 26 = 2 by decide)
  have HT := Lib.hid hT
  clear hT
  have H1 := Lib.hid (Hx.box (Hx.nil (Below.refl W.heap.size W)) #[.int .i64 26, .slice (some ⟨b, off, none⟩) 2 c] 25)
  go_enter Tryd.func8, Tryd.ntmps8
  go_wp2_with fail
  refine wp_region_vals (R := Hx W [(W.heap.size, #[.int .i64 26, .slice (some ⟨b, off, none⟩) 2 c])]) (aa := ?aa9) [(4, .pointer (some ⟨W.heap.size, 0, none⟩)), (5, .int .i64 26), (6, .bool false), (7, .bool false), (8, .pointer (some ⟨W.heap.size, 0, none⟩)), (9, .int .i64 26), (10, .bool false), (11, .bool false), (12, .bool false), (13, .pointer (some ⟨W.heap.size, 1, none⟩)), (14, .slice (some ⟨b, off, none⟩) 2 c), (15, .int .i64 2), (16, .pointer (some ⟨W.heap.size, 0, none⟩)), (17, .int .i64 26), (18, .int .i64 2), (19, .bool false), (20, .bool false)] ?hL9 (by kernel_rfl) ?hv9 ?hD9 ?hR9 ?hdo9 ?fin9
  case hL9 =>
    simp only [putD, Act.put]
    go_simp
    rfl
  case hv9 => kernel_rfl
  case hD9 => kernel_rfl
  case hdo9 =>
    intro i o ho
    match i, ho with
    | 0, ho =>
      cases ho
      refine .inl ⟨by kernel_rfl, fun w hR => ?_⟩
      first | (go_simp; done) | (go_simp; exact ⟨rfl, hR⟩) | (go_simp; exact ⟨Hx.out, hR⟩) | (go_simp; exact Hx.out)
    | 1, ho =>
      cases ho
      refine .inl ⟨by kernel_rfl, fun w hR => ?_⟩
      exact ow_hxf _ _ rfl hR (cs := #[.int .i64 26, .slice (some ⟨b, off, none⟩) 2 c]) (by simp) 0 (.int .i64 26) rfl rfl (by decide +kernel) ⟨rfl, hR⟩
    | 2, ho =>
      cases ho
      refine .inl ⟨by kernel_rfl, fun w hR => ?_⟩
      first | (go_simp; done) | (go_simp; exact ⟨rfl, hR⟩) | (go_simp; exact ⟨Hlt.out, hR⟩) | (go_simp; exact Hlt.out)
    | 3, ho =>
      cases ho
      refine .inl ⟨by kernel_rfl, fun w hR => ?_⟩
      first | (go_simp; done) | (go_simp; exact ⟨rfl, hR⟩) | (go_simp; exact ⟨Hlt.out, hR⟩) | (go_simp; exact Hlt.out)
    | 4, ho =>
      cases ho
      refine .inl ⟨by kernel_rfl, fun w hR => ?_⟩
      first | (go_simp; done) | (go_simp; exact ⟨rfl, hR⟩) | (go_simp; exact ⟨Hx.out, hR⟩) | (go_simp; exact Hx.out)
    | 5, ho =>
      cases ho
      refine .inl ⟨by kernel_rfl, fun w hR => ?_⟩
      exact ow_hxf _ _ rfl hR (cs := #[.int .i64 26, .slice (some ⟨b, off, none⟩) 2 c]) (by simp) 0 (.int .i64 26) rfl rfl (by decide +kernel) ⟨rfl, hR⟩
    | 6, ho =>
      cases ho
      refine .inl ⟨by kernel_rfl, fun w hR => ?_⟩
      first | (go_simp; done) | (go_simp; exact ⟨rfl, hR⟩) | (go_simp; exact ⟨Hgt.out, hR⟩) | (go_simp; exact Hgt.out)
    | 7, ho =>
      cases ho
      refine .inl ⟨by kernel_rfl, fun w hR => ?_⟩
      first | (go_simp; done) | (go_simp; exact ⟨rfl, hR⟩) | (go_simp; exact ⟨Hx.out, hR⟩) | (go_simp; exact Hx.out)
    | 8, ho =>
      cases ho
      refine .inl ⟨by kernel_rfl, fun w hR => ?_⟩
      first | (go_simp; done) | (go_simp; exact ⟨rfl, hR⟩) | (go_simp; exact ⟨Hx.out, hR⟩) | (go_simp; exact Hx.out)
    | 9, ho =>
      cases ho
      refine .inl ⟨by kernel_rfl, fun w hR => ?_⟩
      first | (go_simp; done) | (go_simp; exact ⟨rfl, hR⟩) | (go_simp; exact ⟨Hx.out, hR⟩) | (go_simp; exact Hx.out)
    | 10, ho =>
      cases ho
      refine .inl ⟨by kernel_rfl, fun w hR => ?_⟩
      exact ow_hxf _ _ rfl hR (cs := #[.int .i64 26, .slice (some ⟨b, off, none⟩) 2 c]) (by simp) 1 (.slice (some ⟨b, off, none⟩) 2 c) rfl rfl (by decide +kernel) ⟨rfl, hR⟩
    | 11, ho =>
      cases ho
      refine .inl ⟨by kernel_rfl, fun w hR => ?_⟩
      first | (go_simp; done) | (go_simp; exact ⟨rfl, hR⟩) | (go_simp; exact ⟨Hx.out, hR⟩) | (go_simp; exact Hx.out)
    | 12, ho =>
      cases ho
      refine .inl ⟨by kernel_rfl, fun w hR => ?_⟩
      first | (go_simp; done) | (go_simp; exact ⟨rfl, hR⟩) | (go_simp; exact ⟨Hx.out, hR⟩) | (go_simp; exact Hx.out)
    | 13, ho =>
      cases ho
      refine .inl ⟨by kernel_rfl, fun w hR => ?_⟩
      exact ow_hxf _ _ rfl hR (cs := #[.int .i64 26, .slice (some ⟨b, off, none⟩) 2 c]) (by simp) 0 (.int .i64 26) rfl rfl (by decide +kernel) ⟨rfl, hR⟩
    | 14, ho =>
      cases ho
      refine .inl ⟨by kernel_rfl, fun w hR => ?_⟩
      go_simp
      go_wp2_with fail
      refine (arityS_any 26 w).mono ?_
      rintro e w4 ⟨rfl, h5⟩
      rw [Har.out]
      exact ⟨rfl, hR.below h5⟩
    | 15, ho =>
      cases ho
      refine .inl ⟨by kernel_rfl, fun w hR => ?_⟩
      first | (go_simp; done) | (go_simp; exact ⟨rfl, hR⟩) | (go_simp; exact ⟨Hne.out, hR⟩) | (go_simp; exact Hne.out)
    | 16, ho =>
      cases ho
      refine .inl ⟨by kernel_rfl, fun w hR => ?_⟩
      first | (go_simp; done) | (go_simp; exact ⟨rfl, hR⟩) | (go_simp; exact ⟨Hx.out, hR⟩) | (go_simp; exact Hx.out)
    | i + 17, ho => simp at ho
  case hR9 => exact H1.out.drew
  case fin9 =>
    intro w2 h2
    have H2 := Lib.hid h2
    clear h2 H1
    have c1 := H2.out.cell (g := W.heap.size) (cs := #[.int .i64 26, .slice (some ⟨b, off, none⟩) 2 c]) (by simp) 1 rfl
    obtain ⟨x0, x1, x2⟩ := (HT.out.below H2.out.1).at0
    have H3 := Lib.hid (H2.out.box #[.int .i64 x.1, .int .i64 x.2.1, .int .i64 x.2.2] 31)
    have c0 := H3.out.cell (g := W.heap.size) (cs := #[.int .i64 26, .slice (some ⟨b, off, none⟩) 2 c]) (by simp) 0 rfl
    go_upto_block 0 with (fail)
    clear c1 x0 x1 x2 c0 H2
    cases hb : tKis x [7, 7] with
    | false =>
      have Hb3 := Lib.hid hb
      clear hb
      have T3 := Lib.hid (HT.out.below H3.out.1)
      have c0 := H3.out.cell (g := W.heap.size) (cs := #[.int .i64 26, .slice (some ⟨b, off, none⟩) 2 c]) (by simp) 0 rfl
      have c1 := H3.out.cell (g := W.heap.size) (cs := #[.int .i64 26, .slice (some ⟨b, off, none⟩) 2 c]) (by simp) 1 rfl
      have a0 := H3.out.cell (g := w2.heap.size) (cs := #[.int .i64 x.1, .int .i64 x.2.1, .int .i64 x.2.2]) (by simp) 0 rfl
      have a1 := H3.out.cell (g := w2.heap.size) (cs := #[.int .i64 x.1, .int .i64 x.2.1, .int .i64 x.2.2]) (by simp) 1 rfl
      have a2 := H3.out.cell (g := w2.heap.size) (cs := #[.int .i64 x.1, .int .i64 x.2.1, .int .i64 x.2.2]) (by simp) 2 rfl
      go_wp2_with fail
      refine (kind_any x.1 x.2.1 x.2.2 7 7 _).mono ?_
      rw [show kis x.1 x.2.1 x.2.2 [7, 7] = false from Hb3.out]
      rintro e w4 ⟨rfl, h⟩
      have H4 := Lib.hid ((H3.out).below h)
      clear h H3 c0 c1 a0 a1 a2
      go_wp2_with fail
      go_ret
      exact ⟨kit.ret_bool (by rw [Hb3.out]; try rfl), H4.out.1⟩
    | true =>
      have Hb3 := Lib.hid hb
      clear hb
      have T3 := Lib.hid (HT.out.below H3.out.1)
      have c0 := H3.out.cell (g := W.heap.size) (cs := #[.int .i64 26, .slice (some ⟨b, off, none⟩) 2 c]) (by simp) 0 rfl
      have c1 := H3.out.cell (g := W.heap.size) (cs := #[.int .i64 26, .slice (some ⟨b, off, none⟩) 2 c]) (by simp) 1 rfl
      have a0 := H3.out.cell (g := w2.heap.size) (cs := #[.int .i64 x.1, .int .i64 x.2.1, .int .i64 x.2.2]) (by simp) 0 rfl
      have a1 := H3.out.cell (g := w2.heap.size) (cs := #[.int .i64 x.1, .int .i64 x.2.1, .int .i64 x.2.2]) (by simp) 1 rfl
      have a2 := H3.out.cell (g := w2.heap.size) (cs := #[.int .i64 x.1, .int .i64 x.2.1, .int .i64 x.2.2]) (by simp) 2 rfl
      go_wp2_with fail
      refine (kind_any x.1 x.2.1 x.2.2 7 7 _).mono ?_
      rw [show kis x.1 x.2.1 x.2.2 [7, 7] = true from Hb3.out]
      rintro e w4 ⟨rfl, h⟩
      have H4 := Lib.hid ((H3.out).below h)
      clear h H3 c0 c1 a0 a1 a2
      cases hb : tKis y [11, 11] with
      | false =>
        have Hb4 := Lib.hid hb
        clear hb
        have T4 := Lib.hid (HT.out.below H4.out.1)
        have c0 := H4.out.cell (g := W.heap.size) (cs := #[.int .i64 26, .slice (some ⟨b, off, none⟩) 2 c]) (by simp) 0 rfl
        have c1 := H4.out.cell (g := W.heap.size) (cs := #[.int .i64 26, .slice (some ⟨b, off, none⟩) 2 c]) (by simp) 1 rfl
        have a0 := H4.out.cell (g := w2.heap.size) (cs := #[.int .i64 x.1, .int .i64 x.2.1, .int .i64 x.2.2]) (by simp) 0 rfl
        have a1 := H4.out.cell (g := w2.heap.size) (cs := #[.int .i64 x.1, .int .i64 x.2.1, .int .i64 x.2.2]) (by simp) 1 rfl
        have a2 := H4.out.cell (g := w2.heap.size) (cs := #[.int .i64 x.1, .int .i64 x.2.1, .int .i64 x.2.2]) (by simp) 2 rfl
        obtain ⟨y0, y1, y2⟩ := T4.out.at1
        go_wp2_with fail
        refine (kind_any y.1 y.2.1 y.2.2 11 11 _).mono ?_
        rw [show kis y.1 y.2.1 y.2.2 [11, 11] = false from Hb4.out]
        rintro e w5 ⟨rfl, h⟩
        have H5 := Lib.hid ((H4.out).below h)
        clear h H4 c0 c1 a0 a1 a2 y0 y1 y2
        go_wp2_with fail
        go_ret
        exact ⟨kit.ret_bool (by rw [Hb3.out, Hb4.out]; try rfl), H5.out.1⟩
      | true =>
        have Hb4 := Lib.hid hb
        clear hb
        have T4 := Lib.hid (HT.out.below H4.out.1)
        have c0 := H4.out.cell (g := W.heap.size) (cs := #[.int .i64 26, .slice (some ⟨b, off, none⟩) 2 c]) (by simp) 0 rfl
        have c1 := H4.out.cell (g := W.heap.size) (cs := #[.int .i64 26, .slice (some ⟨b, off, none⟩) 2 c]) (by simp) 1 rfl
        have a0 := H4.out.cell (g := w2.heap.size) (cs := #[.int .i64 x.1, .int .i64 x.2.1, .int .i64 x.2.2]) (by simp) 0 rfl
        have a1 := H4.out.cell (g := w2.heap.size) (cs := #[.int .i64 x.1, .int .i64 x.2.1, .int .i64 x.2.2]) (by simp) 1 rfl
        have a2 := H4.out.cell (g := w2.heap.size) (cs := #[.int .i64 x.1, .int .i64 x.2.1, .int .i64 x.2.2]) (by simp) 2 rfl
        obtain ⟨y0, y1, y2⟩ := T4.out.at1
        go_wp2_with fail
        refine (kind_any y.1 y.2.1 y.2.2 11 11 _).mono ?_
        rw [show kis y.1 y.2.1 y.2.2 [11, 11] = true from Hb4.out]
        rintro e w5 ⟨rfl, h⟩
        have H5 := Lib.hid ((H4.out).below h)
        clear h H4 c0 c1 a0 a1 a2 y0 y1 y2
        have T5 := Lib.hid (HT.out.below H5.out.1)
        have c0 := H5.out.cell (g := W.heap.size) (cs := #[.int .i64 26, .slice (some ⟨b, off, none⟩) 2 c]) (by simp) 0 rfl
        have c1 := H5.out.cell (g := W.heap.size) (cs := #[.int .i64 26, .slice (some ⟨b, off, none⟩) 2 c]) (by simp) 1 rfl
        have a0 := H5.out.cell (g := w2.heap.size) (cs := #[.int .i64 x.1, .int .i64 x.2.1, .int .i64 x.2.2]) (by simp) 0 rfl
        have a1 := H5.out.cell (g := w2.heap.size) (cs := #[.int .i64 x.1, .int .i64 x.2.1, .int .i64 x.2.2]) (by simp) 1 rfl
        have a2 := H5.out.cell (g := w2.heap.size) (cs := #[.int .i64 x.1, .int .i64 x.2.1, .int .i64 x.2.2]) (by simp) 2 rfl
        obtain ⟨y0, y1, y2⟩ := T5.out.at1
        go_wp2_with fail
        go_ret
        exact ⟨kit.ret_bool (by rw [Hb3.out, Hb4.out]; simp), H5.out.1⟩
set_option maxHeartbeats 8000000 in
theorem scoil_27 (x y : Tri) (b off c : Nat) (W : World) (hT : Trip W b off [x, y]) :
    Calls Tryd.prog 8 #[.agg #[.int .i64 27, .slice (some ⟨b, off, none⟩) 2 c]] W fun e w' => e = .returned (.bool (tKis x [7, 7] && tKis y [11, 11] && decide (0 ≤ y.2.1))) ∧ Below W.heap.size W w' := by
  have Har := Lib.hid (show arity 27 = 2 by decide)
  have HT := Lib.hid hT
  clear hT
  have H1 := Lib.hid (Hx.box (Hx.nil (Below.refl W.heap.size W)) #[.int .i64 27, .slice (some ⟨b, off, none⟩) 2 c] 25)
  go_enter Tryd.func8, Tryd.ntmps8
  go_wp2_with fail
  refine wp_region_vals (R := Hx W [(W.heap.size, #[.int .i64 27, .slice (some ⟨b, off, none⟩) 2 c])]) (aa := ?aa10) [(4, .pointer (some ⟨W.heap.size, 0, none⟩)), (5, .int .i64 27), (6, .bool false), (7, .bool false), (8, .pointer (some ⟨W.heap.size, 0, none⟩)), (9, .int .i64 27), (10, .bool false), (11, .bool false), (12, .bool false), (13, .pointer (some ⟨W.heap.size, 1, none⟩)), (14, .slice (some ⟨b, off, none⟩) 2 c), (15, .int .i64 2), (16, .pointer (some ⟨W.heap.size, 0, none⟩)), (17, .int .i64 27), (18, .int .i64 2), (19, .bool false), (20, .bool false)] ?hL10 (by kernel_rfl) ?hv10 ?hD10 ?hR10 ?hdo10 ?fin10
  case hL10 =>
    simp only [putD, Act.put]
    go_simp
    rfl
  case hv10 => kernel_rfl
  case hD10 => kernel_rfl
  case hdo10 =>
    intro i o ho
    match i, ho with
    | 0, ho =>
      cases ho
      refine .inl ⟨by kernel_rfl, fun w hR => ?_⟩
      first | (go_simp; done) | (go_simp; exact ⟨rfl, hR⟩) | (go_simp; exact ⟨Hx.out, hR⟩) | (go_simp; exact Hx.out)
    | 1, ho =>
      cases ho
      refine .inl ⟨by kernel_rfl, fun w hR => ?_⟩
      exact ow_hxf _ _ rfl hR (cs := #[.int .i64 27, .slice (some ⟨b, off, none⟩) 2 c]) (by simp) 0 (.int .i64 27) rfl rfl (by decide +kernel) ⟨rfl, hR⟩
    | 2, ho =>
      cases ho
      refine .inl ⟨by kernel_rfl, fun w hR => ?_⟩
      first | (go_simp; done) | (go_simp; exact ⟨rfl, hR⟩) | (go_simp; exact ⟨Hlt.out, hR⟩) | (go_simp; exact Hlt.out)
    | 3, ho =>
      cases ho
      refine .inl ⟨by kernel_rfl, fun w hR => ?_⟩
      first | (go_simp; done) | (go_simp; exact ⟨rfl, hR⟩) | (go_simp; exact ⟨Hlt.out, hR⟩) | (go_simp; exact Hlt.out)
    | 4, ho =>
      cases ho
      refine .inl ⟨by kernel_rfl, fun w hR => ?_⟩
      first | (go_simp; done) | (go_simp; exact ⟨rfl, hR⟩) | (go_simp; exact ⟨Hx.out, hR⟩) | (go_simp; exact Hx.out)
    | 5, ho =>
      cases ho
      refine .inl ⟨by kernel_rfl, fun w hR => ?_⟩
      exact ow_hxf _ _ rfl hR (cs := #[.int .i64 27, .slice (some ⟨b, off, none⟩) 2 c]) (by simp) 0 (.int .i64 27) rfl rfl (by decide +kernel) ⟨rfl, hR⟩
    | 6, ho =>
      cases ho
      refine .inl ⟨by kernel_rfl, fun w hR => ?_⟩
      first | (go_simp; done) | (go_simp; exact ⟨rfl, hR⟩) | (go_simp; exact ⟨Hgt.out, hR⟩) | (go_simp; exact Hgt.out)
    | 7, ho =>
      cases ho
      refine .inl ⟨by kernel_rfl, fun w hR => ?_⟩
      first | (go_simp; done) | (go_simp; exact ⟨rfl, hR⟩) | (go_simp; exact ⟨Hx.out, hR⟩) | (go_simp; exact Hx.out)
    | 8, ho =>
      cases ho
      refine .inl ⟨by kernel_rfl, fun w hR => ?_⟩
      first | (go_simp; done) | (go_simp; exact ⟨rfl, hR⟩) | (go_simp; exact ⟨Hx.out, hR⟩) | (go_simp; exact Hx.out)
    | 9, ho =>
      cases ho
      refine .inl ⟨by kernel_rfl, fun w hR => ?_⟩
      first | (go_simp; done) | (go_simp; exact ⟨rfl, hR⟩) | (go_simp; exact ⟨Hx.out, hR⟩) | (go_simp; exact Hx.out)
    | 10, ho =>
      cases ho
      refine .inl ⟨by kernel_rfl, fun w hR => ?_⟩
      exact ow_hxf _ _ rfl hR (cs := #[.int .i64 27, .slice (some ⟨b, off, none⟩) 2 c]) (by simp) 1 (.slice (some ⟨b, off, none⟩) 2 c) rfl rfl (by decide +kernel) ⟨rfl, hR⟩
    | 11, ho =>
      cases ho
      refine .inl ⟨by kernel_rfl, fun w hR => ?_⟩
      first | (go_simp; done) | (go_simp; exact ⟨rfl, hR⟩) | (go_simp; exact ⟨Hx.out, hR⟩) | (go_simp; exact Hx.out)
    | 12, ho =>
      cases ho
      refine .inl ⟨by kernel_rfl, fun w hR => ?_⟩
      first | (go_simp; done) | (go_simp; exact ⟨rfl, hR⟩) | (go_simp; exact ⟨Hx.out, hR⟩) | (go_simp; exact Hx.out)
    | 13, ho =>
      cases ho
      refine .inl ⟨by kernel_rfl, fun w hR => ?_⟩
      exact ow_hxf _ _ rfl hR (cs := #[.int .i64 27, .slice (some ⟨b, off, none⟩) 2 c]) (by simp) 0 (.int .i64 27) rfl rfl (by decide +kernel) ⟨rfl, hR⟩
    | 14, ho =>
      cases ho
      refine .inl ⟨by kernel_rfl, fun w hR => ?_⟩
      go_simp
      go_wp2_with fail
      refine (arityS_any 27 w).mono ?_
      rintro e w4 ⟨rfl, h5⟩
      rw [Har.out]
      exact ⟨rfl, hR.below h5⟩
    | 15, ho =>
      cases ho
      refine .inl ⟨by kernel_rfl, fun w hR => ?_⟩
      first | (go_simp; done) | (go_simp; exact ⟨rfl, hR⟩) | (go_simp; exact ⟨Hne.out, hR⟩) | (go_simp; exact Hne.out)
    | 16, ho =>
      cases ho
      refine .inl ⟨by kernel_rfl, fun w hR => ?_⟩
      first | (go_simp; done) | (go_simp; exact ⟨rfl, hR⟩) | (go_simp; exact ⟨Hx.out, hR⟩) | (go_simp; exact Hx.out)
    | i + 17, ho => simp at ho
  case hR10 => exact H1.out.drew
  case fin10 =>
    intro w2 h2
    have H2 := Lib.hid h2
    clear h2 H1
    have c1 := H2.out.cell (g := W.heap.size) (cs := #[.int .i64 27, .slice (some ⟨b, off, none⟩) 2 c]) (by simp) 1 rfl
    obtain ⟨x0, x1, x2⟩ := (HT.out.below H2.out.1).at0
    have H3 := Lib.hid (H2.out.box #[.int .i64 x.1, .int .i64 x.2.1, .int .i64 x.2.2] 31)
    have c0 := H3.out.cell (g := W.heap.size) (cs := #[.int .i64 27, .slice (some ⟨b, off, none⟩) 2 c]) (by simp) 0 rfl
    go_upto_block 0 with (fail)
    clear c1 x0 x1 x2 c0 H2
    cases hb : tKis x [7, 7] with
    | false =>
      have Hb3 := Lib.hid hb
      clear hb
      have T3 := Lib.hid (HT.out.below H3.out.1)
      have c0 := H3.out.cell (g := W.heap.size) (cs := #[.int .i64 27, .slice (some ⟨b, off, none⟩) 2 c]) (by simp) 0 rfl
      have c1 := H3.out.cell (g := W.heap.size) (cs := #[.int .i64 27, .slice (some ⟨b, off, none⟩) 2 c]) (by simp) 1 rfl
      have a0 := H3.out.cell (g := w2.heap.size) (cs := #[.int .i64 x.1, .int .i64 x.2.1, .int .i64 x.2.2]) (by simp) 0 rfl
      have a1 := H3.out.cell (g := w2.heap.size) (cs := #[.int .i64 x.1, .int .i64 x.2.1, .int .i64 x.2.2]) (by simp) 1 rfl
      have a2 := H3.out.cell (g := w2.heap.size) (cs := #[.int .i64 x.1, .int .i64 x.2.1, .int .i64 x.2.2]) (by simp) 2 rfl
      go_wp2_with fail
      refine (kind_any x.1 x.2.1 x.2.2 7 7 _).mono ?_
      rw [show kis x.1 x.2.1 x.2.2 [7, 7] = false from Hb3.out]
      rintro e w4 ⟨rfl, h⟩
      have H4 := Lib.hid ((H3.out).below h)
      clear h H3 c0 c1 a0 a1 a2
      go_wp2_with fail
      go_ret
      exact ⟨kit.ret_bool (by rw [Hb3.out]; try rfl), H4.out.1⟩
    | true =>
      have Hb3 := Lib.hid hb
      clear hb
      have T3 := Lib.hid (HT.out.below H3.out.1)
      have c0 := H3.out.cell (g := W.heap.size) (cs := #[.int .i64 27, .slice (some ⟨b, off, none⟩) 2 c]) (by simp) 0 rfl
      have c1 := H3.out.cell (g := W.heap.size) (cs := #[.int .i64 27, .slice (some ⟨b, off, none⟩) 2 c]) (by simp) 1 rfl
      have a0 := H3.out.cell (g := w2.heap.size) (cs := #[.int .i64 x.1, .int .i64 x.2.1, .int .i64 x.2.2]) (by simp) 0 rfl
      have a1 := H3.out.cell (g := w2.heap.size) (cs := #[.int .i64 x.1, .int .i64 x.2.1, .int .i64 x.2.2]) (by simp) 1 rfl
      have a2 := H3.out.cell (g := w2.heap.size) (cs := #[.int .i64 x.1, .int .i64 x.2.1, .int .i64 x.2.2]) (by simp) 2 rfl
      go_wp2_with fail
      refine (kind_any x.1 x.2.1 x.2.2 7 7 _).mono ?_
      rw [show kis x.1 x.2.1 x.2.2 [7, 7] = true from Hb3.out]
      rintro e w4 ⟨rfl, h⟩
      have H4 := Lib.hid ((H3.out).below h)
      clear h H3 c0 c1 a0 a1 a2
      cases hb : tKis y [11, 11] with
      | false =>
        have Hb4 := Lib.hid hb
        clear hb
        have T4 := Lib.hid (HT.out.below H4.out.1)
        have c0 := H4.out.cell (g := W.heap.size) (cs := #[.int .i64 27, .slice (some ⟨b, off, none⟩) 2 c]) (by simp) 0 rfl
        have c1 := H4.out.cell (g := W.heap.size) (cs := #[.int .i64 27, .slice (some ⟨b, off, none⟩) 2 c]) (by simp) 1 rfl
        have a0 := H4.out.cell (g := w2.heap.size) (cs := #[.int .i64 x.1, .int .i64 x.2.1, .int .i64 x.2.2]) (by simp) 0 rfl
        have a1 := H4.out.cell (g := w2.heap.size) (cs := #[.int .i64 x.1, .int .i64 x.2.1, .int .i64 x.2.2]) (by simp) 1 rfl
        have a2 := H4.out.cell (g := w2.heap.size) (cs := #[.int .i64 x.1, .int .i64 x.2.1, .int .i64 x.2.2]) (by simp) 2 rfl
        obtain ⟨y0, y1, y2⟩ := T4.out.at1
        go_wp2_with fail
        refine (kind_any y.1 y.2.1 y.2.2 11 11 _).mono ?_
        rw [show kis y.1 y.2.1 y.2.2 [11, 11] = false from Hb4.out]
        rintro e w5 ⟨rfl, h⟩
        have H5 := Lib.hid ((H4.out).below h)
        clear h H4 c0 c1 a0 a1 a2 y0 y1 y2
        go_wp2_with fail
        go_ret
        exact ⟨kit.ret_bool (by rw [Hb3.out, Hb4.out]; try rfl), H5.out.1⟩
      | true =>
        have Hb4 := Lib.hid hb
        clear hb
        have T4 := Lib.hid (HT.out.below H4.out.1)
        have c0 := H4.out.cell (g := W.heap.size) (cs := #[.int .i64 27, .slice (some ⟨b, off, none⟩) 2 c]) (by simp) 0 rfl
        have c1 := H4.out.cell (g := W.heap.size) (cs := #[.int .i64 27, .slice (some ⟨b, off, none⟩) 2 c]) (by simp) 1 rfl
        have a0 := H4.out.cell (g := w2.heap.size) (cs := #[.int .i64 x.1, .int .i64 x.2.1, .int .i64 x.2.2]) (by simp) 0 rfl
        have a1 := H4.out.cell (g := w2.heap.size) (cs := #[.int .i64 x.1, .int .i64 x.2.1, .int .i64 x.2.2]) (by simp) 1 rfl
        have a2 := H4.out.cell (g := w2.heap.size) (cs := #[.int .i64 x.1, .int .i64 x.2.1, .int .i64 x.2.2]) (by simp) 2 rfl
        obtain ⟨y0, y1, y2⟩ := T4.out.at1
        go_wp2_with fail
        refine (kind_any y.1 y.2.1 y.2.2 11 11 _).mono ?_
        rw [show kis y.1 y.2.1 y.2.2 [11, 11] = true from Hb4.out]
        rintro e w5 ⟨rfl, h⟩
        have H5 := Lib.hid ((H4.out).below h)
        clear h H4 c0 c1 a0 a1 a2 y0 y1 y2
        have T5 := Lib.hid (HT.out.below H5.out.1)
        have c0 := H5.out.cell (g := W.heap.size) (cs := #[.int .i64 27, .slice (some ⟨b, off, none⟩) 2 c]) (by simp) 0 rfl
        have c1 := H5.out.cell (g := W.heap.size) (cs := #[.int .i64 27, .slice (some ⟨b, off, none⟩) 2 c]) (by simp) 1 rfl
        have a0 := H5.out.cell (g := w2.heap.size) (cs := #[.int .i64 x.1, .int .i64 x.2.1, .int .i64 x.2.2]) (by simp) 0 rfl
        have a1 := H5.out.cell (g := w2.heap.size) (cs := #[.int .i64 x.1, .int .i64 x.2.1, .int .i64 x.2.2]) (by simp) 1 rfl
        have a2 := H5.out.cell (g := w2.heap.size) (cs := #[.int .i64 x.1, .int .i64 x.2.1, .int .i64 x.2.2]) (by simp) 2 rfl
        obtain ⟨y0, y1, y2⟩ := T5.out.at1
        go_wp2_with fail
        go_ret
        exact ⟨kit.ret_bool (by rw [Hb3.out, Hb4.out]; simp), H5.out.1⟩
end Go.Proofs.YtgmdpgchffapoaaDoor.dev
