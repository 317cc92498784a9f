/-
  'l4Coil' of the draws: some coil comes back.
  Conditions: the reader has read fewer than 500000 bytes.
-/
import Derived.Test.YtgmdpgchffapoaaDoorElemAsk
import Derived.Deep.RegionWith
import Derived.Deep.CutRange
namespace Go.Proofs.YtgmdpgchffapoaaDoor.draws
open Go Go.RowKit Go.Proofs.YtgmdpgchffapoaaDoor.part Go.Proofs.YtgmdpgchffapoaaDoor.CutEk
set_option linter.unusedVariables false
set_option linter.unusedSimpArgs false
set_option maxRecDepth 100000

set_option maxHeartbeats 16000000 in
theorem coil_w {B : Base} {w : World} {g : Nat} {n : Int} (h : Rd B w g n) (hn : n < 50000) : Calls Tryd.prog 49 #[.pointer (some ⟨g, 0, none⟩)] w (AnyElem ⟨B.w0, w⟩ g (n + 40) 3) := by
  have HB0 := Lib.hid hn
  have G0 := Lib.hid ((gx_nil h).box #[.int .i64 0, .slice none 0 0] 25)
  clear h hn
  go_enter Tryd.func49, Tryd.ntmps49
  go_wp2_with fail
  refine (G0.out.num (by have := HB0.out; omega) [21, 21, 21, 22, 23, 24, 25, 26, 26, 27, 28, 29, 29, 30, 31, 31, 32, 33, 34, 35, 36, 37] _ _ _ (by simp) (by decide) (by decide) (rowOfG _)).mono ?_
  rintro e w1 ⟨o, rfl, ho, G1⟩
  have H1 := Lib.hid G1
  have Ho := Lib.hid ho
  clear G1 ho G0
  go_wp2_with fail
  refine (H1.out.pick (by have := HB0.out; omega) 2 (by decide)).mono ?_
  rintro e w2 ⟨j, rfl, hj, G2⟩
  have H2 := Lib.hid G2
  clear G2 H1 hj
  go_wp2_with fail
  refine (H2.out.arg (by have := HB0.out; omega) _).mono ?_
  rintro e w3 ⟨x1, x2, x3, rfl, G3⟩
  have L3 := Lib.hid (G3.lt (b := w.heap.size) (cs := #[.int .i64 0, .slice none 0 0]) (t := 25) (by simp))
  have H3 := Lib.hid (G3.box #[.int .i64 x1, .int .i64 x2, .int .i64 x3] 31)
  clear G3 H2
  go_wp2_with fail
  refine (H3.out.arg (by have := HB0.out; omega) _).mono ?_
  rintro e w4 ⟨y1, y2, y3, rfl, G4⟩
  have L4 := Lib.hid (G4.lt (b := w3.heap.size) (cs := #[.int .i64 x1, .int .i64 x2, .int .i64 x3]) (t := 31) (by simp))
  have H4 := Lib.hid (G4.box #[.int .i64 y1, .int .i64 y2, .int .i64 y3] 31)
  clear G4 H3
  have c0 := H4.out.cell (b := w4.heap.size) (cs := #[.int .i64 y1, .int .i64 y2, .int .i64 y3]) (t := 31) (by simp) 1 rfl
  have ho : o = 21 ∨ o = 22 ∨ o = 23 ∨ o = 24 ∨ o = 25 ∨ o = 26 ∨ o = 27 ∨ o = 28 ∨ o = 29 ∨ o = 30 ∨ o = 31 ∨ o = 32 ∨ o = 33 ∨ o = 34 ∨ o = 35 ∨ o = 36 ∨ o = 37 := by have := Ho.out; simp at this; omega
  clear Ho
  by_cases hy : y2 < 0
  · have b0 : decide (y2 < 0) = true := decide_eq_true hy
    clear hy
    go_wp2_with fail
    refine (H4.out.pick (by have := HB0.out; omega) 9 (by decide)).mono ?_
    rintro e w5 ⟨i, rfl, hi, G5⟩
    have H5 := Lib.hid G5
    clear G5 H4 hi c0 b0
    go_upto_region 6 with (refine wl_gstf rfl _ _ _ rfl H5.out (b := w4.heap.size) (old := #[.int .i64 y1, .int .i64 y2, .int .i64 y3]) (t := 31) (by simp) 1 rfl (.int .i64 i) rfl rfl rfl (by simp) (by kernel_rfl) [(w3.heap.size, #[.int .i64 x1, .int .i64 x2, .int .i64 x3], 31), (w.heap.size, #[.int .i64 0, .slice none 0 0], 25)] (by simp; have := L3.out; have := L4.out; omega) ?_; intro wq G6)
    have HQ : Hid (Gx ⟨B.w0, w⟩ g (n + 9) [(w4.heap.size, #[.int .i64 y1, .int .i64 i, .int .i64 y3], 31), (w3.heap.size, #[.int .i64 x1, .int .i64 x2, .int .i64 x3], 31), (w.heap.size, #[.int .i64 0, .slice none 0 0], 25)] wq) := Lib.hid (Gx.le G6 (by omega))
    clear G6 H5
    rcases ho with rfl | rfl | rfl | rfl | rfl | rfl | rfl | rfl | rfl | rfl | rfl | rfl | rfl | rfl | rfl | rfl | rfl
    · have LZ := Lib.hid (HQ.out.lt (b := w4.heap.size) (cs := #[.int .i64 y1, .int .i64 i, .int .i64 y3]) (t := 31) (by simp))
      go_wp2_with (first | (refine wl_gld rfl _ _ rfl HQ.out (b := w3.heap.size) (cs := #[.int .i64 x1, .int .i64 x2, .int .i64 x3]) (t := 31) (by simp) rfl (by kernel_rfl) (by kernel_rfl) ?_) | (refine wl_gst rfl _ _ _ rfl (HQ.out.box _ _) (b := w.heap.size) (old := #[.int .i64 0, .slice none 0 0]) (t := 25) (by simp) rfl #[.int .i64 21, .slice (some ⟨wq.heap.size, 0, none⟩) 1 1] rfl (elem_one _ _ _ _) rfl (by kernel_rfl) [(wq.heap.size, #[.int .i64 x1, .int .i64 x2, .int .i64 x3], 31)] (by simp; have := L3.out; have := L4.out; have := LZ.out; omega) ?_; intro w9 G9))
      refine bodyPost_ret (v := .agg #[.int .i64 21, .slice (some ⟨wq.heap.size, 0, none⟩) 1 1]) (results_cell_row Tryd.results49 _ _ w.heap.size 25 #[.int .i64 21, .slice (some ⟨wq.heap.size, 0, none⟩) 1 1] (0, 0) _ rfl (G9.2 (w.heap.size, #[.int .i64 21, .slice (some ⟨wq.heap.size, 0, none⟩) 1 1], 25) (by simp)).1 Tryd.underlying25 rfl (by kernel_rfl)) rfl ?_
      exact ⟨21, _, 1, [⟨x1, x2, x3⟩], rfl, by simp, by simp, foot_cells (G9.2 (wq.heap.size, #[.int .i64 x1, .int .i64 x2, .int .i64 x3], 31) (by simp)).1 (G9.ne (b := wq.heap.size) (cs := #[.int .i64 x1, .int .i64 x2, .int .i64 x3]) (t := 31) (by simp)) [⟨x1, x2, x3⟩] [] rfl (by simp), (by intro ad e _; cases e; have := L3.out; have := L4.out; have := LZ.out; simp only; omega), G9.1.le (by omega)⟩
    · go_wp2_with fail
      refine (HQ.out.pick (by have := HB0.out; omega) 3 (by decide)).mono ?_
      rintro e wr ⟨k, rfl, hk, G⟩
      have HR := Lib.hid G
      clear G HQ hk
      go_wp2_with fail
      refine (HR.out.arg (by have := HB0.out; omega) _).mono ?_
      rintro e wz ⟨z1, z2, z3, rfl, G⟩
      have Hwz := Lib.hid G
      clear G HR
      have LZ := Lib.hid (Hwz.out.lt (b := w4.heap.size) (cs := #[.int .i64 y1, .int .i64 i, .int .i64 y3]) (t := 31) (by simp))
      go_wp2_with (first | (refine wl_gst rfl _ _ _ rfl (Hwz.out.box _ _) (b := w.heap.size) (old := #[.int .i64 0, .slice none 0 0]) (t := 25) (by simp) rfl #[.int .i64 22, .slice (some ⟨wz.heap.size, 0, none⟩) 1 1] rfl (elem_one _ _ _ _) rfl (by kernel_rfl) [(wz.heap.size, #[.int .i64 z1, .int .i64 z2, .int .i64 z3], 31)] (by simp; have := L3.out; have := L4.out; have := LZ.out; omega) ?_; intro w9 G9))
      refine bodyPost_ret (v := .agg #[.int .i64 22, .slice (some ⟨wz.heap.size, 0, none⟩) 1 1]) (results_cell_row Tryd.results49 _ _ w.heap.size 25 #[.int .i64 22, .slice (some ⟨wz.heap.size, 0, none⟩) 1 1] (0, 0) _ rfl (G9.2 (w.heap.size, #[.int .i64 22, .slice (some ⟨wz.heap.size, 0, none⟩) 1 1], 25) (by simp)).1 Tryd.underlying25 rfl (by kernel_rfl)) rfl ?_
      exact ⟨22, _, 1, [⟨z1, z2, z3⟩], rfl, by simp, by simp, foot_cells (G9.2 (wz.heap.size, #[.int .i64 z1, .int .i64 z2, .int .i64 z3], 31) (by simp)).1 (G9.ne (b := wz.heap.size) (cs := #[.int .i64 z1, .int .i64 z2, .int .i64 z3]) (t := 31) (by simp)) [⟨z1, z2, z3⟩] [] rfl (by simp), (by intro ad e _; cases e; have := L3.out; have := L4.out; have := LZ.out; simp only; omega), G9.1.le (by omega)⟩
    · go_wp2_with fail
      refine (HQ.out.num (by have := HB0.out; omega) [2, 3, 4, 7, 8] _ _ _ rfl (by decide) (by decide) (rowOfG _)).mono ?_
      rintro e wr ⟨k, rfl, hk, G⟩
      have HR := Lib.hid G
      clear G HQ hk
      go_wp2_with fail
      refine (HR.out.arg (by have := HB0.out; omega) _).mono ?_
      rintro e wz ⟨z1, z2, z3, rfl, G⟩
      have Hwz := Lib.hid G
      clear G HR
      have LZ := Lib.hid (Hwz.out.lt (b := w4.heap.size) (cs := #[.int .i64 y1, .int .i64 i, .int .i64 y3]) (t := 31) (by simp))
      go_wp2_with (first | (refine wl_gst rfl _ _ _ rfl (Hwz.out.box _ _) (b := w.heap.size) (old := #[.int .i64 0, .slice none 0 0]) (t := 25) (by simp) rfl #[.int .i64 23, .slice (some ⟨wz.heap.size, 0, none⟩) 1 1] rfl (elem_one _ _ _ _) rfl (by kernel_rfl) [(wz.heap.size, #[.int .i64 z1, .int .i64 z2, .int .i64 z3], 31)] (by simp; have := L3.out; have := L4.out; have := LZ.out; omega) ?_; intro w9 G9))
      refine bodyPost_ret (v := .agg #[.int .i64 23, .slice (some ⟨wz.heap.size, 0, none⟩) 1 1]) (results_cell_row Tryd.results49 _ _ w.heap.size 25 #[.int .i64 23, .slice (some ⟨wz.heap.size, 0, none⟩) 1 1] (0, 0) _ rfl (G9.2 (w.heap.size, #[.int .i64 23, .slice (some ⟨wz.heap.size, 0, none⟩) 1 1], 25) (by simp)).1 Tryd.underlying25 rfl (by kernel_rfl)) rfl ?_
      exact ⟨23, _, 1, [⟨z1, z2, z3⟩], rfl, by simp, by simp, foot_cells (G9.2 (wz.heap.size, #[.int .i64 z1, .int .i64 z2, .int .i64 z3], 31) (by simp)).1 (G9.ne (b := wz.heap.size) (cs := #[.int .i64 z1, .int .i64 z2, .int .i64 z3]) (t := 31) (by simp)) [⟨z1, z2, z3⟩] [] rfl (by simp), (by intro ad e _; cases e; have := L3.out; have := L4.out; have := LZ.out; simp only; omega), G9.1.le (by omega)⟩
    · go_wp2_with fail
      have HD : Hid (Gx ⟨B.w0, w⟩ g (n + 9) [(w4.heap.size, #[.int .i64 y1, .int .i64 i, .int .i64 y3], 31), (w3.heap.size, #[.int .i64 x1, .int .i64 x2, .int .i64 x3], 31), (w.heap.size, #[.int .i64 0, .slice none 0 0], 25)] wq.drew) := Lib.hid HQ.out.drew
      have d0 := HD.out.cell (b := w3.heap.size) (cs := #[.int .i64 x1, .int .i64 x2, .int .i64 x3]) (t := 31) (by simp) 0 rfl
      have d1 := HD.out.cell (b := w3.heap.size) (cs := #[.int .i64 x1, .int .i64 x2, .int .i64 x3]) (t := 31) (by simp) 1 rfl
      have d2 := HD.out.cell (b := w3.heap.size) (cs := #[.int .i64 x1, .int .i64 x2, .int .i64 x3]) (t := 31) (by simp) 2 rfl
      go_region_with (first | (go_at_call 62; refine (HD.out.arg (by have := HB0.out; omega) _).mono ?_; rintro e wz ⟨z1, z2, z3, rfl, G⟩; have Hwz := Lib.hid G; have LZ := Lib.hid (G.lt (b := w4.heap.size) (cs := #[.int .i64 y1, .int .i64 i, .int .i64 y3]) (t := 31) (by simp)); have f0 := G.cell (b := w3.heap.size) (cs := #[.int .i64 x1, .int .i64 x2, .int .i64 x3]) (t := 31) (by simp) 0 rfl; have f1 := G.cell (b := w3.heap.size) (cs := #[.int .i64 x1, .int .i64 x2, .int .i64 x3]) (t := 31) (by simp) 1 rfl; have f2 := G.cell (b := w3.heap.size) (cs := #[.int .i64 x1, .int .i64 x2, .int .i64 x3]) (t := 31) (by simp) 2 rfl; have G2 := G.box #[.int .i64 x1, .int .i64 x2, .int .i64 x3, .int .i64 z1, .int .i64 z2, .int .i64 z3] 31; have k0 := G2.cell (b := w.heap.size) (cs := #[.int .i64 0, .slice none 0 0]) (t := 25) (by simp) 0 rfl; have r0 := G2.frozen (b := w.heap.size) (cs := #[.int .i64 0, .slice none 0 0]) (t := 25) (by simp) 0; have k1 := G2.cell (b := w.heap.size) (cs := #[.int .i64 0, .slice none 0 0]) (t := 25) (by simp) 1 rfl; have r1 := G2.frozen (b := w.heap.size) (cs := #[.int .i64 0, .slice none 0 0]) (t := 25) (by simp) 1; have HG := Lib.hid G2; clear G2; clear G))
      all_goals
        go_wp2_with fail
        have GA := HG.out.setCell (b := w.heap.size) (old := #[.int .i64 0, .slice none 0 0]) (t := 25) (by simp) 0 (.int .i64 24) [(wz.heap.size, #[.int .i64 x1, .int .i64 x2, .int .i64 x3, .int .i64 z1, .int .i64 z2, .int .i64 z3], 31)] (by simp; have := L3.out; have := L4.out; have := LZ.out; omega)
        have G9 := GA.setCell (b := w.heap.size) (old := #[.int .i64 24, .slice none 0 0]) (t := 25) (by simp) 1 (.slice (some ⟨wz.heap.size, 0, none⟩) 2 2) [(wz.heap.size, #[.int .i64 x1, .int .i64 x2, .int .i64 x3, .int .i64 z1, .int .i64 z2, .int .i64 z3], 31)] (by simp; have := L3.out; have := L4.out; have := LZ.out; omega)
        have G9 : Gx ⟨B.w0, w⟩ g (n + 9 + 3) [(w.heap.size, #[.int .i64 24, .slice (some ⟨wz.heap.size, 0, none⟩) 2 2], 25), (wz.heap.size, #[.int .i64 x1, .int .i64 x2, .int .i64 x3, .int .i64 z1, .int .i64 z2, .int .i64 z3], 31)] _ := G9
        refine bodyPost_ret (v := .agg #[.int .i64 24, .slice (some ⟨wz.heap.size, 0, none⟩) 2 2]) (results_cell_row Tryd.results49 _ _ w.heap.size 25 #[.int .i64 24, .slice (some ⟨wz.heap.size, 0, none⟩) 2 2] (0, 0) _ rfl (G9.2 (w.heap.size, #[.int .i64 24, .slice (some ⟨wz.heap.size, 0, none⟩) 2 2], 25) (by simp)).1 Tryd.underlying25 rfl (by kernel_rfl)) rfl ?_
        exact ⟨24, _, 2, [⟨x1, x2, x3⟩, ⟨z1, z2, z3⟩], rfl, by simp, by simp, foot_cells (G9.2 (wz.heap.size, #[.int .i64 x1, .int .i64 x2, .int .i64 x3, .int .i64 z1, .int .i64 z2, .int .i64 z3], 31) (by simp)).1 (G9.ne (b := wz.heap.size) (cs := #[.int .i64 x1, .int .i64 x2, .int .i64 x3, .int .i64 z1, .int .i64 z2, .int .i64 z3]) (t := 31) (by simp)) [⟨x1, x2, x3⟩, ⟨z1, z2, z3⟩] [] rfl (by simp), (by intro ad e _; cases e; have := L3.out; have := L4.out; have := LZ.out; simp only; omega), G9.1.le (by omega)⟩
    · go_wp2_with fail
      refine (HQ.out.arg (by have := HB0.out; omega) _).mono ?_
      rintro e wz ⟨z1, z2, z3, rfl, G⟩
      have Hwz := Lib.hid G
      clear G HQ
      have LZ := Lib.hid (Hwz.out.lt (b := w4.heap.size) (cs := #[.int .i64 y1, .int .i64 i, .int .i64 y3]) (t := 31) (by simp))
      go_wp2_with (first | (refine wl_gst rfl _ _ _ rfl (Hwz.out.box _ _) (b := w.heap.size) (old := #[.int .i64 0, .slice none 0 0]) (t := 25) (by simp) rfl #[.int .i64 25, .slice (some ⟨wz.heap.size, 0, none⟩) 1 1] rfl (elem_one _ _ _ _) rfl (by kernel_rfl) [(wz.heap.size, #[.int .i64 z1, .int .i64 z2, .int .i64 z3], 31)] (by simp; have := L3.out; have := L4.out; have := LZ.out; omega) ?_; intro w9 G9))
      refine bodyPost_ret (v := .agg #[.int .i64 25, .slice (some ⟨wz.heap.size, 0, none⟩) 1 1]) (results_cell_row Tryd.results49 _ _ w.heap.size 25 #[.int .i64 25, .slice (some ⟨wz.heap.size, 0, none⟩) 1 1] (0, 0) _ rfl (G9.2 (w.heap.size, #[.int .i64 25, .slice (some ⟨wz.heap.size, 0, none⟩) 1 1], 25) (by simp)).1 Tryd.underlying25 rfl (by kernel_rfl)) rfl ?_
      exact ⟨25, _, 1, [⟨z1, z2, z3⟩], rfl, by simp, by simp, foot_cells (G9.2 (wz.heap.size, #[.int .i64 z1, .int .i64 z2, .int .i64 z3], 31) (by simp)).1 (G9.ne (b := wz.heap.size) (cs := #[.int .i64 z1, .int .i64 z2, .int .i64 z3]) (t := 31) (by simp)) [⟨z1, z2, z3⟩] [] rfl (by simp), (by intro ad e _; cases e; have := L3.out; have := L4.out; have := LZ.out; simp only; omega), G9.1.le (by omega)⟩
    · go_wp2_with fail
      have HD : Hid (Gx ⟨B.w0, w⟩ g (n + 9) [(w4.heap.size, #[.int .i64 y1, .int .i64 i, .int .i64 y3], 31), (w3.heap.size, #[.int .i64 x1, .int .i64 x2, .int .i64 x3], 31), (w.heap.size, #[.int .i64 0, .slice none 0 0], 25)] wq.drew) := Lib.hid HQ.out.drew
      have d0 := HD.out.cell (b := w4.heap.size) (cs := #[.int .i64 y1, .int .i64 i, .int .i64 y3]) (t := 31) (by simp) 0 rfl
      have d1 := HD.out.cell (b := w4.heap.size) (cs := #[.int .i64 y1, .int .i64 i, .int .i64 y3]) (t := 31) (by simp) 1 rfl
      have d2 := HD.out.cell (b := w4.heap.size) (cs := #[.int .i64 y1, .int .i64 i, .int .i64 y3]) (t := 31) (by simp) 2 rfl
      go_region_with (first | (go_at_call 62; refine (HD.out.arg (by have := HB0.out; omega) _).mono ?_; rintro e wz ⟨z1, z2, z3, rfl, G⟩; have Hwz := Lib.hid G; have LZ := Lib.hid (G.lt (b := w4.heap.size) (cs := #[.int .i64 y1, .int .i64 i, .int .i64 y3]) (t := 31) (by simp)); have f0 := G.cell (b := w4.heap.size) (cs := #[.int .i64 y1, .int .i64 i, .int .i64 y3]) (t := 31) (by simp) 0 rfl; have f1 := G.cell (b := w4.heap.size) (cs := #[.int .i64 y1, .int .i64 i, .int .i64 y3]) (t := 31) (by simp) 1 rfl; have f2 := G.cell (b := w4.heap.size) (cs := #[.int .i64 y1, .int .i64 i, .int .i64 y3]) (t := 31) (by simp) 2 rfl; have G2 := G.box #[.int .i64 z1, .int .i64 z2, .int .i64 z3, .int .i64 y1, .int .i64 i, .int .i64 y3] 31; have k0 := G2.cell (b := w.heap.size) (cs := #[.int .i64 0, .slice none 0 0]) (t := 25) (by simp) 0 rfl; have r0 := G2.frozen (b := w.heap.size) (cs := #[.int .i64 0, .slice none 0 0]) (t := 25) (by simp) 0; have k1 := G2.cell (b := w.heap.size) (cs := #[.int .i64 0, .slice none 0 0]) (t := 25) (by simp) 1 rfl; have r1 := G2.frozen (b := w.heap.size) (cs := #[.int .i64 0, .slice none 0 0]) (t := 25) (by simp) 1; have HG := Lib.hid G2; clear G2; clear G))
      all_goals
        go_wp2_with fail
        have GA := HG.out.setCell (b := w.heap.size) (old := #[.int .i64 0, .slice none 0 0]) (t := 25) (by simp) 0 (.int .i64 26) [(wz.heap.size, #[.int .i64 z1, .int .i64 z2, .int .i64 z3, .int .i64 y1, .int .i64 i, .int .i64 y3], 31)] (by simp; have := L3.out; have := L4.out; have := LZ.out; omega)
        have G9 := GA.setCell (b := w.heap.size) (old := #[.int .i64 26, .slice none 0 0]) (t := 25) (by simp) 1 (.slice (some ⟨wz.heap.size, 0, none⟩) 2 2) [(wz.heap.size, #[.int .i64 z1, .int .i64 z2, .int .i64 z3, .int .i64 y1, .int .i64 i, .int .i64 y3], 31)] (by simp; have := L3.out; have := L4.out; have := LZ.out; omega)
        have G9 : Gx ⟨B.w0, w⟩ g (n + 9 + 3) [(w.heap.size, #[.int .i64 26, .slice (some ⟨wz.heap.size, 0, none⟩) 2 2], 25), (wz.heap.size, #[.int .i64 z1, .int .i64 z2, .int .i64 z3, .int .i64 y1, .int .i64 i, .int .i64 y3], 31)] _ := G9
        refine bodyPost_ret (v := .agg #[.int .i64 26, .slice (some ⟨wz.heap.size, 0, none⟩) 2 2]) (results_cell_row Tryd.results49 _ _ w.heap.size 25 #[.int .i64 26, .slice (some ⟨wz.heap.size, 0, none⟩) 2 2] (0, 0) _ rfl (G9.2 (w.heap.size, #[.int .i64 26, .slice (some ⟨wz.heap.size, 0, none⟩) 2 2], 25) (by simp)).1 Tryd.underlying25 rfl (by kernel_rfl)) rfl ?_
        exact ⟨26, _, 2, [⟨z1, z2, z3⟩, ⟨y1, i, y3⟩], rfl, by simp, by simp, foot_cells (G9.2 (wz.heap.size, #[.int .i64 z1, .int .i64 z2, .int .i64 z3, .int .i64 y1, .int .i64 i, .int .i64 y3], 31) (by simp)).1 (G9.ne (b := wz.heap.size) (cs := #[.int .i64 z1, .int .i64 z2, .int .i64 z3, .int .i64 y1, .int .i64 i, .int .i64 y3]) (t := 31) (by simp)) [⟨z1, z2, z3⟩, ⟨y1, i, y3⟩] [] rfl (by simp), (by intro ad e _; cases e; have := L3.out; have := L4.out; have := LZ.out; simp only; omega), G9.1.le (by omega)⟩
    · go_wp2_with fail
      have HD : Hid (Gx ⟨B.w0, w⟩ g (n + 9) [(w4.heap.size, #[.int .i64 y1, .int .i64 i, .int .i64 y3], 31), (w3.heap.size, #[.int .i64 x1, .int .i64 x2, .int .i64 x3], 31), (w.heap.size, #[.int .i64 0, .slice none 0 0], 25)] wq.drew) := Lib.hid HQ.out.drew
      have d0 := HD.out.cell (b := w4.heap.size) (cs := #[.int .i64 y1, .int .i64 i, .int .i64 y3]) (t := 31) (by simp) 0 rfl
      have d1 := HD.out.cell (b := w4.heap.size) (cs := #[.int .i64 y1, .int .i64 i, .int .i64 y3]) (t := 31) (by simp) 1 rfl
      have d2 := HD.out.cell (b := w4.heap.size) (cs := #[.int .i64 y1, .int .i64 i, .int .i64 y3]) (t := 31) (by simp) 2 rfl
      go_region_with (first | (go_at_call 62; refine (HD.out.arg (by have := HB0.out; omega) _).mono ?_; rintro e wz ⟨z1, z2, z3, rfl, G⟩; have Hwz := Lib.hid G; have LZ := Lib.hid (G.lt (b := w4.heap.size) (cs := #[.int .i64 y1, .int .i64 i, .int .i64 y3]) (t := 31) (by simp)); have f0 := G.cell (b := w4.heap.size) (cs := #[.int .i64 y1, .int .i64 i, .int .i64 y3]) (t := 31) (by simp) 0 rfl; have f1 := G.cell (b := w4.heap.size) (cs := #[.int .i64 y1, .int .i64 i, .int .i64 y3]) (t := 31) (by simp) 1 rfl; have f2 := G.cell (b := w4.heap.size) (cs := #[.int .i64 y1, .int .i64 i, .int .i64 y3]) (t := 31) (by simp) 2 rfl; have G2 := G.box #[.int .i64 z1, .int .i64 z2, .int .i64 z3, .int .i64 y1, .int .i64 i, .int .i64 y3] 31; have k0 := G2.cell (b := w.heap.size) (cs := #[.int .i64 0, .slice none 0 0]) (t := 25) (by simp) 0 rfl; have r0 := G2.frozen (b := w.heap.size) (cs := #[.int .i64 0, .slice none 0 0]) (t := 25) (by simp) 0; have k1 := G2.cell (b := w.heap.size) (cs := #[.int .i64 0, .slice none 0 0]) (t := 25) (by simp) 1 rfl; have r1 := G2.frozen (b := w.heap.size) (cs := #[.int .i64 0, .slice none 0 0]) (t := 25) (by simp) 1; have HG := Lib.hid G2; clear G2; clear G))
      all_goals
        go_wp2_with fail
        have GA := HG.out.setCell (b := w.heap.size) (old := #[.int .i64 0, .slice none 0 0]) (t := 25) (by simp) 0 (.int .i64 27) [(wz.heap.size, #[.int .i64 z1, .int .i64 z2, .int .i64 z3, .int .i64 y1, .int .i64 i, .int .i64 y3], 31)] (by simp; have := L3.out; have := L4.out; have := LZ.out; omega)
        have G9 := GA.setCell (b := w.heap.size) (old := #[.int .i64 27, .slice none 0 0]) (t := 25) (by simp) 1 (.slice (some ⟨wz.heap.size, 0, none⟩) 2 2) [(wz.heap.size, #[.int .i64 z1, .int .i64 z2, .int .i64 z3, .int .i64 y1, .int .i64 i, .int .i64 y3], 31)] (by simp; have := L3.out; have := L4.out; have := LZ.out; omega)
        have G9 : Gx ⟨B.w0, w⟩ g (n + 9 + 3) [(w.heap.size, #[.int .i64 27, .slice (some ⟨wz.heap.size, 0, none⟩) 2 2], 25), (wz.heap.size, #[.int .i64 z1, .int .i64 z2, .int .i64 z3, .int .i64 y1, .int .i64 i, .int .i64 y3], 31)] _ := G9
        refine bodyPost_ret (v := .agg #[.int .i64 27, .slice (some ⟨wz.heap.size, 0, none⟩) 2 2]) (results_cell_row Tryd.results49 _ _ w.heap.size 25 #[.int .i64 27, .slice (some ⟨wz.heap.size, 0, none⟩) 2 2] (0, 0) _ rfl (G9.2 (w.heap.size, #[.int .i64 27, .slice (some ⟨wz.heap.size, 0, none⟩) 2 2], 25) (by simp)).1 Tryd.underlying25 rfl (by kernel_rfl)) rfl ?_
        exact ⟨27, _, 2, [⟨z1, z2, z3⟩, ⟨y1, i, y3⟩], rfl, by simp, by simp, foot_cells (G9.2 (wz.heap.size, #[.int .i64 z1, .int .i64 z2, .int .i64 z3, .int .i64 y1, .int .i64 i, .int .i64 y3], 31) (by simp)).1 (G9.ne (b := wz.heap.size) (cs := #[.int .i64 z1, .int .i64 z2, .int .i64 z3, .int .i64 y1, .int .i64 i, .int .i64 y3]) (t := 31) (by simp)) [⟨z1, z2, z3⟩, ⟨y1, i, y3⟩] [] rfl (by simp), (by intro ad e _; cases e; have := L3.out; have := L4.out; have := LZ.out; simp only; omega), G9.1.le (by omega)⟩
    · go_wp2_with fail
      have HD : Hid (Gx ⟨B.w0, w⟩ g (n + 9) [(w4.heap.size, #[.int .i64 y1, .int .i64 i, .int .i64 y3], 31), (w3.heap.size, #[.int .i64 x1, .int .i64 x2, .int .i64 x3], 31), (w.heap.size, #[.int .i64 0, .slice none 0 0], 25)] wq.drew) := Lib.hid HQ.out.drew
      have d0 := HD.out.cell (b := w4.heap.size) (cs := #[.int .i64 y1, .int .i64 i, .int .i64 y3]) (t := 31) (by simp) 0 rfl
      have d1 := HD.out.cell (b := w4.heap.size) (cs := #[.int .i64 y1, .int .i64 i, .int .i64 y3]) (t := 31) (by simp) 1 rfl
      have d2 := HD.out.cell (b := w4.heap.size) (cs := #[.int .i64 y1, .int .i64 i, .int .i64 y3]) (t := 31) (by simp) 2 rfl
      go_region_with (first | (go_at_call 62; refine (HD.out.arg (by have := HB0.out; omega) _).mono ?_; rintro e wz ⟨z1, z2, z3, rfl, G⟩; have Hwz := Lib.hid G; have LZ := Lib.hid (G.lt (b := w4.heap.size) (cs := #[.int .i64 y1, .int .i64 i, .int .i64 y3]) (t := 31) (by simp)); have f0 := G.cell (b := w4.heap.size) (cs := #[.int .i64 y1, .int .i64 i, .int .i64 y3]) (t := 31) (by simp) 0 rfl; have f1 := G.cell (b := w4.heap.size) (cs := #[.int .i64 y1, .int .i64 i, .int .i64 y3]) (t := 31) (by simp) 1 rfl; have f2 := G.cell (b := w4.heap.size) (cs := #[.int .i64 y1, .int .i64 i, .int .i64 y3]) (t := 31) (by simp) 2 rfl; have G2 := G.box #[.int .i64 z1, .int .i64 z2, .int .i64 z3, .int .i64 y1, .int .i64 i, .int .i64 y3] 31; have k0 := G2.cell (b := w.heap.size) (cs := #[.int .i64 0, .slice none 0 0]) (t := 25) (by simp) 0 rfl; have r0 := G2.frozen (b := w.heap.size) (cs := #[.int .i64 0, .slice none 0 0]) (t := 25) (by simp) 0; have k1 := G2.cell (b := w.heap.size) (cs := #[.int .i64 0, .slice none 0 0]) (t := 25) (by simp) 1 rfl; have r1 := G2.frozen (b := w.heap.size) (cs := #[.int .i64 0, .slice none 0 0]) (t := 25) (by simp) 1; have HG := Lib.hid G2; clear G2; clear G))
      all_goals
        go_wp2_with fail
        have GA := HG.out.setCell (b := w.heap.size) (old := #[.int .i64 0, .slice none 0 0]) (t := 25) (by simp) 0 (.int .i64 28) [(wz.heap.size, #[.int .i64 z1, .int .i64 z2, .int .i64 z3, .int .i64 y1, .int .i64 i, .int .i64 y3], 31)] (by simp; have := L3.out; have := L4.out; have := LZ.out; omega)
        have G9 := GA.setCell (b := w.heap.size) (old := #[.int .i64 28, .slice none 0 0]) (t := 25) (by simp) 1 (.slice (some ⟨wz.heap.size, 0, none⟩) 2 2) [(wz.heap.size, #[.int .i64 z1, .int .i64 z2, .int .i64 z3, .int .i64 y1, .int .i64 i, .int .i64 y3], 31)] (by simp; have := L3.out; have := L4.out; have := LZ.out; omega)
        have G9 : Gx ⟨B.w0, w⟩ g (n + 9 + 3) [(w.heap.size, #[.int .i64 28, .slice (some ⟨wz.heap.size, 0, none⟩) 2 2], 25), (wz.heap.size, #[.int .i64 z1, .int .i64 z2, .int .i64 z3, .int .i64 y1, .int .i64 i, .int .i64 y3], 31)] _ := G9
        refine bodyPost_ret (v := .agg #[.int .i64 28, .slice (some ⟨wz.heap.size, 0, none⟩) 2 2]) (results_cell_row Tryd.results49 _ _ w.heap.size 25 #[.int .i64 28, .slice (some ⟨wz.heap.size, 0, none⟩) 2 2] (0, 0) _ rfl (G9.2 (w.heap.size, #[.int .i64 28, .slice (some ⟨wz.heap.size, 0, none⟩) 2 2], 25) (by simp)).1 Tryd.underlying25 rfl (by kernel_rfl)) rfl ?_
        exact ⟨28, _, 2, [⟨z1, z2, z3⟩, ⟨y1, i, y3⟩], rfl, by simp, by simp, foot_cells (G9.2 (wz.heap.size, #[.int .i64 z1, .int .i64 z2, .int .i64 z3, .int .i64 y1, .int .i64 i, .int .i64 y3], 31) (by simp)).1 (G9.ne (b := wz.heap.size) (cs := #[.int .i64 z1, .int .i64 z2, .int .i64 z3, .int .i64 y1, .int .i64 i, .int .i64 y3]) (t := 31) (by simp)) [⟨z1, z2, z3⟩, ⟨y1, i, y3⟩] [] rfl (by simp), (by intro ad e _; cases e; have := L3.out; have := L4.out; have := LZ.out; simp only; omega), G9.1.le (by omega)⟩
    · go_wp2_with fail
      have HD : Hid (Gx ⟨B.w0, w⟩ g (n + 9) [(w4.heap.size, #[.int .i64 y1, .int .i64 i, .int .i64 y3], 31), (w3.heap.size, #[.int .i64 x1, .int .i64 x2, .int .i64 x3], 31), (w.heap.size, #[.int .i64 0, .slice none 0 0], 25)] wq.drew) := Lib.hid HQ.out.drew
      have d0 := HD.out.cell (b := w4.heap.size) (cs := #[.int .i64 y1, .int .i64 i, .int .i64 y3]) (t := 31) (by simp) 0 rfl
      have d1 := HD.out.cell (b := w4.heap.size) (cs := #[.int .i64 y1, .int .i64 i, .int .i64 y3]) (t := 31) (by simp) 1 rfl
      have d2 := HD.out.cell (b := w4.heap.size) (cs := #[.int .i64 y1, .int .i64 i, .int .i64 y3]) (t := 31) (by simp) 2 rfl
      go_region_with (first | (go_at_call 62; refine (HD.out.arg (by have := HB0.out; omega) _).mono ?_; rintro e wz ⟨z1, z2, z3, rfl, G⟩; have Hwz := Lib.hid G; have LZ := Lib.hid (G.lt (b := w4.heap.size) (cs := #[.int .i64 y1, .int .i64 i, .int .i64 y3]) (t := 31) (by simp)); have f0 := G.cell (b := w4.heap.size) (cs := #[.int .i64 y1, .int .i64 i, .int .i64 y3]) (t := 31) (by simp) 0 rfl; have f1 := G.cell (b := w4.heap.size) (cs := #[.int .i64 y1, .int .i64 i, .int .i64 y3]) (t := 31) (by simp) 1 rfl; have f2 := G.cell (b := w4.heap.size) (cs := #[.int .i64 y1, .int .i64 i, .int .i64 y3]) (t := 31) (by simp) 2 rfl; have G2 := G.box #[.int .i64 z1, .int .i64 z2, .int .i64 z3, .int .i64 y1, .int .i64 i, .int .i64 y3] 31; have k0 := G2.cell (b := w.heap.size) (cs := #[.int .i64 0, .slice none 0 0]) (t := 25) (by simp) 0 rfl; have r0 := G2.frozen (b := w.heap.size) (cs := #[.int .i64 0, .slice none 0 0]) (t := 25) (by simp) 0; have k1 := G2.cell (b := w.heap.size) (cs := #[.int .i64 0, .slice none 0 0]) (t := 25) (by simp) 1 rfl; have r1 := G2.frozen (b := w.heap.size) (cs := #[.int .i64 0, .slice none 0 0]) (t := 25) (by simp) 1; have HG := Lib.hid G2; clear G2; clear G))
      all_goals
        go_wp2_with fail
        have GA := HG.out.setCell (b := w.heap.size) (old := #[.int .i64 0, .slice none 0 0]) (t := 25) (by simp) 0 (.int .i64 29) [(wz.heap.size, #[.int .i64 z1, .int .i64 z2, .int .i64 z3, .int .i64 y1, .int .i64 i, .int .i64 y3], 31)] (by simp; have := L3.out; have := L4.out; have := LZ.out; omega)
        have G9 := GA.setCell (b := w.heap.size) (old := #[.int .i64 29, .slice none 0 0]) (t := 25) (by simp) 1 (.slice (some ⟨wz.heap.size, 0, none⟩) 2 2) [(wz.heap.size, #[.int .i64 z1, .int .i64 z2, .int .i64 z3, .int .i64 y1, .int .i64 i, .int .i64 y3], 31)] (by simp; have := L3.out; have := L4.out; have := LZ.out; omega)
        have G9 : Gx ⟨B.w0, w⟩ g (n + 9 + 3) [(w.heap.size, #[.int .i64 29, .slice (some ⟨wz.heap.size, 0, none⟩) 2 2], 25), (wz.heap.size, #[.int .i64 z1, .int .i64 z2, .int .i64 z3, .int .i64 y1, .int .i64 i, .int .i64 y3], 31)] _ := G9
        refine bodyPost_ret (v := .agg #[.int .i64 29, .slice (some ⟨wz.heap.size, 0, none⟩) 2 2]) (results_cell_row Tryd.results49 _ _ w.heap.size 25 #[.int .i64 29, .slice (some ⟨wz.heap.size, 0, none⟩) 2 2] (0, 0) _ rfl (G9.2 (w.heap.size, #[.int .i64 29, .slice (some ⟨wz.heap.size, 0, none⟩) 2 2], 25) (by simp)).1 Tryd.underlying25 rfl (by kernel_rfl)) rfl ?_
        exact ⟨29, _, 2, [⟨z1, z2, z3⟩, ⟨y1, i, y3⟩], rfl, by simp, by simp, foot_cells (G9.2 (wz.heap.size, #[.int .i64 z1, .int .i64 z2, .int .i64 z3, .int .i64 y1, .int .i64 i, .int .i64 y3], 31) (by simp)).1 (G9.ne (b := wz.heap.size) (cs := #[.int .i64 z1, .int .i64 z2, .int .i64 z3, .int .i64 y1, .int .i64 i, .int .i64 y3]) (t := 31) (by simp)) [⟨z1, z2, z3⟩, ⟨y1, i, y3⟩] [] rfl (by simp), (by intro ad e _; cases e; have := L3.out; have := L4.out; have := LZ.out; simp only; omega), G9.1.le (by omega)⟩
    · go_wp2_with fail
      refine (HQ.out.pick (by have := HB0.out; omega) 2 (by decide)).mono ?_
      rintro e wr ⟨k, rfl, hk, G⟩
      have HR := Lib.hid G
      clear G HQ
      by_cases hk0 : k = 0
      · subst hk0
        clear hk
        go_wp2_with fail
        refine (HR.out.arg (by have := HB0.out; omega) _).mono ?_
        rintro e wz ⟨z1, z2, z3, rfl, G⟩
        have Hwz := Lib.hid G
        clear G HR
        go_wp2_with fail
        refine (Hwz.out.whole (by have := HB0.out; omega)).mono ?_
        rintro e wu ⟨u1, u2, u3, rfl, G⟩
        have Hwu := Lib.hid G
        clear G Hwz
        go_wp2_with fail
        refine (Hwu.out.whole (by have := HB0.out; omega)).mono ?_
        rintro e wv ⟨v1, v2, v3, rfl, G⟩
        have Hwv := Lib.hid G
        clear G Hwu
        have LZ := Lib.hid (Hwv.out.lt (b := w4.heap.size) (cs := #[.int .i64 y1, .int .i64 i, .int .i64 y3]) (t := 31) (by simp))
        go_wp2_with fail
        refine (dev.arityS_any 30 _).mono ?_
        rw [show dev.arity 30 = 2 from by decide]
        rintro e wn ⟨rfl, hbn⟩
        have HN := Lib.hid ((Hwv.out.box #[.int .i64 z1, .int .i64 z2, .int .i64 z3, .int .i64 u1, .int .i64 u2, .int .i64 u3, .int .i64 v1, .int .i64 v2, .int .i64 v3] 31).below hbn)
        clear hbn Hwv
        go_wp2_with (first | (refine wl_gst rfl _ _ _ rfl HN.out (b := w.heap.size) (old := #[.int .i64 0, .slice none 0 0]) (t := 25) (by simp) rfl #[.int .i64 30, .slice (some ⟨wv.heap.size, 0, none⟩) 2 3] rfl (elem_one _ _ _ _) rfl (by kernel_rfl) [(wv.heap.size, #[.int .i64 z1, .int .i64 z2, .int .i64 z3, .int .i64 u1, .int .i64 u2, .int .i64 u3, .int .i64 v1, .int .i64 v2, .int .i64 v3], 31)] (by simp; have := L3.out; have := L4.out; have := LZ.out; omega) ?_; intro w9 G9))
        refine bodyPost_ret (v := .agg #[.int .i64 30, .slice (some ⟨wv.heap.size, 0, none⟩) 2 3]) (results_cell_row Tryd.results49 _ _ w.heap.size 25 #[.int .i64 30, .slice (some ⟨wv.heap.size, 0, none⟩) 2 3] (0, 0) _ rfl (G9.2 (w.heap.size, #[.int .i64 30, .slice (some ⟨wv.heap.size, 0, none⟩) 2 3], 25) (by simp)).1 Tryd.underlying25 rfl (by kernel_rfl)) rfl ?_
        exact ⟨30, _, 3, [⟨z1, z2, z3⟩, ⟨u1, u2, u3⟩], rfl, by simp, by simp, foot_cells (G9.2 (wv.heap.size, #[.int .i64 z1, .int .i64 z2, .int .i64 z3, .int .i64 u1, .int .i64 u2, .int .i64 u3, .int .i64 v1, .int .i64 v2, .int .i64 v3], 31) (by simp)).1 (G9.ne (b := wv.heap.size) (cs := #[.int .i64 z1, .int .i64 z2, .int .i64 z3, .int .i64 u1, .int .i64 u2, .int .i64 u3, .int .i64 v1, .int .i64 v2, .int .i64 v3]) (t := 31) (by simp)) [⟨z1, z2, z3⟩, ⟨u1, u2, u3⟩] [.int .i64 v1, .int .i64 v2, .int .i64 v3] rfl (by simp), (by intro ad e _; cases e; have := L3.out; have := L4.out; have := LZ.out; simp only; omega), G9.1.le (by omega)⟩
      · have bk0 : ((k : Int) == 0) = false := beq_eq_false_iff_ne.2 (by omega)
        clear hk hk0
        go_wp2_with fail
        refine (HR.out.arg (by have := HB0.out; omega) _).mono ?_
        rintro e wz ⟨z1, z2, z3, rfl, G⟩
        have Hwz := Lib.hid G
        clear G HR
        go_wp2_with fail
        refine (Hwz.out.real (by have := HB0.out; omega)).mono ?_
        rintro e wu ⟨u1, u2, u3, rfl, G⟩
        have Hwu := Lib.hid G
        clear G Hwz
        go_wp2_with fail
        refine (Hwu.out.real (by have := HB0.out; omega)).mono ?_
        rintro e wv ⟨v1, v2, v3, rfl, G⟩
        have Hwv := Lib.hid G
        clear G Hwu
        have LZ := Lib.hid (Hwv.out.lt (b := w4.heap.size) (cs := #[.int .i64 y1, .int .i64 i, .int .i64 y3]) (t := 31) (by simp))
        go_wp2_with fail
        refine (dev.arityS_any 30 _).mono ?_
        rw [show dev.arity 30 = 2 from by decide]
        rintro e wn ⟨rfl, hbn⟩
        have HN := Lib.hid ((Hwv.out.box #[.int .i64 z1, .int .i64 z2, .int .i64 z3, .int .i64 u1, .int .i64 u2, .int .i64 u3, .int .i64 v1, .int .i64 v2, .int .i64 v3] 31).below hbn)
        clear hbn Hwv
        go_wp2_with (first | (refine wl_gst rfl _ _ _ rfl HN.out (b := w.heap.size) (old := #[.int .i64 0, .slice none 0 0]) (t := 25) (by simp) rfl #[.int .i64 30, .slice (some ⟨wv.heap.size, 0, none⟩) 2 3] rfl (elem_one _ _ _ _) rfl (by kernel_rfl) [(wv.heap.size, #[.int .i64 z1, .int .i64 z2, .int .i64 z3, .int .i64 u1, .int .i64 u2, .int .i64 u3, .int .i64 v1, .int .i64 v2, .int .i64 v3], 31)] (by simp; have := L3.out; have := L4.out; have := LZ.out; omega) ?_; intro w9 G9))
        refine bodyPost_ret (v := .agg #[.int .i64 30, .slice (some ⟨wv.heap.size, 0, none⟩) 2 3]) (results_cell_row Tryd.results49 _ _ w.heap.size 25 #[.int .i64 30, .slice (some ⟨wv.heap.size, 0, none⟩) 2 3] (0, 0) _ rfl (G9.2 (w.heap.size, #[.int .i64 30, .slice (some ⟨wv.heap.size, 0, none⟩) 2 3], 25) (by simp)).1 Tryd.underlying25 rfl (by kernel_rfl)) rfl ?_
        exact ⟨30, _, 3, [⟨z1, z2, z3⟩, ⟨u1, u2, u3⟩], rfl, by simp, by simp, foot_cells (G9.2 (wv.heap.size, #[.int .i64 z1, .int .i64 z2, .int .i64 z3, .int .i64 u1, .int .i64 u2, .int .i64 u3, .int .i64 v1, .int .i64 v2, .int .i64 v3], 31) (by simp)).1 (G9.ne (b := wv.heap.size) (cs := #[.int .i64 z1, .int .i64 z2, .int .i64 z3, .int .i64 u1, .int .i64 u2, .int .i64 u3, .int .i64 v1, .int .i64 v2, .int .i64 v3]) (t := 31) (by simp)) [⟨z1, z2, z3⟩, ⟨u1, u2, u3⟩] [.int .i64 v1, .int .i64 v2, .int .i64 v3] rfl (by simp), (by intro ad e _; cases e; have := L3.out; have := L4.out; have := LZ.out; simp only; omega), G9.1.le (by omega)⟩
    · go_wp2_with fail
      refine (HQ.out.pick (by have := HB0.out; omega) 2 (by decide)).mono ?_
      rintro e wr ⟨k, rfl, hk, G⟩
      have HR := Lib.hid G
      clear G HQ
      by_cases hk0 : k = 0
      · subst hk0
        clear hk
        go_wp2_with fail
        refine (HR.out.arg (by have := HB0.out; omega) _).mono ?_
        rintro e wz ⟨z1, z2, z3, rfl, G⟩
        have Hwz := Lib.hid G
        clear G HR
        go_wp2_with fail
        refine (Hwz.out.whole (by have := HB0.out; omega)).mono ?_
        rintro e wu ⟨u1, u2, u3, rfl, G⟩
        have Hwu := Lib.hid G
        clear G Hwz
        go_wp2_with fail
        refine (Hwu.out.whole (by have := HB0.out; omega)).mono ?_
        rintro e wv ⟨v1, v2, v3, rfl, G⟩
        have Hwv := Lib.hid G
        clear G Hwu
        have LZ := Lib.hid (Hwv.out.lt (b := w4.heap.size) (cs := #[.int .i64 y1, .int .i64 i, .int .i64 y3]) (t := 31) (by simp))
        go_wp2_with fail
        refine (dev.arityS_any 31 _).mono ?_
        rw [show dev.arity 31 = 3 from by decide]
        rintro e wn ⟨rfl, hbn⟩
        have HN := Lib.hid ((Hwv.out.box #[.int .i64 z1, .int .i64 z2, .int .i64 z3, .int .i64 u1, .int .i64 u2, .int .i64 u3, .int .i64 v1, .int .i64 v2, .int .i64 v3] 31).below hbn)
        clear hbn Hwv
        go_wp2_with (first | (refine wl_gst rfl _ _ _ rfl HN.out (b := w.heap.size) (old := #[.int .i64 0, .slice none 0 0]) (t := 25) (by simp) rfl #[.int .i64 31, .slice (some ⟨wv.heap.size, 0, none⟩) 3 3] rfl (elem_one _ _ _ _) rfl (by kernel_rfl) [(wv.heap.size, #[.int .i64 z1, .int .i64 z2, .int .i64 z3, .int .i64 u1, .int .i64 u2, .int .i64 u3, .int .i64 v1, .int .i64 v2, .int .i64 v3], 31)] (by simp; have := L3.out; have := L4.out; have := LZ.out; omega) ?_; intro w9 G9))
        refine bodyPost_ret (v := .agg #[.int .i64 31, .slice (some ⟨wv.heap.size, 0, none⟩) 3 3]) (results_cell_row Tryd.results49 _ _ w.heap.size 25 #[.int .i64 31, .slice (some ⟨wv.heap.size, 0, none⟩) 3 3] (0, 0) _ rfl (G9.2 (w.heap.size, #[.int .i64 31, .slice (some ⟨wv.heap.size, 0, none⟩) 3 3], 25) (by simp)).1 Tryd.underlying25 rfl (by kernel_rfl)) rfl ?_
        exact ⟨31, _, 3, [⟨z1, z2, z3⟩, ⟨u1, u2, u3⟩, ⟨v1, v2, v3⟩], rfl, by simp, by simp, foot_cells (G9.2 (wv.heap.size, #[.int .i64 z1, .int .i64 z2, .int .i64 z3, .int .i64 u1, .int .i64 u2, .int .i64 u3, .int .i64 v1, .int .i64 v2, .int .i64 v3], 31) (by simp)).1 (G9.ne (b := wv.heap.size) (cs := #[.int .i64 z1, .int .i64 z2, .int .i64 z3, .int .i64 u1, .int .i64 u2, .int .i64 u3, .int .i64 v1, .int .i64 v2, .int .i64 v3]) (t := 31) (by simp)) [⟨z1, z2, z3⟩, ⟨u1, u2, u3⟩, ⟨v1, v2, v3⟩] [] rfl (by simp), (by intro ad e _; cases e; have := L3.out; have := L4.out; have := LZ.out; simp only; omega), G9.1.le (by omega)⟩
      · have bk0 : ((k : Int) == 0) = false := beq_eq_false_iff_ne.2 (by omega)
        clear hk hk0
        go_wp2_with fail
        refine (HR.out.arg (by have := HB0.out; omega) _).mono ?_
        rintro e wz ⟨z1, z2, z3, rfl, G⟩
        have Hwz := Lib.hid G
        clear G HR
        go_wp2_with fail
        refine (Hwz.out.real (by have := HB0.out; omega)).mono ?_
        rintro e wu ⟨u1, u2, u3, rfl, G⟩
        have Hwu := Lib.hid G
        clear G Hwz
        go_wp2_with fail
        refine (Hwu.out.real (by have := HB0.out; omega)).mono ?_
        rintro e wv ⟨v1, v2, v3, rfl, G⟩
        have Hwv := Lib.hid G
        clear G Hwu
        have LZ := Lib.hid (Hwv.out.lt (b := w4.heap.size) (cs := #[.int .i64 y1, .int .i64 i, .int .i64 y3]) (t := 31) (by simp))
        go_wp2_with fail
        refine (dev.arityS_any 31 _).mono ?_
        rw [show dev.arity 31 = 3 from by decide]
        rintro e wn ⟨rfl, hbn⟩
        have HN := Lib.hid ((Hwv.out.box #[.int .i64 z1, .int .i64 z2, .int .i64 z3, .int .i64 u1, .int .i64 u2, .int .i64 u3, .int .i64 v1, .int .i64 v2, .int .i64 v3] 31).below hbn)
        clear hbn Hwv
        go_wp2_with (first | (refine wl_gst rfl _ _ _ rfl HN.out (b := w.heap.size) (old := #[.int .i64 0, .slice none 0 0]) (t := 25) (by simp) rfl #[.int .i64 31, .slice (some ⟨wv.heap.size, 0, none⟩) 3 3] rfl (elem_one _ _ _ _) rfl (by kernel_rfl) [(wv.heap.size, #[.int .i64 z1, .int .i64 z2, .int .i64 z3, .int .i64 u1, .int .i64 u2, .int .i64 u3, .int .i64 v1, .int .i64 v2, .int .i64 v3], 31)] (by simp; have := L3.out; have := L4.out; have := LZ.out; omega) ?_; intro w9 G9))
        refine bodyPost_ret (v := .agg #[.int .i64 31, .slice (some ⟨wv.heap.size, 0, none⟩) 3 3]) (results_cell_row Tryd.results49 _ _ w.heap.size 25 #[.int .i64 31, .slice (some ⟨wv.heap.size, 0, none⟩) 3 3] (0, 0) _ rfl (G9.2 (w.heap.size, #[.int .i64 31, .slice (some ⟨wv.heap.size, 0, none⟩) 3 3], 25) (by simp)).1 Tryd.underlying25 rfl (by kernel_rfl)) rfl ?_
        exact ⟨31, _, 3, [⟨z1, z2, z3⟩, ⟨u1, u2, u3⟩, ⟨v1, v2, v3⟩], rfl, by simp, by simp, foot_cells (G9.2 (wv.heap.size, #[.int .i64 z1, .int .i64 z2, .int .i64 z3, .int .i64 u1, .int .i64 u2, .int .i64 u3, .int .i64 v1, .int .i64 v2, .int .i64 v3], 31) (by simp)).1 (G9.ne (b := wv.heap.size) (cs := #[.int .i64 z1, .int .i64 z2, .int .i64 z3, .int .i64 u1, .int .i64 u2, .int .i64 u3, .int .i64 v1, .int .i64 v2, .int .i64 v3]) (t := 31) (by simp)) [⟨z1, z2, z3⟩, ⟨u1, u2, u3⟩, ⟨v1, v2, v3⟩] [] rfl (by simp), (by intro ad e _; cases e; have := L3.out; have := L4.out; have := LZ.out; simp only; omega), G9.1.le (by omega)⟩
    · go_wp2_with fail
      refine (HQ.out.pick (by have := HB0.out; omega) 2 (by decide)).mono ?_
      rintro e wr ⟨k, rfl, hk, G⟩
      have HR := Lib.hid G
      clear G HQ
      by_cases hk0 : k = 0
      · subst hk0
        clear hk
        go_wp2_with fail
        refine (HR.out.arg (by have := HB0.out; omega) _).mono ?_
        rintro e wz ⟨z1, z2, z3, rfl, G⟩
        have Hwz := Lib.hid G
        clear G HR
        go_wp2_with fail
        refine (Hwz.out.whole (by have := HB0.out; omega)).mono ?_
        rintro e wu ⟨u1, u2, u3, rfl, G⟩
        have Hwu := Lib.hid G
        clear G Hwz
        go_wp2_with fail
        refine (Hwu.out.whole (by have := HB0.out; omega)).mono ?_
        rintro e wv ⟨v1, v2, v3, rfl, G⟩
        have Hwv := Lib.hid G
        clear G Hwu
        have LZ := Lib.hid (Hwv.out.lt (b := w4.heap.size) (cs := #[.int .i64 y1, .int .i64 i, .int .i64 y3]) (t := 31) (by simp))
        go_wp2_with fail
        refine (dev.arityS_any 32 _).mono ?_
        rw [show dev.arity 32 = 3 from by decide]
        rintro e wn ⟨rfl, hbn⟩
        have HN := Lib.hid ((Hwv.out.box #[.int .i64 z1, .int .i64 z2, .int .i64 z3, .int .i64 u1, .int .i64 u2, .int .i64 u3, .int .i64 v1, .int .i64 v2, .int .i64 v3] 31).below hbn)
        clear hbn Hwv
        go_wp2_with (first | (refine wl_gst rfl _ _ _ rfl HN.out (b := w.heap.size) (old := #[.int .i64 0, .slice none 0 0]) (t := 25) (by simp) rfl #[.int .i64 32, .slice (some ⟨wv.heap.size, 0, none⟩) 3 3] rfl (elem_one _ _ _ _) rfl (by kernel_rfl) [(wv.heap.size, #[.int .i64 z1, .int .i64 z2, .int .i64 z3, .int .i64 u1, .int .i64 u2, .int .i64 u3, .int .i64 v1, .int .i64 v2, .int .i64 v3], 31)] (by simp; have := L3.out; have := L4.out; have := LZ.out; omega) ?_; intro w9 G9))
        refine bodyPost_ret (v := .agg #[.int .i64 32, .slice (some ⟨wv.heap.size, 0, none⟩) 3 3]) (results_cell_row Tryd.results49 _ _ w.heap.size 25 #[.int .i64 32, .slice (some ⟨wv.heap.size, 0, none⟩) 3 3] (0, 0) _ rfl (G9.2 (w.heap.size, #[.int .i64 32, .slice (some ⟨wv.heap.size, 0, none⟩) 3 3], 25) (by simp)).1 Tryd.underlying25 rfl (by kernel_rfl)) rfl ?_
        exact ⟨32, _, 3, [⟨z1, z2, z3⟩, ⟨u1, u2, u3⟩, ⟨v1, v2, v3⟩], rfl, by simp, by simp, foot_cells (G9.2 (wv.heap.size, #[.int .i64 z1, .int .i64 z2, .int .i64 z3, .int .i64 u1, .int .i64 u2, .int .i64 u3, .int .i64 v1, .int .i64 v2, .int .i64 v3], 31) (by simp)).1 (G9.ne (b := wv.heap.size) (cs := #[.int .i64 z1, .int .i64 z2, .int .i64 z3, .int .i64 u1, .int .i64 u2, .int .i64 u3, .int .i64 v1, .int .i64 v2, .int .i64 v3]) (t := 31) (by simp)) [⟨z1, z2, z3⟩, ⟨u1, u2, u3⟩, ⟨v1, v2, v3⟩] [] rfl (by simp), (by intro ad e _; cases e; have := L3.out; have := L4.out; have := LZ.out; simp only; omega), G9.1.le (by omega)⟩
      · have bk0 : ((k : Int) == 0) = false := beq_eq_false_iff_ne.2 (by omega)
        clear hk hk0
        go_wp2_with fail
        refine (HR.out.arg (by have := HB0.out; omega) _).mono ?_
        rintro e wz ⟨z1, z2, z3, rfl, G⟩
        have Hwz := Lib.hid G
        clear G HR
        go_wp2_with fail
        refine (Hwz.out.real (by have := HB0.out; omega)).mono ?_
        rintro e wu ⟨u1, u2, u3, rfl, G⟩
        have Hwu := Lib.hid G
        clear G Hwz
        go_wp2_with fail
        refine (Hwu.out.real (by have := HB0.out; omega)).mono ?_
        rintro e wv ⟨v1, v2, v3, rfl, G⟩
        have Hwv := Lib.hid G
        clear G Hwu
        have LZ := Lib.hid (Hwv.out.lt (b := w4.heap.size) (cs := #[.int .i64 y1, .int .i64 i, .int .i64 y3]) (t := 31) (by simp))
        go_wp2_with fail
        refine (dev.arityS_any 32 _).mono ?_
        rw [show dev.arity 32 = 3 from by decide]
        rintro e wn ⟨rfl, hbn⟩
        have HN := Lib.hid ((Hwv.out.box #[.int .i64 z1, .int .i64 z2, .int .i64 z3, .int .i64 u1, .int .i64 u2, .int .i64 u3, .int .i64 v1, .int .i64 v2, .int .i64 v3] 31).below hbn)
        clear hbn Hwv
        go_wp2_with (first | (refine wl_gst rfl _ _ _ rfl HN.out (b := w.heap.size) (old := #[.int .i64 0, .slice none 0 0]) (t := 25) (by simp) rfl #[.int .i64 32, .slice (some ⟨wv.heap.size, 0, none⟩) 3 3] rfl (elem_one _ _ _ _) rfl (by kernel_rfl) [(wv.heap.size, #[.int .i64 z1, .int .i64 z2, .int .i64 z3, .int .i64 u1, .int .i64 u2, .int .i64 u3, .int .i64 v1, .int .i64 v2, .int .i64 v3], 31)] (by simp; have := L3.out; have := L4.out; have := LZ.out; omega) ?_; intro w9 G9))
        refine bodyPost_ret (v := .agg #[.int .i64 32, .slice (some ⟨wv.heap.size, 0, none⟩) 3 3]) (results_cell_row Tryd.results49 _ _ w.heap.size 25 #[.int .i64 32, .slice (some ⟨wv.heap.size, 0, none⟩) 3 3] (0, 0) _ rfl (G9.2 (w.heap.size, #[.int .i64 32, .slice (some ⟨wv.heap.size, 0, none⟩) 3 3], 25) (by simp)).1 Tryd.underlying25 rfl (by kernel_rfl)) rfl ?_
        exact ⟨32, _, 3, [⟨z1, z2, z3⟩, ⟨u1, u2, u3⟩, ⟨v1, v2, v3⟩], rfl, by simp, by simp, foot_cells (G9.2 (wv.heap.size, #[.int .i64 z1, .int .i64 z2, .int .i64 z3, .int .i64 u1, .int .i64 u2, .int .i64 u3, .int .i64 v1, .int .i64 v2, .int .i64 v3], 31) (by simp)).1 (G9.ne (b := wv.heap.size) (cs := #[.int .i64 z1, .int .i64 z2, .int .i64 z3, .int .i64 u1, .int .i64 u2, .int .i64 u3, .int .i64 v1, .int .i64 v2, .int .i64 v3]) (t := 31) (by simp)) [⟨z1, z2, z3⟩, ⟨u1, u2, u3⟩, ⟨v1, v2, v3⟩] [] rfl (by simp), (by intro ad e _; cases e; have := L3.out; have := L4.out; have := LZ.out; simp only; omega), G9.1.le (by omega)⟩
    · go_wp2_with fail
      refine (HQ.out.pick (by have := HB0.out; omega) 2 (by decide)).mono ?_
      rintro e wr ⟨k, rfl, hk, G⟩
      have HR := Lib.hid G
      clear G HQ
      by_cases hk0 : k = 0
      · subst hk0
        clear hk
        go_wp2_with fail
        refine (HR.out.arg (by have := HB0.out; omega) _).mono ?_
        rintro e wz ⟨z1, z2, z3, rfl, G⟩
        have Hwz := Lib.hid G
        clear G HR
        go_wp2_with fail
        refine (Hwz.out.whole (by have := HB0.out; omega)).mono ?_
        rintro e wu ⟨u1, u2, u3, rfl, G⟩
        have Hwu := Lib.hid G
        clear G Hwz
        go_wp2_with fail
        refine (Hwu.out.whole (by have := HB0.out; omega)).mono ?_
        rintro e wv ⟨v1, v2, v3, rfl, G⟩
        have Hwv := Lib.hid G
        clear G Hwu
        have LZ := Lib.hid (Hwv.out.lt (b := w4.heap.size) (cs := #[.int .i64 y1, .int .i64 i, .int .i64 y3]) (t := 31) (by simp))
        go_wp2_with fail
        refine (dev.arityS_any 33 _).mono ?_
        rw [show dev.arity 33 = 3 from by decide]
        rintro e wn ⟨rfl, hbn⟩
        have HN := Lib.hid ((Hwv.out.box #[.int .i64 z1, .int .i64 z2, .int .i64 z3, .int .i64 u1, .int .i64 u2, .int .i64 u3, .int .i64 v1, .int .i64 v2, .int .i64 v3] 31).below hbn)
        clear hbn Hwv
        go_wp2_with (first | (refine wl_gst rfl _ _ _ rfl HN.out (b := w.heap.size) (old := #[.int .i64 0, .slice none 0 0]) (t := 25) (by simp) rfl #[.int .i64 33, .slice (some ⟨wv.heap.size, 0, none⟩) 3 3] rfl (elem_one _ _ _ _) rfl (by kernel_rfl) [(wv.heap.size, #[.int .i64 z1, .int .i64 z2, .int .i64 z3, .int .i64 u1, .int .i64 u2, .int .i64 u3, .int .i64 v1, .int .i64 v2, .int .i64 v3], 31)] (by simp; have := L3.out; have := L4.out; have := LZ.out; omega) ?_; intro w9 G9))
        refine bodyPost_ret (v := .agg #[.int .i64 33, .slice (some ⟨wv.heap.size, 0, none⟩) 3 3]) (results_cell_row Tryd.results49 _ _ w.heap.size 25 #[.int .i64 33, .slice (some ⟨wv.heap.size, 0, none⟩) 3 3] (0, 0) _ rfl (G9.2 (w.heap.size, #[.int .i64 33, .slice (some ⟨wv.heap.size, 0, none⟩) 3 3], 25) (by simp)).1 Tryd.underlying25 rfl (by kernel_rfl)) rfl ?_
        exact ⟨33, _, 3, [⟨z1, z2, z3⟩, ⟨u1, u2, u3⟩, ⟨v1, v2, v3⟩], rfl, by simp, by simp, foot_cells (G9.2 (wv.heap.size, #[.int .i64 z1, .int .i64 z2, .int .i64 z3, .int .i64 u1, .int .i64 u2, .int .i64 u3, .int .i64 v1, .int .i64 v2, .int .i64 v3], 31) (by simp)).1 (G9.ne (b := wv.heap.size) (cs := #[.int .i64 z1, .int .i64 z2, .int .i64 z3, .int .i64 u1, .int .i64 u2, .int .i64 u3, .int .i64 v1, .int .i64 v2, .int .i64 v3]) (t := 31) (by simp)) [⟨z1, z2, z3⟩, ⟨u1, u2, u3⟩, ⟨v1, v2, v3⟩] [] rfl (by simp), (by intro ad e _; cases e; have := L3.out; have := L4.out; have := LZ.out; simp only; omega), G9.1.le (by omega)⟩
      · have bk0 : ((k : Int) == 0) = false := beq_eq_false_iff_ne.2 (by omega)
        clear hk hk0
        go_wp2_with fail
        refine (HR.out.arg (by have := HB0.out; omega) _).mono ?_
        rintro e wz ⟨z1, z2, z3, rfl, G⟩
        have Hwz := Lib.hid G
        clear G HR
        go_wp2_with fail
        refine (Hwz.out.real (by have := HB0.out; omega)).mono ?_
        rintro e wu ⟨u1, u2, u3, rfl, G⟩
        have Hwu := Lib.hid G
        clear G Hwz
        go_wp2_with fail
        refine (Hwu.out.real (by have := HB0.out; omega)).mono ?_
        rintro e wv ⟨v1, v2, v3, rfl, G⟩
        have Hwv := Lib.hid G
        clear G Hwu
        have LZ := Lib.hid (Hwv.out.lt (b := w4.heap.size) (cs := #[.int .i64 y1, .int .i64 i, .int .i64 y3]) (t := 31) (by simp))
        go_wp2_with fail
        refine (dev.arityS_any 33 _).mono ?_
        rw [show dev.arity 33 = 3 from by decide]
        rintro e wn ⟨rfl, hbn⟩
        have HN := Lib.hid ((Hwv.out.box #[.int .i64 z1, .int .i64 z2, .int .i64 z3, .int .i64 u1, .int .i64 u2, .int .i64 u3, .int .i64 v1, .int .i64 v2, .int .i64 v3] 31).below hbn)
        clear hbn Hwv
        go_wp2_with (first | (refine wl_gst rfl _ _ _ rfl HN.out (b := w.heap.size) (old := #[.int .i64 0, .slice none 0 0]) (t := 25) (by simp) rfl #[.int .i64 33, .slice (some ⟨wv.heap.size, 0, none⟩) 3 3] rfl (elem_one _ _ _ _) rfl (by kernel_rfl) [(wv.heap.size, #[.int .i64 z1, .int .i64 z2, .int .i64 z3, .int .i64 u1, .int .i64 u2, .int .i64 u3, .int .i64 v1, .int .i64 v2, .int .i64 v3], 31)] (by simp; have := L3.out; have := L4.out; have := LZ.out; omega) ?_; intro w9 G9))
        refine bodyPost_ret (v := .agg #[.int .i64 33, .slice (some ⟨wv.heap.size, 0, none⟩) 3 3]) (results_cell_row Tryd.results49 _ _ w.heap.size 25 #[.int .i64 33, .slice (some ⟨wv.heap.size, 0, none⟩) 3 3] (0, 0) _ rfl (G9.2 (w.heap.size, #[.int .i64 33, .slice (some ⟨wv.heap.size, 0, none⟩) 3 3], 25) (by simp)).1 Tryd.underlying25 rfl (by kernel_rfl)) rfl ?_
        exact ⟨33, _, 3, [⟨z1, z2, z3⟩, ⟨u1, u2, u3⟩, ⟨v1, v2, v3⟩], rfl, by simp, by simp, foot_cells (G9.2 (wv.heap.size, #[.int .i64 z1, .int .i64 z2, .int .i64 z3, .int .i64 u1, .int .i64 u2, .int .i64 u3, .int .i64 v1, .int .i64 v2, .int .i64 v3], 31) (by simp)).1 (G9.ne (b := wv.heap.size) (cs := #[.int .i64 z1, .int .i64 z2, .int .i64 z3, .int .i64 u1, .int .i64 u2, .int .i64 u3, .int .i64 v1, .int .i64 v2, .int .i64 v3]) (t := 31) (by simp)) [⟨z1, z2, z3⟩, ⟨u1, u2, u3⟩, ⟨v1, v2, v3⟩] [] rfl (by simp), (by intro ad e _; cases e; have := L3.out; have := L4.out; have := LZ.out; simp only; omega), G9.1.le (by omega)⟩
    · go_wp2_with fail
      refine (HQ.out.pick (by have := HB0.out; omega) 2 (by decide)).mono ?_
      rintro e wr ⟨k, rfl, hk, G⟩
      have HR := Lib.hid G
      clear G HQ
      by_cases hk0 : k = 0
      · subst hk0
        clear hk
        go_wp2_with fail
        refine (HR.out.arg (by have := HB0.out; omega) _).mono ?_
        rintro e wz ⟨z1, z2, z3, rfl, G⟩
        have Hwz := Lib.hid G
        clear G HR
        go_wp2_with fail
        refine (Hwz.out.whole (by have := HB0.out; omega)).mono ?_
        rintro e wu ⟨u1, u2, u3, rfl, G⟩
        have Hwu := Lib.hid G
        clear G Hwz
        go_wp2_with fail
        refine (Hwu.out.whole (by have := HB0.out; omega)).mono ?_
        rintro e wv ⟨v1, v2, v3, rfl, G⟩
        have Hwv := Lib.hid G
        clear G Hwu
        have LZ := Lib.hid (Hwv.out.lt (b := w4.heap.size) (cs := #[.int .i64 y1, .int .i64 i, .int .i64 y3]) (t := 31) (by simp))
        go_wp2_with fail
        refine (dev.arityS_any 34 _).mono ?_
        rw [show dev.arity 34 = 3 from by decide]
        rintro e wn ⟨rfl, hbn⟩
        have HN := Lib.hid ((Hwv.out.box #[.int .i64 z1, .int .i64 z2, .int .i64 z3, .int .i64 u1, .int .i64 u2, .int .i64 u3, .int .i64 v1, .int .i64 v2, .int .i64 v3] 31).below hbn)
        clear hbn Hwv
        go_wp2_with (first | (refine wl_gst rfl _ _ _ rfl HN.out (b := w.heap.size) (old := #[.int .i64 0, .slice none 0 0]) (t := 25) (by simp) rfl #[.int .i64 34, .slice (some ⟨wv.heap.size, 0, none⟩) 3 3] rfl (elem_one _ _ _ _) rfl (by kernel_rfl) [(wv.heap.size, #[.int .i64 z1, .int .i64 z2, .int .i64 z3, .int .i64 u1, .int .i64 u2, .int .i64 u3, .int .i64 v1, .int .i64 v2, .int .i64 v3], 31)] (by simp; have := L3.out; have := L4.out; have := LZ.out; omega) ?_; intro w9 G9))
        refine bodyPost_ret (v := .agg #[.int .i64 34, .slice (some ⟨wv.heap.size, 0, none⟩) 3 3]) (results_cell_row Tryd.results49 _ _ w.heap.size 25 #[.int .i64 34, .slice (some ⟨wv.heap.size, 0, none⟩) 3 3] (0, 0) _ rfl (G9.2 (w.heap.size, #[.int .i64 34, .slice (some ⟨wv.heap.size, 0, none⟩) 3 3], 25) (by simp)).1 Tryd.underlying25 rfl (by kernel_rfl)) rfl ?_
        exact ⟨34, _, 3, [⟨z1, z2, z3⟩, ⟨u1, u2, u3⟩, ⟨v1, v2, v3⟩], rfl, by simp, by simp, foot_cells (G9.2 (wv.heap.size, #[.int .i64 z1, .int .i64 z2, .int .i64 z3, .int .i64 u1, .int .i64 u2, .int .i64 u3, .int .i64 v1, .int .i64 v2, .int .i64 v3], 31) (by simp)).1 (G9.ne (b := wv.heap.size) (cs := #[.int .i64 z1, .int .i64 z2, .int .i64 z3, .int .i64 u1, .int .i64 u2, .int .i64 u3, .int .i64 v1, .int .i64 v2, .int .i64 v3]) (t := 31) (by simp)) [⟨z1, z2, z3⟩, ⟨u1, u2, u3⟩, ⟨v1, v2, v3⟩] [] rfl (by simp), (by intro ad e _; cases e; have := L3.out; have := L4.out; have := LZ.out; simp only; omega), G9.1.le (by omega)⟩
      · have bk0 : ((k : Int) == 0) = false := beq_eq_false_iff_ne.2 (by omega)
        clear hk hk0
        go_wp2_with fail
        refine (HR.out.arg (by have := HB0.out; omega) _).mono ?_
        rintro e wz ⟨z1, z2, z3, rfl, G⟩
        have Hwz := Lib.hid G
        clear G HR
        go_wp2_with fail
        refine (Hwz.out.real (by have := HB0.out; omega)).mono ?_
        rintro e wu ⟨u1, u2, u3, rfl, G⟩
        have Hwu := Lib.hid G
        clear G Hwz
        go_wp2_with fail
        refine (Hwu.out.real (by have := HB0.out; omega)).mono ?_
        rintro e wv ⟨v1, v2, v3, rfl, G⟩
        have Hwv := Lib.hid G
        clear G Hwu
        have LZ := Lib.hid (Hwv.out.lt (b := w4.heap.size) (cs := #[.int .i64 y1, .int .i64 i, .int .i64 y3]) (t := 31) (by simp))
        go_wp2_with fail
        refine (dev.arityS_any 34 _).mono ?_
        rw [show dev.arity 34 = 3 from by decide]
        rintro e wn ⟨rfl, hbn⟩
        have HN := Lib.hid ((Hwv.out.box #[.int .i64 z1, .int .i64 z2, .int .i64 z3, .int .i64 u1, .int .i64 u2, .int .i64 u3, .int .i64 v1, .int .i64 v2, .int .i64 v3] 31).below hbn)
        clear hbn Hwv
        go_wp2_with (first | (refine wl_gst rfl _ _ _ rfl HN.out (b := w.heap.size) (old := #[.int .i64 0, .slice none 0 0]) (t := 25) (by simp) rfl #[.int .i64 34, .slice (some ⟨wv.heap.size, 0, none⟩) 3 3] rfl (elem_one _ _ _ _) rfl (by kernel_rfl) [(wv.heap.size, #[.int .i64 z1, .int .i64 z2, .int .i64 z3, .int .i64 u1, .int .i64 u2, .int .i64 u3, .int .i64 v1, .int .i64 v2, .int .i64 v3], 31)] (by simp; have := L3.out; have := L4.out; have := LZ.out; omega) ?_; intro w9 G9))
        refine bodyPost_ret (v := .agg #[.int .i64 34, .slice (some ⟨wv.heap.size, 0, none⟩) 3 3]) (results_cell_row Tryd.results49 _ _ w.heap.size 25 #[.int .i64 34, .slice (some ⟨wv.heap.size, 0, none⟩) 3 3] (0, 0) _ rfl (G9.2 (w.heap.size, #[.int .i64 34, .slice (some ⟨wv.heap.size, 0, none⟩) 3 3], 25) (by simp)).1 Tryd.underlying25 rfl (by kernel_rfl)) rfl ?_
        exact ⟨34, _, 3, [⟨z1, z2, z3⟩, ⟨u1, u2, u3⟩, ⟨v1, v2, v3⟩], rfl, by simp, by simp, foot_cells (G9.2 (wv.heap.size, #[.int .i64 z1, .int .i64 z2, .int .i64 z3, .int .i64 u1, .int .i64 u2, .int .i64 u3, .int .i64 v1, .int .i64 v2, .int .i64 v3], 31) (by simp)).1 (G9.ne (b := wv.heap.size) (cs := #[.int .i64 z1, .int .i64 z2, .int .i64 z3, .int .i64 u1, .int .i64 u2, .int .i64 u3, .int .i64 v1, .int .i64 v2, .int .i64 v3]) (t := 31) (by simp)) [⟨z1, z2, z3⟩, ⟨u1, u2, u3⟩, ⟨v1, v2, v3⟩] [] rfl (by simp), (by intro ad e _; cases e; have := L3.out; have := L4.out; have := LZ.out; simp only; omega), G9.1.le (by omega)⟩
    · go_wp2_with fail
      refine (HQ.out.arg (by have := HB0.out; omega) _).mono ?_
      rintro e wz ⟨z1, z2, z3, rfl, G⟩
      have Hwz := Lib.hid G
      clear G HQ
      go_wp2_with fail
      refine (Hwz.out.whole (by have := HB0.out; omega)).mono ?_
      rintro e wu ⟨u1, u2, u3, rfl, G⟩
      have Hwu := Lib.hid G
      clear G Hwz
      go_wp2_with fail
      refine (Hwu.out.whole (by have := HB0.out; omega)).mono ?_
      rintro e wv ⟨v1, v2, v3, rfl, G⟩
      have Hwv := Lib.hid G
      clear G Hwu
      have LZ := Lib.hid (Hwv.out.lt (b := w4.heap.size) (cs := #[.int .i64 y1, .int .i64 i, .int .i64 y3]) (t := 31) (by simp))
      go_wp2_with fail
      refine (dev.arityS_any 35 _).mono ?_
      rw [show dev.arity 35 = 3 from by decide]
      rintro e wn ⟨rfl, hbn⟩
      have HN := Lib.hid ((Hwv.out.box #[.int .i64 z1, .int .i64 z2, .int .i64 z3, .int .i64 u1, .int .i64 u2, .int .i64 u3, .int .i64 v1, .int .i64 v2, .int .i64 v3] 31).below hbn)
      clear hbn Hwv
      go_wp2_with (first | (refine wl_gst rfl _ _ _ rfl HN.out (b := w.heap.size) (old := #[.int .i64 0, .slice none 0 0]) (t := 25) (by simp) rfl #[.int .i64 35, .slice (some ⟨wv.heap.size, 0, none⟩) 3 3] rfl (elem_one _ _ _ _) rfl (by kernel_rfl) [(wv.heap.size, #[.int .i64 z1, .int .i64 z2, .int .i64 z3, .int .i64 u1, .int .i64 u2, .int .i64 u3, .int .i64 v1, .int .i64 v2, .int .i64 v3], 31)] (by simp; have := L3.out; have := L4.out; have := LZ.out; omega) ?_; intro w9 G9))
      refine bodyPost_ret (v := .agg #[.int .i64 35, .slice (some ⟨wv.heap.size, 0, none⟩) 3 3]) (results_cell_row Tryd.results49 _ _ w.heap.size 25 #[.int .i64 35, .slice (some ⟨wv.heap.size, 0, none⟩) 3 3] (0, 0) _ rfl (G9.2 (w.heap.size, #[.int .i64 35, .slice (some ⟨wv.heap.size, 0, none⟩) 3 3], 25) (by simp)).1 Tryd.underlying25 rfl (by kernel_rfl)) rfl ?_
      exact ⟨35, _, 3, [⟨z1, z2, z3⟩, ⟨u1, u2, u3⟩, ⟨v1, v2, v3⟩], rfl, by simp, by simp, foot_cells (G9.2 (wv.heap.size, #[.int .i64 z1, .int .i64 z2, .int .i64 z3, .int .i64 u1, .int .i64 u2, .int .i64 u3, .int .i64 v1, .int .i64 v2, .int .i64 v3], 31) (by simp)).1 (G9.ne (b := wv.heap.size) (cs := #[.int .i64 z1, .int .i64 z2, .int .i64 z3, .int .i64 u1, .int .i64 u2, .int .i64 u3, .int .i64 v1, .int .i64 v2, .int .i64 v3]) (t := 31) (by simp)) [⟨z1, z2, z3⟩, ⟨u1, u2, u3⟩, ⟨v1, v2, v3⟩] [] rfl (by simp), (by intro ad e _; cases e; have := L3.out; have := L4.out; have := LZ.out; simp only; omega), G9.1.le (by omega)⟩
    · go_wp2_with fail
      refine (HQ.out.arg (by have := HB0.out; omega) _).mono ?_
      rintro e wz ⟨z1, z2, z3, rfl, G⟩
      have Hwz := Lib.hid G
      clear G HQ
      go_wp2_with fail
      refine (Hwz.out.whole (by have := HB0.out; omega)).mono ?_
      rintro e wu ⟨u1, u2, u3, rfl, G⟩
      have Hwu := Lib.hid G
      clear G Hwz
      have LZ := Lib.hid (Hwu.out.lt (b := w4.heap.size) (cs := #[.int .i64 y1, .int .i64 i, .int .i64 y3]) (t := 31) (by simp))
      go_wp2_with (first | (refine wl_gst rfl _ _ _ rfl (Hwu.out.box _ _) (b := w.heap.size) (old := #[.int .i64 0, .slice none 0 0]) (t := 25) (by simp) rfl #[.int .i64 36, .slice (some ⟨wu.heap.size, 0, none⟩) 2 2] rfl (elem_one _ _ _ _) rfl (by kernel_rfl) [(wu.heap.size, #[.int .i64 z1, .int .i64 z2, .int .i64 z3, .int .i64 u1, .int .i64 u2, .int .i64 u3], 31)] (by simp; have := L3.out; have := L4.out; have := LZ.out; omega) ?_; intro w9 G9))
      refine bodyPost_ret (v := .agg #[.int .i64 36, .slice (some ⟨wu.heap.size, 0, none⟩) 2 2]) (results_cell_row Tryd.results49 _ _ w.heap.size 25 #[.int .i64 36, .slice (some ⟨wu.heap.size, 0, none⟩) 2 2] (0, 0) _ rfl (G9.2 (w.heap.size, #[.int .i64 36, .slice (some ⟨wu.heap.size, 0, none⟩) 2 2], 25) (by simp)).1 Tryd.underlying25 rfl (by kernel_rfl)) rfl ?_
      exact ⟨36, _, 2, [⟨z1, z2, z3⟩, ⟨u1, u2, u3⟩], rfl, by simp, by simp, foot_cells (G9.2 (wu.heap.size, #[.int .i64 z1, .int .i64 z2, .int .i64 z3, .int .i64 u1, .int .i64 u2, .int .i64 u3], 31) (by simp)).1 (G9.ne (b := wu.heap.size) (cs := #[.int .i64 z1, .int .i64 z2, .int .i64 z3, .int .i64 u1, .int .i64 u2, .int .i64 u3]) (t := 31) (by simp)) [⟨z1, z2, z3⟩, ⟨u1, u2, u3⟩] [] rfl (by simp), (by intro ad e _; cases e; have := L3.out; have := L4.out; have := LZ.out; simp only; omega), G9.1.le (by omega)⟩
    · go_wp2_with fail
      refine (HQ.out.arg (by have := HB0.out; omega) _).mono ?_
      rintro e wz ⟨z1, z2, z3, rfl, G⟩
      have Hwz := Lib.hid G
      clear G HQ
      go_wp2_with fail
      refine (Hwz.out.real (by have := HB0.out; omega)).mono ?_
      rintro e wu ⟨u1, u2, u3, rfl, G⟩
      have Hwu := Lib.hid G
      clear G Hwz
      have LZ := Lib.hid (Hwu.out.lt (b := w4.heap.size) (cs := #[.int .i64 y1, .int .i64 i, .int .i64 y3]) (t := 31) (by simp))
      go_wp2_with (first | (refine wl_gst rfl _ _ _ rfl (Hwu.out.box _ _) (b := w.heap.size) (old := #[.int .i64 0, .slice none 0 0]) (t := 25) (by simp) rfl #[.int .i64 37, .slice (some ⟨wu.heap.size, 0, none⟩) 2 2] rfl (elem_one _ _ _ _) rfl (by kernel_rfl) [(wu.heap.size, #[.int .i64 z1, .int .i64 z2, .int .i64 z3, .int .i64 u1, .int .i64 u2, .int .i64 u3], 31)] (by simp; have := L3.out; have := L4.out; have := LZ.out; omega) ?_; intro w9 G9))
      refine bodyPost_ret (v := .agg #[.int .i64 37, .slice (some ⟨wu.heap.size, 0, none⟩) 2 2]) (results_cell_row Tryd.results49 _ _ w.heap.size 25 #[.int .i64 37, .slice (some ⟨wu.heap.size, 0, none⟩) 2 2] (0, 0) _ rfl (G9.2 (w.heap.size, #[.int .i64 37, .slice (some ⟨wu.heap.size, 0, none⟩) 2 2], 25) (by simp)).1 Tryd.underlying25 rfl (by kernel_rfl)) rfl ?_
      exact ⟨37, _, 2, [⟨z1, z2, z3⟩, ⟨u1, u2, u3⟩], rfl, by simp, by simp, foot_cells (G9.2 (wu.heap.size, #[.int .i64 z1, .int .i64 z2, .int .i64 z3, .int .i64 u1, .int .i64 u2, .int .i64 u3], 31) (by simp)).1 (G9.ne (b := wu.heap.size) (cs := #[.int .i64 z1, .int .i64 z2, .int .i64 z3, .int .i64 u1, .int .i64 u2, .int .i64 u3]) (t := 31) (by simp)) [⟨z1, z2, z3⟩, ⟨u1, u2, u3⟩] [] rfl (by simp), (by intro ad e _; cases e; have := L3.out; have := L4.out; have := LZ.out; simp only; omega), G9.1.le (by omega)⟩
  · have b0 : decide (y2 < 0) = false := decide_eq_false hy
    clear hy
    go_upto_region 6 with fail
    have HQ0 := H4
    clear H4 c0 b0
    obtain ⟨wq, hwq⟩ : ∃ wq, w4.alloc (.cells #[.int .i64 y1, .int .i64 y2, .int .i64 y3] 31) = wq := ⟨_, rfl⟩
    rw [hwq]
    have HQ : Hid (Gx ⟨B.w0, w⟩ g (n + 9) [(w4.heap.size, #[.int .i64 y1, .int .i64 y2, .int .i64 y3], 31), (w3.heap.size, #[.int .i64 x1, .int .i64 x2, .int .i64 x3], 31), (w.heap.size, #[.int .i64 0, .slice none 0 0], 25)] wq) := by rw [← hwq]; exact Lib.hid (Gx.le HQ0.out (by omega))
    clear hwq HQ0
    rcases ho with rfl | rfl | rfl | rfl | rfl | rfl | rfl | rfl | rfl | rfl | rfl | rfl | rfl | rfl | rfl | rfl | rfl
    · have LZ := Lib.hid (HQ.out.lt (b := w4.heap.size) (cs := #[.int .i64 y1, .int .i64 y2, .int .i64 y3]) (t := 31) (by simp))
      go_wp2_with (first | (refine wl_gld rfl _ _ rfl HQ.out (b := w3.heap.size) (cs := #[.int .i64 x1, .int .i64 x2, .int .i64 x3]) (t := 31) (by simp) rfl (by kernel_rfl) (by kernel_rfl) ?_) | (refine wl_gst rfl _ _ _ rfl (HQ.out.box _ _) (b := w.heap.size) (old := #[.int .i64 0, .slice none 0 0]) (t := 25) (by simp) rfl #[.int .i64 21, .slice (some ⟨wq.heap.size, 0, none⟩) 1 1] rfl (elem_one _ _ _ _) rfl (by kernel_rfl) [(wq.heap.size, #[.int .i64 x1, .int .i64 x2, .int .i64 x3], 31)] (by simp; have := L3.out; have := L4.out; have := LZ.out; omega) ?_; intro w9 G9))
      refine bodyPost_ret (v := .agg #[.int .i64 21, .slice (some ⟨wq.heap.size, 0, none⟩) 1 1]) (results_cell_row Tryd.results49 _ _ w.heap.size 25 #[.int .i64 21, .slice (some ⟨wq.heap.size, 0, none⟩) 1 1] (0, 0) _ rfl (G9.2 (w.heap.size, #[.int .i64 21, .slice (some ⟨wq.heap.size, 0, none⟩) 1 1], 25) (by simp)).1 Tryd.underlying25 rfl (by kernel_rfl)) rfl ?_
      exact ⟨21, _, 1, [⟨x1, x2, x3⟩], rfl, by simp, by simp, foot_cells (G9.2 (wq.heap.size, #[.int .i64 x1, .int .i64 x2, .int .i64 x3], 31) (by simp)).1 (G9.ne (b := wq.heap.size) (cs := #[.int .i64 x1, .int .i64 x2, .int .i64 x3]) (t := 31) (by simp)) [⟨x1, x2, x3⟩] [] rfl (by simp), (by intro ad e _; cases e; have := L3.out; have := L4.out; have := LZ.out; simp only; omega), G9.1.le (by omega)⟩
    · go_wp2_with fail
      refine (HQ.out.pick (by have := HB0.out; omega) 3 (by decide)).mono ?_
      rintro e wr ⟨k, rfl, hk, G⟩
      have HR := Lib.hid G
      clear G HQ hk
      go_wp2_with fail
      refine (HR.out.arg (by have := HB0.out; omega) _).mono ?_
      rintro e wz ⟨z1, z2, z3, rfl, G⟩
      have Hwz := Lib.hid G
      clear G HR
      have LZ := Lib.hid (Hwz.out.lt (b := w4.heap.size) (cs := #[.int .i64 y1, .int .i64 y2, .int .i64 y3]) (t := 31) (by simp))
      go_wp2_with (first | (refine wl_gst rfl _ _ _ rfl (Hwz.out.box _ _) (b := w.heap.size) (old := #[.int .i64 0, .slice none 0 0]) (t := 25) (by simp) rfl #[.int .i64 22, .slice (some ⟨wz.heap.size, 0, none⟩) 1 1] rfl (elem_one _ _ _ _) rfl (by kernel_rfl) [(wz.heap.size, #[.int .i64 z1, .int .i64 z2, .int .i64 z3], 31)] (by simp; have := L3.out; have := L4.out; have := LZ.out; omega) ?_; intro w9 G9))
      refine bodyPost_ret (v := .agg #[.int .i64 22, .slice (some ⟨wz.heap.size, 0, none⟩) 1 1]) (results_cell_row Tryd.results49 _ _ w.heap.size 25 #[.int .i64 22, .slice (some ⟨wz.heap.size, 0, none⟩) 1 1] (0, 0) _ rfl (G9.2 (w.heap.size, #[.int .i64 22, .slice (some ⟨wz.heap.size, 0, none⟩) 1 1], 25) (by simp)).1 Tryd.underlying25 rfl (by kernel_rfl)) rfl ?_
      exact ⟨22, _, 1, [⟨z1, z2, z3⟩], rfl, by simp, by simp, foot_cells (G9.2 (wz.heap.size, #[.int .i64 z1, .int .i64 z2, .int .i64 z3], 31) (by simp)).1 (G9.ne (b := wz.heap.size) (cs := #[.int .i64 z1, .int .i64 z2, .int .i64 z3]) (t := 31) (by simp)) [⟨z1, z2, z3⟩] [] rfl (by simp), (by intro ad e _; cases e; have := L3.out; have := L4.out; have := LZ.out; simp only; omega), G9.1.le (by omega)⟩
    · go_wp2_with fail
      refine (HQ.out.num (by have := HB0.out; omega) [2, 3, 4, 7, 8] _ _ _ rfl (by decide) (by decide) (rowOfG _)).mono ?_
      rintro e wr ⟨k, rfl, hk, G⟩
      have HR := Lib.hid G
      clear G HQ hk
      go_wp2_with fail
      refine (HR.out.arg (by have := HB0.out; omega) _).mono ?_
      rintro e wz ⟨z1, z2, z3, rfl, G⟩
      have Hwz := Lib.hid G
      clear G HR
      have LZ := Lib.hid (Hwz.out.lt (b := w4.heap.size) (cs := #[.int .i64 y1, .int .i64 y2, .int .i64 y3]) (t := 31) (by simp))
      go_wp2_with (first | (refine wl_gst rfl _ _ _ rfl (Hwz.out.box _ _) (b := w.heap.size) (old := #[.int .i64 0, .slice none 0 0]) (t := 25) (by simp) rfl #[.int .i64 23, .slice (some ⟨wz.heap.size, 0, none⟩) 1 1] rfl (elem_one _ _ _ _) rfl (by kernel_rfl) [(wz.heap.size, #[.int .i64 z1, .int .i64 z2, .int .i64 z3], 31)] (by simp; have := L3.out; have := L4.out; have := LZ.out; omega) ?_; intro w9 G9))
      refine bodyPost_ret (v := .agg #[.int .i64 23, .slice (some ⟨wz.heap.size, 0, none⟩) 1 1]) (results_cell_row Tryd.results49 _ _ w.heap.size 25 #[.int .i64 23, .slice (some ⟨wz.heap.size, 0, none⟩) 1 1] (0, 0) _ rfl (G9.2 (w.heap.size, #[.int .i64 23, .slice (some ⟨wz.heap.size, 0, none⟩) 1 1], 25) (by simp)).1 Tryd.underlying25 rfl (by kernel_rfl)) rfl ?_
      exact ⟨23, _, 1, [⟨z1, z2, z3⟩], rfl, by simp, by simp, foot_cells (G9.2 (wz.heap.size, #[.int .i64 z1, .int .i64 z2, .int .i64 z3], 31) (by simp)).1 (G9.ne (b := wz.heap.size) (cs := #[.int .i64 z1, .int .i64 z2, .int .i64 z3]) (t := 31) (by simp)) [⟨z1, z2, z3⟩] [] rfl (by simp), (by intro ad e _; cases e; have := L3.out; have := L4.out; have := LZ.out; simp only; omega), G9.1.le (by omega)⟩
    · go_wp2_with fail
      have HD : Hid (Gx ⟨B.w0, w⟩ g (n + 9) [(w4.heap.size, #[.int .i64 y1, .int .i64 y2, .int .i64 y3], 31), (w3.heap.size, #[.int .i64 x1, .int .i64 x2, .int .i64 x3], 31), (w.heap.size, #[.int .i64 0, .slice none 0 0], 25)] wq.drew) := Lib.hid HQ.out.drew
      have d0 := HD.out.cell (b := w3.heap.size) (cs := #[.int .i64 x1, .int .i64 x2, .int .i64 x3]) (t := 31) (by simp) 0 rfl
      have d1 := HD.out.cell (b := w3.heap.size) (cs := #[.int .i64 x1, .int .i64 x2, .int .i64 x3]) (t := 31) (by simp) 1 rfl
      have d2 := HD.out.cell (b := w3.heap.size) (cs := #[.int .i64 x1, .int .i64 x2, .int .i64 x3]) (t := 31) (by simp) 2 rfl
      go_region_with (first | (go_at_call 62; refine (HD.out.arg (by have := HB0.out; omega) _).mono ?_; rintro e wz ⟨z1, z2, z3, rfl, G⟩; have Hwz := Lib.hid G; have LZ := Lib.hid (G.lt (b := w4.heap.size) (cs := #[.int .i64 y1, .int .i64 y2, .int .i64 y3]) (t := 31) (by simp)); have f0 := G.cell (b := w3.heap.size) (cs := #[.int .i64 x1, .int .i64 x2, .int .i64 x3]) (t := 31) (by simp) 0 rfl; have f1 := G.cell (b := w3.heap.size) (cs := #[.int .i64 x1, .int .i64 x2, .int .i64 x3]) (t := 31) (by simp) 1 rfl; have f2 := G.cell (b := w3.heap.size) (cs := #[.int .i64 x1, .int .i64 x2, .int .i64 x3]) (t := 31) (by simp) 2 rfl; have G2 := G.box #[.int .i64 x1, .int .i64 x2, .int .i64 x3, .int .i64 z1, .int .i64 z2, .int .i64 z3] 31; have k0 := G2.cell (b := w.heap.size) (cs := #[.int .i64 0, .slice none 0 0]) (t := 25) (by simp) 0 rfl; have r0 := G2.frozen (b := w.heap.size) (cs := #[.int .i64 0, .slice none 0 0]) (t := 25) (by simp) 0; have k1 := G2.cell (b := w.heap.size) (cs := #[.int .i64 0, .slice none 0 0]) (t := 25) (by simp) 1 rfl; have r1 := G2.frozen (b := w.heap.size) (cs := #[.int .i64 0, .slice none 0 0]) (t := 25) (by simp) 1; have HG := Lib.hid G2; clear G2; clear G))
      all_goals
        go_wp2_with fail
        have GA := HG.out.setCell (b := w.heap.size) (old := #[.int .i64 0, .slice none 0 0]) (t := 25) (by simp) 0 (.int .i64 24) [(wz.heap.size, #[.int .i64 x1, .int .i64 x2, .int .i64 x3, .int .i64 z1, .int .i64 z2, .int .i64 z3], 31)] (by simp; have := L3.out; have := L4.out; have := LZ.out; omega)
        have G9 := GA.setCell (b := w.heap.size) (old := #[.int .i64 24, .slice none 0 0]) (t := 25) (by simp) 1 (.slice (some ⟨wz.heap.size, 0, none⟩) 2 2) [(wz.heap.size, #[.int .i64 x1, .int .i64 x2, .int .i64 x3, .int .i64 z1, .int .i64 z2, .int .i64 z3], 31)] (by simp; have := L3.out; have := L4.out; have := LZ.out; omega)
        have G9 : Gx ⟨B.w0, w⟩ g (n + 9 + 3) [(w.heap.size, #[.int .i64 24, .slice (some ⟨wz.heap.size, 0, none⟩) 2 2], 25), (wz.heap.size, #[.int .i64 x1, .int .i64 x2, .int .i64 x3, .int .i64 z1, .int .i64 z2, .int .i64 z3], 31)] _ := G9
        refine bodyPost_ret (v := .agg #[.int .i64 24, .slice (some ⟨wz.heap.size, 0, none⟩) 2 2]) (results_cell_row Tryd.results49 _ _ w.heap.size 25 #[.int .i64 24, .slice (some ⟨wz.heap.size, 0, none⟩) 2 2] (0, 0) _ rfl (G9.2 (w.heap.size, #[.int .i64 24, .slice (some ⟨wz.heap.size, 0, none⟩) 2 2], 25) (by simp)).1 Tryd.underlying25 rfl (by kernel_rfl)) rfl ?_
        exact ⟨24, _, 2, [⟨x1, x2, x3⟩, ⟨z1, z2, z3⟩], rfl, by simp, by simp, foot_cells (G9.2 (wz.heap.size, #[.int .i64 x1, .int .i64 x2, .int .i64 x3, .int .i64 z1, .int .i64 z2, .int .i64 z3], 31) (by simp)).1 (G9.ne (b := wz.heap.size) (cs := #[.int .i64 x1, .int .i64 x2, .int .i64 x3, .int .i64 z1, .int .i64 z2, .int .i64 z3]) (t := 31) (by simp)) [⟨x1, x2, x3⟩, ⟨z1, z2, z3⟩] [] rfl (by simp), (by intro ad e _; cases e; have := L3.out; have := L4.out; have := LZ.out; simp only; omega), G9.1.le (by omega)⟩
    · go_wp2_with fail
      refine (HQ.out.arg (by have := HB0.out; omega) _).mono ?_
      rintro e wz ⟨z1, z2, z3, rfl, G⟩
      have Hwz := Lib.hid G
      clear G HQ
      have LZ := Lib.hid (Hwz.out.lt (b := w4.heap.size) (cs := #[.int .i64 y1, .int .i64 y2, .int .i64 y3]) (t := 31) (by simp))
      go_wp2_with (first | (refine wl_gst rfl _ _ _ rfl (Hwz.out.box _ _) (b := w.heap.size) (old := #[.int .i64 0, .slice none 0 0]) (t := 25) (by simp) rfl #[.int .i64 25, .slice (some ⟨wz.heap.size, 0, none⟩) 1 1] rfl (elem_one _ _ _ _) rfl (by kernel_rfl) [(wz.heap.size, #[.int .i64 z1, .int .i64 z2, .int .i64 z3], 31)] (by simp; have := L3.out; have := L4.out; have := LZ.out; omega) ?_; intro w9 G9))
      refine bodyPost_ret (v := .agg #[.int .i64 25, .slice (some ⟨wz.heap.size, 0, none⟩) 1 1]) (results_cell_row Tryd.results49 _ _ w.heap.size 25 #[.int .i64 25, .slice (some ⟨wz.heap.size, 0, none⟩) 1 1] (0, 0) _ rfl (G9.2 (w.heap.size, #[.int .i64 25, .slice (some ⟨wz.heap.size, 0, none⟩) 1 1], 25) (by simp)).1 Tryd.underlying25 rfl (by kernel_rfl)) rfl ?_
      exact ⟨25, _, 1, [⟨z1, z2, z3⟩], rfl, by simp, by simp, foot_cells (G9.2 (wz.heap.size, #[.int .i64 z1, .int .i64 z2, .int .i64 z3], 31) (by simp)).1 (G9.ne (b := wz.heap.size) (cs := #[.int .i64 z1, .int .i64 z2, .int .i64 z3]) (t := 31) (by simp)) [⟨z1, z2, z3⟩] [] rfl (by simp), (by intro ad e _; cases e; have := L3.out; have := L4.out; have := LZ.out; simp only; omega), G9.1.le (by omega)⟩
    · go_wp2_with fail
      have HD : Hid (Gx ⟨B.w0, w⟩ g (n + 9) [(w4.heap.size, #[.int .i64 y1, .int .i64 y2, .int .i64 y3], 31), (w3.heap.size, #[.int .i64 x1, .int .i64 x2, .int .i64 x3], 31), (w.heap.size, #[.int .i64 0, .slice none 0 0], 25)] wq.drew) := Lib.hid HQ.out.drew
      have d0 := HD.out.cell (b := w4.heap.size) (cs := #[.int .i64 y1, .int .i64 y2, .int .i64 y3]) (t := 31) (by simp) 0 rfl
      have d1 := HD.out.cell (b := w4.heap.size) (cs := #[.int .i64 y1, .int .i64 y2, .int .i64 y3]) (t := 31) (by simp) 1 rfl
      have d2 := HD.out.cell (b := w4.heap.size) (cs := #[.int .i64 y1, .int .i64 y2, .int .i64 y3]) (t := 31) (by simp) 2 rfl
      go_region_with (first | (go_at_call 62; refine (HD.out.arg (by have := HB0.out; omega) _).mono ?_; rintro e wz ⟨z1, z2, z3, rfl, G⟩; have Hwz := Lib.hid G; have LZ := Lib.hid (G.lt (b := w4.heap.size) (cs := #[.int .i64 y1, .int .i64 y2, .int .i64 y3]) (t := 31) (by simp)); have f0 := G.cell (b := w4.heap.size) (cs := #[.int .i64 y1, .int .i64 y2, .int .i64 y3]) (t := 31) (by simp) 0 rfl; have f1 := G.cell (b := w4.heap.size) (cs := #[.int .i64 y1, .int .i64 y2, .int .i64 y3]) (t := 31) (by simp) 1 rfl; have f2 := G.cell (b := w4.heap.size) (cs := #[.int .i64 y1, .int .i64 y2, .int .i64 y3]) (t := 31) (by simp) 2 rfl; have G2 := G.box #[.int .i64 z1, .int .i64 z2, .int .i64 z3, .int .i64 y1, .int .i64 y2, .int .i64 y3] 31; have k0 := G2.cell (b := w.heap.size) (cs := #[.int .i64 0, .slice none 0 0]) (t := 25) (by simp) 0 rfl; have r0 := G2.frozen (b := w.heap.size) (cs := #[.int .i64 0, .slice none 0 0]) (t := 25) (by simp) 0; have k1 := G2.cell (b := w.heap.size) (cs := #[.int .i64 0, .slice none 0 0]) (t := 25) (by simp) 1 rfl; have r1 := G2.frozen (b := w.heap.size) (cs := #[.int .i64 0, .slice none 0 0]) (t := 25) (by simp) 1; have HG := Lib.hid G2; clear G2; clear G))
      all_goals
        go_wp2_with fail
        have GA := HG.out.setCell (b := w.heap.size) (old := #[.int .i64 0, .slice none 0 0]) (t := 25) (by simp) 0 (.int .i64 26) [(wz.heap.size, #[.int .i64 z1, .int .i64 z2, .int .i64 z3, .int .i64 y1, .int .i64 y2, .int .i64 y3], 31)] (by simp; have := L3.out; have := L4.out; have := LZ.out; omega)
        have G9 := GA.setCell (b := w.heap.size) (old := #[.int .i64 26, .slice none 0 0]) (t := 25) (by simp) 1 (.slice (some ⟨wz.heap.size, 0, none⟩) 2 2) [(wz.heap.size, #[.int .i64 z1, .int .i64 z2, .int .i64 z3, .int .i64 y1, .int .i64 y2, .int .i64 y3], 31)] (by simp; have := L3.out; have := L4.out; have := LZ.out; omega)
        have G9 : Gx ⟨B.w0, w⟩ g (n + 9 + 3) [(w.heap.size, #[.int .i64 26, .slice (some ⟨wz.heap.size, 0, none⟩) 2 2], 25), (wz.heap.size, #[.int .i64 z1, .int .i64 z2, .int .i64 z3, .int .i64 y1, .int .i64 y2, .int .i64 y3], 31)] _ := G9
        refine bodyPost_ret (v := .agg #[.int .i64 26, .slice (some ⟨wz.heap.size, 0, none⟩) 2 2]) (results_cell_row Tryd.results49 _ _ w.heap.size 25 #[.int .i64 26, .slice (some ⟨wz.heap.size, 0, none⟩) 2 2] (0, 0) _ rfl (G9.2 (w.heap.size, #[.int .i64 26, .slice (some ⟨wz.heap.size, 0, none⟩) 2 2], 25) (by simp)).1 Tryd.underlying25 rfl (by kernel_rfl)) rfl ?_
        exact ⟨26, _, 2, [⟨z1, z2, z3⟩, ⟨y1, y2, y3⟩], rfl, by simp, by simp, foot_cells (G9.2 (wz.heap.size, #[.int .i64 z1, .int .i64 z2, .int .i64 z3, .int .i64 y1, .int .i64 y2, .int .i64 y3], 31) (by simp)).1 (G9.ne (b := wz.heap.size) (cs := #[.int .i64 z1, .int .i64 z2, .int .i64 z3, .int .i64 y1, .int .i64 y2, .int .i64 y3]) (t := 31) (by simp)) [⟨z1, z2, z3⟩, ⟨y1, y2, y3⟩] [] rfl (by simp), (by intro ad e _; cases e; have := L3.out; have := L4.out; have := LZ.out; simp only; omega), G9.1.le (by omega)⟩
    · go_wp2_with fail
      have HD : Hid (Gx ⟨B.w0, w⟩ g (n + 9) [(w4.heap.size, #[.int .i64 y1, .int .i64 y2, .int .i64 y3], 31), (w3.heap.size, #[.int .i64 x1, .int .i64 x2, .int .i64 x3], 31), (w.heap.size, #[.int .i64 0, .slice none 0 0], 25)] wq.drew) := Lib.hid HQ.out.drew
      have d0 := HD.out.cell (b := w4.heap.size) (cs := #[.int .i64 y1, .int .i64 y2, .int .i64 y3]) (t := 31) (by simp) 0 rfl
      have d1 := HD.out.cell (b := w4.heap.size) (cs := #[.int .i64 y1, .int .i64 y2, .int .i64 y3]) (t := 31) (by simp) 1 rfl
      have d2 := HD.out.cell (b := w4.heap.size) (cs := #[.int .i64 y1, .int .i64 y2, .int .i64 y3]) (t := 31) (by simp) 2 rfl
      go_region_with (first | (go_at_call 62; refine (HD.out.arg (by have := HB0.out; omega) _).mono ?_; rintro e wz ⟨z1, z2, z3, rfl, G⟩; have Hwz := Lib.hid G; have LZ := Lib.hid (G.lt (b := w4.heap.size) (cs := #[.int .i64 y1, .int .i64 y2, .int .i64 y3]) (t := 31) (by simp)); have f0 := G.cell (b := w4.heap.size) (cs := #[.int .i64 y1, .int .i64 y2, .int .i64 y3]) (t := 31) (by simp) 0 rfl; have f1 := G.cell (b := w4.heap.size) (cs := #[.int .i64 y1, .int .i64 y2, .int .i64 y3]) (t := 31) (by simp) 1 rfl; have f2 := G.cell (b := w4.heap.size) (cs := #[.int .i64 y1, .int .i64 y2, .int .i64 y3]) (t := 31) (by simp) 2 rfl; have G2 := G.box #[.int .i64 z1, .int .i64 z2, .int .i64 z3, .int .i64 y1, .int .i64 y2, .int .i64 y3] 31; have k0 := G2.cell (b := w.heap.size) (cs := #[.int .i64 0, .slice none 0 0]) (t := 25) (by simp) 0 rfl; have r0 := G2.frozen (b := w.heap.size) (cs := #[.int .i64 0, .slice none 0 0]) (t := 25) (by simp) 0; have k1 := G2.cell (b := w.heap.size) (cs := #[.int .i64 0, .slice none 0 0]) (t := 25) (by simp) 1 rfl; have r1 := G2.frozen (b := w.heap.size) (cs := #[.int .i64 0, .slice none 0 0]) (t := 25) (by simp) 1; have HG := Lib.hid G2; clear G2; clear G))
      all_goals
        go_wp2_with fail
        have GA := HG.out.setCell (b := w.heap.size) (old := #[.int .i64 0, .slice none 0 0]) (t := 25) (by simp) 0 (.int .i64 27) [(wz.heap.size, #[.int .i64 z1, .int .i64 z2, .int .i64 z3, .int .i64 y1, .int .i64 y2, .int .i64 y3], 31)] (by simp; have := L3.out; have := L4.out; have := LZ.out; omega)
        have G9 := GA.setCell (b := w.heap.size) (old := #[.int .i64 27, .slice none 0 0]) (t := 25) (by simp) 1 (.slice (some ⟨wz.heap.size, 0, none⟩) 2 2) [(wz.heap.size, #[.int .i64 z1, .int .i64 z2, .int .i64 z3, .int .i64 y1, .int .i64 y2, .int .i64 y3], 31)] (by simp; have := L3.out; have := L4.out; have := LZ.out; omega)
        have G9 : Gx ⟨B.w0, w⟩ g (n + 9 + 3) [(w.heap.size, #[.int .i64 27, .slice (some ⟨wz.heap.size, 0, none⟩) 2 2], 25), (wz.heap.size, #[.int .i64 z1, .int .i64 z2, .int .i64 z3, .int .i64 y1, .int .i64 y2, .int .i64 y3], 31)] _ := G9
        refine bodyPost_ret (v := .agg #[.int .i64 27, .slice (some ⟨wz.heap.size, 0, none⟩) 2 2]) (results_cell_row Tryd.results49 _ _ w.heap.size 25 #[.int .i64 27, .slice (some ⟨wz.heap.size, 0, none⟩) 2 2] (0, 0) _ rfl (G9.2 (w.heap.size, #[.int .i64 27, .slice (some ⟨wz.heap.size, 0, none⟩) 2 2], 25) (by simp)).1 Tryd.underlying25 rfl (by kernel_rfl)) rfl ?_
        exact ⟨27, _, 2, [⟨z1, z2, z3⟩, ⟨y1, y2, y3⟩], rfl, by simp, by simp, foot_cells (G9.2 (wz.heap.size, #[.int .i64 z1, .int .i64 z2, .int .i64 z3, .int .i64 y1, .int .i64 y2, .int .i64 y3], 31) (by simp)).1 (G9.ne (b := wz.heap.size) (cs := #[.int .i64 z1, .int .i64 z2, .int .i64 z3, .int .i64 y1, .int .i64 y2, .int .i64 y3]) (t := 31) (by simp)) [⟨z1, z2, z3⟩, ⟨y1, y2, y3⟩] [] rfl (by simp), (by intro ad e _; cases e; have := L3.out; have := L4.out; have := LZ.out; simp only; omega), G9.1.le (by omega)⟩
    · go_wp2_with fail
      have HD : Hid (Gx ⟨B.w0, w⟩ g (n + 9) [(w4.heap.size, #[.int .i64 y1, .int .i64 y2, .int .i64 y3], 31), (w3.heap.size, #[.int .i64 x1, .int .i64 x2, .int .i64 x3], 31), (w.heap.size, #[.int .i64 0, .slice none 0 0], 25)] wq.drew) := Lib.hid HQ.out.drew
      have d0 := HD.out.cell (b := w4.heap.size) (cs := #[.int .i64 y1, .int .i64 y2, .int .i64 y3]) (t := 31) (by simp) 0 rfl
      have d1 := HD.out.cell (b := w4.heap.size) (cs := #[.int .i64 y1, .int .i64 y2, .int .i64 y3]) (t := 31) (by simp) 1 rfl
      have d2 := HD.out.cell (b := w4.heap.size) (cs := #[.int .i64 y1, .int .i64 y2, .int .i64 y3]) (t := 31) (by simp) 2 rfl
      go_region_with (first | (go_at_call 62; refine (HD.out.arg (by have := HB0.out; omega) _).mono ?_; rintro e wz ⟨z1, z2, z3, rfl, G⟩; have Hwz := Lib.hid G; have LZ := Lib.hid (G.lt (b := w4.heap.size) (cs := #[.int .i64 y1, .int .i64 y2, .int .i64 y3]) (t := 31) (by simp)); have f0 := G.cell (b := w4.heap.size) (cs := #[.int .i64 y1, .int .i64 y2, .int .i64 y3]) (t := 31) (by simp) 0 rfl; have f1 := G.cell (b := w4.heap.size) (cs := #[.int .i64 y1, .int .i64 y2, .int .i64 y3]) (t := 31) (by simp) 1 rfl; have f2 := G.cell (b := w4.heap.size) (cs := #[.int .i64 y1, .int .i64 y2, .int .i64 y3]) (t := 31) (by simp) 2 rfl; have G2 := G.box #[.int .i64 z1, .int .i64 z2, .int .i64 z3, .int .i64 y1, .int .i64 y2, .int .i64 y3] 31; have k0 := G2.cell (b := w.heap.size) (cs := #[.int .i64 0, .slice none 0 0]) (t := 25) (by simp) 0 rfl; have r0 := G2.frozen (b := w.heap.size) (cs := #[.int .i64 0, .slice none 0 0]) (t := 25) (by simp) 0; have k1 := G2.cell (b := w.heap.size) (cs := #[.int .i64 0, .slice none 0 0]) (t := 25) (by simp) 1 rfl; have r1 := G2.frozen (b := w.heap.size) (cs := #[.int .i64 0, .slice none 0 0]) (t := 25) (by simp) 1; have HG := Lib.hid G2; clear G2; clear G))
      all_goals
        go_wp2_with fail
        have GA := HG.out.setCell (b := w.heap.size) (old := #[.int .i64 0, .slice none 0 0]) (t := 25) (by simp) 0 (.int .i64 28) [(wz.heap.size, #[.int .i64 z1, .int .i64 z2, .int .i64 z3, .int .i64 y1, .int .i64 y2, .int .i64 y3], 31)] (by simp; have := L3.out; have := L4.out; have := LZ.out; omega)
        have G9 := GA.setCell (b := w.heap.size) (old := #[.int .i64 28, .slice none 0 0]) (t := 25) (by simp) 1 (.slice (some ⟨wz.heap.size, 0, none⟩) 2 2) [(wz.heap.size, #[.int .i64 z1, .int .i64 z2, .int .i64 z3, .int .i64 y1, .int .i64 y2, .int .i64 y3], 31)] (by simp; have := L3.out; have := L4.out; have := LZ.out; omega)
        have G9 : Gx ⟨B.w0, w⟩ g (n + 9 + 3) [(w.heap.size, #[.int .i64 28, .slice (some ⟨wz.heap.size, 0, none⟩) 2 2], 25), (wz.heap.size, #[.int .i64 z1, .int .i64 z2, .int .i64 z3, .int .i64 y1, .int .i64 y2, .int .i64 y3], 31)] _ := G9
        refine bodyPost_ret (v := .agg #[.int .i64 28, .slice (some ⟨wz.heap.size, 0, none⟩) 2 2]) (results_cell_row Tryd.results49 _ _ w.heap.size 25 #[.int .i64 28, .slice (some ⟨wz.heap.size, 0, none⟩) 2 2] (0, 0) _ rfl (G9.2 (w.heap.size, #[.int .i64 28, .slice (some ⟨wz.heap.size, 0, none⟩) 2 2], 25) (by simp)).1 Tryd.underlying25 rfl (by kernel_rfl)) rfl ?_
        exact ⟨28, _, 2, [⟨z1, z2, z3⟩, ⟨y1, y2, y3⟩], rfl, by simp, by simp, foot_cells (G9.2 (wz.heap.size, #[.int .i64 z1, .int .i64 z2, .int .i64 z3, .int .i64 y1, .int .i64 y2, .int .i64 y3], 31) (by simp)).1 (G9.ne (b := wz.heap.size) (cs := #[.int .i64 z1, .int .i64 z2, .int .i64 z3, .int .i64 y1, .int .i64 y2, .int .i64 y3]) (t := 31) (by simp)) [⟨z1, z2, z3⟩, ⟨y1, y2, y3⟩] [] rfl (by simp), (by intro ad e _; cases e; have := L3.out; have := L4.out; have := LZ.out; simp only; omega), G9.1.le (by omega)⟩
    · go_wp2_with fail
      have HD : Hid (Gx ⟨B.w0, w⟩ g (n + 9) [(w4.heap.size, #[.int .i64 y1, .int .i64 y2, .int .i64 y3], 31), (w3.heap.size, #[.int .i64 x1, .int .i64 x2, .int .i64 x3], 31), (w.heap.size, #[.int .i64 0, .slice none 0 0], 25)] wq.drew) := Lib.hid HQ.out.drew
      have d0 := HD.out.cell (b := w4.heap.size) (cs := #[.int .i64 y1, .int .i64 y2, .int .i64 y3]) (t := 31) (by simp) 0 rfl
      have d1 := HD.out.cell (b := w4.heap.size) (cs := #[.int .i64 y1, .int .i64 y2, .int .i64 y3]) (t := 31) (by simp) 1 rfl
      have d2 := HD.out.cell (b := w4.heap.size) (cs := #[.int .i64 y1, .int .i64 y2, .int .i64 y3]) (t := 31) (by simp) 2 rfl
      go_region_with (first | (go_at_call 62; refine (HD.out.arg (by have := HB0.out; omega) _).mono ?_; rintro e wz ⟨z1, z2, z3, rfl, G⟩; have Hwz := Lib.hid G; have LZ := Lib.hid (G.lt (b := w4.heap.size) (cs := #[.int .i64 y1, .int .i64 y2, .int .i64 y3]) (t := 31) (by simp)); have f0 := G.cell (b := w4.heap.size) (cs := #[.int .i64 y1, .int .i64 y2, .int .i64 y3]) (t := 31) (by simp) 0 rfl; have f1 := G.cell (b := w4.heap.size) (cs := #[.int .i64 y1, .int .i64 y2, .int .i64 y3]) (t := 31) (by simp) 1 rfl; have f2 := G.cell (b := w4.heap.size) (cs := #[.int .i64 y1, .int .i64 y2, .int .i64 y3]) (t := 31) (by simp) 2 rfl; have G2 := G.box #[.int .i64 z1, .int .i64 z2, .int .i64 z3, .int .i64 y1, .int .i64 y2, .int .i64 y3] 31; have k0 := G2.cell (b := w.heap.size) (cs := #[.int .i64 0, .slice none 0 0]) (t := 25) (by simp) 0 rfl; have r0 := G2.frozen (b := w.heap.size) (cs := #[.int .i64 0, .slice none 0 0]) (t := 25) (by simp) 0; have k1 := G2.cell (b := w.heap.size) (cs := #[.int .i64 0, .slice none 0 0]) (t := 25) (by simp) 1 rfl; have r1 := G2.frozen (b := w.heap.size) (cs := #[.int .i64 0, .slice none 0 0]) (t := 25) (by simp) 1; have HG := Lib.hid G2; clear G2; clear G))
      all_goals
        go_wp2_with fail
        have GA := HG.out.setCell (b := w.heap.size) (old := #[.int .i64 0, .slice none 0 0]) (t := 25) (by simp) 0 (.int .i64 29) [(wz.heap.size, #[.int .i64 z1, .int .i64 z2, .int .i64 z3, .int .i64 y1, .int .i64 y2, .int .i64 y3], 31)] (by simp; have := L3.out; have := L4.out; have := LZ.out; omega)
        have G9 := GA.setCell (b := w.heap.size) (old := #[.int .i64 29, .slice none 0 0]) (t := 25) (by simp) 1 (.slice (some ⟨wz.heap.size, 0, none⟩) 2 2) [(wz.heap.size, #[.int .i64 z1, .int .i64 z2, .int .i64 z3, .int .i64 y1, .int .i64 y2, .int .i64 y3], 31)] (by simp; have := L3.out; have := L4.out; have := LZ.out; omega)
        have G9 : Gx ⟨B.w0, w⟩ g (n + 9 + 3) [(w.heap.size, #[.int .i64 29, .slice (some ⟨wz.heap.size, 0, none⟩) 2 2], 25), (wz.heap.size, #[.int .i64 z1, .int .i64 z2, .int .i64 z3, .int .i64 y1, .int .i64 y2, .int .i64 y3], 31)] _ := G9
        refine bodyPost_ret (v := .agg #[.int .i64 29, .slice (some ⟨wz.heap.size, 0, none⟩) 2 2]) (results_cell_row Tryd.results49 _ _ w.heap.size 25 #[.int .i64 29, .slice (some ⟨wz.heap.size, 0, none⟩) 2 2] (0, 0) _ rfl (G9.2 (w.heap.size, #[.int .i64 29, .slice (some ⟨wz.heap.size, 0, none⟩) 2 2], 25) (by simp)).1 Tryd.underlying25 rfl (by kernel_rfl)) rfl ?_
        exact ⟨29, _, 2, [⟨z1, z2, z3⟩, ⟨y1, y2, y3⟩], rfl, by simp, by simp, foot_cells (G9.2 (wz.heap.size, #[.int .i64 z1, .int .i64 z2, .int .i64 z3, .int .i64 y1, .int .i64 y2, .int .i64 y3], 31) (by simp)).1 (G9.ne (b := wz.heap.size) (cs := #[.int .i64 z1, .int .i64 z2, .int .i64 z3, .int .i64 y1, .int .i64 y2, .int .i64 y3]) (t := 31) (by simp)) [⟨z1, z2, z3⟩, ⟨y1, y2, y3⟩] [] rfl (by simp), (by intro ad e _; cases e; have := L3.out; have := L4.out; have := LZ.out; simp only; omega), G9.1.le (by omega)⟩
    · go_wp2_with fail
      refine (HQ.out.pick (by have := HB0.out; omega) 2 (by decide)).mono ?_
      rintro e wr ⟨k, rfl, hk, G⟩
      have HR := Lib.hid G
      clear G HQ
      by_cases hk0 : k = 0
      · subst hk0
        clear hk
        go_wp2_with fail
        refine (HR.out.arg (by have := HB0.out; omega) _).mono ?_
        rintro e wz ⟨z1, z2, z3, rfl, G⟩
        have Hwz := Lib.hid G
        clear G HR
        go_wp2_with fail
        refine (Hwz.out.whole (by have := HB0.out; omega)).mono ?_
        rintro e wu ⟨u1, u2, u3, rfl, G⟩
        have Hwu := Lib.hid G
        clear G Hwz
        go_wp2_with fail
        refine (Hwu.out.whole (by have := HB0.out; omega)).mono ?_
        rintro e wv ⟨v1, v2, v3, rfl, G⟩
        have Hwv := Lib.hid G
        clear G Hwu
        have LZ := Lib.hid (Hwv.out.lt (b := w4.heap.size) (cs := #[.int .i64 y1, .int .i64 y2, .int .i64 y3]) (t := 31) (by simp))
        go_wp2_with fail
        refine (dev.arityS_any 30 _).mono ?_
        rw [show dev.arity 30 = 2 from by decide]
        rintro e wn ⟨rfl, hbn⟩
        have HN := Lib.hid ((Hwv.out.box #[.int .i64 z1, .int .i64 z2, .int .i64 z3, .int .i64 u1, .int .i64 u2, .int .i64 u3, .int .i64 v1, .int .i64 v2, .int .i64 v3] 31).below hbn)
        clear hbn Hwv
        go_wp2_with (first | (refine wl_gst rfl _ _ _ rfl HN.out (b := w.heap.size) (old := #[.int .i64 0, .slice none 0 0]) (t := 25) (by simp) rfl #[.int .i64 30, .slice (some ⟨wv.heap.size, 0, none⟩) 2 3] rfl (elem_one _ _ _ _) rfl (by kernel_rfl) [(wv.heap.size, #[.int .i64 z1, .int .i64 z2, .int .i64 z3, .int .i64 u1, .int .i64 u2, .int .i64 u3, .int .i64 v1, .int .i64 v2, .int .i64 v3], 31)] (by simp; have := L3.out; have := L4.out; have := LZ.out; omega) ?_; intro w9 G9))
        refine bodyPost_ret (v := .agg #[.int .i64 30, .slice (some ⟨wv.heap.size, 0, none⟩) 2 3]) (results_cell_row Tryd.results49 _ _ w.heap.size 25 #[.int .i64 30, .slice (some ⟨wv.heap.size, 0, none⟩) 2 3] (0, 0) _ rfl (G9.2 (w.heap.size, #[.int .i64 30, .slice (some ⟨wv.heap.size, 0, none⟩) 2 3], 25) (by simp)).1 Tryd.underlying25 rfl (by kernel_rfl)) rfl ?_
        exact ⟨30, _, 3, [⟨z1, z2, z3⟩, ⟨u1, u2, u3⟩], rfl, by simp, by simp, foot_cells (G9.2 (wv.heap.size, #[.int .i64 z1, .int .i64 z2, .int .i64 z3, .int .i64 u1, .int .i64 u2, .int .i64 u3, .int .i64 v1, .int .i64 v2, .int .i64 v3], 31) (by simp)).1 (G9.ne (b := wv.heap.size) (cs := #[.int .i64 z1, .int .i64 z2, .int .i64 z3, .int .i64 u1, .int .i64 u2, .int .i64 u3, .int .i64 v1, .int .i64 v2, .int .i64 v3]) (t := 31) (by simp)) [⟨z1, z2, z3⟩, ⟨u1, u2, u3⟩] [.int .i64 v1, .int .i64 v2, .int .i64 v3] rfl (by simp), (by intro ad e _; cases e; have := L3.out; have := L4.out; have := LZ.out; simp only; omega), G9.1.le (by omega)⟩
      · have bk0 : ((k : Int) == 0) = false := beq_eq_false_iff_ne.2 (by omega)
        clear hk hk0
        go_wp2_with fail
        refine (HR.out.arg (by have := HB0.out; omega) _).mono ?_
        rintro e wz ⟨z1, z2, z3, rfl, G⟩
        have Hwz := Lib.hid G
        clear G HR
        go_wp2_with fail
        refine (Hwz.out.real (by have := HB0.out; omega)).mono ?_
        rintro e wu ⟨u1, u2, u3, rfl, G⟩
        have Hwu := Lib.hid G
        clear G Hwz
        go_wp2_with fail
        refine (Hwu.out.real (by have := HB0.out; omega)).mono ?_
        rintro e wv ⟨v1, v2, v3, rfl, G⟩
        have Hwv := Lib.hid G
        clear G Hwu
        have LZ := Lib.hid (Hwv.out.lt (b := w4.heap.size) (cs := #[.int .i64 y1, .int .i64 y2, .int .i64 y3]) (t := 31) (by simp))
        go_wp2_with fail
        refine (dev.arityS_any 30 _).mono ?_
        rw [show dev.arity 30 = 2 from by decide]
        rintro e wn ⟨rfl, hbn⟩
        have HN := Lib.hid ((Hwv.out.box #[.int .i64 z1, .int .i64 z2, .int .i64 z3, .int .i64 u1, .int .i64 u2, .int .i64 u3, .int .i64 v1, .int .i64 v2, .int .i64 v3] 31).below hbn)
        clear hbn Hwv
        go_wp2_with (first | (refine wl_gst rfl _ _ _ rfl HN.out (b := w.heap.size) (old := #[.int .i64 0, .slice none 0 0]) (t := 25) (by simp) rfl #[.int .i64 30, .slice (some ⟨wv.heap.size, 0, none⟩) 2 3] rfl (elem_one _ _ _ _) rfl (by kernel_rfl) [(wv.heap.size, #[.int .i64 z1, .int .i64 z2, .int .i64 z3, .int .i64 u1, .int .i64 u2, .int .i64 u3, .int .i64 v1, .int .i64 v2, .int .i64 v3], 31)] (by simp; have := L3.out; have := L4.out; have := LZ.out; omega) ?_; intro w9 G9))
        refine bodyPost_ret (v := .agg #[.int .i64 30, .slice (some ⟨wv.heap.size, 0, none⟩) 2 3]) (results_cell_row Tryd.results49 _ _ w.heap.size 25 #[.int .i64 30, .slice (some ⟨wv.heap.size, 0, none⟩) 2 3] (0, 0) _ rfl (G9.2 (w.heap.size, #[.int .i64 30, .slice (some ⟨wv.heap.size, 0, none⟩) 2 3], 25) (by simp)).1 Tryd.underlying25 rfl (by kernel_rfl)) rfl ?_
        exact ⟨30, _, 3, [⟨z1, z2, z3⟩, ⟨u1, u2, u3⟩], rfl, by simp, by simp, foot_cells (G9.2 (wv.heap.size, #[.int .i64 z1, .int .i64 z2, .int .i64 z3, .int .i64 u1, .int .i64 u2, .int .i64 u3, .int .i64 v1, .int .i64 v2, .int .i64 v3], 31) (by simp)).1 (G9.ne (b := wv.heap.size) (cs := #[.int .i64 z1, .int .i64 z2, .int .i64 z3, .int .i64 u1, .int .i64 u2, .int .i64 u3, .int .i64 v1, .int .i64 v2, .int .i64 v3]) (t := 31) (by simp)) [⟨z1, z2, z3⟩, ⟨u1, u2, u3⟩] [.int .i64 v1, .int .i64 v2, .int .i64 v3] rfl (by simp), (by intro ad e _; cases e; have := L3.out; have := L4.out; have := LZ.out; simp only; omega), G9.1.le (by omega)⟩
    · go_wp2_with fail
      refine (HQ.out.pick (by have := HB0.out; omega) 2 (by decide)).mono ?_
      rintro e wr ⟨k, rfl, hk, G⟩
      have HR := Lib.hid G
      clear G HQ
      by_cases hk0 : k = 0
      · subst hk0
        clear hk
        go_wp2_with fail
        refine (HR.out.arg (by have := HB0.out; omega) _).mono ?_
        rintro e wz ⟨z1, z2, z3, rfl, G⟩
        have Hwz := Lib.hid G
        clear G HR
        go_wp2_with fail
        refine (Hwz.out.whole (by have := HB0.out; omega)).mono ?_
        rintro e wu ⟨u1, u2, u3, rfl, G⟩
        have Hwu := Lib.hid G
        clear G Hwz
        go_wp2_with fail
        refine (Hwu.out.whole (by have := HB0.out; omega)).mono ?_
        rintro e wv ⟨v1, v2, v3, rfl, G⟩
        have Hwv := Lib.hid G
        clear G Hwu
        have LZ := Lib.hid (Hwv.out.lt (b := w4.heap.size) (cs := #[.int .i64 y1, .int .i64 y2, .int .i64 y3]) (t := 31) (by simp))
        go_wp2_with fail
        refine (dev.arityS_any 31 _).mono ?_
        rw [show dev.arity 31 = 3 from by decide]
        rintro e wn ⟨rfl, hbn⟩
        have HN := Lib.hid ((Hwv.out.box #[.int .i64 z1, .int .i64 z2, .int .i64 z3, .int .i64 u1, .int .i64 u2, .int .i64 u3, .int .i64 v1, .int .i64 v2, .int .i64 v3] 31).below hbn)
        clear hbn Hwv
        go_wp2_with (first | (refine wl_gst rfl _ _ _ rfl HN.out (b := w.heap.size) (old := #[.int .i64 0, .slice none 0 0]) (t := 25) (by simp) rfl #[.int .i64 31, .slice (some ⟨wv.heap.size, 0, none⟩) 3 3] rfl (elem_one _ _ _ _) rfl (by kernel_rfl) [(wv.heap.size, #[.int .i64 z1, .int .i64 z2, .int .i64 z3, .int .i64 u1, .int .i64 u2, .int .i64 u3, .int .i64 v1, .int .i64 v2, .int .i64 v3], 31)] (by simp; have := L3.out; have := L4.out; have := LZ.out; omega) ?_; intro w9 G9))
        refine bodyPost_ret (v := .agg #[.int .i64 31, .slice (some ⟨wv.heap.size, 0, none⟩) 3 3]) (results_cell_row Tryd.results49 _ _ w.heap.size 25 #[.int .i64 31, .slice (some ⟨wv.heap.size, 0, none⟩) 3 3] (0, 0) _ rfl (G9.2 (w.heap.size, #[.int .i64 31, .slice (some ⟨wv.heap.size, 0, none⟩) 3 3], 25) (by simp)).1 Tryd.underlying25 rfl (by kernel_rfl)) rfl ?_
        exact ⟨31, _, 3, [⟨z1, z2, z3⟩, ⟨u1, u2, u3⟩, ⟨v1, v2, v3⟩], rfl, by simp, by simp, foot_cells (G9.2 (wv.heap.size, #[.int .i64 z1, .int .i64 z2, .int .i64 z3, .int .i64 u1, .int .i64 u2, .int .i64 u3, .int .i64 v1, .int .i64 v2, .int .i64 v3], 31) (by simp)).1 (G9.ne (b := wv.heap.size) (cs := #[.int .i64 z1, .int .i64 z2, .int .i64 z3, .int .i64 u1, .int .i64 u2, .int .i64 u3, .int .i64 v1, .int .i64 v2, .int .i64 v3]) (t := 31) (by simp)) [⟨z1, z2, z3⟩, ⟨u1, u2, u3⟩, ⟨v1, v2, v3⟩] [] rfl (by simp), (by intro ad e _; cases e; have := L3.out; have := L4.out; have := LZ.out; simp only; omega), G9.1.le (by omega)⟩
      · have bk0 : ((k : Int) == 0) = false := beq_eq_false_iff_ne.2 (by omega)
        clear hk hk0
        go_wp2_with fail
        refine (HR.out.arg (by have := HB0.out; omega) _).mono ?_
        rintro e wz ⟨z1, z2, z3, rfl, G⟩
        have Hwz := Lib.hid G
        clear G HR
        go_wp2_with fail
        refine (Hwz.out.real (by have := HB0.out; omega)).mono ?_
        rintro e wu ⟨u1, u2, u3, rfl, G⟩
        have Hwu := Lib.hid G
        clear G Hwz
        go_wp2_with fail
        refine (Hwu.out.real (by have := HB0.out; omega)).mono ?_
        rintro e wv ⟨v1, v2, v3, rfl, G⟩
        have Hwv := Lib.hid G
        clear G Hwu
        have LZ := Lib.hid (Hwv.out.lt (b := w4.heap.size) (cs := #[.int .i64 y1, .int .i64 y2, .int .i64 y3]) (t := 31) (by simp))
        go_wp2_with fail
        refine (dev.arityS_any 31 _).mono ?_
        rw [show dev.arity 31 = 3 from by decide]
        rintro e wn ⟨rfl, hbn⟩
        have HN := Lib.hid ((Hwv.out.box #[.int .i64 z1, .int .i64 z2, .int .i64 z3, .int .i64 u1, .int .i64 u2, .int .i64 u3, .int .i64 v1, .int .i64 v2, .int .i64 v3] 31).below hbn)
        clear hbn Hwv
        go_wp2_with (first | (refine wl_gst rfl _ _ _ rfl HN.out (b := w.heap.size) (old := #[.int .i64 0, .slice none 0 0]) (t := 25) (by simp) rfl #[.int .i64 31, .slice (some ⟨wv.heap.size, 0, none⟩) 3 3] rfl (elem_one _ _ _ _) rfl (by kernel_rfl) [(wv.heap.size, #[.int .i64 z1, .int .i64 z2, .int .i64 z3, .int .i64 u1, .int .i64 u2, .int .i64 u3, .int .i64 v1, .int .i64 v2, .int .i64 v3], 31)] (by simp; have := L3.out; have := L4.out; have := LZ.out; omega) ?_; intro w9 G9))
        refine bodyPost_ret (v := .agg #[.int .i64 31, .slice (some ⟨wv.heap.size, 0, none⟩) 3 3]) (results_cell_row Tryd.results49 _ _ w.heap.size 25 #[.int .i64 31, .slice (some ⟨wv.heap.size, 0, none⟩) 3 3] (0, 0) _ rfl (G9.2 (w.heap.size, #[.int .i64 31, .slice (some ⟨wv.heap.size, 0, none⟩) 3 3], 25) (by simp)).1 Tryd.underlying25 rfl (by kernel_rfl)) rfl ?_
        exact ⟨31, _, 3, [⟨z1, z2, z3⟩, ⟨u1, u2, u3⟩, ⟨v1, v2, v3⟩], rfl, by simp, by simp, foot_cells (G9.2 (wv.heap.size, #[.int .i64 z1, .int .i64 z2, .int .i64 z3, .int .i64 u1, .int .i64 u2, .int .i64 u3, .int .i64 v1, .int .i64 v2, .int .i64 v3], 31) (by simp)).1 (G9.ne (b := wv.heap.size) (cs := #[.int .i64 z1, .int .i64 z2, .int .i64 z3, .int .i64 u1, .int .i64 u2, .int .i64 u3, .int .i64 v1, .int .i64 v2, .int .i64 v3]) (t := 31) (by simp)) [⟨z1, z2, z3⟩, ⟨u1, u2, u3⟩, ⟨v1, v2, v3⟩] [] rfl (by simp), (by intro ad e _; cases e; have := L3.out; have := L4.out; have := LZ.out; simp only; omega), G9.1.le (by omega)⟩
    · go_wp2_with fail
      refine (HQ.out.pick (by have := HB0.out; omega) 2 (by decide)).mono ?_
      rintro e wr ⟨k, rfl, hk, G⟩
      have HR := Lib.hid G
      clear G HQ
      by_cases hk0 : k = 0
      · subst hk0
        clear hk
        go_wp2_with fail
        refine (HR.out.arg (by have := HB0.out; omega) _).mono ?_
        rintro e wz ⟨z1, z2, z3, rfl, G⟩
        have Hwz := Lib.hid G
        clear G HR
        go_wp2_with fail
        refine (Hwz.out.whole (by have := HB0.out; omega)).mono ?_
        rintro e wu ⟨u1, u2, u3, rfl, G⟩
        have Hwu := Lib.hid G
        clear G Hwz
        go_wp2_with fail
        refine (Hwu.out.whole (by have := HB0.out; omega)).mono ?_
        rintro e wv ⟨v1, v2, v3, rfl, G⟩
        have Hwv := Lib.hid G
        clear G Hwu
        have LZ := Lib.hid (Hwv.out.lt (b := w4.heap.size) (cs := #[.int .i64 y1, .int .i64 y2, .int .i64 y3]) (t := 31) (by simp))
        go_wp2_with fail
        refine (dev.arityS_any 32 _).mono ?_
        rw [show dev.arity 32 = 3 from by decide]
        rintro e wn ⟨rfl, hbn⟩
        have HN := Lib.hid ((Hwv.out.box #[.int .i64 z1, .int .i64 z2, .int .i64 z3, .int .i64 u1, .int .i64 u2, .int .i64 u3, .int .i64 v1, .int .i64 v2, .int .i64 v3] 31).below hbn)
        clear hbn Hwv
        go_wp2_with (first | (refine wl_gst rfl _ _ _ rfl HN.out (b := w.heap.size) (old := #[.int .i64 0, .slice none 0 0]) (t := 25) (by simp) rfl #[.int .i64 32, .slice (some ⟨wv.heap.size, 0, none⟩) 3 3] rfl (elem_one _ _ _ _) rfl (by kernel_rfl) [(wv.heap.size, #[.int .i64 z1, .int .i64 z2, .int .i64 z3, .int .i64 u1, .int .i64 u2, .int .i64 u3, .int .i64 v1, .int .i64 v2, .int .i64 v3], 31)] (by simp; have := L3.out; have := L4.out; have := LZ.out; omega) ?_; intro w9 G9))
        refine bodyPost_ret (v := .agg #[.int .i64 32, .slice (some ⟨wv.heap.size, 0, none⟩) 3 3]) (results_cell_row Tryd.results49 _ _ w.heap.size 25 #[.int .i64 32, .slice (some ⟨wv.heap.size, 0, none⟩) 3 3] (0, 0) _ rfl (G9.2 (w.heap.size, #[.int .i64 32, .slice (some ⟨wv.heap.size, 0, none⟩) 3 3], 25) (by simp)).1 Tryd.underlying25 rfl (by kernel_rfl)) rfl ?_
        exact ⟨32, _, 3, [⟨z1, z2, z3⟩, ⟨u1, u2, u3⟩, ⟨v1, v2, v3⟩], rfl, by simp, by simp, foot_cells (G9.2 (wv.heap.size, #[.int .i64 z1, .int .i64 z2, .int .i64 z3, .int .i64 u1, .int .i64 u2, .int .i64 u3, .int .i64 v1, .int .i64 v2, .int .i64 v3], 31) (by simp)).1 (G9.ne (b := wv.heap.size) (cs := #[.int .i64 z1, .int .i64 z2, .int .i64 z3, .int .i64 u1, .int .i64 u2, .int .i64 u3, .int .i64 v1, .int .i64 v2, .int .i64 v3]) (t := 31) (by simp)) [⟨z1, z2, z3⟩, ⟨u1, u2, u3⟩, ⟨v1, v2, v3⟩] [] rfl (by simp), (by intro ad e _; cases e; have := L3.out; have := L4.out; have := LZ.out; simp only; omega), G9.1.le (by omega)⟩
      · have bk0 : ((k : Int) == 0) = false := beq_eq_false_iff_ne.2 (by omega)
        clear hk hk0
        go_wp2_with fail
        refine (HR.out.arg (by have := HB0.out; omega) _).mono ?_
        rintro e wz ⟨z1, z2, z3, rfl, G⟩
        have Hwz := Lib.hid G
        clear G HR
        go_wp2_with fail
        refine (Hwz.out.real (by have := HB0.out; omega)).mono ?_
        rintro e wu ⟨u1, u2, u3, rfl, G⟩
        have Hwu := Lib.hid G
        clear G Hwz
        go_wp2_with fail
        refine (Hwu.out.real (by have := HB0.out; omega)).mono ?_
        rintro e wv ⟨v1, v2, v3, rfl, G⟩
        have Hwv := Lib.hid G
        clear G Hwu
        have LZ := Lib.hid (Hwv.out.lt (b := w4.heap.size) (cs := #[.int .i64 y1, .int .i64 y2, .int .i64 y3]) (t := 31) (by simp))
        go_wp2_with fail
        refine (dev.arityS_any 32 _).mono ?_
        rw [show dev.arity 32 = 3 from by decide]
        rintro e wn ⟨rfl, hbn⟩
        have HN := Lib.hid ((Hwv.out.box #[.int .i64 z1, .int .i64 z2, .int .i64 z3, .int .i64 u1, .int .i64 u2, .int .i64 u3, .int .i64 v1, .int .i64 v2, .int .i64 v3] 31).below hbn)
        clear hbn Hwv
        go_wp2_with (first | (refine wl_gst rfl _ _ _ rfl HN.out (b := w.heap.size) (old := #[.int .i64 0, .slice none 0 0]) (t := 25) (by simp) rfl #[.int .i64 32, .slice (some ⟨wv.heap.size, 0, none⟩) 3 3] rfl (elem_one _ _ _ _) rfl (by kernel_rfl) [(wv.heap.size, #[.int .i64 z1, .int .i64 z2, .int .i64 z3, .int .i64 u1, .int .i64 u2, .int .i64 u3, .int .i64 v1, .int .i64 v2, .int .i64 v3], 31)] (by simp; have := L3.out; have := L4.out; have := LZ.out; omega) ?_; intro w9 G9))
        refine bodyPost_ret (v := .agg #[.int .i64 32, .slice (some ⟨wv.heap.size, 0, none⟩) 3 3]) (results_cell_row Tryd.results49 _ _ w.heap.size 25 #[.int .i64 32, .slice (some ⟨wv.heap.size, 0, none⟩) 3 3] (0, 0) _ rfl (G9.2 (w.heap.size, #[.int .i64 32, .slice (some ⟨wv.heap.size, 0, none⟩) 3 3], 25) (by simp)).1 Tryd.underlying25 rfl (by kernel_rfl)) rfl ?_
        exact ⟨32, _, 3, [⟨z1, z2, z3⟩, ⟨u1, u2, u3⟩, ⟨v1, v2, v3⟩], rfl, by simp, by simp, foot_cells (G9.2 (wv.heap.size, #[.int .i64 z1, .int .i64 z2, .int .i64 z3, .int .i64 u1, .int .i64 u2, .int .i64 u3, .int .i64 v1, .int .i64 v2, .int .i64 v3], 31) (by simp)).1 (G9.ne (b := wv.heap.size) (cs := #[.int .i64 z1, .int .i64 z2, .int .i64 z3, .int .i64 u1, .int .i64 u2, .int .i64 u3, .int .i64 v1, .int .i64 v2, .int .i64 v3]) (t := 31) (by simp)) [⟨z1, z2, z3⟩, ⟨u1, u2, u3⟩, ⟨v1, v2, v3⟩] [] rfl (by simp), (by intro ad e _; cases e; have := L3.out; have := L4.out; have := LZ.out; simp only; omega), G9.1.le (by omega)⟩
    · go_wp2_with fail
      refine (HQ.out.pick (by have := HB0.out; omega) 2 (by decide)).mono ?_
      rintro e wr ⟨k, rfl, hk, G⟩
      have HR := Lib.hid G
      clear G HQ
      by_cases hk0 : k = 0
      · subst hk0
        clear hk
        go_wp2_with fail
        refine (HR.out.arg (by have := HB0.out; omega) _).mono ?_
        rintro e wz ⟨z1, z2, z3, rfl, G⟩
        have Hwz := Lib.hid G
        clear G HR
        go_wp2_with fail
        refine (Hwz.out.whole (by have := HB0.out; omega)).mono ?_
        rintro e wu ⟨u1, u2, u3, rfl, G⟩
        have Hwu := Lib.hid G
        clear G Hwz
        go_wp2_with fail
        refine (Hwu.out.whole (by have := HB0.out; omega)).mono ?_
        rintro e wv ⟨v1, v2, v3, rfl, G⟩
        have Hwv := Lib.hid G
        clear G Hwu
        have LZ := Lib.hid (Hwv.out.lt (b := w4.heap.size) (cs := #[.int .i64 y1, .int .i64 y2, .int .i64 y3]) (t := 31) (by simp))
        go_wp2_with fail
        refine (dev.arityS_any 33 _).mono ?_
        rw [show dev.arity 33 = 3 from by decide]
        rintro e wn ⟨rfl, hbn⟩
        have HN := Lib.hid ((Hwv.out.box #[.int .i64 z1, .int .i64 z2, .int .i64 z3, .int .i64 u1, .int .i64 u2, .int .i64 u3, .int .i64 v1, .int .i64 v2, .int .i64 v3] 31).below hbn)
        clear hbn Hwv
        go_wp2_with (first | (refine wl_gst rfl _ _ _ rfl HN.out (b := w.heap.size) (old := #[.int .i64 0, .slice none 0 0]) (t := 25) (by simp) rfl #[.int .i64 33, .slice (some ⟨wv.heap.size, 0, none⟩) 3 3] rfl (elem_one _ _ _ _) rfl (by kernel_rfl) [(wv.heap.size, #[.int .i64 z1, .int .i64 z2, .int .i64 z3, .int .i64 u1, .int .i64 u2, .int .i64 u3, .int .i64 v1, .int .i64 v2, .int .i64 v3], 31)] (by simp; have := L3.out; have := L4.out; have := LZ.out; omega) ?_; intro w9 G9))
        refine bodyPost_ret (v := .agg #[.int .i64 33, .slice (some ⟨wv.heap.size, 0, none⟩) 3 3]) (results_cell_row Tryd.results49 _ _ w.heap.size 25 #[.int .i64 33, .slice (some ⟨wv.heap.size, 0, none⟩) 3 3] (0, 0) _ rfl (G9.2 (w.heap.size, #[.int .i64 33, .slice (some ⟨wv.heap.size, 0, none⟩) 3 3], 25) (by simp)).1 Tryd.underlying25 rfl (by kernel_rfl)) rfl ?_
        exact ⟨33, _, 3, [⟨z1, z2, z3⟩, ⟨u1, u2, u3⟩, ⟨v1, v2, v3⟩], rfl, by simp, by simp, foot_cells (G9.2 (wv.heap.size, #[.int .i64 z1, .int .i64 z2, .int .i64 z3, .int .i64 u1, .int .i64 u2, .int .i64 u3, .int .i64 v1, .int .i64 v2, .int .i64 v3], 31) (by simp)).1 (G9.ne (b := wv.heap.size) (cs := #[.int .i64 z1, .int .i64 z2, .int .i64 z3, .int .i64 u1, .int .i64 u2, .int .i64 u3, .int .i64 v1, .int .i64 v2, .int .i64 v3]) (t := 31) (by simp)) [⟨z1, z2, z3⟩, ⟨u1, u2, u3⟩, ⟨v1, v2, v3⟩] [] rfl (by simp), (by intro ad e _; cases e; have := L3.out; have := L4.out; have := LZ.out; simp only; omega), G9.1.le (by omega)⟩
      · have bk0 : ((k : Int) == 0) = false := beq_eq_false_iff_ne.2 (by omega)
        clear hk hk0
        go_wp2_with fail
        refine (HR.out.arg (by have := HB0.out; omega) _).mono ?_
        rintro e wz ⟨z1, z2, z3, rfl, G⟩
        have Hwz := Lib.hid G
        clear G HR
        go_wp2_with fail
        refine (Hwz.out.real (by have := HB0.out; omega)).mono ?_
        rintro e wu ⟨u1, u2, u3, rfl, G⟩
        have Hwu := Lib.hid G
        clear G Hwz
        go_wp2_with fail
        refine (Hwu.out.real (by have := HB0.out; omega)).mono ?_
        rintro e wv ⟨v1, v2, v3, rfl, G⟩
        have Hwv := Lib.hid G
        clear G Hwu
        have LZ := Lib.hid (Hwv.out.lt (b := w4.heap.size) (cs := #[.int .i64 y1, .int .i64 y2, .int .i64 y3]) (t := 31) (by simp))
        go_wp2_with fail
        refine (dev.arityS_any 33 _).mono ?_
        rw [show dev.arity 33 = 3 from by decide]
        rintro e wn ⟨rfl, hbn⟩
        have HN := Lib.hid ((Hwv.out.box #[.int .i64 z1, .int .i64 z2, .int .i64 z3, .int .i64 u1, .int .i64 u2, .int .i64 u3, .int .i64 v1, .int .i64 v2, .int .i64 v3] 31).below hbn)
        clear hbn Hwv
        go_wp2_with (first | (refine wl_gst rfl _ _ _ rfl HN.out (b := w.heap.size) (old := #[.int .i64 0, .slice none 0 0]) (t := 25) (by simp) rfl #[.int .i64 33, .slice (some ⟨wv.heap.size, 0, none⟩) 3 3] rfl (elem_one _ _ _ _) rfl (by kernel_rfl) [(wv.heap.size, #[.int .i64 z1, .int .i64 z2, .int .i64 z3, .int .i64 u1, .int .i64 u2, .int .i64 u3, .int .i64 v1, .int .i64 v2, .int .i64 v3], 31)] (by simp; have := L3.out; have := L4.out; have := LZ.out; omega) ?_; intro w9 G9))
        refine bodyPost_ret (v := .agg #[.int .i64 33, .slice (some ⟨wv.heap.size, 0, none⟩) 3 3]) (results_cell_row Tryd.results49 _ _ w.heap.size 25 #[.int .i64 33, .slice (some ⟨wv.heap.size, 0, none⟩) 3 3] (0, 0) _ rfl (G9.2 (w.heap.size, #[.int .i64 33, .slice (some ⟨wv.heap.size, 0, none⟩) 3 3], 25) (by simp)).1 Tryd.underlying25 rfl (by kernel_rfl)) rfl ?_
        exact ⟨33, _, 3, [⟨z1, z2, z3⟩, ⟨u1, u2, u3⟩, ⟨v1, v2, v3⟩], rfl, by simp, by simp, foot_cells (G9.2 (wv.heap.size, #[.int .i64 z1, .int .i64 z2, .int .i64 z3, .int .i64 u1, .int .i64 u2, .int .i64 u3, .int .i64 v1, .int .i64 v2, .int .i64 v3], 31) (by simp)).1 (G9.ne (b := wv.heap.size) (cs := #[.int .i64 z1, .int .i64 z2, .int .i64 z3, .int .i64 u1, .int .i64 u2, .int .i64 u3, .int .i64 v1, .int .i64 v2, .int .i64 v3]) (t := 31) (by simp)) [⟨z1, z2, z3⟩, ⟨u1, u2, u3⟩, ⟨v1, v2, v3⟩] [] rfl (by simp), (by intro ad e _; cases e; have := L3.out; have := L4.out; have := LZ.out; simp only; omega), G9.1.le (by omega)⟩
    · go_wp2_with fail
      refine (HQ.out.pick (by have := HB0.out; omega) 2 (by decide)).mono ?_
      rintro e wr ⟨k, rfl, hk, G⟩
      have HR := Lib.hid G
      clear G HQ
      by_cases hk0 : k = 0
      · subst hk0
        clear hk
        go_wp2_with fail
        refine (HR.out.arg (by have := HB0.out; omega) _).mono ?_
        rintro e wz ⟨z1, z2, z3, rfl, G⟩
        have Hwz := Lib.hid G
        clear G HR
        go_wp2_with fail
        refine (Hwz.out.whole (by have := HB0.out; omega)).mono ?_
        rintro e wu ⟨u1, u2, u3, rfl, G⟩
        have Hwu := Lib.hid G
        clear G Hwz
        go_wp2_with fail
        refine (Hwu.out.whole (by have := HB0.out; omega)).mono ?_
        rintro e wv ⟨v1, v2, v3, rfl, G⟩
        have Hwv := Lib.hid G
        clear G Hwu
        have LZ := Lib.hid (Hwv.out.lt (b := w4.heap.size) (cs := #[.int .i64 y1, .int .i64 y2, .int .i64 y3]) (t := 31) (by simp))
        go_wp2_with fail
        refine (dev.arityS_any 34 _).mono ?_
        rw [show dev.arity 34 = 3 from by decide]
        rintro e wn ⟨rfl, hbn⟩
        have HN := Lib.hid ((Hwv.out.box #[.int .i64 z1, .int .i64 z2, .int .i64 z3, .int .i64 u1, .int .i64 u2, .int .i64 u3, .int .i64 v1, .int .i64 v2, .int .i64 v3] 31).below hbn)
        clear hbn Hwv
        go_wp2_with (first | (refine wl_gst rfl _ _ _ rfl HN.out (b := w.heap.size) (old := #[.int .i64 0, .slice none 0 0]) (t := 25) (by simp) rfl #[.int .i64 34, .slice (some ⟨wv.heap.size, 0, none⟩) 3 3] rfl (elem_one _ _ _ _) rfl (by kernel_rfl) [(wv.heap.size, #[.int .i64 z1, .int .i64 z2, .int .i64 z3, .int .i64 u1, .int .i64 u2, .int .i64 u3, .int .i64 v1, .int .i64 v2, .int .i64 v3], 31)] (by simp; have := L3.out; have := L4.out; have := LZ.out; omega) ?_; intro w9 G9))
        refine bodyPost_ret (v := .agg #[.int .i64 34, .slice (some ⟨wv.heap.size, 0, none⟩) 3 3]) (results_cell_row Tryd.results49 _ _ w.heap.size 25 #[.int .i64 34, .slice (some ⟨wv.heap.size, 0, none⟩) 3 3] (0, 0) _ rfl (G9.2 (w.heap.size, #[.int .i64 34, .slice (some ⟨wv.heap.size, 0, none⟩) 3 3], 25) (by simp)).1 Tryd.underlying25 rfl (by kernel_rfl)) rfl ?_
        exact ⟨34, _, 3, [⟨z1, z2, z3⟩, ⟨u1, u2, u3⟩, ⟨v1, v2, v3⟩], rfl, by simp, by simp, foot_cells (G9.2 (wv.heap.size, #[.int .i64 z1, .int .i64 z2, .int .i64 z3, .int .i64 u1, .int .i64 u2, .int .i64 u3, .int .i64 v1, .int .i64 v2, .int .i64 v3], 31) (by simp)).1 (G9.ne (b := wv.heap.size) (cs := #[.int .i64 z1, .int .i64 z2, .int .i64 z3, .int .i64 u1, .int .i64 u2, .int .i64 u3, .int .i64 v1, .int .i64 v2, .int .i64 v3]) (t := 31) (by simp)) [⟨z1, z2, z3⟩, ⟨u1, u2, u3⟩, ⟨v1, v2, v3⟩] [] rfl (by simp), (by intro ad e _; cases e; have := L3.out; have := L4.out; have := LZ.out; simp only; omega), G9.1.le (by omega)⟩
      · have bk0 : ((k : Int) == 0) = false := beq_eq_false_iff_ne.2 (by omega)
        clear hk hk0
        go_wp2_with fail
        refine (HR.out.arg (by have := HB0.out; omega) _).mono ?_
        rintro e wz ⟨z1, z2, z3, rfl, G⟩
        have Hwz := Lib.hid G
        clear G HR
        go_wp2_with fail
        refine (Hwz.out.real (by have := HB0.out; omega)).mono ?_
        rintro e wu ⟨u1, u2, u3, rfl, G⟩
        have Hwu := Lib.hid G
        clear G Hwz
        go_wp2_with fail
        refine (Hwu.out.real (by have := HB0.out; omega)).mono ?_
        rintro e wv ⟨v1, v2, v3, rfl, G⟩
        have Hwv := Lib.hid G
        clear G Hwu
        have LZ := Lib.hid (Hwv.out.lt (b := w4.heap.size) (cs := #[.int .i64 y1, .int .i64 y2, .int .i64 y3]) (t := 31) (by simp))
        go_wp2_with fail
        refine (dev.arityS_any 34 _).mono ?_
        rw [show dev.arity 34 = 3 from by decide]
        rintro e wn ⟨rfl, hbn⟩
        have HN := Lib.hid ((Hwv.out.box #[.int .i64 z1, .int .i64 z2, .int .i64 z3, .int .i64 u1, .int .i64 u2, .int .i64 u3, .int .i64 v1, .int .i64 v2, .int .i64 v3] 31).below hbn)
        clear hbn Hwv
        go_wp2_with (first | (refine wl_gst rfl _ _ _ rfl HN.out (b := w.heap.size) (old := #[.int .i64 0, .slice none 0 0]) (t := 25) (by simp) rfl #[.int .i64 34, .slice (some ⟨wv.heap.size, 0, none⟩) 3 3] rfl (elem_one _ _ _ _) rfl (by kernel_rfl) [(wv.heap.size, #[.int .i64 z1, .int .i64 z2, .int .i64 z3, .int .i64 u1, .int .i64 u2, .int .i64 u3, .int .i64 v1, .int .i64 v2, .int .i64 v3], 31)] (by simp; have := L3.out; have := L4.out; have := LZ.out; omega) ?_; intro w9 G9))
        refine bodyPost_ret (v := .agg #[.int .i64 34, .slice (some ⟨wv.heap.size, 0, none⟩) 3 3]) (results_cell_row Tryd.results49 _ _ w.heap.size 25 #[.int .i64 34, .slice (some ⟨wv.heap.size, 0, none⟩) 3 3] (0, 0) _ rfl (G9.2 (w.heap.size, #[.int .i64 34, .slice (some ⟨wv.heap.size, 0, none⟩) 3 3], 25) (by simp)).1 Tryd.underlying25 rfl (by kernel_rfl)) rfl ?_
        exact ⟨34, _, 3, [⟨z1, z2, z3⟩, ⟨u1, u2, u3⟩, ⟨v1, v2, v3⟩], rfl, by simp, by simp, foot_cells (G9.2 (wv.heap.size, #[.int .i64 z1, .int .i64 z2, .int .i64 z3, .int .i64 u1, .int .i64 u2, .int .i64 u3, .int .i64 v1, .int .i64 v2, .int .i64 v3], 31) (by simp)).1 (G9.ne (b := wv.heap.size) (cs := #[.int .i64 z1, .int .i64 z2, .int .i64 z3, .int .i64 u1, .int .i64 u2, .int .i64 u3, .int .i64 v1, .int .i64 v2, .int .i64 v3]) (t := 31) (by simp)) [⟨z1, z2, z3⟩, ⟨u1, u2, u3⟩, ⟨v1, v2, v3⟩] [] rfl (by simp), (by intro ad e _; cases e; have := L3.out; have := L4.out; have := LZ.out; simp only; omega), G9.1.le (by omega)⟩
    · go_wp2_with fail
      refine (HQ.out.arg (by have := HB0.out; omega) _).mono ?_
      rintro e wz ⟨z1, z2, z3, rfl, G⟩
      have Hwz := Lib.hid G
      clear G HQ
      go_wp2_with fail
      refine (Hwz.out.whole (by have := HB0.out; omega)).mono ?_
      rintro e wu ⟨u1, u2, u3, rfl, G⟩
      have Hwu := Lib.hid G
      clear G Hwz
      go_wp2_with fail
      refine (Hwu.out.whole (by have := HB0.out; omega)).mono ?_
      rintro e wv ⟨v1, v2, v3, rfl, G⟩
      have Hwv := Lib.hid G
      clear G Hwu
      have LZ := Lib.hid (Hwv.out.lt (b := w4.heap.size) (cs := #[.int .i64 y1, .int .i64 y2, .int .i64 y3]) (t := 31) (by simp))
      go_wp2_with fail
      refine (dev.arityS_any 35 _).mono ?_
      rw [show dev.arity 35 = 3 from by decide]
      rintro e wn ⟨rfl, hbn⟩
      have HN := Lib.hid ((Hwv.out.box #[.int .i64 z1, .int .i64 z2, .int .i64 z3, .int .i64 u1, .int .i64 u2, .int .i64 u3, .int .i64 v1, .int .i64 v2, .int .i64 v3] 31).below hbn)
      clear hbn Hwv
      go_wp2_with (first | (refine wl_gst rfl _ _ _ rfl HN.out (b := w.heap.size) (old := #[.int .i64 0, .slice none 0 0]) (t := 25) (by simp) rfl #[.int .i64 35, .slice (some ⟨wv.heap.size, 0, none⟩) 3 3] rfl (elem_one _ _ _ _) rfl (by kernel_rfl) [(wv.heap.size, #[.int .i64 z1, .int .i64 z2, .int .i64 z3, .int .i64 u1, .int .i64 u2, .int .i64 u3, .int .i64 v1, .int .i64 v2, .int .i64 v3], 31)] (by simp; have := L3.out; have := L4.out; have := LZ.out; omega) ?_; intro w9 G9))
      refine bodyPost_ret (v := .agg #[.int .i64 35, .slice (some ⟨wv.heap.size, 0, none⟩) 3 3]) (results_cell_row Tryd.results49 _ _ w.heap.size 25 #[.int .i64 35, .slice (some ⟨wv.heap.size, 0, none⟩) 3 3] (0, 0) _ rfl (G9.2 (w.heap.size, #[.int .i64 35, .slice (some ⟨wv.heap.size, 0, none⟩) 3 3], 25) (by simp)).1 Tryd.underlying25 rfl (by kernel_rfl)) rfl ?_
      exact ⟨35, _, 3, [⟨z1, z2, z3⟩, ⟨u1, u2, u3⟩, ⟨v1, v2, v3⟩], rfl, by simp, by simp, foot_cells (G9.2 (wv.heap.size, #[.int .i64 z1, .int .i64 z2, .int .i64 z3, .int .i64 u1, .int .i64 u2, .int .i64 u3, .int .i64 v1, .int .i64 v2, .int .i64 v3], 31) (by simp)).1 (G9.ne (b := wv.heap.size) (cs := #[.int .i64 z1, .int .i64 z2, .int .i64 z3, .int .i64 u1, .int .i64 u2, .int .i64 u3, .int .i64 v1, .int .i64 v2, .int .i64 v3]) (t := 31) (by simp)) [⟨z1, z2, z3⟩, ⟨u1, u2, u3⟩, ⟨v1, v2, v3⟩] [] rfl (by simp), (by intro ad e _; cases e; have := L3.out; have := L4.out; have := LZ.out; simp only; omega), G9.1.le (by omega)⟩
    · go_wp2_with fail
      refine (HQ.out.arg (by have := HB0.out; omega) _).mono ?_
      rintro e wz ⟨z1, z2, z3, rfl, G⟩
      have Hwz := Lib.hid G
      clear G HQ
      go_wp2_with fail
      refine (Hwz.out.whole (by have := HB0.out; omega)).mono ?_
      rintro e wu ⟨u1, u2, u3, rfl, G⟩
      have Hwu := Lib.hid G
      clear G Hwz
      have LZ := Lib.hid (Hwu.out.lt (b := w4.heap.size) (cs := #[.int .i64 y1, .int .i64 y2, .int .i64 y3]) (t := 31) (by simp))
      go_wp2_with (first | (refine wl_gst rfl _ _ _ rfl (Hwu.out.box _ _) (b := w.heap.size) (old := #[.int .i64 0, .slice none 0 0]) (t := 25) (by simp) rfl #[.int .i64 36, .slice (some ⟨wu.heap.size, 0, none⟩) 2 2] rfl (elem_one _ _ _ _) rfl (by kernel_rfl) [(wu.heap.size, #[.int .i64 z1, .int .i64 z2, .int .i64 z3, .int .i64 u1, .int .i64 u2, .int .i64 u3], 31)] (by simp; have := L3.out; have := L4.out; have := LZ.out; omega) ?_; intro w9 G9))
      refine bodyPost_ret (v := .agg #[.int .i64 36, .slice (some ⟨wu.heap.size, 0, none⟩) 2 2]) (results_cell_row Tryd.results49 _ _ w.heap.size 25 #[.int .i64 36, .slice (some ⟨wu.heap.size, 0, none⟩) 2 2] (0, 0) _ rfl (G9.2 (w.heap.size, #[.int .i64 36, .slice (some ⟨wu.heap.size, 0, none⟩) 2 2], 25) (by simp)).1 Tryd.underlying25 rfl (by kernel_rfl)) rfl ?_
      exact ⟨36, _, 2, [⟨z1, z2, z3⟩, ⟨u1, u2, u3⟩], rfl, by simp, by simp, foot_cells (G9.2 (wu.heap.size, #[.int .i64 z1, .int .i64 z2, .int .i64 z3, .int .i64 u1, .int .i64 u2, .int .i64 u3], 31) (by simp)).1 (G9.ne (b := wu.heap.size) (cs := #[.int .i64 z1, .int .i64 z2, .int .i64 z3, .int .i64 u1, .int .i64 u2, .int .i64 u3]) (t := 31) (by simp)) [⟨z1, z2, z3⟩, ⟨u1, u2, u3⟩] [] rfl (by simp), (by intro ad e _; cases e; have := L3.out; have := L4.out; have := LZ.out; simp only; omega), G9.1.le (by omega)⟩
    · go_wp2_with fail
      refine (HQ.out.arg (by have := HB0.out; omega) _).mono ?_
      rintro e wz ⟨z1, z2, z3, rfl, G⟩
      have Hwz := Lib.hid G
      clear G HQ
      go_wp2_with fail
      refine (Hwz.out.real (by have := HB0.out; omega)).mono ?_
      rintro e wu ⟨u1, u2, u3, rfl, G⟩
      have Hwu := Lib.hid G
      clear G Hwz
      have LZ := Lib.hid (Hwu.out.lt (b := w4.heap.size) (cs := #[.int .i64 y1, .int .i64 y2, .int .i64 y3]) (t := 31) (by simp))
      go_wp2_with (first | (refine wl_gst rfl _ _ _ rfl (Hwu.out.box _ _) (b := w.heap.size) (old := #[.int .i64 0, .slice none 0 0]) (t := 25) (by simp) rfl #[.int .i64 37, .slice (some ⟨wu.heap.size, 0, none⟩) 2 2] rfl (elem_one _ _ _ _) rfl (by kernel_rfl) [(wu.heap.size, #[.int .i64 z1, .int .i64 z2, .int .i64 z3, .int .i64 u1, .int .i64 u2, .int .i64 u3], 31)] (by simp; have := L3.out; have := L4.out; have := LZ.out; omega) ?_; intro w9 G9))
      refine bodyPost_ret (v := .agg #[.int .i64 37, .slice (some ⟨wu.heap.size, 0, none⟩) 2 2]) (results_cell_row Tryd.results49 _ _ w.heap.size 25 #[.int .i64 37, .slice (some ⟨wu.heap.size, 0, none⟩) 2 2] (0, 0) _ rfl (G9.2 (w.heap.size, #[.int .i64 37, .slice (some ⟨wu.heap.size, 0, none⟩) 2 2], 25) (by simp)).1 Tryd.underlying25 rfl (by kernel_rfl)) rfl ?_
      exact ⟨37, _, 2, [⟨z1, z2, z3⟩, ⟨u1, u2, u3⟩], rfl, by simp, by simp, foot_cells (G9.2 (wu.heap.size, #[.int .i64 z1, .int .i64 z2, .int .i64 z3, .int .i64 u1, .int .i64 u2, .int .i64 u3], 31) (by simp)).1 (G9.ne (b := wu.heap.size) (cs := #[.int .i64 z1, .int .i64 z2, .int .i64 z3, .int .i64 u1, .int .i64 u2, .int .i64 u3]) (t := 31) (by simp)) [⟨z1, z2, z3⟩, ⟨u1, u2, u3⟩] [] rfl (by simp), (by intro ad e _; cases e; have := L3.out; have := L4.out; have := LZ.out; simp only; omega), G9.1.le (by omega)⟩
end Go.Proofs.YtgmdpgchffapoaaDoor.draws
