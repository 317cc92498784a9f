/-
  'l4Contact' of the draws: some contact comes back.
  Conditions: the reader has read fewer than 50000 bytes.
-/
import Derived.Test.YtgmdpgchffapoaaDoorElemAsk
import Derived.Deep.RegionWith
import Derived.Deep.CutRange
namespace Go.Proofs.YtgmdpgchffapoaaDoor.draws
open Go Go.RowKit Go.Proofs.YtgmdpgchffapoaaDoor.part Go.Proofs.YtgmdpgchffapoaaDoor.CutEk
set_option linter.unusedVariables false
set_option linter.unusedSimpArgs false
set_option maxRecDepth 100000

set_option maxHeartbeats 16000000 in
theorem contact_w {B : Base} {w : World} {g : Nat} {n : Int} (h : Rd B w g n) (hn : n < 50000) : Calls Tryd.prog 50 #[.pointer (some ⟨g, 0, none⟩)] w (AnyElem ⟨B.w0, w⟩ g (n + 40) 3) := by
  have HB0 := Lib.hid hn
  have G0 := Lib.hid ((gx_nil h).box #[.int .i64 0, .slice none 0 0] 25)
  clear h hn
  go_enter Tryd.func50, Tryd.ntmps50
  go_wp2_with fail
  refine (G0.out.pick (by have := HB0.out; omega) 8 (by decide)).mono ?_
  rintro e w1 ⟨j, rfl, hj, G1⟩
  have HQ := Lib.hid G1
  have Hj := Lib.hid hj
  clear G1 hj G0
  have hj : j = 0 ∨ j = 1 ∨ j = 2 ∨ j = 3 ∨ j = 4 ∨ j = 5 ∨ 6 ≤ j := by omega
  rcases hj with rfl | rfl | rfl | rfl | rfl | rfl | hj6
  · clear Hj
    go_wp2_with fail
    refine (HQ.out.bit (by have := HB0.out; omega)).mono ?_
    rintro e wz ⟨z1, z2, z3, rfl, G⟩
    have Hwz := Lib.hid G
    clear G HQ
    have LZ := Lib.hid (Hwz.out.lt (b := w.heap.size) (cs := #[.int .i64 0, .slice none 0 0]) (t := 25) (by simp))
    go_wp2_with (refine wl_gst rfl _ _ _ rfl (Hwz.out.box _ _) (b := w.heap.size) (old := #[.int .i64 0, .slice none 0 0]) (t := 25) (by simp) rfl #[.int .i64 1, .slice (some ⟨wz.heap.size, 0, none⟩) 1 1] rfl (elem_one _ _ _ _) rfl (by kernel_rfl) [(wz.heap.size, #[.int .i64 z1, .int .i64 z2, .int .i64 z3], 31)] (by simp; have := LZ.out; omega) ?_; intro w9 G9)
    refine bodyPost_ret (v := .agg #[.int .i64 1, .slice (some ⟨wz.heap.size, 0, none⟩) 1 1]) (results_cell_row Tryd.results50 _ _ w.heap.size 25 #[.int .i64 1, .slice (some ⟨wz.heap.size, 0, none⟩) 1 1] (0, 0) _ rfl (G9.2 (w.heap.size, #[.int .i64 1, .slice (some ⟨wz.heap.size, 0, none⟩) 1 1], 25) (by simp)).1 Tryd.underlying25 rfl (by kernel_rfl)) rfl ?_
    exact ⟨1, _, 1, [⟨z1, z2, z3⟩], rfl, by simp, by simp, foot_cells (G9.2 (wz.heap.size, #[.int .i64 z1, .int .i64 z2, .int .i64 z3], 31) (by simp)).1 (G9.ne (b := wz.heap.size) (cs := #[.int .i64 z1, .int .i64 z2, .int .i64 z3]) (t := 31) (by simp)) [⟨z1, z2, z3⟩] [] rfl (by simp), (by intro ad e _; cases e; have := LZ.out; simp only; omega), G9.1.le (by omega)⟩
  · clear Hj
    go_wp2_with fail
    refine (HQ.out.bit (by have := HB0.out; omega)).mono ?_
    rintro e wz ⟨z1, z2, z3, rfl, G⟩
    have Hwz := Lib.hid G
    clear G HQ
    have LZ := Lib.hid (Hwz.out.lt (b := w.heap.size) (cs := #[.int .i64 0, .slice none 0 0]) (t := 25) (by simp))
    go_wp2_with (refine wl_gst rfl _ _ _ rfl (Hwz.out.box _ _) (b := w.heap.size) (old := #[.int .i64 0, .slice none 0 0]) (t := 25) (by simp) rfl #[.int .i64 1, .slice (some ⟨wz.heap.size, 0, none⟩) 1 1] rfl (elem_one _ _ _ _) rfl (by kernel_rfl) [(wz.heap.size, #[.int .i64 z1, .int .i64 z2, .int .i64 z3], 31)] (by simp; have := LZ.out; omega) ?_; intro w9 G9)
    refine bodyPost_ret (v := .agg #[.int .i64 1, .slice (some ⟨wz.heap.size, 0, none⟩) 1 1]) (results_cell_row Tryd.results50 _ _ w.heap.size 25 #[.int .i64 1, .slice (some ⟨wz.heap.size, 0, none⟩) 1 1] (0, 0) _ rfl (G9.2 (w.heap.size, #[.int .i64 1, .slice (some ⟨wz.heap.size, 0, none⟩) 1 1], 25) (by simp)).1 Tryd.underlying25 rfl (by kernel_rfl)) rfl ?_
    exact ⟨1, _, 1, [⟨z1, z2, z3⟩], rfl, by simp, by simp, foot_cells (G9.2 (wz.heap.size, #[.int .i64 z1, .int .i64 z2, .int .i64 z3], 31) (by simp)).1 (G9.ne (b := wz.heap.size) (cs := #[.int .i64 z1, .int .i64 z2, .int .i64 z3]) (t := 31) (by simp)) [⟨z1, z2, z3⟩] [] rfl (by simp), (by intro ad e _; cases e; have := LZ.out; simp only; omega), G9.1.le (by omega)⟩
  · clear Hj
    go_wp2_with fail
    refine (HQ.out.bit (by have := HB0.out; omega)).mono ?_
    rintro e wz ⟨z1, z2, z3, rfl, G⟩
    have Hwz := Lib.hid G
    clear G HQ
    have LZ := Lib.hid (Hwz.out.lt (b := w.heap.size) (cs := #[.int .i64 0, .slice none 0 0]) (t := 25) (by simp))
    go_wp2_with (refine wl_gst rfl _ _ _ rfl (Hwz.out.box _ _) (b := w.heap.size) (old := #[.int .i64 0, .slice none 0 0]) (t := 25) (by simp) rfl #[.int .i64 1, .slice (some ⟨wz.heap.size, 0, none⟩) 1 1] rfl (elem_one _ _ _ _) rfl (by kernel_rfl) [(wz.heap.size, #[.int .i64 z1, .int .i64 z2, .int .i64 z3], 31)] (by simp; have := LZ.out; omega) ?_; intro w9 G9)
    refine bodyPost_ret (v := .agg #[.int .i64 1, .slice (some ⟨wz.heap.size, 0, none⟩) 1 1]) (results_cell_row Tryd.results50 _ _ w.heap.size 25 #[.int .i64 1, .slice (some ⟨wz.heap.size, 0, none⟩) 1 1] (0, 0) _ rfl (G9.2 (w.heap.size, #[.int .i64 1, .slice (some ⟨wz.heap.size, 0, none⟩) 1 1], 25) (by simp)).1 Tryd.underlying25 rfl (by kernel_rfl)) rfl ?_
    exact ⟨1, _, 1, [⟨z1, z2, z3⟩], rfl, by simp, by simp, foot_cells (G9.2 (wz.heap.size, #[.int .i64 z1, .int .i64 z2, .int .i64 z3], 31) (by simp)).1 (G9.ne (b := wz.heap.size) (cs := #[.int .i64 z1, .int .i64 z2, .int .i64 z3]) (t := 31) (by simp)) [⟨z1, z2, z3⟩] [] rfl (by simp), (by intro ad e _; cases e; have := LZ.out; simp only; omega), G9.1.le (by omega)⟩
  · clear Hj
    go_wp2_with fail
    refine (HQ.out.bit (by have := HB0.out; omega)).mono ?_
    rintro e wz ⟨z1, z2, z3, rfl, G⟩
    have Hwz := Lib.hid G
    clear G HQ
    have LZ := Lib.hid (Hwz.out.lt (b := w.heap.size) (cs := #[.int .i64 0, .slice none 0 0]) (t := 25) (by simp))
    go_wp2_with (refine wl_gst rfl _ _ _ rfl (Hwz.out.box _ _) (b := w.heap.size) (old := #[.int .i64 0, .slice none 0 0]) (t := 25) (by simp) rfl #[.int .i64 2, .slice (some ⟨wz.heap.size, 0, none⟩) 1 1] rfl (elem_one _ _ _ _) rfl (by kernel_rfl) [(wz.heap.size, #[.int .i64 z1, .int .i64 z2, .int .i64 z3], 31)] (by simp; have := LZ.out; omega) ?_; intro w9 G9)
    refine bodyPost_ret (v := .agg #[.int .i64 2, .slice (some ⟨wz.heap.size, 0, none⟩) 1 1]) (results_cell_row Tryd.results50 _ _ w.heap.size 25 #[.int .i64 2, .slice (some ⟨wz.heap.size, 0, none⟩) 1 1] (0, 0) _ rfl (G9.2 (w.heap.size, #[.int .i64 2, .slice (some ⟨wz.heap.size, 0, none⟩) 1 1], 25) (by simp)).1 Tryd.underlying25 rfl (by kernel_rfl)) rfl ?_
    exact ⟨2, _, 1, [⟨z1, z2, z3⟩], rfl, by simp, by simp, foot_cells (G9.2 (wz.heap.size, #[.int .i64 z1, .int .i64 z2, .int .i64 z3], 31) (by simp)).1 (G9.ne (b := wz.heap.size) (cs := #[.int .i64 z1, .int .i64 z2, .int .i64 z3]) (t := 31) (by simp)) [⟨z1, z2, z3⟩] [] rfl (by simp), (by intro ad e _; cases e; have := LZ.out; simp only; omega), G9.1.le (by omega)⟩
  · clear Hj
    go_wp2_with fail
    refine (HQ.out.bit (by have := HB0.out; omega)).mono ?_
    rintro e wz ⟨z1, z2, z3, rfl, G⟩
    have Hwz := Lib.hid G
    clear G HQ
    have LZ := Lib.hid (Hwz.out.lt (b := w.heap.size) (cs := #[.int .i64 0, .slice none 0 0]) (t := 25) (by simp))
    go_wp2_with (refine wl_gst rfl _ _ _ rfl (Hwz.out.box _ _) (b := w.heap.size) (old := #[.int .i64 0, .slice none 0 0]) (t := 25) (by simp) rfl #[.int .i64 2, .slice (some ⟨wz.heap.size, 0, none⟩) 1 1] rfl (elem_one _ _ _ _) rfl (by kernel_rfl) [(wz.heap.size, #[.int .i64 z1, .int .i64 z2, .int .i64 z3], 31)] (by simp; have := LZ.out; omega) ?_; intro w9 G9)
    refine bodyPost_ret (v := .agg #[.int .i64 2, .slice (some ⟨wz.heap.size, 0, none⟩) 1 1]) (results_cell_row Tryd.results50 _ _ w.heap.size 25 #[.int .i64 2, .slice (some ⟨wz.heap.size, 0, none⟩) 1 1] (0, 0) _ rfl (G9.2 (w.heap.size, #[.int .i64 2, .slice (some ⟨wz.heap.size, 0, none⟩) 1 1], 25) (by simp)).1 Tryd.underlying25 rfl (by kernel_rfl)) rfl ?_
    exact ⟨2, _, 1, [⟨z1, z2, z3⟩], rfl, by simp, by simp, foot_cells (G9.2 (wz.heap.size, #[.int .i64 z1, .int .i64 z2, .int .i64 z3], 31) (by simp)).1 (G9.ne (b := wz.heap.size) (cs := #[.int .i64 z1, .int .i64 z2, .int .i64 z3]) (t := 31) (by simp)) [⟨z1, z2, z3⟩] [] rfl (by simp), (by intro ad e _; cases e; have := LZ.out; simp only; omega), G9.1.le (by omega)⟩
  · clear Hj
    go_wp2_with fail
    refine (HQ.out.pick (by have := HB0.out; omega) 2 (by decide)).mono ?_
    rintro e wr ⟨k, rfl, hk, G⟩
    have HR := Lib.hid G
    clear G HQ hk
    go_wp2_with fail
    obtain ⟨ov, hov⟩ : ∃ ov, wrap64 (3 + (k : Int)) = ov := ⟨_, rfl⟩
    rw [hov]
    clear hov
    refine (HR.out.bit (by have := HB0.out; omega)).mono ?_
    rintro e wz ⟨z1, z2, z3, rfl, G⟩
    have Hwz := Lib.hid G
    clear G HR
    go_wp2_with fail
    refine (Hwz.out.arg (by have := HB0.out; omega) _).mono ?_
    rintro e wu ⟨u1, u2, u3, rfl, G⟩
    have Hwu := Lib.hid G
    clear G Hwz
    have LZ := Lib.hid (Hwu.out.lt (b := w.heap.size) (cs := #[.int .i64 0, .slice none 0 0]) (t := 25) (by simp))
    go_wp2_with (refine wl_gst rfl _ _ _ rfl (Hwu.out.box _ _) (b := w.heap.size) (old := #[.int .i64 0, .slice none 0 0]) (t := 25) (by simp) rfl #[.int .i64 ov, .slice (some ⟨wu.heap.size, 0, none⟩) 2 2] rfl (elem_one _ _ _ _) rfl (by kernel_rfl) [(wu.heap.size, #[.int .i64 z1, .int .i64 z2, .int .i64 z3, .int .i64 u1, .int .i64 u2, .int .i64 u3], 31)] (by simp; have := LZ.out; omega) ?_; intro w9 G9)
    refine bodyPost_ret (v := .agg #[.int .i64 ov, .slice (some ⟨wu.heap.size, 0, none⟩) 2 2]) (results_cell_row Tryd.results50 _ _ w.heap.size 25 #[.int .i64 ov, .slice (some ⟨wu.heap.size, 0, none⟩) 2 2] (0, 0) _ rfl (G9.2 (w.heap.size, #[.int .i64 ov, .slice (some ⟨wu.heap.size, 0, none⟩) 2 2], 25) (by simp)).1 Tryd.underlying25 rfl (by kernel_rfl)) rfl ?_
    exact ⟨ov, _, 2, [⟨z1, z2, z3⟩, ⟨u1, u2, u3⟩], rfl, by simp, by simp, foot_cells (G9.2 (wu.heap.size, #[.int .i64 z1, .int .i64 z2, .int .i64 z3, .int .i64 u1, .int .i64 u2, .int .i64 u3], 31) (by simp)).1 (G9.ne (b := wu.heap.size) (cs := #[.int .i64 z1, .int .i64 z2, .int .i64 z3, .int .i64 u1, .int .i64 u2, .int .i64 u3]) (t := 31) (by simp)) [⟨z1, z2, z3⟩, ⟨u1, u2, u3⟩] [] rfl (by simp), (by intro ad e _; cases e; have := LZ.out; simp only; omega), G9.1.le (by omega)⟩
  · have b0 : ((j : Int) == 0) = false := beq_eq_false_iff_ne.2 (by omega)
    have b1 : ((j : Int) == 1) = false := beq_eq_false_iff_ne.2 (by omega)
    have b2 : ((j : Int) == 2) = false := beq_eq_false_iff_ne.2 (by omega)
    have b3 : ((j : Int) == 3) = false := beq_eq_false_iff_ne.2 (by omega)
    have b4 : ((j : Int) == 4) = false := beq_eq_false_iff_ne.2 (by omega)
    have b5 : ((j : Int) == 5) = false := beq_eq_false_iff_ne.2 (by omega)
    clear Hj hj6
    go_wp2_with fail
    refine (HQ.out.whole (by have := HB0.out; omega)).mono ?_
    rintro e w3 ⟨x1, x2, x3, rfl, G3⟩
    have L3 := Lib.hid (G3.lt (b := w.heap.size) (cs := #[.int .i64 0, .slice none 0 0]) (t := 25) (by simp))
    have H3 := Lib.hid (G3.box #[.int .i64 x1, .int .i64 x2, .int .i64 x3] 31)
    clear G3 HQ
    go_wp2_with fail
    refine (H3.out.whole (by have := HB0.out; omega)).mono ?_
    rintro e w4 ⟨y1, y2, y3, rfl, G4⟩
    have L4 := Lib.hid (G4.lt (b := w3.heap.size) (cs := #[.int .i64 x1, .int .i64 x2, .int .i64 x3]) (t := 31) (by simp))
    have H4 := Lib.hid (G4.box #[.int .i64 y1, .int .i64 y2, .int .i64 y3] 31)
    clear G4 H3
    go_wp2_with fail
    refine (H4.out.pick (by have := HB0.out; omega) 2 (by decide)).mono ?_
    rintro e w5 ⟨k, rfl, hk, G⟩
    have H5 := Lib.hid G
    clear G H4
    go_upto_if 39 with fail
    go_cut [] from 40 to 43 (fun wx => ∃ a1 a2 a3 b1 b2 b3 : Int, Hid (Gx ⟨B.w0, w⟩ g (n + 25) [(w4.heap.size, #[.int .i64 b1, .int .i64 b2, .int .i64 b3], 31), (w3.heap.size, #[.int .i64 a1, .int .i64 a2, .int .i64 a3], 31), (w.heap.size, #[.int .i64 0, .slice none 0 0], 25)] wx))
    case first =>
      by_cases hk0 : k = 0
      · subst hk0
        clear hk
        go_wp2_with fail
        refine (H5.out.real (by have := HB0.out; omega)).mono ?_
        rintro e w6 ⟨u1, u2, u3, rfl, G⟩
        have H6 := Lib.hid G
        clear G H5
        go_wp2_with (refine wl_gst rfl _ _ _ rfl H6.out (b := w3.heap.size) (old := #[.int .i64 x1, .int .i64 x2, .int .i64 x3]) (t := 31) (by simp) rfl #[.int .i64 u1, .int .i64 u2, .int .i64 u3] rfl (dev_one _ _ _) rfl (by kernel_rfl) [(w4.heap.size, #[.int .i64 y1, .int .i64 y2, .int .i64 y3], 31), (w.heap.size, #[.int .i64 0, .slice none 0 0], 25)] (by simp; have := L3.out; have := L4.out; omega) ?_; intro w7 G7)
        have H7 := Lib.hid G7
        clear G7 H6
        refine (H7.out.real (by have := HB0.out; omega)).mono ?_
        rintro e w8 ⟨v1, v2, v3, rfl, G⟩
        have H8 := Lib.hid G
        clear G H7
        go_wp2_with (refine wl_gst rfl _ _ _ rfl H8.out (b := w4.heap.size) (old := #[.int .i64 y1, .int .i64 y2, .int .i64 y3]) (t := 31) (by simp) rfl #[.int .i64 v1, .int .i64 v2, .int .i64 v3] rfl (dev_one _ _ _) rfl (by kernel_rfl) [(w3.heap.size, #[.int .i64 u1, .int .i64 u2, .int .i64 u3], 31), (w.heap.size, #[.int .i64 0, .slice none 0 0], 25)] (by simp; have := L3.out; have := L4.out; omega) ?_; intro w10 G10)
        go_meet
        exact ⟨u1, u2, u3, v1, v2, v3, Lib.hid (Gx.le G10 (by omega))⟩
      · have bk0 : ((k : Int) == 0) = false := beq_eq_false_iff_ne.2 (by omega)
        clear hk hk0
        go_wp2_with fail
        go_meet
        exact ⟨x1, x2, x3, y1, y2, y3, Lib.hid (H5.out.le (by omega))⟩
    case rest =>
      obtain ⟨a1, a2, a3, b1, b2, b3, HS1⟩ := hcut
      obtain ⟨wA, hwA⟩ : ∃ q, q = wc := ⟨_, rfl⟩
      subst hwA
      clear H5 hk
      go_wp2_with fail
      refine (HS1.out.pick (by have := HB0.out; omega) 4 (by decide)).mono ?_
      rintro e wp ⟨m, rfl, hm, G⟩
      have HP := Lib.hid G
      clear G HS1
      go_upto_if 46 with fail
      go_cut [] from 47 to 47 (fun wx => ∃ a1 a2 a3 b1 b2 b3 : Int, Hid (Gx ⟨B.w0, w⟩ g (n + 30) [(w4.heap.size, #[.int .i64 b1, .int .i64 b2, .int .i64 b3], 31), (w3.heap.size, #[.int .i64 a1, .int .i64 a2, .int .i64 a3], 31), (w.heap.size, #[.int .i64 0, .slice none 0 0], 25)] wx))
      case first =>
        by_cases hm0 : m = 0
        · subst hm0
          clear hm
          go_wp2_with (first | (refine wl_gld rfl _ _ rfl HP.out (b := w3.heap.size) (cs := #[.int .i64 a1, .int .i64 a2, .int .i64 a3]) (t := 31) (by simp) rfl (by kernel_rfl) (by kernel_rfl) ?_) | (refine wl_gst rfl _ _ _ rfl HP.out (b := w4.heap.size) (old := #[.int .i64 b1, .int .i64 b2, .int .i64 b3]) (t := 31) (by simp) rfl #[.int .i64 a1, .int .i64 a2, .int .i64 a3] rfl (dev_one _ _ _) rfl (by kernel_rfl) [(w3.heap.size, #[.int .i64 a1, .int .i64 a2, .int .i64 a3], 31), (w.heap.size, #[.int .i64 0, .slice none 0 0], 25)] (by simp; have := L3.out; have := L4.out; omega) ?_; intro w10 G10))
          go_meet
          exact ⟨a1, a2, a3, a1, a2, a3, Lib.hid (Gx.le G10 (by omega))⟩
        · have bm0 : ((m : Int) == 0) = false := beq_eq_false_iff_ne.2 (by omega)
          clear hm hm0
          go_wp2_with fail
          go_meet
          exact ⟨a1, a2, a3, b1, b2, b3, Lib.hid (HP.out.le (by omega))⟩
      case rest =>
        clear HP hm
        obtain ⟨a1, a2, a3, b1, b2, b3, HS⟩ := hcut
        obtain ⟨wB, hwB⟩ : ∃ q, q = wc := ⟨_, rfl⟩
        subst hwB
        go_upto_region 18 with fail
        have HD : Hid (Gx ⟨B.w0, w⟩ g (n + 30) [(w4.heap.size, #[.int .i64 b1, .int .i64 b2, .int .i64 b3], 31), (w3.heap.size, #[.int .i64 a1, .int .i64 a2, .int .i64 a3], 31), (w.heap.size, #[.int .i64 0, .slice none 0 0], 25)] wB.drew) := Lib.hid HS.out.drew
        have dw30 := HD.out.cell (b := w3.heap.size) (cs := #[.int .i64 a1, .int .i64 a2, .int .i64 a3]) (t := 31) (by simp) 0 rfl
        have dw31 := HD.out.cell (b := w3.heap.size) (cs := #[.int .i64 a1, .int .i64 a2, .int .i64 a3]) (t := 31) (by simp) 1 rfl
        have dw32 := HD.out.cell (b := w3.heap.size) (cs := #[.int .i64 a1, .int .i64 a2, .int .i64 a3]) (t := 31) (by simp) 2 rfl
        have dw40 := HD.out.cell (b := w4.heap.size) (cs := #[.int .i64 b1, .int .i64 b2, .int .i64 b3]) (t := 31) (by simp) 0 rfl
        have dw41 := HD.out.cell (b := w4.heap.size) (cs := #[.int .i64 b1, .int .i64 b2, .int .i64 b3]) (t := 31) (by simp) 1 rfl
        have dw42 := HD.out.cell (b := w4.heap.size) (cs := #[.int .i64 b1, .int .i64 b2, .int .i64 b3]) (t := 31) (by simp) 2 rfl
        have HD2 : Hid (Gx ⟨B.w0, w⟩ g (n + 30) ((wB.heap.size, #[.int .i64 a1, .int .i64 a2, .int .i64 a3, .int .i64 b1, .int .i64 b2, .int .i64 b3], 31) :: [(w4.heap.size, #[.int .i64 b1, .int .i64 b2, .int .i64 b3], 31), (w3.heap.size, #[.int .i64 a1, .int .i64 a2, .int .i64 a3], 31), (w.heap.size, #[.int .i64 0, .slice none 0 0], 25)]) (wB.alloc (.cells #[.int .i64 a1, .int .i64 a2, .int .i64 a3, .int .i64 b1, .int .i64 b2, .int .i64 b3] 31)).drew) := Lib.hid (HS.out.box #[.int .i64 a1, .int .i64 a2, .int .i64 a3, .int .i64 b1, .int .i64 b2, .int .i64 b3] 31).drew
        go_region_with (first | (go_at_call 36; refine (HD.out.pick (by have := HB0.out; omega) 6 (by decide)).mono ?_; rintro e wz ⟨q, rfl, hq, G⟩; have LZ := Lib.hid (G.lt (b := w4.heap.size) (cs := #[.int .i64 b1, .int .i64 b2, .int .i64 b3]) (t := 31) (by simp)); have fw30 := G.cell (b := w3.heap.size) (cs := #[.int .i64 a1, .int .i64 a2, .int .i64 a3]) (t := 31) (by simp) 0 rfl; have fw31 := G.cell (b := w3.heap.size) (cs := #[.int .i64 a1, .int .i64 a2, .int .i64 a3]) (t := 31) (by simp) 1 rfl; have fw32 := G.cell (b := w3.heap.size) (cs := #[.int .i64 a1, .int .i64 a2, .int .i64 a3]) (t := 31) (by simp) 2 rfl; have fw40 := G.cell (b := w4.heap.size) (cs := #[.int .i64 b1, .int .i64 b2, .int .i64 b3]) (t := 31) (by simp) 0 rfl; have fw41 := G.cell (b := w4.heap.size) (cs := #[.int .i64 b1, .int .i64 b2, .int .i64 b3]) (t := 31) (by simp) 1 rfl; have fw42 := G.cell (b := w4.heap.size) (cs := #[.int .i64 b1, .int .i64 b2, .int .i64 b3]) (t := 31) (by simp) 2 rfl; have G2 := G.box #[.int .i64 a1, .int .i64 a2, .int .i64 a3, .int .i64 b1, .int .i64 b2, .int .i64 b3] 31; have k0 := G2.cell (b := w.heap.size) (cs := #[.int .i64 0, .slice none 0 0]) (t := 25) (by simp) 0 rfl; have r0 := G2.frozen (b := w.heap.size) (cs := #[.int .i64 0, .slice none 0 0]) (t := 25) (by simp) 0; have k1 := G2.cell (b := w.heap.size) (cs := #[.int .i64 0, .slice none 0 0]) (t := 25) (by simp) 1 rfl; have r1 := G2.frozen (b := w.heap.size) (cs := #[.int .i64 0, .slice none 0 0]) (t := 25) (by simp) 1; have HG := Lib.hid G2; clear G2; clear G hq) | (go_at_call 36; refine (HD2.out.pick (by have := HB0.out; omega) 6 (by decide)).mono ?_; rintro e wz ⟨q, rfl, hq, G2⟩; have LZ := Lib.hid (HS.out.lt (b := w4.heap.size) (cs := #[.int .i64 b1, .int .i64 b2, .int .i64 b3]) (t := 31) (by simp)); have k0 := G2.cell (b := w.heap.size) (cs := #[.int .i64 0, .slice none 0 0]) (t := 25) (by simp) 0 rfl; have r0 := G2.frozen (b := w.heap.size) (cs := #[.int .i64 0, .slice none 0 0]) (t := 25) (by simp) 0; have k1 := G2.cell (b := w.heap.size) (cs := #[.int .i64 0, .slice none 0 0]) (t := 25) (by simp) 1 rfl; have r1 := G2.frozen (b := w.heap.size) (cs := #[.int .i64 0, .slice none 0 0]) (t := 25) (by simp) 1; have HG := Lib.hid G2; clear G2 hq))
        all_goals
          go_wp2_with fail
          obtain ⟨ov, hov⟩ : ∃ ov, IntKind.i64.wrap (5 + (q : Int)) = ov := ⟨_, rfl⟩
          rw [hov]
          clear hov
          first
            | (have GA := HG.out.setCell (b := w.heap.size) (old := #[.int .i64 0, .slice none 0 0]) (t := 25) (by simp) 0 (.int .i64 ov) [(wz.heap.size, #[.int .i64 a1, .int .i64 a2, .int .i64 a3, .int .i64 b1, .int .i64 b2, .int .i64 b3], 31)] (by simp; have := L3.out; have := L4.out; have := LZ.out; omega); have G9 := GA.setCell (b := w.heap.size) (old := #[.int .i64 ov, .slice none 0 0]) (t := 25) (by simp) 1 (.slice (some ⟨wz.heap.size, 0, none⟩) 2 2) [(wz.heap.size, #[.int .i64 a1, .int .i64 a2, .int .i64 a3, .int .i64 b1, .int .i64 b2, .int .i64 b3], 31)] (by simp; have := L3.out; have := L4.out; have := LZ.out; omega); have G9 : Gx ⟨B.w0, w⟩ g (n + 30 + 1) [(w.heap.size, #[.int .i64 ov, .slice (some ⟨wz.heap.size, 0, none⟩) 2 2], 25), (wz.heap.size, #[.int .i64 a1, .int .i64 a2, .int .i64 a3, .int .i64 b1, .int .i64 b2, .int .i64 b3], 31)] _ := G9; refine bodyPost_ret (v := .agg #[.int .i64 ov, .slice (some ⟨wz.heap.size, 0, none⟩) 2 2]) (results_cell_row Tryd.results50 _ _ w.heap.size 25 #[.int .i64 ov, .slice (some ⟨wz.heap.size, 0, none⟩) 2 2] (0, 0) _ rfl (G9.2 (w.heap.size, #[.int .i64 ov, .slice (some ⟨wz.heap.size, 0, none⟩) 2 2], 25) (by simp)).1 Tryd.underlying25 rfl (by kernel_rfl)) rfl ?_; exact ⟨ov, _, 2, [⟨a1, a2, a3⟩, ⟨b1, b2, b3⟩], rfl, by simp, by simp, foot_cells (G9.2 (wz.heap.size, #[.int .i64 a1, .int .i64 a2, .int .i64 a3, .int .i64 b1, .int .i64 b2, .int .i64 b3], 31) (by simp)).1 (G9.ne (b := wz.heap.size) (cs := #[.int .i64 a1, .int .i64 a2, .int .i64 a3, .int .i64 b1, .int .i64 b2, .int .i64 b3]) (t := 31) (by simp)) [⟨a1, a2, a3⟩, ⟨b1, b2, b3⟩] [] rfl (by simp), (by intro ad e _; cases e; have := LZ.out; have := L3.out; have := L4.out; simp only; omega), G9.1.le (by omega)⟩)
            | (have GA := HG.out.setCell (b := w.heap.size) (old := #[.int .i64 0, .slice none 0 0]) (t := 25) (by simp) 0 (.int .i64 ov) [(wB.heap.size, #[.int .i64 a1, .int .i64 a2, .int .i64 a3, .int .i64 b1, .int .i64 b2, .int .i64 b3], 31)] (by simp; have := L3.out; have := L4.out; have := LZ.out; omega); have G9 := GA.setCell (b := w.heap.size) (old := #[.int .i64 ov, .slice none 0 0]) (t := 25) (by simp) 1 (.slice (some ⟨wB.heap.size, 0, none⟩) 2 2) [(wB.heap.size, #[.int .i64 a1, .int .i64 a2, .int .i64 a3, .int .i64 b1, .int .i64 b2, .int .i64 b3], 31)] (by simp; have := L3.out; have := L4.out; have := LZ.out; omega); have G9 : Gx ⟨B.w0, w⟩ g (n + 30 + 1) [(w.heap.size, #[.int .i64 ov, .slice (some ⟨wB.heap.size, 0, none⟩) 2 2], 25), (wB.heap.size, #[.int .i64 a1, .int .i64 a2, .int .i64 a3, .int .i64 b1, .int .i64 b2, .int .i64 b3], 31)] _ := G9; refine bodyPost_ret (v := .agg #[.int .i64 ov, .slice (some ⟨wB.heap.size, 0, none⟩) 2 2]) (results_cell_row Tryd.results50 _ _ w.heap.size 25 #[.int .i64 ov, .slice (some ⟨wB.heap.size, 0, none⟩) 2 2] (0, 0) _ rfl (G9.2 (w.heap.size, #[.int .i64 ov, .slice (some ⟨wB.heap.size, 0, none⟩) 2 2], 25) (by simp)).1 Tryd.underlying25 rfl (by kernel_rfl)) rfl ?_; exact ⟨ov, _, 2, [⟨a1, a2, a3⟩, ⟨b1, b2, b3⟩], rfl, by simp, by simp, foot_cells (G9.2 (wB.heap.size, #[.int .i64 a1, .int .i64 a2, .int .i64 a3, .int .i64 b1, .int .i64 b2, .int .i64 b3], 31) (by simp)).1 (G9.ne (b := wB.heap.size) (cs := #[.int .i64 a1, .int .i64 a2, .int .i64 a3, .int .i64 b1, .int .i64 b2, .int .i64 b3]) (t := 31) (by simp)) [⟨a1, a2, a3⟩, ⟨b1, b2, b3⟩] [] rfl (by simp), (by intro ad e _; cases e; have := LZ.out; have := L3.out; have := L4.out; simp only; omega), G9.1.le (by omega)⟩)
end Go.Proofs.YtgmdpgchffapoaaDoor.draws
