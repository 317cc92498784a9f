/-
  The walk of 'FnMemPutNumber': it returns true, whatever the codes.
  Conditions: the listed variables hold what they are laid with.
-/
import Derived.Test.YtnffgafofkknoaaDoorQMc
namespace Go.Proofs.YtnffgafofkknoaaDoor.fnMemPutNumber
open Go Go.RowKit Go.Proofs.YtnffgafofkknoaaDoor.part Go.Proofs.YtnffgafofkknoaaDoor.dev Go.Proofs.YtnffgafofkknoaaDoor.draws Go.Proofs.YtnffgafofkknoaaDoorW.PrintWords
set_option linter.unusedVariables false
set_option linter.unusedSimpArgs false
set_option maxRecDepth 100000

def Out (W : World) (v u : Value) : Prop := Calls Tryd.prog 10 #[v, u] W fun e w' => e = .returned (.bool true) ∧ Below W.heap.size W w'
def In (W : World) (A : Option Addr) (l : List Int) (c : Nat) : Prop := ReadsInt W .u8 A l.length l ∧ l.length ≤ c ∧ ∀ x ∈ l, (Lit.int .u8 x).wf = true
theorem pw_else {cs : Array Value} {k n v : Int} (h : k ≠ 9) : pw cs k n v = cs := by unfold pw; rw [if_neg h]
theorem pr_else {cs : Array Value} {k n : Int} {v : Nat} (h : k ≠ 10) : pr cs k n v = cs := by unfold pr; rw [if_neg h]
set_option maxHeartbeats 100000000 in
theorem walkI {W : World} (hs : Sizes W) (hw : Words W) {A A2 : Option Addr} {l l2 : List Int} {c c2 : Nat} (hc : In W A l c) (hc2 : In W A2 l2 c2) : Out W (.slice A l.length c) (.slice A2 l2.length c2) := by
  unfold Out
  have HC := Lib.hid hc
  have HC2 := Lib.hid hc2
  have HSZ := Lib.hid hs
  have HWD := Lib.hid hw
  obtain ⟨z, hzs, hz⟩ := zero_run (P := Tryd.prog) (t := 45) (n := 136) (by kernel_rfl)
  have HZ := Lib.hid hzs
  clear hs hc hc2 hzs hw
  by_cases hl : (l.length : Int) > 1048576
  · clear hz
    go_enter Tryd.func10, Tryd.ntmps10
    go_wp2
    go_ret
    exact ⟨rfl, Below.refl _ _⟩
  by_cases hl2 : (l2.length : Int) > 1048576
  · clear hz
    go_enter Tryd.func10, Tryd.ntmps10
    go_wp2
    go_ret
    exact ⟨rfl, Below.refl _ _⟩
  have HCD := Lib.hid (show Code_ W A l c from ⟨HC.out.1, HC.out.2.1, by omega, HC.out.2.2⟩)
  have HCD2 := Lib.hid (show Code_ W A2 l2 c2 from ⟨HC2.out.1, HC2.out.2.1, by omega, HC2.out.2.2⟩)
  clear HC HC2
  go_enter Tryd.func10, Tryd.ntmps10
  go_wp2_with fail
  refine (drawMemPutWhole HCD.out).mono ?_
  rintro e w1 ⟨cs, k, n, p, v, rfl, hT, hRg, hv, h1⟩
  have HS := Lib.hid hT.shape
  have H1 := Lib.hid (Hx.nil h1)
  have hse := pw_shape hT.shape k n v
  obtain ⟨ce, hce⟩ : ∃ ce, pw cs k n v = ce := ⟨_, rfl⟩
  rw [hce] at hse
  have HCE := Lib.hid hce
  have HSE := Lib.hid hse
  clear hT hRg h1 hse hce HCD hv
  have G1w3 := Lib.hid (heap_alloc2_old w1 (.cells z 45) (.cells #[.int .i64 0, .int .i64 0, .int .i64 0] 47))
  have G2w3 := Lib.hid (heap_alloc2_new w1 (.cells z 45) (.cells #[.int .i64 0, .int .i64 0, .int .i64 0] 47))
  have H2w3 := Lib.hid ((H1.out.alloc (.cells z 45)).alloc (.cells #[.int .i64 0, .int .i64 0, .int .i64 0] 47))
  have HFw3 := Lib.hid (H1.out.far (Nat.le_refl _))
  have HFbw3 := Lib.hid (H1.out.far (g := w1.heap.size + 1) (by omega))
  have HBw3 := Lib.hid H1.out.1.size
  go_upto_region 4 with (first | (refine wl_fill rfl _ _ _ rfl H2w3.out _ z G1w3.out HBw3.out HFw3.out rfl rfl HS.out.one 136 HS.out.size HZ.out (by kernel_rfl) ?_; intro w2 h3 g3) | (refine wl_fill rfl _ _ _ rfl h3 _ _ ((g3 _ (by omega)).trans G2w3.out) (by have := HBw3.out; omega) (by intro p hp; rcases List.mem_cons.1 hp with rfl | hp; exact (by show w1.heap.size ≠ w1.heap.size + 1; omega); exact HFbw3.out p hp) rfl rfl (dev_one k n p) 3 rfl rfl (by kernel_rfl) ?_; intro w3 h4 g4))
  have H4 := Lib.hid h4
  clear h3 g3 h4 g4 G1w3 G2w3 H2w3 HFw3 HFbw3 HBw3
  go_wp2_with fail
  refine (drawMemPutReal (code_of HCD2.out H4.out.1)).mono ?_
  rintro e w9 ⟨cs2, k2, n2, p2, x, rfl, hT2, hRg2, h9⟩
  have HS2 := Lib.hid hT2.shape
  have H9 := Lib.hid (H4.out.below h9)
  have hsq := pr_shape hT2.shape k2 n2 x
  obtain ⟨cq, hcq⟩ : ∃ cq, pr cs2 k2 n2 x = cq := ⟨_, rfl⟩
  rw [hcq] at hsq
  have HCQ := Lib.hid hcq
  have HSQ := Lib.hid hsq
  clear hT2 hRg2 h9 H4 H1 hsq hcq
  have G1w11 := Lib.hid (heap_alloc2_old w9 (.cells z 45) (.cells #[.int .i64 0, .int .i64 0, .int .i64 0] 47))
  have G2w11 := Lib.hid (heap_alloc2_new w9 (.cells z 45) (.cells #[.int .i64 0, .int .i64 0, .int .i64 0] 47))
  have H2w11 := Lib.hid ((H9.out.alloc (.cells z 45)).alloc (.cells #[.int .i64 0, .int .i64 0, .int .i64 0] 47))
  have HFw11 := Lib.hid (H9.out.far (Nat.le_refl _))
  have HFbw11 := Lib.hid (H9.out.far (g := w9.heap.size + 1) (by omega))
  have HBw11 := Lib.hid H9.out.1.size
  go_upto_region 5 with (first | (refine wl_fill rfl _ _ _ rfl H2w11.out _ z G1w11.out HBw11.out HFw11.out rfl rfl HS2.out.one 136 HS2.out.size HZ.out (by kernel_rfl) ?_; intro w10 h3 g3) | (refine wl_fill rfl _ _ _ rfl h3 _ _ ((g3 _ (by omega)).trans G2w11.out) (by have := HBw11.out; omega) (by intro p hp; rcases List.mem_cons.1 hp with rfl | hp; exact (by show w9.heap.size ≠ w9.heap.size + 1; omega); exact HFbw11.out p hp) rfl rfl (dev_one k2 n2 p2) 3 rfl rfl (by kernel_rfl) ?_; intro w11 h4 g4))
  have H11 := Lib.hid h4
  clear h3 g3 h4 g4 G1w11 G2w11 H2w11 HFw11 HFbw11 HBw11
  obtain ⟨m, hm⟩ : ∃ m, mw cs k n = m := ⟨_, rfl⟩
  have Hm := Lib.hid hm
  clear hm H9
  go_wp2_with (first | (refine wl_hx rfl _ _ rfl H11.out (g := w1.heap.size) (cs := cs) (by simp) rfl (by kernel_rfl) 136 HS.out.size (by kernel_rfl) ?_) | (refine wl_hx rfl _ _ rfl H11.out (g := w1.heap.size + 1) (cs := #[Value.int .i64 k, .int .i64 n, .int .i64 p]) (by simp) rfl (by kernel_rfl) 3 rfl (by kernel_rfl) ?_))
  refine (iw_any cs HS.out k n p _ (HSZ.out.below H11.out.1)).mono ?_
  rintro e w4 ⟨rfl, h5⟩
  rw [Hm.out]
  have H5 := Lib.hid (H11.out.below h5)
  clear h5 H11
  go_wp2_with (first | (refine wl_hx rfl _ _ rfl H5.out (g := w1.heap.size) (cs := cs) (by simp) rfl (by kernel_rfl) 136 HS.out.size (by kernel_rfl) ?_) | (refine wl_hx rfl _ _ rfl H5.out (g := w1.heap.size + 1) (cs := #[Value.int .i64 k, .int .i64 n, .int .i64 p]) (by simp) rfl (by kernel_rfl) 3 rfl (by kernel_rfl) ?_))
  refine (piw_any cs ce HS.out k n p v HCE.out HSE.out _ (HSZ.out.below H5.out.1)).mono ?_
  rintro e w5 ⟨rfl, h6⟩
  have H6 := Lib.hid (H5.out.below h6)
  have H6b := Lib.hid (H6.out.alloc (.cells z 45))
  have HF6 := Lib.hid (H6.out.far (Nat.le_refl _))
  have HB6 := Lib.hid H6.out.1.size
  clear h6 H5
  go_upto_region 7 with (refine wl_fill rfl _ _ _ rfl H6b.out _ z (heap_alloc_new _ _) HB6.out HF6.out rfl rfl HSE.out.one 136 HSE.out.size HZ.out (by kernel_rfl) ?_; intro w6 h7 g7)
  have H7 := Lib.hid h7
  clear h7 g7 H6 H6b HF6 HB6
  by_cases hk9 : k = 9
  · subst hk9
    have Hw := Lib.hid (show mw ce 9 n = v by rw [← HCE.out]; exact (mw_pw HS.out n v).1)
    have Hb := Lib.hid (show pw ce 9 n m = cs by rw [← HCE.out, ← Hm.out]; exact (mw_pw HS.out n v).2)
    go_wp2_with fail
    refine wp_region_vals (R := Hx W [(w5.heap.size, ce), (w9.heap.size + 1, #[Value.int .i64 k2, .int .i64 n2, .int .i64 p2]), (w9.heap.size, cs2), (w1.heap.size + 1, #[Value.int .i64 9, .int .i64 n, .int .i64 p]), (w1.heap.size, cs)]) (aa := ?aa1) [(42, .pointer (some ⟨w1.heap.size + 1, 0, none⟩)), (43, .int .i64 9), (44, .bool false), (45, .bool false), (46, undef), (47, undef), (48, undef), (49, undef), (50, .bool false), (51, .bool false), (52, .pointer (some ⟨w1.heap.size + 1, 0, none⟩)), (53, .int .i64 9), (54, .bool true), (55, .bool true), (56, .agg ce), (57, .agg #[Value.int .i64 9, .int .i64 n, .int .i64 p]), (58, .int .i16 v), (59, .int .i16 v), (60, .bool false), (61, .bool false), (62, .agg ce), (63, .agg #[Value.int .i64 9, .int .i64 n, .int .i64 p]), (64, .int .i16 m), (65, .agg cs), (66, .agg cs), (67, .bool true), (68, .bool false), (69, .bool false), (70, .bool false), (71, .bool false)] ?hL1 (by kernel_rfl) ?hv1 ?hD1 ?hR1 ?hdo1 ?fin1
    case hL1 =>
      simp only [putD, Act.put]
      go_simp
      rfl
    case hv1 => kernel_rfl
    case hD1 => kernel_rfl
    case hdo1 =>
      intro i o ho
      match i, ho with
      | 0, ho =>
        cases ho
        refine .inl ⟨by kernel_rfl, fun w hR => ?_⟩
        first | (go_simp; done) | (go_simp; exact ⟨rfl, hR⟩)
      | 1, ho =>
        cases ho
        refine .inl ⟨by kernel_rfl, fun w hR => ?_⟩
        exact ow_hxf _ _ rfl hR (cs := #[Value.int .i64 9, .int .i64 n, .int .i64 p]) (by simp) 0 (.int .i64 9) rfl rfl (by decide +kernel) ⟨rfl, hR⟩
      | 2, ho =>
        cases ho
        refine .inl ⟨by kernel_rfl, fun w hR => ?_⟩
        first | (go_simp; done) | (go_simp; exact ⟨rfl, hR⟩)
      | 3, ho =>
        cases ho
        refine .inl ⟨by kernel_rfl, fun w hR => ?_⟩
        first | (go_simp; done) | (go_simp; exact ⟨rfl, hR⟩)
      | 4, ho =>
        cases ho
        exact .inr ⟨by kernel_rfl, fun t ht => by cases ht; rfl⟩
      | 5, ho =>
        cases ho
        exact .inr ⟨by kernel_rfl, fun t ht => by cases ht; rfl⟩
      | 6, ho =>
        cases ho
        exact .inr ⟨by kernel_rfl, fun t ht => by cases ht; rfl⟩
      | 7, ho =>
        cases ho
        exact .inr ⟨by kernel_rfl, fun t ht => by cases ht; rfl⟩
      | 8, ho =>
        cases ho
        refine .inl ⟨by kernel_rfl, fun w hR => ?_⟩
        first | (go_simp; done) | (go_simp; exact ⟨rfl, hR⟩)
      | 9, ho =>
        cases ho
        refine .inl ⟨by kernel_rfl, fun w hR => ?_⟩
        first | (go_simp; done) | (go_simp; exact ⟨rfl, hR⟩)
      | 10, ho =>
        cases ho
        refine .inl ⟨by kernel_rfl, fun w hR => ?_⟩
        first | (go_simp; done) | (go_simp; exact ⟨rfl, hR⟩)
      | 11, ho =>
        cases ho
        refine .inl ⟨by kernel_rfl, fun w hR => ?_⟩
        exact ow_hxf _ _ rfl hR (cs := #[Value.int .i64 9, .int .i64 n, .int .i64 p]) (by simp) 0 (.int .i64 9) rfl rfl (by decide +kernel) ⟨rfl, hR⟩
      | 12, ho =>
        cases ho
        refine .inl ⟨by kernel_rfl, fun w hR => ?_⟩
        first | (go_simp; done) | (go_simp; exact ⟨rfl, hR⟩)
      | 13, ho =>
        cases ho
        refine .inl ⟨by kernel_rfl, fun w hR => ?_⟩
        first | (go_simp; done) | (go_simp; exact ⟨rfl, hR⟩)
      | 14, ho =>
        cases ho
        refine .inl ⟨by kernel_rfl, fun w hR => ?_⟩
        exact ow_hx _ _ rfl hR (cs := ce) (by simp) rfl (by kernel_rfl) 136 (HSE.out.size) (by kernel_rfl) ⟨rfl, hR⟩
      | 15, ho =>
        cases ho
        refine .inl ⟨by kernel_rfl, fun w hR => ?_⟩
        exact ow_hx _ _ rfl hR (cs := #[Value.int .i64 9, .int .i64 n, .int .i64 p]) (by simp) rfl (by kernel_rfl) 3 (rfl) (by kernel_rfl) ⟨rfl, hR⟩
      | 16, ho =>
        cases ho
        refine .inl ⟨by kernel_rfl, fun w hR => ?_⟩
        go_simp
        go_wp2_with fail
        refine (iw_any ce HSE.out 9 n p w (HSZ.out.below hR.1)).mono ?_
        rintro e w4 ⟨rfl, h5⟩
        rw [Hw.out]
        exact ⟨rfl, hR.below h5⟩
      | 17, ho =>
        cases ho
        refine .inl ⟨by kernel_rfl, fun w hR => ?_⟩
        first | (go_simp; done) | (go_simp; exact ⟨rfl, hR⟩)
      | 18, ho =>
        cases ho
        refine .inl ⟨by kernel_rfl, fun w hR => ?_⟩
        first | (go_simp; done) | (go_simp; exact ⟨rfl, hR⟩)
      | 19, ho =>
        cases ho
        refine .inl ⟨by kernel_rfl, fun w hR => ?_⟩
        first | (go_simp; done) | (go_simp; exact ⟨rfl, hR⟩)
      | 20, ho =>
        cases ho
        refine .inl ⟨by kernel_rfl, fun w hR => ?_⟩
        exact ow_hx _ _ rfl hR (cs := ce) (by simp) rfl (by kernel_rfl) 136 (HSE.out.size) (by kernel_rfl) ⟨rfl, hR⟩
      | 21, ho =>
        cases ho
        refine .inl ⟨by kernel_rfl, fun w hR => ?_⟩
        exact ow_hx _ _ rfl hR (cs := #[Value.int .i64 9, .int .i64 n, .int .i64 p]) (by simp) rfl (by kernel_rfl) 3 (rfl) (by kernel_rfl) ⟨rfl, hR⟩
      | 22, ho =>
        cases ho
        refine .inl ⟨by kernel_rfl, fun w hR => ?_⟩
        first | (go_simp; done) | (go_simp; exact ⟨rfl, hR⟩)
      | 23, ho =>
        cases ho
        refine .inl ⟨by kernel_rfl, fun w hR => ?_⟩
        go_simp
        go_wp2_with fail
        refine (piw_any ce cs HSE.out 9 n p m Hb.out HS.out w (HSZ.out.below hR.1)).mono ?_
        rintro e w4 ⟨rfl, h5⟩
        exact ⟨rfl, hR.below h5⟩
      | 24, ho =>
        cases ho
        refine .inl ⟨by kernel_rfl, fun w hR => ?_⟩
        exact ow_hx _ _ rfl hR (cs := cs) (by simp) rfl (by kernel_rfl) 136 (HS.out.size) (by kernel_rfl) ⟨rfl, hR⟩
      | 25, ho =>
        cases ho
        refine .inl ⟨by kernel_rfl, fun w hR => ?_⟩
        go_simp
        go_wp2_with fail
        refine (memSame_any cs cs HS.out HS.out w).mono ?_
        rintro e w4 ⟨r, rfl, hr, h5⟩
        obtain rfl : r = true := hr.2 (MemEq.refl _)
        exact ⟨rfl, hR.below h5⟩
      | 26, ho =>
        cases ho
        refine .inl ⟨by kernel_rfl, fun w hR => ?_⟩
        first | (go_simp; done) | (go_simp; exact ⟨rfl, hR⟩)
      | 27, ho =>
        cases ho
        refine .inl ⟨by kernel_rfl, fun w hR => ?_⟩
        first | (go_simp; done) | (go_simp; exact ⟨rfl, hR⟩)
      | 28, ho =>
        cases ho
        refine .inl ⟨by kernel_rfl, fun w hR => ?_⟩
        first | (go_simp; done) | (go_simp; exact ⟨rfl, hR⟩)
      | 29, ho =>
        cases ho
        refine .inl ⟨by kernel_rfl, fun w hR => ?_⟩
        first | (go_simp; done) | (go_simp; exact ⟨rfl, hR⟩)
      | i + 30, ho => simp at ho
    case hR1 => exact H7.out.drew
    case fin1 =>
      intro w13 h13
      have H13 := Lib.hid h13
      clear h13 H7
      go_wp2_with (first | (refine wl_hx rfl _ _ rfl H13.out (g := w9.heap.size) (cs := cs2) (by simp) rfl (by kernel_rfl) 136 HS2.out.size (by kernel_rfl) ?_) | (refine wl_hx rfl _ _ rfl H13.out (g := w9.heap.size + 1) (cs := #[Value.int .i64 k2, .int .i64 n2, .int .i64 p2]) (by simp) rfl (by kernel_rfl) 3 rfl (by kernel_rfl) ?_))
      refine (imr_any cs2 HS2.out k2 n2 p2 _ (HSZ.out.below H13.out.1) (HWD.out.below H13.out.1)).mono ?_
      rintro e w14 ⟨xo, rfl, hxo, h14⟩
      have Hxo := Lib.hid hxo
      have H14 := Lib.hid (H13.out.below h14)
      clear hxo h14 H13
      go_wp2_with (first | (refine wl_hx rfl _ _ rfl H14.out (g := w9.heap.size) (cs := cs2) (by simp) rfl (by kernel_rfl) 136 HS2.out.size (by kernel_rfl) ?_) | (refine wl_hx rfl _ _ rfl H14.out (g := w9.heap.size + 1) (cs := #[Value.int .i64 k2, .int .i64 n2, .int .i64 p2]) (by simp) rfl (by kernel_rfl) 3 rfl (by kernel_rfl) ?_))
      refine (pir_any cs2 cq HS2.out k2 n2 p2 x HCQ.out HSQ.out _ (HSZ.out.below H14.out.1)).mono ?_
      rintro e w15 ⟨rfl, h15⟩
      have H15 := Lib.hid (H14.out.below h15)
      have H15b := Lib.hid (H15.out.alloc (.cells z 45))
      have HF15 := Lib.hid (H15.out.far (Nat.le_refl _))
      have HB15 := Lib.hid H15.out.1.size
      clear h15 H14
      go_upto_region 11 with (refine wl_fill rfl _ _ _ rfl H15b.out _ z (heap_alloc_new _ _) HB15.out HF15.out rfl rfl HSQ.out.one 136 HSQ.out.size HZ.out (by kernel_rfl) ?_; intro w16 h16 g16)
      have H16 := Lib.hid h16
      clear h16 g16 H15 H15b HF15 HB15
      have c0 := H16.out.cell (g := w9.heap.size + 1) (cs := #[Value.int .i64 k2, .int .i64 n2, .int .i64 p2]) (by simp) 0 rfl
      by_cases hk : k2 = 10
      · subst hk
        have Hq := Lib.hid (fun (y : Nat) (h : Mr cq 10 n2 p2 y) => mr_pr HS2.out n2 p2 x y (by rw [HCQ.out]; exact h))
        have Hqb := Lib.hid (show pr cq 10 n2 xo = cs2 by rw [← HCQ.out]; exact pr_back HS2.out n2 p2 x xo Hxo.out)
        go_wp2_with fail
        clear c0
        refine wp_region_vals (R := Hx W [(w15.heap.size, cq), (w5.heap.size, ce), (w9.heap.size + 1, #[Value.int .i64 10, .int .i64 n2, .int .i64 p2]), (w9.heap.size, cs2), (w1.heap.size + 1, #[Value.int .i64 9, .int .i64 n, .int .i64 p]), (w1.heap.size, cs)]) (aa := ?aa2) [(85, .agg cq), (86, .agg #[Value.int .i64 10, .int .i64 n2, .int .i64 p2]), (87, .float .f64 x), (88, .float .f64 x), (89, .bool true), (90, .bool true), (91, .agg cq), (92, .agg #[Value.int .i64 10, .int .i64 n2, .int .i64 p2]), (93, .float .f64 xo), (94, .agg cs2), (95, .agg cs2), (96, .bool true), (97, .bool true), (4, .bool true)] ?hL2 (by kernel_rfl) ?hv2 ?hD2 ?hR2 ?hdo2 ?fin2
        case hL2 =>
          simp only [putD, Act.put]
          go_simp
          rfl
        case hv2 => kernel_rfl
        case hD2 => kernel_rfl
        case hdo2 =>
          intro i o ho
          match i, ho with
          | 0, ho =>
            cases ho
            refine .inl ⟨by kernel_rfl, fun w hR => ?_⟩
            exact ow_hx _ _ rfl hR (cs := cq) (by simp) rfl (by kernel_rfl) 136 (HSQ.out.size) (by kernel_rfl) ⟨rfl, hR⟩
          | 1, ho =>
            cases ho
            refine .inl ⟨by kernel_rfl, fun w hR => ?_⟩
            exact ow_hx _ _ rfl hR (cs := #[Value.int .i64 10, .int .i64 n2, .int .i64 p2]) (by simp) rfl (by kernel_rfl) 3 (rfl) (by kernel_rfl) ⟨rfl, hR⟩
          | 2, ho =>
            cases ho
            refine .inl ⟨by kernel_rfl, fun w hR => ?_⟩
            go_simp
            go_wp2_with fail
            refine (imr_any cq HSQ.out 10 n2 p2 w (HSZ.out.below hR.1) (HWD.out.below hR.1)).mono ?_
            rintro e w4 ⟨y, rfl, hy, h5⟩
            have ey := Hq.out y hy
            subst ey
            exact ⟨rfl, hR.below h5⟩
          | 3, ho =>
            cases ho
            refine .inl ⟨by kernel_rfl, fun w hR => ?_⟩
            first | (go_simp; done) | (go_simp; exact ⟨rfl, hR⟩)
          | 4, ho =>
            cases ho
            refine .inl ⟨by kernel_rfl, fun w hR => ?_⟩
            go_simp
            go_wp2_with fail
            refine (flo.wr_any x x w (flo.Same.refl x)).mono ?_
            rintro e w4 ⟨rfl, rfl⟩
            exact ⟨rfl, hR⟩
          | 5, ho =>
            cases ho
            refine .inl ⟨by kernel_rfl, fun w hR => ?_⟩
            first | (go_simp; done) | (go_simp; exact ⟨rfl, hR⟩)
          | 6, ho =>
            cases ho
            refine .inl ⟨by kernel_rfl, fun w hR => ?_⟩
            exact ow_hx _ _ rfl hR (cs := cq) (by simp) rfl (by kernel_rfl) 136 (HSQ.out.size) (by kernel_rfl) ⟨rfl, hR⟩
          | 7, ho =>
            cases ho
            refine .inl ⟨by kernel_rfl, fun w hR => ?_⟩
            exact ow_hx _ _ rfl hR (cs := #[Value.int .i64 10, .int .i64 n2, .int .i64 p2]) (by simp) rfl (by kernel_rfl) 3 (rfl) (by kernel_rfl) ⟨rfl, hR⟩
          | 8, ho =>
            cases ho
            refine .inl ⟨by kernel_rfl, fun w hR => ?_⟩
            first | (go_simp; done) | (go_simp; exact ⟨rfl, hR⟩)
          | 9, ho =>
            cases ho
            refine .inl ⟨by kernel_rfl, fun w hR => ?_⟩
            go_simp
            go_wp2_with fail
            refine (pir_any cq cs2 HSQ.out 10 n2 p2 xo Hqb.out HS2.out w (HSZ.out.below hR.1)).mono ?_
            rintro e w4 ⟨rfl, h5⟩
            exact ⟨rfl, hR.below h5⟩
          | 10, ho =>
            cases ho
            refine .inl ⟨by kernel_rfl, fun w hR => ?_⟩
            exact ow_hx _ _ rfl hR (cs := cs2) (by simp) rfl (by kernel_rfl) 136 (HS2.out.size) (by kernel_rfl) ⟨rfl, hR⟩
          | 11, ho =>
            cases ho
            refine .inl ⟨by kernel_rfl, fun w hR => ?_⟩
            go_simp
            go_wp2_with fail
            refine (memSame_any cs2 cs2 HS2.out HS2.out w).mono ?_
            rintro e w4 ⟨r, rfl, hr, h5⟩
            obtain rfl : r = true := hr.2 (MemEq.refl _)
            exact ⟨rfl, hR.below h5⟩
          | 12, ho =>
            cases ho
            refine .inl ⟨by kernel_rfl, fun w hR => ?_⟩
            first | (go_simp; done) | (go_simp; exact ⟨rfl, hR⟩)
          | 13, ho =>
            cases ho
            refine .inl ⟨by kernel_rfl, fun w hR => ?_⟩
            first | (go_simp; done) | (go_simp; exact ⟨rfl, hR⟩)
          | i + 14, ho => simp at ho
        case hR2 => exact H16.out.drew
        case fin2 =>
          intro w17 h17
          have B17 := Lib.hid h17.1
          clear h17
          go_wp2_with fail
          go_ret
          exact ⟨rfl, B17.out⟩
      · have bk : (k2 == 10) = false := beq_eq_false_iff_ne.2 hk
        have He := Lib.hid (show cq = cs2 by rw [← HCQ.out]; exact pr_else hk)
        clear hk
        go_wp2_with (first | (refine wl_hx rfl _ _ rfl H16.out (g := w15.heap.size) (cs := cq) (by simp) rfl (by kernel_rfl) 136 HSQ.out.size (by kernel_rfl) ?_) | (refine wl_hx rfl _ _ rfl H16.out (g := w9.heap.size) (cs := cs2) (by simp) rfl (by kernel_rfl) 136 HS2.out.size (by kernel_rfl) ?_))
        refine (memSame_any cq cs2 HSQ.out HS2.out _).mono ?_
        rintro e w17 ⟨r, rfl, hr, h17⟩
        obtain rfl : r = true := hr.2 (by rw [He.out]; exact MemEq.refl _)
        have B17 := Lib.hid (H16.out.below h17).1
        clear hr h17
        go_wp2_with fail
        go_ret
        exact ⟨rfl, B17.out⟩
  · have bk9 : (k == 9) = false := beq_eq_false_iff_ne.2 hk9
    have He := Lib.hid (show ce = cs by rw [← HCE.out]; exact pw_else hk9)
    have HK9 := Lib.hid (show k = 9 → False from hk9)
    clear hk9
    go_wp2_with fail
    refine wp_region_vals (R := Hx W [(w5.heap.size, ce), (w9.heap.size + 1, #[Value.int .i64 k2, .int .i64 n2, .int .i64 p2]), (w9.heap.size, cs2), (w1.heap.size + 1, #[Value.int .i64 k, .int .i64 n, .int .i64 p]), (w1.heap.size, cs)]) (aa := ?aa3) [(42, .pointer (some ⟨w1.heap.size + 1, 0, none⟩)), (43, .int .i64 k), (44, .bool true), (45, .bool true), (46, .agg ce), (47, .agg cs), (48, .bool true), (49, .bool false), (50, .bool false), (51, .bool false), (52, .pointer (some ⟨w1.heap.size + 1, 0, none⟩)), (53, .int .i64 k), (54, .bool false), (55, .bool false), (56, undef), (57, undef), (58, undef), (59, undef), (60, undef), (61, undef), (62, undef), (63, undef), (64, undef), (65, undef), (66, undef), (67, undef), (68, undef), (69, undef), (70, .bool false), (71, .bool false)] ?hL3 (by kernel_rfl) ?hv3 ?hD3 ?hR3 ?hdo3 ?fin3
    case hL3 =>
      simp only [putD, Act.put]
      go_simp
      rfl
    case hv3 => kernel_rfl
    case hD3 => kernel_rfl
    case hdo3 =>
      intro i o ho
      match i, ho with
      | 0, ho =>
        cases ho
        refine .inl ⟨by kernel_rfl, fun w hR => ?_⟩
        first | (go_simp; done) | (go_simp; exact ⟨rfl, hR⟩)
      | 1, ho =>
        cases ho
        refine .inl ⟨by kernel_rfl, fun w hR => ?_⟩
        exact ow_hxf _ _ rfl hR (cs := #[Value.int .i64 k, .int .i64 n, .int .i64 p]) (by simp) 0 (.int .i64 k) rfl rfl (by decide +kernel) ⟨rfl, hR⟩
      | 2, ho =>
        cases ho
        refine .inl ⟨by kernel_rfl, fun w hR => ?_⟩
        first | (go_simp; done) | (go_simp; exact ⟨rfl, hR⟩) | (go_simp; exact ⟨HK9.out, hR⟩) | (go_simp; exact HK9.out) | (go_simp; exact ⟨by simp [bk9], hR⟩)
      | 3, ho =>
        cases ho
        refine .inl ⟨by kernel_rfl, fun w hR => ?_⟩
        first | (go_simp; done) | (go_simp; exact ⟨rfl, hR⟩)
      | 4, ho =>
        cases ho
        refine .inl ⟨by kernel_rfl, fun w hR => ?_⟩
        exact ow_hx _ _ rfl hR (cs := ce) (by simp) rfl (by kernel_rfl) 136 (HSE.out.size) (by kernel_rfl) ⟨rfl, hR⟩
      | 5, ho =>
        cases ho
        refine .inl ⟨by kernel_rfl, fun w hR => ?_⟩
        exact ow_hx _ _ rfl hR (cs := cs) (by simp) rfl (by kernel_rfl) 136 (HS.out.size) (by kernel_rfl) ⟨rfl, hR⟩
      | 6, ho =>
        cases ho
        refine .inl ⟨by kernel_rfl, fun w hR => ?_⟩
        go_simp
        go_wp2_with fail
        refine (memSame_any ce cs HSE.out HS.out w).mono ?_
        rintro e w4 ⟨r, rfl, hr, h5⟩
        obtain rfl : r = true := hr.2 (by rw [He.out]; exact MemEq.refl _)
        exact ⟨rfl, hR.below h5⟩
      | 7, ho =>
        cases ho
        refine .inl ⟨by kernel_rfl, fun w hR => ?_⟩
        first | (go_simp; done) | (go_simp; exact ⟨rfl, hR⟩)
      | 8, ho =>
        cases ho
        refine .inl ⟨by kernel_rfl, fun w hR => ?_⟩
        first | (go_simp; done) | (go_simp; exact ⟨rfl, hR⟩)
      | 9, ho =>
        cases ho
        refine .inl ⟨by kernel_rfl, fun w hR => ?_⟩
        first | (go_simp; done) | (go_simp; exact ⟨rfl, hR⟩)
      | 10, ho =>
        cases ho
        refine .inl ⟨by kernel_rfl, fun w hR => ?_⟩
        first | (go_simp; done) | (go_simp; exact ⟨rfl, hR⟩)
      | 11, ho =>
        cases ho
        refine .inl ⟨by kernel_rfl, fun w hR => ?_⟩
        exact ow_hxf _ _ rfl hR (cs := #[Value.int .i64 k, .int .i64 n, .int .i64 p]) (by simp) 0 (.int .i64 k) rfl rfl (by decide +kernel) ⟨rfl, hR⟩
      | 12, ho =>
        cases ho
        refine .inl ⟨by kernel_rfl, fun w hR => ?_⟩
        first | (go_simp; done) | (go_simp; exact ⟨rfl, hR⟩)
      | 13, ho =>
        cases ho
        refine .inl ⟨by kernel_rfl, fun w hR => ?_⟩
        first | (go_simp; done) | (go_simp; exact ⟨rfl, hR⟩)
      | 14, ho =>
        cases ho
        exact .inr ⟨by kernel_rfl, fun t ht => by cases ht; rfl⟩
      | 15, ho =>
        cases ho
        exact .inr ⟨by kernel_rfl, fun t ht => by cases ht; rfl⟩
      | 16, ho =>
        cases ho
        exact .inr ⟨by kernel_rfl, fun t ht => by cases ht; rfl⟩
      | 17, ho =>
        cases ho
        exact .inr ⟨by kernel_rfl, fun t ht => by cases ht; rfl⟩
      | 18, ho =>
        cases ho
        exact .inr ⟨by kernel_rfl, fun t ht => by cases ht; rfl⟩
      | 19, ho =>
        cases ho
        exact .inr ⟨by kernel_rfl, fun t ht => by cases ht; rfl⟩
      | 20, ho =>
        cases ho
        exact .inr ⟨by kernel_rfl, fun t ht => by cases ht; rfl⟩
      | 21, ho =>
        cases ho
        exact .inr ⟨by kernel_rfl, fun t ht => by cases ht; rfl⟩
      | 22, ho =>
        cases ho
        exact .inr ⟨by kernel_rfl, fun t ht => by cases ht; rfl⟩
      | 23, ho =>
        cases ho
        exact .inr ⟨by kernel_rfl, fun t ht => by cases ht; rfl⟩
      | 24, ho =>
        cases ho
        exact .inr ⟨by kernel_rfl, fun t ht => by cases ht; rfl⟩
      | 25, ho =>
        cases ho
        exact .inr ⟨by kernel_rfl, fun t ht => by cases ht; rfl⟩
      | 26, ho =>
        cases ho
        exact .inr ⟨by kernel_rfl, fun t ht => by cases ht; rfl⟩
      | 27, ho =>
        cases ho
        exact .inr ⟨by kernel_rfl, fun t ht => by cases ht; rfl⟩
      | 28, ho =>
        cases ho
        refine .inl ⟨by kernel_rfl, fun w hR => ?_⟩
        first | (go_simp; done) | (go_simp; exact ⟨rfl, hR⟩)
      | 29, ho =>
        cases ho
        refine .inl ⟨by kernel_rfl, fun w hR => ?_⟩
        first | (go_simp; done) | (go_simp; exact ⟨rfl, hR⟩)
      | i + 30, ho => simp at ho
    case hR3 => exact H7.out.drew
    case fin3 =>
      intro w13 h13
      have H13 := Lib.hid h13
      clear h13 H7
      clear bk9 HK9
      clear He
      go_wp2_with (first | (refine wl_hx rfl _ _ rfl H13.out (g := w9.heap.size) (cs := cs2) (by simp) rfl (by kernel_rfl) 136 HS2.out.size (by kernel_rfl) ?_) | (refine wl_hx rfl _ _ rfl H13.out (g := w9.heap.size + 1) (cs := #[Value.int .i64 k2, .int .i64 n2, .int .i64 p2]) (by simp) rfl (by kernel_rfl) 3 rfl (by kernel_rfl) ?_))
      refine (imr_any cs2 HS2.out k2 n2 p2 _ (HSZ.out.below H13.out.1) (HWD.out.below H13.out.1)).mono ?_
      rintro e w14 ⟨xo, rfl, hxo, h14⟩
      have Hxo := Lib.hid hxo
      have H14 := Lib.hid (H13.out.below h14)
      clear hxo h14 H13
      go_wp2_with (first | (refine wl_hx rfl _ _ rfl H14.out (g := w9.heap.size) (cs := cs2) (by simp) rfl (by kernel_rfl) 136 HS2.out.size (by kernel_rfl) ?_) | (refine wl_hx rfl _ _ rfl H14.out (g := w9.heap.size + 1) (cs := #[Value.int .i64 k2, .int .i64 n2, .int .i64 p2]) (by simp) rfl (by kernel_rfl) 3 rfl (by kernel_rfl) ?_))
      refine (pir_any cs2 cq HS2.out k2 n2 p2 x HCQ.out HSQ.out _ (HSZ.out.below H14.out.1)).mono ?_
      rintro e w15 ⟨rfl, h15⟩
      have H15 := Lib.hid (H14.out.below h15)
      have H15b := Lib.hid (H15.out.alloc (.cells z 45))
      have HF15 := Lib.hid (H15.out.far (Nat.le_refl _))
      have HB15 := Lib.hid H15.out.1.size
      clear h15 H14
      go_upto_region 11 with (refine wl_fill rfl _ _ _ rfl H15b.out _ z (heap_alloc_new _ _) HB15.out HF15.out rfl rfl HSQ.out.one 136 HSQ.out.size HZ.out (by kernel_rfl) ?_; intro w16 h16 g16)
      have H16 := Lib.hid h16
      clear h16 g16 H15 H15b HF15 HB15
      have c0 := H16.out.cell (g := w9.heap.size + 1) (cs := #[Value.int .i64 k2, .int .i64 n2, .int .i64 p2]) (by simp) 0 rfl
      by_cases hk : k2 = 10
      · subst hk
        have Hq := Lib.hid (fun (y : Nat) (h : Mr cq 10 n2 p2 y) => mr_pr HS2.out n2 p2 x y (by rw [HCQ.out]; exact h))
        have Hqb := Lib.hid (show pr cq 10 n2 xo = cs2 by rw [← HCQ.out]; exact pr_back HS2.out n2 p2 x xo Hxo.out)
        go_wp2_with fail
        clear c0
        refine wp_region_vals (R := Hx W [(w15.heap.size, cq), (w5.heap.size, ce), (w9.heap.size + 1, #[Value.int .i64 10, .int .i64 n2, .int .i64 p2]), (w9.heap.size, cs2), (w1.heap.size + 1, #[Value.int .i64 k, .int .i64 n, .int .i64 p]), (w1.heap.size, cs)]) (aa := ?aa4) [(85, .agg cq), (86, .agg #[Value.int .i64 10, .int .i64 n2, .int .i64 p2]), (87, .float .f64 x), (88, .float .f64 x), (89, .bool true), (90, .bool true), (91, .agg cq), (92, .agg #[Value.int .i64 10, .int .i64 n2, .int .i64 p2]), (93, .float .f64 xo), (94, .agg cs2), (95, .agg cs2), (96, .bool true), (97, .bool true), (4, .bool true)] ?hL4 (by kernel_rfl) ?hv4 ?hD4 ?hR4 ?hdo4 ?fin4
        case hL4 =>
          simp only [putD, Act.put]
          go_simp
          rfl
        case hv4 => kernel_rfl
        case hD4 => kernel_rfl
        case hdo4 =>
          intro i o ho
          match i, ho with
          | 0, ho =>
            cases ho
            refine .inl ⟨by kernel_rfl, fun w hR => ?_⟩
            exact ow_hx _ _ rfl hR (cs := cq) (by simp) rfl (by kernel_rfl) 136 (HSQ.out.size) (by kernel_rfl) ⟨rfl, hR⟩
          | 1, ho =>
            cases ho
            refine .inl ⟨by kernel_rfl, fun w hR => ?_⟩
            exact ow_hx _ _ rfl hR (cs := #[Value.int .i64 10, .int .i64 n2, .int .i64 p2]) (by simp) rfl (by kernel_rfl) 3 (rfl) (by kernel_rfl) ⟨rfl, hR⟩
          | 2, ho =>
            cases ho
            refine .inl ⟨by kernel_rfl, fun w hR => ?_⟩
            go_simp
            go_wp2_with fail
            refine (imr_any cq HSQ.out 10 n2 p2 w (HSZ.out.below hR.1) (HWD.out.below hR.1)).mono ?_
            rintro e w4 ⟨y, rfl, hy, h5⟩
            have ey := Hq.out y hy
            subst ey
            exact ⟨rfl, hR.below h5⟩
          | 3, ho =>
            cases ho
            refine .inl ⟨by kernel_rfl, fun w hR => ?_⟩
            first | (go_simp; done) | (go_simp; exact ⟨rfl, hR⟩)
          | 4, ho =>
            cases ho
            refine .inl ⟨by kernel_rfl, fun w hR => ?_⟩
            go_simp
            go_wp2_with fail
            refine (flo.wr_any x x w (flo.Same.refl x)).mono ?_
            rintro e w4 ⟨rfl, rfl⟩
            exact ⟨rfl, hR⟩
          | 5, ho =>
            cases ho
            refine .inl ⟨by kernel_rfl, fun w hR => ?_⟩
            first | (go_simp; done) | (go_simp; exact ⟨rfl, hR⟩)
          | 6, ho =>
            cases ho
            refine .inl ⟨by kernel_rfl, fun w hR => ?_⟩
            exact ow_hx _ _ rfl hR (cs := cq) (by simp) rfl (by kernel_rfl) 136 (HSQ.out.size) (by kernel_rfl) ⟨rfl, hR⟩
          | 7, ho =>
            cases ho
            refine .inl ⟨by kernel_rfl, fun w hR => ?_⟩
            exact ow_hx _ _ rfl hR (cs := #[Value.int .i64 10, .int .i64 n2, .int .i64 p2]) (by simp) rfl (by kernel_rfl) 3 (rfl) (by kernel_rfl) ⟨rfl, hR⟩
          | 8, ho =>
            cases ho
            refine .inl ⟨by kernel_rfl, fun w hR => ?_⟩
            first | (go_simp; done) | (go_simp; exact ⟨rfl, hR⟩)
          | 9, ho =>
            cases ho
            refine .inl ⟨by kernel_rfl, fun w hR => ?_⟩
            go_simp
            go_wp2_with fail
            refine (pir_any cq cs2 HSQ.out 10 n2 p2 xo Hqb.out HS2.out w (HSZ.out.below hR.1)).mono ?_
            rintro e w4 ⟨rfl, h5⟩
            exact ⟨rfl, hR.below h5⟩
          | 10, ho =>
            cases ho
            refine .inl ⟨by kernel_rfl, fun w hR => ?_⟩
            exact ow_hx _ _ rfl hR (cs := cs2) (by simp) rfl (by kernel_rfl) 136 (HS2.out.size) (by kernel_rfl) ⟨rfl, hR⟩
          | 11, ho =>
            cases ho
            refine .inl ⟨by kernel_rfl, fun w hR => ?_⟩
            go_simp
            go_wp2_with fail
            refine (memSame_any cs2 cs2 HS2.out HS2.out w).mono ?_
            rintro e w4 ⟨r, rfl, hr, h5⟩
            obtain rfl : r = true := hr.2 (MemEq.refl _)
            exact ⟨rfl, hR.below h5⟩
          | 12, ho =>
            cases ho
            refine .inl ⟨by kernel_rfl, fun w hR => ?_⟩
            first | (go_simp; done) | (go_simp; exact ⟨rfl, hR⟩)
          | 13, ho =>
            cases ho
            refine .inl ⟨by kernel_rfl, fun w hR => ?_⟩
            first | (go_simp; done) | (go_simp; exact ⟨rfl, hR⟩)
          | i + 14, ho => simp at ho
        case hR4 => exact H16.out.drew
        case fin4 =>
          intro w17 h17
          have B17 := Lib.hid h17.1
          clear h17
          go_wp2_with fail
          go_ret
          exact ⟨rfl, B17.out⟩
      · have bk : (k2 == 10) = false := beq_eq_false_iff_ne.2 hk
        have He := Lib.hid (show cq = cs2 by rw [← HCQ.out]; exact pr_else hk)
        clear hk
        go_wp2_with (first | (refine wl_hx rfl _ _ rfl H16.out (g := w15.heap.size) (cs := cq) (by simp) rfl (by kernel_rfl) 136 HSQ.out.size (by kernel_rfl) ?_) | (refine wl_hx rfl _ _ rfl H16.out (g := w9.heap.size) (cs := cs2) (by simp) rfl (by kernel_rfl) 136 HS2.out.size (by kernel_rfl) ?_))
        refine (memSame_any cq cs2 HSQ.out HS2.out _).mono ?_
        rintro e w17 ⟨r, rfl, hr, h17⟩
        obtain rfl : r = true := hr.2 (by rw [He.out]; exact MemEq.refl _)
        have B17 := Lib.hid (H16.out.below h17).1
        clear hr h17
        go_wp2_with fail
        go_ret
        exact ⟨rfl, B17.out⟩
theorem walk (W : World) (base : Nat) (v0 v1 : Value) (o0 : Value.okWide Tryd.prog W .any base 60 v0) (o1 : Value.okWide Tryd.prog W .any base 60 v1) (b0 : kit.Bytes W v0) (b1 : kit.Bytes W v1) (hL : laidMetH Tryd.prog Rows.fnMemPutNumberRow.laid W) :
    Calls Tryd.prog 10 #[v0, v1] W fun e w' => e = .returned (.bool true) ∧ Below W.heap.size W w' := by
  have hs : Sizes W := kit.laid_ints (zs := sizes) (k := .i64) (n := "loop.example/stile/impl.devSizes") hL (by kernel_rfl) (by repeat (first | exact List.Mem.head _ | apply List.Mem.tail)) (by kernel_rfl) (by kernel_rfl) Tryd.underlying110 Tryd.underlying3 (by kernel_rfl) (by decide)
  have hw : Words W := by
    obtain ⟨b, off, hc, _⟩ := kit.laid_strs (g := 2) (L := [[110, 97, 110], [105, 110, 102], [45, 105, 110, 102], [45, 48, 46, 48]]) (n := "loop.example/stile/impl.devWords") hL (by kernel_rfl) (by repeat (first | exact List.Mem.head _ | apply List.Mem.tail)) (by kernel_rfl) (by kernel_rfl) Tryd.underlying118 Tryd.underlying9 (by kernel_rfl) (by decide)
    exact ⟨b, off, hc⟩
  obtain ⟨A0, len0, cap0, zs0, rfl, h0, y0⟩ := b0
  obtain ⟨l0, rfl, hr0, hm0, hwf0, hc0⟩ := ReadsInt.ofRowC h0
  obtain ⟨A1, len1, cap1, zs1, rfl, h1, y1⟩ := b1
  obtain ⟨l1, rfl, hr1, hm1, hwf1, hc1⟩ := ReadsInt.ofRowC h1
  exact walkI hs hw ⟨hr0, hc0, hwf0⟩ ⟨hr1, hc1, hwf1⟩
end Go.Proofs.YtnffgafofkknoaaDoor.fnMemPutNumber
