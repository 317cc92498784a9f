/-
  The walk of 'FnMemPut': it returns true, whatever the codes.
  Conditions: the listed variable holds its numbers.
-/
import Derived.Test.YtnffgafofkknoaaDoorQMc
namespace Go.Proofs.YtnffgafofkknoaaDoor.fnMemPut
open Go Go.RowKit Go.Proofs.YtnffgafofkknoaaDoor.part Go.Proofs.YtnffgafofkknoaaDoor.dev Go.Proofs.YtnffgafofkknoaaDoor.draws Go.Proofs.YtnffgafofkknoaaDoorW.PrintWords
set_option linter.unusedVariables false
set_option linter.unusedSimpArgs false
set_option maxRecDepth 100000

def Out (W : World) (v u : Value) : Prop := Calls Tryd.prog 9 #[v, u] W fun e w' => e = .returned (.bool true) ∧ Below W.heap.size W w'
def In (W : World) (A : Option Addr) (l : List Int) (c : Nat) : Prop := ReadsInt W .u8 A l.length l ∧ l.length ≤ c ∧ ∀ x ∈ l, (Lit.int .u8 x).wf = true
set_option maxHeartbeats 100000000 in
theorem walkI {W : World} (hs : Sizes W) {A A2 : Option Addr} {l l2 : List Int} {c c2 : Nat} (hc : In W A l c) (hc2 : In W A2 l2 c2) : Out W (.slice A l.length c) (.slice A2 l2.length c2) := by
  unfold Out
  have HC := Lib.hid hc
  have HC2 := Lib.hid hc2
  have HSZ := Lib.hid hs
  obtain ⟨z, hzs, hz⟩ := zero_run (P := Tryd.prog) (t := 45) (n := 136) (by kernel_rfl)
  have HZ := Lib.hid hzs
  clear hs hc hc2 hzs
  by_cases hl : (l.length : Int) > 1048576
  · clear hz
    go_enter Tryd.func9, Tryd.ntmps9
    go_wp2
    go_ret
    exact ⟨rfl, Below.refl _ _⟩
  by_cases hl2 : (l2.length : Int) > 1048576
  · clear hz
    go_enter Tryd.func9, Tryd.ntmps9
    go_wp2
    go_ret
    exact ⟨rfl, Below.refl _ _⟩
  have HCD := Lib.hid (show Code_ W A l c from ⟨HC.out.1, HC.out.2.1, by omega, HC.out.2.2⟩)
  have HCD2 := Lib.hid (show Code_ W A2 l2 c2 from ⟨HC2.out.1, HC2.out.2.1, by omega, HC2.out.2.2⟩)
  clear HC HC2
  go_enter Tryd.func9, Tryd.ntmps9
  go_wp2_with fail
  refine (drawMemPut HCD.out).mono ?_
  rintro e w1 ⟨cs, k, n, p, v, rfl, hT, hRg, h1⟩
  have HS := Lib.hid hT.shape
  have HR := Lib.hid hRg
  have H1 := Lib.hid (Hx.nil h1)
  have hT2 : Shape (pb cs k n v) ∧ Rg (pb cs k n v) := ⟨pb_shape hT.shape hRg k n v, pb_rg hT.shape hRg k n v⟩
  obtain ⟨ce, hce⟩ : ∃ ce, pb cs k n v = ce := ⟨_, rfl⟩
  rw [hce] at hT2
  have HCE := Lib.hid hce
  have HSE := Lib.hid hT2.1
  have HRE := Lib.hid hT2.2
  clear hT hRg h1 hT2 hce HCD
  have G1w3 := Lib.hid (heap_alloc2_old w1 (.cells z 45) (.cells #[.int .i64 0, .int .i64 0, .int .i64 0] 47))
  have G2w3 := Lib.hid (heap_alloc2_new w1 (.cells z 45) (.cells #[.int .i64 0, .int .i64 0, .int .i64 0] 47))
  have H2w3 := Lib.hid ((H1.out.alloc (.cells z 45)).alloc (.cells #[.int .i64 0, .int .i64 0, .int .i64 0] 47))
  have HFw3 := Lib.hid (H1.out.far (Nat.le_refl _))
  have HFbw3 := Lib.hid (H1.out.far (g := w1.heap.size + 1) (by omega))
  have HBw3 := Lib.hid H1.out.1.size
  go_upto_region 4 with (first | (refine wl_fill rfl _ _ _ rfl H2w3.out _ z G1w3.out HBw3.out HFw3.out rfl rfl HS.out.one 136 HS.out.size HZ.out (by kernel_rfl) ?_; intro w2 h3 g3) | (refine wl_fill rfl _ _ _ rfl h3 _ _ ((g3 _ (by omega)).trans G2w3.out) (by have := HBw3.out; omega) (by intro p hp; rcases List.mem_cons.1 hp with rfl | hp; exact (by show w1.heap.size ≠ w1.heap.size + 1; omega); exact HFbw3.out p hp) rfl rfl (dev_one k n p) 3 rfl rfl (by kernel_rfl) ?_; intro w3 h4 g4))
  have H4 := Lib.hid h4
  clear h3 g3 h4 g4 G1w3 G2w3 H2w3 HFw3 HFbw3 HBw3
  obtain ⟨b, hb⟩ : ∃ b, mb cs k n = b := ⟨_, rfl⟩
  have Hb := Lib.hid hb
  clear hb
  go_wp2_with (first | (refine wl_hx rfl _ _ rfl H4.out (g := w1.heap.size) (cs := cs) (by simp) rfl (by kernel_rfl) 136 HS.out.size (by kernel_rfl) ?_) | (refine wl_hx rfl _ _ rfl H4.out (g := w1.heap.size + 1) (cs := #[Value.int .i64 k, .int .i64 n, .int .i64 p]) (by simp) rfl (by kernel_rfl) 3 rfl (by kernel_rfl) ?_))
  refine (ib_any cs HS.out HR.out k n p _ (HSZ.out.below H4.out.1)).mono ?_
  rintro e w4 ⟨rfl, h5⟩
  rw [Hb.out]
  have H5 := Lib.hid (H4.out.below h5)
  clear h5 H4 H1
  go_wp2_with (first | (refine wl_hx rfl _ _ rfl H5.out (g := w1.heap.size) (cs := cs) (by simp) rfl (by kernel_rfl) 136 HS.out.size (by kernel_rfl) ?_) | (refine wl_hx rfl _ _ rfl H5.out (g := w1.heap.size + 1) (cs := #[Value.int .i64 k, .int .i64 n, .int .i64 p]) (by simp) rfl (by kernel_rfl) 3 rfl (by kernel_rfl) ?_))
  refine (ip_any cs ce HS.out HR.out k n p v HCE.out HSE.out _ (HSZ.out.below H5.out.1)).mono ?_
  rintro e w5 ⟨rfl, h6⟩
  have H6 := Lib.hid (H5.out.below h6)
  have H6b := Lib.hid (H6.out.alloc (.cells z 45))
  have HF6 := Lib.hid (H6.out.far (Nat.le_refl _))
  have HB6 := Lib.hid H6.out.1.size
  clear h6 H5
  go_upto_region 6 with (refine wl_fill rfl _ _ _ rfl H6b.out _ z (heap_alloc_new _ _) HB6.out HF6.out rfl rfl HSE.out.one 136 HSE.out.size HZ.out (by kernel_rfl) ?_; intro w6 h7 g7)
  have H7 := Lib.hid h7
  clear h7 g7 H6 H6b HF6 HB6
  have c0 := H7.out.cell (g := w1.heap.size + 1) (cs := #[Value.int .i64 k, .int .i64 n, .int .i64 p]) (by simp) 0 rfl
  by_cases hk : k < 2 ∨ 5 < k
  · have He := Lib.hid (show ce = cs by rw [← HCE.out]; exact pb_else hk)
    rcases hk with hk | hk
    all_goals
      go_wp2_with (first | (refine wl_hx rfl _ _ rfl H7.out (g := w5.heap.size) (cs := ce) (by simp) rfl (by kernel_rfl) 136 HSE.out.size (by kernel_rfl) ?_) | (refine wl_hx rfl _ _ rfl H7.out (g := w1.heap.size) (cs := cs) (by simp) rfl (by kernel_rfl) 136 HS.out.size (by kernel_rfl) ?_))
      refine (memSame_any ce cs HSE.out HS.out _).mono ?_
      rintro e w8 ⟨r, rfl, hr, h8⟩
      obtain rfl : r = true := hr.2 (by rw [He.out]; exact MemEq.refl _)
      have B8 := Lib.hid (H7.out.below h8).1
      clear hr h8
      go_wp2_with fail
      go_ret
      exact ⟨rfl, B8.out⟩
  have hk2 : 2 ≤ k ∧ k ≤ 5 := by omega
  have ka : 2 ≤ k := hk2.1
  have kb : k ≤ 5 := hk2.2
  have HK := Lib.hid hk2
  clear hk hk2
  go_wp2_with fail
  clear ka kb c0
  refine (drawMemBit (code_of HCD2.out H7.out.1)).mono ?_
  rintro e w9 ⟨cs2, k2, n2, p2, rfl, hT2, hRg2, h9⟩
  have HS2 := Lib.hid hT2.shape
  have H9 := Lib.hid (H7.out.below h9)
  clear hT2 hRg2 h9 H7
  have G1w11 := Lib.hid (heap_alloc2_old w9 (.cells z 45) (.cells #[.int .i64 0, .int .i64 0, .int .i64 0] 47))
  have G2w11 := Lib.hid (heap_alloc2_new w9 (.cells z 45) (.cells #[.int .i64 0, .int .i64 0, .int .i64 0] 47))
  have H2w11 := Lib.hid ((H9.out.alloc (.cells z 45)).alloc (.cells #[.int .i64 0, .int .i64 0, .int .i64 0] 47))
  have HFw11 := Lib.hid (H9.out.far (Nat.le_refl _))
  have HFbw11 := Lib.hid (H9.out.far (g := w9.heap.size + 1) (by omega))
  have HBw11 := Lib.hid H9.out.1.size
  go_upto_region 9 with (first | (refine wl_fill rfl _ _ _ rfl H2w11.out _ z G1w11.out HBw11.out HFw11.out rfl rfl HS2.out.one 136 HS2.out.size HZ.out (by kernel_rfl) ?_; intro w10 h3 g3) | (refine wl_fill rfl _ _ _ rfl h3 _ _ ((g3 _ (by omega)).trans G2w11.out) (by have := HBw11.out; omega) (by intro p hp; rcases List.mem_cons.1 hp with rfl | hp; exact (by show w9.heap.size ≠ w9.heap.size + 1; omega); exact HFbw11.out p hp) rfl rfl (dev_one k2 n2 p2) 3 rfl rfl (by kernel_rfl) ?_; intro w11 h4 g4))
  have H11 := Lib.hid h4
  clear h3 g3 h4 g4 G1w11 G2w11 H2w11 HFw11 HFbw11 HBw11
  obtain ⟨b2, hb2⟩ : ∃ b2, mb cs k2 n2 = b2 := ⟨_, rfl⟩
  obtain ⟨m, hm⟩ : ∃ m, mw cs k2 n2 = m := ⟨_, rfl⟩
  have Hb2 := Lib.hid hb2
  have Hm := Lib.hid hm
  have Hm2 := Lib.hid (show mw ce k2 n2 = m by rw [← HCE.out, mw_put HS.out HR.out HK.out v]; exact hm)
  have Hv := Lib.hid (show mb ce k n = v by rw [← HCE.out]; exact mb_put HS.out HR.out HK.out v)
  have Hback := Lib.hid (show pb ce k n b = cs by rw [← HCE.out, ← Hb.out]; exact pb_back HS.out HR.out HK.out v (by rw [HCE.out]; exact HSE.out) (by rw [HCE.out]; exact HRE.out))
  clear hb2 hm
  go_wp2_with (first | (refine wl_hx rfl _ _ rfl H11.out (g := w1.heap.size) (cs := cs) (by simp) rfl (by kernel_rfl) 136 HS.out.size (by kernel_rfl) ?_) | (refine wl_hx rfl _ _ rfl H11.out (g := w9.heap.size + 1) (cs := #[Value.int .i64 k2, .int .i64 n2, .int .i64 p2]) (by simp) rfl (by kernel_rfl) 3 rfl (by kernel_rfl) ?_))
  refine (ib_any cs HS.out HR.out k2 n2 p2 _ (HSZ.out.below H11.out.1)).mono ?_
  rintro e w12 ⟨rfl, h12⟩
  rw [Hb2.out]
  have H12 := Lib.hid (H11.out.below h12)
  clear h12 H11 H9
  obtain ⟨d1, hd1⟩ : ∃ d1, dok k n p = d1 := ⟨_, rfl⟩
  obtain ⟨d2, hd2⟩ : ∃ d2, dok k2 n2 p2 = d2 := ⟨_, rfl⟩
  have Hd1 := Lib.hid hd1
  have Hd2 := Lib.hid hd2
  clear hd1 hd2
  go_wp2_with fail
  cases d1
  case false =>
    refine wp_region_vals (R := Hx W [(w9.heap.size + 1, #[Value.int .i64 k2, .int .i64 n2, .int .i64 p2]), (w9.heap.size, cs2), (w5.heap.size, ce), (w1.heap.size + 1, #[Value.int .i64 k, .int .i64 n, .int .i64 p]), (w1.heap.size, cs)]) (aa := ?aa1) [(53, .agg #[Value.int .i64 k, .int .i64 n, .int .i64 p]), (54, .bool false), (55, .bool false), (56, undef), (57, undef), (58, .bool false), (59, .bool false), (60, undef), (61, undef), (62, undef), (63, .bool false), (64, .bool false), (65, undef), (66, undef), (67, undef), (68, undef), (69, undef), (70, .bool false), (71, .bool false), (72, .agg ce), (73, .agg #[Value.int .i64 k2, .int .i64 n2, .int .i64 p2]), (74, .int .i16 m), (75, .agg cs), (76, .agg #[Value.int .i64 k2, .int .i64 n2, .int .i64 p2]), (77, .int .i16 m), (78, .bool false), (79, .bool false)] ?hL1 (by kernel_rfl) ?hv1 ?hD1 ?hR1 ?hdo1 ?fin1
    case hL1 =>
      simp only [putD, Act.put]
      go_simp
      rfl
    case hv1 => kernel_rfl
    case hD1 => kernel_rfl
    case hdo1 =>
      intro i o ho
      match i, ho with
      | 0, ho =>
        cases ho
        refine .inl ⟨by kernel_rfl, fun w hR => ?_⟩
        exact ow_hx _ _ rfl hR (cs := #[Value.int .i64 k, .int .i64 n, .int .i64 p]) (by simp) rfl (by kernel_rfl) 3 (rfl) (by kernel_rfl) ⟨rfl, hR⟩
      | 1, ho =>
        cases ho
        refine .inl ⟨by kernel_rfl, fun w hR => ?_⟩
        go_simp
        go_wp2_with fail
        refine (dev.spec_dok k n p w).mono ?_
        rintro e w4 ⟨rfl, h5⟩
        rw [Hd1.out]
        exact ⟨rfl, hR.below h5⟩
      | 2, ho =>
        cases ho
        refine .inl ⟨by kernel_rfl, fun w hR => ?_⟩
        first | (go_simp; done) | (go_simp; exact ⟨rfl, hR⟩)
      | 3, ho =>
        cases ho
        exact .inr ⟨by kernel_rfl, fun t ht => by cases ht; rfl⟩
      | 4, ho =>
        cases ho
        exact .inr ⟨by kernel_rfl, fun t ht => by cases ht; rfl⟩
      | 5, ho =>
        cases ho
        refine .inl ⟨by kernel_rfl, fun w hR => ?_⟩
        first | (go_simp; done) | (go_simp; exact ⟨rfl, hR⟩)
      | 6, ho =>
        cases ho
        refine .inl ⟨by kernel_rfl, fun w hR => ?_⟩
        first | (go_simp; done) | (go_simp; exact ⟨rfl, hR⟩)
      | 7, ho =>
        cases ho
        exact .inr ⟨by kernel_rfl, fun t ht => by cases ht; rfl⟩
      | 8, ho =>
        cases ho
        exact .inr ⟨by kernel_rfl, fun t ht => by cases ht; rfl⟩
      | 9, ho =>
        cases ho
        exact .inr ⟨by kernel_rfl, fun t ht => by cases ht; rfl⟩
      | 10, ho =>
        cases ho
        refine .inl ⟨by kernel_rfl, fun w hR => ?_⟩
        first | (go_simp; done) | (go_simp; exact ⟨rfl, hR⟩)
      | 11, ho =>
        cases ho
        refine .inl ⟨by kernel_rfl, fun w hR => ?_⟩
        first | (go_simp; done) | (go_simp; exact ⟨rfl, hR⟩)
      | 12, ho =>
        cases ho
        exact .inr ⟨by kernel_rfl, fun t ht => by cases ht; rfl⟩
      | 13, ho =>
        cases ho
        exact .inr ⟨by kernel_rfl, fun t ht => by cases ht; rfl⟩
      | 14, ho =>
        cases ho
        exact .inr ⟨by kernel_rfl, fun t ht => by cases ht; rfl⟩
      | 15, ho =>
        cases ho
        exact .inr ⟨by kernel_rfl, fun t ht => by cases ht; rfl⟩
      | 16, ho =>
        cases ho
        exact .inr ⟨by kernel_rfl, fun t ht => by cases ht; rfl⟩
      | 17, ho =>
        cases ho
        refine .inl ⟨by kernel_rfl, fun w hR => ?_⟩
        first | (go_simp; done) | (go_simp; exact ⟨rfl, hR⟩)
      | 18, ho =>
        cases ho
        refine .inl ⟨by kernel_rfl, fun w hR => ?_⟩
        first | (go_simp; done) | (go_simp; exact ⟨rfl, hR⟩)
      | 19, ho =>
        cases ho
        refine .inl ⟨by kernel_rfl, fun w hR => ?_⟩
        exact ow_hx _ _ rfl hR (cs := ce) (by simp) rfl (by kernel_rfl) 136 (HSE.out.size) (by kernel_rfl) ⟨rfl, hR⟩
      | 20, ho =>
        cases ho
        refine .inl ⟨by kernel_rfl, fun w hR => ?_⟩
        exact ow_hx _ _ rfl hR (cs := #[Value.int .i64 k2, .int .i64 n2, .int .i64 p2]) (by simp) rfl (by kernel_rfl) 3 (rfl) (by kernel_rfl) ⟨rfl, hR⟩
      | 21, ho =>
        cases ho
        refine .inl ⟨by kernel_rfl, fun w hR => ?_⟩
        go_simp
        go_wp2_with fail
        refine (iw_any ce HSE.out k2 n2 p2 w (HSZ.out.below hR.1)).mono ?_
        rintro e w4 ⟨rfl, h5⟩
        rw [Hm2.out]
        exact ⟨rfl, hR.below h5⟩
      | 22, ho =>
        cases ho
        refine .inl ⟨by kernel_rfl, fun w hR => ?_⟩
        exact ow_hx _ _ rfl hR (cs := cs) (by simp) rfl (by kernel_rfl) 136 (HS.out.size) (by kernel_rfl) ⟨rfl, hR⟩
      | 23, ho =>
        cases ho
        refine .inl ⟨by kernel_rfl, fun w hR => ?_⟩
        exact ow_hx _ _ rfl hR (cs := #[Value.int .i64 k2, .int .i64 n2, .int .i64 p2]) (by simp) rfl (by kernel_rfl) 3 (rfl) (by kernel_rfl) ⟨rfl, hR⟩
      | 24, ho =>
        cases ho
        refine .inl ⟨by kernel_rfl, fun w hR => ?_⟩
        go_simp
        go_wp2_with fail
        refine (iw_any cs HS.out k2 n2 p2 w (HSZ.out.below hR.1)).mono ?_
        rintro e w4 ⟨rfl, h5⟩
        rw [Hm.out]
        exact ⟨rfl, hR.below h5⟩
      | 25, ho =>
        cases ho
        refine .inl ⟨by kernel_rfl, fun w hR => ?_⟩
        first | (go_simp; done) | (go_simp; exact ⟨rfl, hR⟩)
      | 26, ho =>
        cases ho
        refine .inl ⟨by kernel_rfl, fun w hR => ?_⟩
        first | (go_simp; done) | (go_simp; exact ⟨rfl, hR⟩)
      | i + 27, ho => simp at ho
    case hR1 => exact H12.out.drew
    case fin1 =>
      intro w13 h13
      have H13 := Lib.hid h13
      clear h13 H12
      go_wp2_with fail
      refine wp_region_vals (R := Hx W [(w9.heap.size + 1, #[Value.int .i64 k2, .int .i64 n2, .int .i64 p2]), (w9.heap.size, cs2), (w5.heap.size, ce), (w1.heap.size + 1, #[Value.int .i64 k, .int .i64 n, .int .i64 p]), (w1.heap.size, cs)]) (aa := ?aa2) [(80, .agg ce), (81, .agg #[Value.int .i64 k, .int .i64 n, .int .i64 p]), (82, .bool v), (83, .bool v), (84, .bool true), (85, .bool true), (86, .agg ce), (87, .agg #[Value.int .i64 k, .int .i64 n, .int .i64 p]), (88, .bool b), (89, .agg cs), (90, .agg cs), (91, .bool true), (92, .bool true), (4, .bool true)] ?hL2 (by kernel_rfl) ?hv2 ?hD2 ?hR2 ?hdo2 ?fin2
      case hL2 =>
        simp only [putD, Act.put]
        go_simp
        rfl
      case hv2 => kernel_rfl
      case hD2 => kernel_rfl
      case hdo2 =>
        intro i o ho
        match i, ho with
        | 0, ho =>
          cases ho
          refine .inl ⟨by kernel_rfl, fun w hR => ?_⟩
          exact ow_hx _ _ rfl hR (cs := ce) (by simp) rfl (by kernel_rfl) 136 (HSE.out.size) (by kernel_rfl) ⟨rfl, hR⟩
        | 1, ho =>
          cases ho
          refine .inl ⟨by kernel_rfl, fun w hR => ?_⟩
          exact ow_hx _ _ rfl hR (cs := #[Value.int .i64 k, .int .i64 n, .int .i64 p]) (by simp) rfl (by kernel_rfl) 3 (rfl) (by kernel_rfl) ⟨rfl, hR⟩
        | 2, ho =>
          cases ho
          refine .inl ⟨by kernel_rfl, fun w hR => ?_⟩
          go_simp
          go_wp2_with fail
          refine (ib_any ce HSE.out HRE.out k n p w (HSZ.out.below hR.1)).mono ?_
          rintro e w4 ⟨rfl, h5⟩
          rw [Hv.out]
          exact ⟨rfl, hR.below h5⟩
        | 3, ho =>
          cases ho
          refine .inl ⟨by kernel_rfl, fun w hR => ?_⟩
          first | (go_simp; done) | (go_simp; exact ⟨rfl, hR⟩)
        | 4, ho =>
          cases ho
          refine .inl ⟨by kernel_rfl, fun w hR => ?_⟩
          first | (go_simp; done) | (go_simp; exact ⟨rfl, hR⟩)
        | 5, ho =>
          cases ho
          refine .inl ⟨by kernel_rfl, fun w hR => ?_⟩
          first | (go_simp; done) | (go_simp; exact ⟨rfl, hR⟩)
        | 6, ho =>
          cases ho
          refine .inl ⟨by kernel_rfl, fun w hR => ?_⟩
          exact ow_hx _ _ rfl hR (cs := ce) (by simp) rfl (by kernel_rfl) 136 (HSE.out.size) (by kernel_rfl) ⟨rfl, hR⟩
        | 7, ho =>
          cases ho
          refine .inl ⟨by kernel_rfl, fun w hR => ?_⟩
          exact ow_hx _ _ rfl hR (cs := #[Value.int .i64 k, .int .i64 n, .int .i64 p]) (by simp) rfl (by kernel_rfl) 3 (rfl) (by kernel_rfl) ⟨rfl, hR⟩
        | 8, ho =>
          cases ho
          refine .inl ⟨by kernel_rfl, fun w hR => ?_⟩
          first | (go_simp; done) | (go_simp; exact ⟨rfl, hR⟩)
        | 9, ho =>
          cases ho
          refine .inl ⟨by kernel_rfl, fun w hR => ?_⟩
          go_simp
          go_wp2_with fail
          refine (ip_any ce cs HSE.out HRE.out k n p b Hback.out HS.out w (HSZ.out.below hR.1)).mono ?_
          rintro e w4 ⟨rfl, h5⟩
          exact ⟨rfl, hR.below h5⟩
        | 10, ho =>
          cases ho
          refine .inl ⟨by kernel_rfl, fun w hR => ?_⟩
          exact ow_hx _ _ rfl hR (cs := cs) (by simp) rfl (by kernel_rfl) 136 (HS.out.size) (by kernel_rfl) ⟨rfl, hR⟩
        | 11, ho =>
          cases ho
          refine .inl ⟨by kernel_rfl, fun w hR => ?_⟩
          go_simp
          go_wp2_with fail
          refine (memSame_any cs cs HS.out HS.out w).mono ?_
          rintro e w4 ⟨r, rfl, hr, h5⟩
          obtain rfl : r = true := hr.2 (MemEq.refl _)
          exact ⟨rfl, hR.below h5⟩
        | 12, ho =>
          cases ho
          refine .inl ⟨by kernel_rfl, fun w hR => ?_⟩
          first | (go_simp; done) | (go_simp; exact ⟨rfl, hR⟩)
        | 13, ho =>
          cases ho
          refine .inl ⟨by kernel_rfl, fun w hR => ?_⟩
          first | (go_simp; done) | (go_simp; exact ⟨rfl, hR⟩)
        | i + 14, ho => simp at ho
      case hR2 => exact H13.out.drew
      case fin2 =>
        intro w14 h14
        have B14 := Lib.hid h14.1
        clear h14
        go_wp2_with fail
        go_ret
        exact ⟨rfl, B14.out⟩
  case true =>
    cases d2
    case false =>
      refine wp_region_vals (R := Hx W [(w9.heap.size + 1, #[Value.int .i64 k2, .int .i64 n2, .int .i64 p2]), (w9.heap.size, cs2), (w5.heap.size, ce), (w1.heap.size + 1, #[Value.int .i64 k, .int .i64 n, .int .i64 p]), (w1.heap.size, cs)]) (aa := ?aa3) [(53, .agg #[Value.int .i64 k, .int .i64 n, .int .i64 p]), (54, .bool true), (55, .bool true), (56, .agg #[Value.int .i64 k2, .int .i64 n2, .int .i64 p2]), (57, .bool false), (58, .bool false), (59, .bool false), (60, undef), (61, undef), (62, undef), (63, .bool false), (64, .bool false), (65, undef), (66, undef), (67, undef), (68, undef), (69, undef), (70, .bool false), (71, .bool false), (72, .agg ce), (73, .agg #[Value.int .i64 k2, .int .i64 n2, .int .i64 p2]), (74, .int .i16 m), (75, .agg cs), (76, .agg #[Value.int .i64 k2, .int .i64 n2, .int .i64 p2]), (77, .int .i16 m), (78, .bool false), (79, .bool false)] ?hL3 (by kernel_rfl) ?hv3 ?hD3 ?hR3 ?hdo3 ?fin3
      case hL3 =>
        simp only [putD, Act.put]
        go_simp
        rfl
      case hv3 => kernel_rfl
      case hD3 => kernel_rfl
      case hdo3 =>
        intro i o ho
        match i, ho with
        | 0, ho =>
          cases ho
          refine .inl ⟨by kernel_rfl, fun w hR => ?_⟩
          exact ow_hx _ _ rfl hR (cs := #[Value.int .i64 k, .int .i64 n, .int .i64 p]) (by simp) rfl (by kernel_rfl) 3 (rfl) (by kernel_rfl) ⟨rfl, hR⟩
        | 1, ho =>
          cases ho
          refine .inl ⟨by kernel_rfl, fun w hR => ?_⟩
          go_simp
          go_wp2_with fail
          refine (dev.spec_dok k n p w).mono ?_
          rintro e w4 ⟨rfl, h5⟩
          rw [Hd1.out]
          exact ⟨rfl, hR.below h5⟩
        | 2, ho =>
          cases ho
          refine .inl ⟨by kernel_rfl, fun w hR => ?_⟩
          first | (go_simp; done) | (go_simp; exact ⟨rfl, hR⟩)
        | 3, ho =>
          cases ho
          refine .inl ⟨by kernel_rfl, fun w hR => ?_⟩
          exact ow_hx _ _ rfl hR (cs := #[Value.int .i64 k2, .int .i64 n2, .int .i64 p2]) (by simp) rfl (by kernel_rfl) 3 (rfl) (by kernel_rfl) ⟨rfl, hR⟩
        | 4, ho =>
          cases ho
          refine .inl ⟨by kernel_rfl, fun w hR => ?_⟩
          go_simp
          go_wp2_with fail
          refine (dev.spec_dok k2 n2 p2 w).mono ?_
          rintro e w4 ⟨rfl, h5⟩
          rw [Hd2.out]
          exact ⟨rfl, hR.below h5⟩
        | 5, ho =>
          cases ho
          refine .inl ⟨by kernel_rfl, fun w hR => ?_⟩
          first | (go_simp; done) | (go_simp; exact ⟨rfl, hR⟩)
        | 6, ho =>
          cases ho
          refine .inl ⟨by kernel_rfl, fun w hR => ?_⟩
          first | (go_simp; done) | (go_simp; exact ⟨rfl, hR⟩)
        | 7, ho =>
          cases ho
          exact .inr ⟨by kernel_rfl, fun t ht => by cases ht; rfl⟩
        | 8, ho =>
          cases ho
          exact .inr ⟨by kernel_rfl, fun t ht => by cases ht; rfl⟩
        | 9, ho =>
          cases ho
          exact .inr ⟨by kernel_rfl, fun t ht => by cases ht; rfl⟩
        | 10, ho =>
          cases ho
          refine .inl ⟨by kernel_rfl, fun w hR => ?_⟩
          first | (go_simp; done) | (go_simp; exact ⟨rfl, hR⟩)
        | 11, ho =>
          cases ho
          refine .inl ⟨by kernel_rfl, fun w hR => ?_⟩
          first | (go_simp; done) | (go_simp; exact ⟨rfl, hR⟩)
        | 12, ho =>
          cases ho
          exact .inr ⟨by kernel_rfl, fun t ht => by cases ht; rfl⟩
        | 13, ho =>
          cases ho
          exact .inr ⟨by kernel_rfl, fun t ht => by cases ht; rfl⟩
        | 14, ho =>
          cases ho
          exact .inr ⟨by kernel_rfl, fun t ht => by cases ht; rfl⟩
        | 15, ho =>
          cases ho
          exact .inr ⟨by kernel_rfl, fun t ht => by cases ht; rfl⟩
        | 16, ho =>
          cases ho
          exact .inr ⟨by kernel_rfl, fun t ht => by cases ht; rfl⟩
        | 17, ho =>
          cases ho
          refine .inl ⟨by kernel_rfl, fun w hR => ?_⟩
          first | (go_simp; done) | (go_simp; exact ⟨rfl, hR⟩)
        | 18, ho =>
          cases ho
          refine .inl ⟨by kernel_rfl, fun w hR => ?_⟩
          first | (go_simp; done) | (go_simp; exact ⟨rfl, hR⟩)
        | 19, ho =>
          cases ho
          refine .inl ⟨by kernel_rfl, fun w hR => ?_⟩
          exact ow_hx _ _ rfl hR (cs := ce) (by simp) rfl (by kernel_rfl) 136 (HSE.out.size) (by kernel_rfl) ⟨rfl, hR⟩
        | 20, ho =>
          cases ho
          refine .inl ⟨by kernel_rfl, fun w hR => ?_⟩
          exact ow_hx _ _ rfl hR (cs := #[Value.int .i64 k2, .int .i64 n2, .int .i64 p2]) (by simp) rfl (by kernel_rfl) 3 (rfl) (by kernel_rfl) ⟨rfl, hR⟩
        | 21, ho =>
          cases ho
          refine .inl ⟨by kernel_rfl, fun w hR => ?_⟩
          go_simp
          go_wp2_with fail
          refine (iw_any ce HSE.out k2 n2 p2 w (HSZ.out.below hR.1)).mono ?_
          rintro e w4 ⟨rfl, h5⟩
          rw [Hm2.out]
          exact ⟨rfl, hR.below h5⟩
        | 22, ho =>
          cases ho
          refine .inl ⟨by kernel_rfl, fun w hR => ?_⟩
          exact ow_hx _ _ rfl hR (cs := cs) (by simp) rfl (by kernel_rfl) 136 (HS.out.size) (by kernel_rfl) ⟨rfl, hR⟩
        | 23, ho =>
          cases ho
          refine .inl ⟨by kernel_rfl, fun w hR => ?_⟩
          exact ow_hx _ _ rfl hR (cs := #[Value.int .i64 k2, .int .i64 n2, .int .i64 p2]) (by simp) rfl (by kernel_rfl) 3 (rfl) (by kernel_rfl) ⟨rfl, hR⟩
        | 24, ho =>
          cases ho
          refine .inl ⟨by kernel_rfl, fun w hR => ?_⟩
          go_simp
          go_wp2_with fail
          refine (iw_any cs HS.out k2 n2 p2 w (HSZ.out.below hR.1)).mono ?_
          rintro e w4 ⟨rfl, h5⟩
          rw [Hm.out]
          exact ⟨rfl, hR.below h5⟩
        | 25, ho =>
          cases ho
          refine .inl ⟨by kernel_rfl, fun w hR => ?_⟩
          first | (go_simp; done) | (go_simp; exact ⟨rfl, hR⟩)
        | 26, ho =>
          cases ho
          refine .inl ⟨by kernel_rfl, fun w hR => ?_⟩
          first | (go_simp; done) | (go_simp; exact ⟨rfl, hR⟩)
        | i + 27, ho => simp at ho
      case hR3 => exact H12.out.drew
      case fin3 =>
        intro w13 h13
        have H13 := Lib.hid h13
        clear h13 H12
        go_wp2_with fail
        refine wp_region_vals (R := Hx W [(w9.heap.size + 1, #[Value.int .i64 k2, .int .i64 n2, .int .i64 p2]), (w9.heap.size, cs2), (w5.heap.size, ce), (w1.heap.size + 1, #[Value.int .i64 k, .int .i64 n, .int .i64 p]), (w1.heap.size, cs)]) (aa := ?aa4) [(80, .agg ce), (81, .agg #[Value.int .i64 k, .int .i64 n, .int .i64 p]), (82, .bool v), (83, .bool v), (84, .bool true), (85, .bool true), (86, .agg ce), (87, .agg #[Value.int .i64 k, .int .i64 n, .int .i64 p]), (88, .bool b), (89, .agg cs), (90, .agg cs), (91, .bool true), (92, .bool true), (4, .bool true)] ?hL4 (by kernel_rfl) ?hv4 ?hD4 ?hR4 ?hdo4 ?fin4
        case hL4 =>
          simp only [putD, Act.put]
          go_simp
          rfl
        case hv4 => kernel_rfl
        case hD4 => kernel_rfl
        case hdo4 =>
          intro i o ho
          match i, ho with
          | 0, ho =>
            cases ho
            refine .inl ⟨by kernel_rfl, fun w hR => ?_⟩
            exact ow_hx _ _ rfl hR (cs := ce) (by simp) rfl (by kernel_rfl) 136 (HSE.out.size) (by kernel_rfl) ⟨rfl, hR⟩
          | 1, ho =>
            cases ho
            refine .inl ⟨by kernel_rfl, fun w hR => ?_⟩
            exact ow_hx _ _ rfl hR (cs := #[Value.int .i64 k, .int .i64 n, .int .i64 p]) (by simp) rfl (by kernel_rfl) 3 (rfl) (by kernel_rfl) ⟨rfl, hR⟩
          | 2, ho =>
            cases ho
            refine .inl ⟨by kernel_rfl, fun w hR => ?_⟩
            go_simp
            go_wp2_with fail
            refine (ib_any ce HSE.out HRE.out k n p w (HSZ.out.below hR.1)).mono ?_
            rintro e w4 ⟨rfl, h5⟩
            rw [Hv.out]
            exact ⟨rfl, hR.below h5⟩
          | 3, ho =>
            cases ho
            refine .inl ⟨by kernel_rfl, fun w hR => ?_⟩
            first | (go_simp; done) | (go_simp; exact ⟨rfl, hR⟩)
          | 4, ho =>
            cases ho
            refine .inl ⟨by kernel_rfl, fun w hR => ?_⟩
            first | (go_simp; done) | (go_simp; exact ⟨rfl, hR⟩)
          | 5, ho =>
            cases ho
            refine .inl ⟨by kernel_rfl, fun w hR => ?_⟩
            first | (go_simp; done) | (go_simp; exact ⟨rfl, hR⟩)
          | 6, ho =>
            cases ho
            refine .inl ⟨by kernel_rfl, fun w hR => ?_⟩
            exact ow_hx _ _ rfl hR (cs := ce) (by simp) rfl (by kernel_rfl) 136 (HSE.out.size) (by kernel_rfl) ⟨rfl, hR⟩
          | 7, ho =>
            cases ho
            refine .inl ⟨by kernel_rfl, fun w hR => ?_⟩
            exact ow_hx _ _ rfl hR (cs := #[Value.int .i64 k, .int .i64 n, .int .i64 p]) (by simp) rfl (by kernel_rfl) 3 (rfl) (by kernel_rfl) ⟨rfl, hR⟩
          | 8, ho =>
            cases ho
            refine .inl ⟨by kernel_rfl, fun w hR => ?_⟩
            first | (go_simp; done) | (go_simp; exact ⟨rfl, hR⟩)
          | 9, ho =>
            cases ho
            refine .inl ⟨by kernel_rfl, fun w hR => ?_⟩
            go_simp
            go_wp2_with fail
            refine (ip_any ce cs HSE.out HRE.out k n p b Hback.out HS.out w (HSZ.out.below hR.1)).mono ?_
            rintro e w4 ⟨rfl, h5⟩
            exact ⟨rfl, hR.below h5⟩
          | 10, ho =>
            cases ho
            refine .inl ⟨by kernel_rfl, fun w hR => ?_⟩
            exact ow_hx _ _ rfl hR (cs := cs) (by simp) rfl (by kernel_rfl) 136 (HS.out.size) (by kernel_rfl) ⟨rfl, hR⟩
          | 11, ho =>
            cases ho
            refine .inl ⟨by kernel_rfl, fun w hR => ?_⟩
            go_simp
            go_wp2_with fail
            refine (memSame_any cs cs HS.out HS.out w).mono ?_
            rintro e w4 ⟨r, rfl, hr, h5⟩
            obtain rfl : r = true := hr.2 (MemEq.refl _)
            exact ⟨rfl, hR.below h5⟩
          | 12, ho =>
            cases ho
            refine .inl ⟨by kernel_rfl, fun w hR => ?_⟩
            first | (go_simp; done) | (go_simp; exact ⟨rfl, hR⟩)
          | 13, ho =>
            cases ho
            refine .inl ⟨by kernel_rfl, fun w hR => ?_⟩
            first | (go_simp; done) | (go_simp; exact ⟨rfl, hR⟩)
          | i + 14, ho => simp at ho
        case hR4 => exact H13.out.drew
        case fin4 =>
          intro w14 h14
          have B14 := Lib.hid h14.1
          clear h14
          go_wp2_with fail
          go_ret
          exact ⟨rfl, B14.out⟩
    case true =>
      by_cases hne : k2 = k ∧ n2 = n ∧ p2 = p
      · have hnq := dev_neq (k := k2) (n := n2) (p := p2) (l := k) (m := n) (q := p) (b := false) (by rw [decide_eq_true hne]; rfl)
        have heg := fun (w : World) => run_eqGuard_agg (P := Tryd.prog) w .neq 47 (.tmp 60) (.tmp 61) #[Value.int .i64 k2, .int .i64 n2, .int .i64 p2] #[Value.int .i64 k, .int .i64 n, .int .i64 p] (by kernel_rfl)
        clear hne
        refine wp_region_vals (R := Hx W [(w9.heap.size + 1, #[Value.int .i64 k2, .int .i64 n2, .int .i64 p2]), (w9.heap.size, cs2), (w5.heap.size, ce), (w1.heap.size + 1, #[Value.int .i64 k, .int .i64 n, .int .i64 p]), (w1.heap.size, cs)]) (aa := ?aa5) [(53, .agg #[Value.int .i64 k, .int .i64 n, .int .i64 p]), (54, .bool true), (55, .bool true), (56, .agg #[Value.int .i64 k2, .int .i64 n2, .int .i64 p2]), (57, .bool true), (58, .bool true), (59, .bool true), (60, .agg #[Value.int .i64 k2, .int .i64 n2, .int .i64 p2]), (61, .agg #[Value.int .i64 k, .int .i64 n, .int .i64 p]), (62, .bool false), (63, .bool false), (64, .bool false), (65, undef), (66, undef), (67, undef), (68, undef), (69, undef), (70, .bool false), (71, .bool false), (72, .agg ce), (73, .agg #[Value.int .i64 k2, .int .i64 n2, .int .i64 p2]), (74, .int .i16 m), (75, .agg cs), (76, .agg #[Value.int .i64 k2, .int .i64 n2, .int .i64 p2]), (77, .int .i16 m), (78, .bool false), (79, .bool false)] ?hL5 (by kernel_rfl) ?hv5 ?hD5 ?hR5 ?hdo5 ?fin5
        case hL5 =>
          simp only [putD, Act.put]
          go_simp
          rfl
        case hv5 => kernel_rfl
        case hD5 => kernel_rfl
        case hdo5 =>
          intro i o ho
          match i, ho with
          | 0, ho =>
            cases ho
            refine .inl ⟨by kernel_rfl, fun w hR => ?_⟩
            exact ow_hx _ _ rfl hR (cs := #[Value.int .i64 k, .int .i64 n, .int .i64 p]) (by simp) rfl (by kernel_rfl) 3 (rfl) (by kernel_rfl) ⟨rfl, hR⟩
          | 1, ho =>
            cases ho
            refine .inl ⟨by kernel_rfl, fun w hR => ?_⟩
            go_simp
            go_wp2_with fail
            refine (dev.spec_dok k n p w).mono ?_
            rintro e w4 ⟨rfl, h5⟩
            rw [Hd1.out]
            exact ⟨rfl, hR.below h5⟩
          | 2, ho =>
            cases ho
            refine .inl ⟨by kernel_rfl, fun w hR => ?_⟩
            first | (go_simp; done) | (go_simp; exact ⟨rfl, hR⟩)
          | 3, ho =>
            cases ho
            refine .inl ⟨by kernel_rfl, fun w hR => ?_⟩
            exact ow_hx _ _ rfl hR (cs := #[Value.int .i64 k2, .int .i64 n2, .int .i64 p2]) (by simp) rfl (by kernel_rfl) 3 (rfl) (by kernel_rfl) ⟨rfl, hR⟩
          | 4, ho =>
            cases ho
            refine .inl ⟨by kernel_rfl, fun w hR => ?_⟩
            go_simp
            go_wp2_with fail
            refine (dev.spec_dok k2 n2 p2 w).mono ?_
            rintro e w4 ⟨rfl, h5⟩
            rw [Hd2.out]
            exact ⟨rfl, hR.below h5⟩
          | 5, ho =>
            cases ho
            refine .inl ⟨by kernel_rfl, fun w hR => ?_⟩
            first | (go_simp; done) | (go_simp; exact ⟨rfl, hR⟩)
          | 6, ho =>
            cases ho
            refine .inl ⟨by kernel_rfl, fun w hR => ?_⟩
            first | (go_simp; done) | (go_simp; exact ⟨rfl, hR⟩)
          | 7, ho =>
            cases ho
            refine .inl ⟨by kernel_rfl, fun w hR => ?_⟩
            exact ow_hx _ _ rfl hR (cs := #[Value.int .i64 k2, .int .i64 n2, .int .i64 p2]) (by simp) rfl (by kernel_rfl) 3 (rfl) (by kernel_rfl) ⟨rfl, hR⟩
          | 8, ho =>
            cases ho
            refine .inl ⟨by kernel_rfl, fun w hR => ?_⟩
            exact ow_hx _ _ rfl hR (cs := #[Value.int .i64 k, .int .i64 n, .int .i64 p]) (by simp) rfl (by kernel_rfl) 3 (rfl) (by kernel_rfl) ⟨rfl, hR⟩
          | 9, ho =>
            cases ho
            refine .inl ⟨by kernel_rfl, fun w hR => ?_⟩
            first | (go_simp; done) | (go_simp; exact ⟨rfl, hR⟩)
          | 10, ho =>
            cases ho
            refine .inl ⟨by kernel_rfl, fun w hR => ?_⟩
            first | (go_simp; done) | (go_simp; exact ⟨rfl, hR⟩)
          | 11, ho =>
            cases ho
            refine .inl ⟨by kernel_rfl, fun w hR => ?_⟩
            first | (go_simp; done) | (go_simp; exact ⟨rfl, hR⟩)
          | 12, ho =>
            cases ho
            exact .inr ⟨by kernel_rfl, fun t ht => by cases ht; rfl⟩
          | 13, ho =>
            cases ho
            exact .inr ⟨by kernel_rfl, fun t ht => by cases ht; rfl⟩
          | 14, ho =>
            cases ho
            exact .inr ⟨by kernel_rfl, fun t ht => by cases ht; rfl⟩
          | 15, ho =>
            cases ho
            exact .inr ⟨by kernel_rfl, fun t ht => by cases ht; rfl⟩
          | 16, ho =>
            cases ho
            exact .inr ⟨by kernel_rfl, fun t ht => by cases ht; rfl⟩
          | 17, ho =>
            cases ho
            refine .inl ⟨by kernel_rfl, fun w hR => ?_⟩
            first | (go_simp; done) | (go_simp; exact ⟨rfl, hR⟩)
          | 18, ho =>
            cases ho
            refine .inl ⟨by kernel_rfl, fun w hR => ?_⟩
            first | (go_simp; done) | (go_simp; exact ⟨rfl, hR⟩)
          | 19, ho =>
            cases ho
            refine .inl ⟨by kernel_rfl, fun w hR => ?_⟩
            exact ow_hx _ _ rfl hR (cs := ce) (by simp) rfl (by kernel_rfl) 136 (HSE.out.size) (by kernel_rfl) ⟨rfl, hR⟩
          | 20, ho =>
            cases ho
            refine .inl ⟨by kernel_rfl, fun w hR => ?_⟩
            exact ow_hx _ _ rfl hR (cs := #[Value.int .i64 k2, .int .i64 n2, .int .i64 p2]) (by simp) rfl (by kernel_rfl) 3 (rfl) (by kernel_rfl) ⟨rfl, hR⟩
          | 21, ho =>
            cases ho
            refine .inl ⟨by kernel_rfl, fun w hR => ?_⟩
            go_simp
            go_wp2_with fail
            refine (iw_any ce HSE.out k2 n2 p2 w (HSZ.out.below hR.1)).mono ?_
            rintro e w4 ⟨rfl, h5⟩
            rw [Hm2.out]
            exact ⟨rfl, hR.below h5⟩
          | 22, ho =>
            cases ho
            refine .inl ⟨by kernel_rfl, fun w hR => ?_⟩
            exact ow_hx _ _ rfl hR (cs := cs) (by simp) rfl (by kernel_rfl) 136 (HS.out.size) (by kernel_rfl) ⟨rfl, hR⟩
          | 23, ho =>
            cases ho
            refine .inl ⟨by kernel_rfl, fun w hR => ?_⟩
            exact ow_hx _ _ rfl hR (cs := #[Value.int .i64 k2, .int .i64 n2, .int .i64 p2]) (by simp) rfl (by kernel_rfl) 3 (rfl) (by kernel_rfl) ⟨rfl, hR⟩
          | 24, ho =>
            cases ho
            refine .inl ⟨by kernel_rfl, fun w hR => ?_⟩
            go_simp
            go_wp2_with fail
            refine (iw_any cs HS.out k2 n2 p2 w (HSZ.out.below hR.1)).mono ?_
            rintro e w4 ⟨rfl, h5⟩
            rw [Hm.out]
            exact ⟨rfl, hR.below h5⟩
          | 25, ho =>
            cases ho
            refine .inl ⟨by kernel_rfl, fun w hR => ?_⟩
            first | (go_simp; done) | (go_simp; exact ⟨rfl, hR⟩)
          | 26, ho =>
            cases ho
            refine .inl ⟨by kernel_rfl, fun w hR => ?_⟩
            first | (go_simp; done) | (go_simp; exact ⟨rfl, hR⟩)
          | i + 27, ho => simp at ho
        case hR5 => exact H12.out.drew
        case fin5 =>
          intro w13 h13
          have H13 := Lib.hid h13
          clear h13 H12
          clear hnq heg
          go_wp2_with fail
          refine wp_region_vals (R := Hx W [(w9.heap.size + 1, #[Value.int .i64 k2, .int .i64 n2, .int .i64 p2]), (w9.heap.size, cs2), (w5.heap.size, ce), (w1.heap.size + 1, #[Value.int .i64 k, .int .i64 n, .int .i64 p]), (w1.heap.size, cs)]) (aa := ?aa6) [(80, .agg ce), (81, .agg #[Value.int .i64 k, .int .i64 n, .int .i64 p]), (82, .bool v), (83, .bool v), (84, .bool true), (85, .bool true), (86, .agg ce), (87, .agg #[Value.int .i64 k, .int .i64 n, .int .i64 p]), (88, .bool b), (89, .agg cs), (90, .agg cs), (91, .bool true), (92, .bool true), (4, .bool true)] ?hL6 (by kernel_rfl) ?hv6 ?hD6 ?hR6 ?hdo6 ?fin6
          case hL6 =>
            simp only [putD, Act.put]
            go_simp
            rfl
          case hv6 => kernel_rfl
          case hD6 => kernel_rfl
          case hdo6 =>
            intro i o ho
            match i, ho with
            | 0, ho =>
              cases ho
              refine .inl ⟨by kernel_rfl, fun w hR => ?_⟩
              exact ow_hx _ _ rfl hR (cs := ce) (by simp) rfl (by kernel_rfl) 136 (HSE.out.size) (by kernel_rfl) ⟨rfl, hR⟩
            | 1, ho =>
              cases ho
              refine .inl ⟨by kernel_rfl, fun w hR => ?_⟩
              exact ow_hx _ _ rfl hR (cs := #[Value.int .i64 k, .int .i64 n, .int .i64 p]) (by simp) rfl (by kernel_rfl) 3 (rfl) (by kernel_rfl) ⟨rfl, hR⟩
            | 2, ho =>
              cases ho
              refine .inl ⟨by kernel_rfl, fun w hR => ?_⟩
              go_simp
              go_wp2_with fail
              refine (ib_any ce HSE.out HRE.out k n p w (HSZ.out.below hR.1)).mono ?_
              rintro e w4 ⟨rfl, h5⟩
              rw [Hv.out]
              exact ⟨rfl, hR.below h5⟩
            | 3, ho =>
              cases ho
              refine .inl ⟨by kernel_rfl, fun w hR => ?_⟩
              first | (go_simp; done) | (go_simp; exact ⟨rfl, hR⟩)
            | 4, ho =>
              cases ho
              refine .inl ⟨by kernel_rfl, fun w hR => ?_⟩
              first | (go_simp; done) | (go_simp; exact ⟨rfl, hR⟩)
            | 5, ho =>
              cases ho
              refine .inl ⟨by kernel_rfl, fun w hR => ?_⟩
              first | (go_simp; done) | (go_simp; exact ⟨rfl, hR⟩)
            | 6, ho =>
              cases ho
              refine .inl ⟨by kernel_rfl, fun w hR => ?_⟩
              exact ow_hx _ _ rfl hR (cs := ce) (by simp) rfl (by kernel_rfl) 136 (HSE.out.size) (by kernel_rfl) ⟨rfl, hR⟩
            | 7, ho =>
              cases ho
              refine .inl ⟨by kernel_rfl, fun w hR => ?_⟩
              exact ow_hx _ _ rfl hR (cs := #[Value.int .i64 k, .int .i64 n, .int .i64 p]) (by simp) rfl (by kernel_rfl) 3 (rfl) (by kernel_rfl) ⟨rfl, hR⟩
            | 8, ho =>
              cases ho
              refine .inl ⟨by kernel_rfl, fun w hR => ?_⟩
              first | (go_simp; done) | (go_simp; exact ⟨rfl, hR⟩)
            | 9, ho =>
              cases ho
              refine .inl ⟨by kernel_rfl, fun w hR => ?_⟩
              go_simp
              go_wp2_with fail
              refine (ip_any ce cs HSE.out HRE.out k n p b Hback.out HS.out w (HSZ.out.below hR.1)).mono ?_
              rintro e w4 ⟨rfl, h5⟩
              exact ⟨rfl, hR.below h5⟩
            | 10, ho =>
              cases ho
              refine .inl ⟨by kernel_rfl, fun w hR => ?_⟩
              exact ow_hx _ _ rfl hR (cs := cs) (by simp) rfl (by kernel_rfl) 136 (HS.out.size) (by kernel_rfl) ⟨rfl, hR⟩
            | 11, ho =>
              cases ho
              refine .inl ⟨by kernel_rfl, fun w hR => ?_⟩
              go_simp
              go_wp2_with fail
              refine (memSame_any cs cs HS.out HS.out w).mono ?_
              rintro e w4 ⟨r, rfl, hr, h5⟩
              obtain rfl : r = true := hr.2 (MemEq.refl _)
              exact ⟨rfl, hR.below h5⟩
            | 12, ho =>
              cases ho
              refine .inl ⟨by kernel_rfl, fun w hR => ?_⟩
              first | (go_simp; done) | (go_simp; exact ⟨rfl, hR⟩)
            | 13, ho =>
              cases ho
              refine .inl ⟨by kernel_rfl, fun w hR => ?_⟩
              first | (go_simp; done) | (go_simp; exact ⟨rfl, hR⟩)
            | i + 14, ho => simp at ho
          case hR6 => exact H13.out.drew
          case fin6 =>
            intro w14 h14
            have B14 := Lib.hid h14.1
            clear h14
            go_wp2_with fail
            go_ret
            exact ⟨rfl, B14.out⟩
      · have hnq := dev_neq (k := k2) (n := n2) (p := p2) (l := k) (m := n) (q := p) (b := true) (by rw [decide_eq_false hne]; rfl)
        have heg := fun (w : World) => run_eqGuard_agg (P := Tryd.prog) w .neq 47 (.tmp 60) (.tmp 61) #[Value.int .i64 k2, .int .i64 n2, .int .i64 p2] #[Value.int .i64 k, .int .i64 n, .int .i64 p] (by kernel_rfl)
        have Hoth := Lib.hid (show mb ce k2 n2 = b2 by rw [← HCE.out, mb_else HS.out HR.out HK.out v Hd1.out Hd2.out hne]; exact Hb2.out)
        clear hne
        refine wp_region_vals (R := Hx W [(w9.heap.size + 1, #[Value.int .i64 k2, .int .i64 n2, .int .i64 p2]), (w9.heap.size, cs2), (w5.heap.size, ce), (w1.heap.size + 1, #[Value.int .i64 k, .int .i64 n, .int .i64 p]), (w1.heap.size, cs)]) (aa := ?aa7) [(53, .agg #[Value.int .i64 k, .int .i64 n, .int .i64 p]), (54, .bool true), (55, .bool true), (56, .agg #[Value.int .i64 k2, .int .i64 n2, .int .i64 p2]), (57, .bool true), (58, .bool true), (59, .bool true), (60, .agg #[Value.int .i64 k2, .int .i64 n2, .int .i64 p2]), (61, .agg #[Value.int .i64 k, .int .i64 n, .int .i64 p]), (62, .bool true), (63, .bool true), (64, .bool true), (65, .agg ce), (66, .agg #[Value.int .i64 k2, .int .i64 n2, .int .i64 p2]), (67, .bool b2), (68, .bool b2), (69, .bool false), (70, .bool false), (71, .bool false), (72, .agg ce), (73, .agg #[Value.int .i64 k2, .int .i64 n2, .int .i64 p2]), (74, .int .i16 m), (75, .agg cs), (76, .agg #[Value.int .i64 k2, .int .i64 n2, .int .i64 p2]), (77, .int .i16 m), (78, .bool false), (79, .bool false)] ?hL7 (by kernel_rfl) ?hv7 ?hD7 ?hR7 ?hdo7 ?fin7
        case hL7 =>
          simp only [putD, Act.put]
          go_simp
          rfl
        case hv7 => kernel_rfl
        case hD7 => kernel_rfl
        case hdo7 =>
          intro i o ho
          match i, ho with
          | 0, ho =>
            cases ho
            refine .inl ⟨by kernel_rfl, fun w hR => ?_⟩
            exact ow_hx _ _ rfl hR (cs := #[Value.int .i64 k, .int .i64 n, .int .i64 p]) (by simp) rfl (by kernel_rfl) 3 (rfl) (by kernel_rfl) ⟨rfl, hR⟩
          | 1, ho =>
            cases ho
            refine .inl ⟨by kernel_rfl, fun w hR => ?_⟩
            go_simp
            go_wp2_with fail
            refine (dev.spec_dok k n p w).mono ?_
            rintro e w4 ⟨rfl, h5⟩
            rw [Hd1.out]
            exact ⟨rfl, hR.below h5⟩
          | 2, ho =>
            cases ho
            refine .inl ⟨by kernel_rfl, fun w hR => ?_⟩
            first | (go_simp; done) | (go_simp; exact ⟨rfl, hR⟩)
          | 3, ho =>
            cases ho
            refine .inl ⟨by kernel_rfl, fun w hR => ?_⟩
            exact ow_hx _ _ rfl hR (cs := #[Value.int .i64 k2, .int .i64 n2, .int .i64 p2]) (by simp) rfl (by kernel_rfl) 3 (rfl) (by kernel_rfl) ⟨rfl, hR⟩
          | 4, ho =>
            cases ho
            refine .inl ⟨by kernel_rfl, fun w hR => ?_⟩
            go_simp
            go_wp2_with fail
            refine (dev.spec_dok k2 n2 p2 w).mono ?_
            rintro e w4 ⟨rfl, h5⟩
            rw [Hd2.out]
            exact ⟨rfl, hR.below h5⟩
          | 5, ho =>
            cases ho
            refine .inl ⟨by kernel_rfl, fun w hR => ?_⟩
            first | (go_simp; done) | (go_simp; exact ⟨rfl, hR⟩)
          | 6, ho =>
            cases ho
            refine .inl ⟨by kernel_rfl, fun w hR => ?_⟩
            first | (go_simp; done) | (go_simp; exact ⟨rfl, hR⟩)
          | 7, ho =>
            cases ho
            refine .inl ⟨by kernel_rfl, fun w hR => ?_⟩
            exact ow_hx _ _ rfl hR (cs := #[Value.int .i64 k2, .int .i64 n2, .int .i64 p2]) (by simp) rfl (by kernel_rfl) 3 (rfl) (by kernel_rfl) ⟨rfl, hR⟩
          | 8, ho =>
            cases ho
            refine .inl ⟨by kernel_rfl, fun w hR => ?_⟩
            exact ow_hx _ _ rfl hR (cs := #[Value.int .i64 k, .int .i64 n, .int .i64 p]) (by simp) rfl (by kernel_rfl) 3 (rfl) (by kernel_rfl) ⟨rfl, hR⟩
          | 9, ho =>
            cases ho
            refine .inl ⟨by kernel_rfl, fun w hR => ?_⟩
            first | (go_simp; done) | (go_simp; exact ⟨rfl, hR⟩)
          | 10, ho =>
            cases ho
            refine .inl ⟨by kernel_rfl, fun w hR => ?_⟩
            first | (go_simp; done) | (go_simp; exact ⟨rfl, hR⟩)
          | 11, ho =>
            cases ho
            refine .inl ⟨by kernel_rfl, fun w hR => ?_⟩
            first | (go_simp; done) | (go_simp; exact ⟨rfl, hR⟩)
          | 12, ho =>
            cases ho
            refine .inl ⟨by kernel_rfl, fun w hR => ?_⟩
            exact ow_hx _ _ rfl hR (cs := ce) (by simp) rfl (by kernel_rfl) 136 (HSE.out.size) (by kernel_rfl) ⟨rfl, hR⟩
          | 13, ho =>
            cases ho
            refine .inl ⟨by kernel_rfl, fun w hR => ?_⟩
            exact ow_hx _ _ rfl hR (cs := #[Value.int .i64 k2, .int .i64 n2, .int .i64 p2]) (by simp) rfl (by kernel_rfl) 3 (rfl) (by kernel_rfl) ⟨rfl, hR⟩
          | 14, ho =>
            cases ho
            refine .inl ⟨by kernel_rfl, fun w hR => ?_⟩
            go_simp
            go_wp2_with fail
            refine (ib_any ce HSE.out HRE.out k2 n2 p2 w (HSZ.out.below hR.1)).mono ?_
            rintro e w4 ⟨rfl, h5⟩
            rw [Hoth.out]
            exact ⟨rfl, hR.below h5⟩
          | 15, ho =>
            cases ho
            refine .inl ⟨by kernel_rfl, fun w hR => ?_⟩
            first | (go_simp; done) | (go_simp; exact ⟨rfl, hR⟩)
          | 16, ho =>
            cases ho
            refine .inl ⟨by kernel_rfl, fun w hR => ?_⟩
            first | (go_simp; done) | (go_simp; exact ⟨rfl, hR⟩)
          | 17, ho =>
            cases ho
            refine .inl ⟨by kernel_rfl, fun w hR => ?_⟩
            first | (go_simp; done) | (go_simp; exact ⟨rfl, hR⟩)
          | 18, ho =>
            cases ho
            refine .inl ⟨by kernel_rfl, fun w hR => ?_⟩
            first | (go_simp; done) | (go_simp; exact ⟨rfl, hR⟩)
          | 19, ho =>
            cases ho
            refine .inl ⟨by kernel_rfl, fun w hR => ?_⟩
            exact ow_hx _ _ rfl hR (cs := ce) (by simp) rfl (by kernel_rfl) 136 (HSE.out.size) (by kernel_rfl) ⟨rfl, hR⟩
          | 20, ho =>
            cases ho
            refine .inl ⟨by kernel_rfl, fun w hR => ?_⟩
            exact ow_hx _ _ rfl hR (cs := #[Value.int .i64 k2, .int .i64 n2, .int .i64 p2]) (by simp) rfl (by kernel_rfl) 3 (rfl) (by kernel_rfl) ⟨rfl, hR⟩
          | 21, ho =>
            cases ho
            refine .inl ⟨by kernel_rfl, fun w hR => ?_⟩
            go_simp
            go_wp2_with fail
            refine (iw_any ce HSE.out k2 n2 p2 w (HSZ.out.below hR.1)).mono ?_
            rintro e w4 ⟨rfl, h5⟩
            rw [Hm2.out]
            exact ⟨rfl, hR.below h5⟩
          | 22, ho =>
            cases ho
            refine .inl ⟨by kernel_rfl, fun w hR => ?_⟩
            exact ow_hx _ _ rfl hR (cs := cs) (by simp) rfl (by kernel_rfl) 136 (HS.out.size) (by kernel_rfl) ⟨rfl, hR⟩
          | 23, ho =>
            cases ho
            refine .inl ⟨by kernel_rfl, fun w hR => ?_⟩
            exact ow_hx _ _ rfl hR (cs := #[Value.int .i64 k2, .int .i64 n2, .int .i64 p2]) (by simp) rfl (by kernel_rfl) 3 (rfl) (by kernel_rfl) ⟨rfl, hR⟩
          | 24, ho =>
            cases ho
            refine .inl ⟨by kernel_rfl, fun w hR => ?_⟩
            go_simp
            go_wp2_with fail
            refine (iw_any cs HS.out k2 n2 p2 w (HSZ.out.below hR.1)).mono ?_
            rintro e w4 ⟨rfl, h5⟩
            rw [Hm.out]
            exact ⟨rfl, hR.below h5⟩
          | 25, ho =>
            cases ho
            refine .inl ⟨by kernel_rfl, fun w hR => ?_⟩
            first | (go_simp; done) | (go_simp; exact ⟨rfl, hR⟩)
          | 26, ho =>
            cases ho
            refine .inl ⟨by kernel_rfl, fun w hR => ?_⟩
            first | (go_simp; done) | (go_simp; exact ⟨rfl, hR⟩)
          | i + 27, ho => simp at ho
        case hR7 => exact H12.out.drew
        case fin7 =>
          intro w13 h13
          have H13 := Lib.hid h13
          clear h13 H12
          clear hnq heg
          go_wp2_with fail
          refine wp_region_vals (R := Hx W [(w9.heap.size + 1, #[Value.int .i64 k2, .int .i64 n2, .int .i64 p2]), (w9.heap.size, cs2), (w5.heap.size, ce), (w1.heap.size + 1, #[Value.int .i64 k, .int .i64 n, .int .i64 p]), (w1.heap.size, cs)]) (aa := ?aa8) [(80, .agg ce), (81, .agg #[Value.int .i64 k, .int .i64 n, .int .i64 p]), (82, .bool v), (83, .bool v), (84, .bool true), (85, .bool true), (86, .agg ce), (87, .agg #[Value.int .i64 k, .int .i64 n, .int .i64 p]), (88, .bool b), (89, .agg cs), (90, .agg cs), (91, .bool true), (92, .bool true), (4, .bool true)] ?hL8 (by kernel_rfl) ?hv8 ?hD8 ?hR8 ?hdo8 ?fin8
          case hL8 =>
            simp only [putD, Act.put]
            go_simp
            rfl
          case hv8 => kernel_rfl
          case hD8 => kernel_rfl
          case hdo8 =>
            intro i o ho
            match i, ho with
            | 0, ho =>
              cases ho
              refine .inl ⟨by kernel_rfl, fun w hR => ?_⟩
              exact ow_hx _ _ rfl hR (cs := ce) (by simp) rfl (by kernel_rfl) 136 (HSE.out.size) (by kernel_rfl) ⟨rfl, hR⟩
            | 1, ho =>
              cases ho
              refine .inl ⟨by kernel_rfl, fun w hR => ?_⟩
              exact ow_hx _ _ rfl hR (cs := #[Value.int .i64 k, .int .i64 n, .int .i64 p]) (by simp) rfl (by kernel_rfl) 3 (rfl) (by kernel_rfl) ⟨rfl, hR⟩
            | 2, ho =>
              cases ho
              refine .inl ⟨by kernel_rfl, fun w hR => ?_⟩
              go_simp
              go_wp2_with fail
              refine (ib_any ce HSE.out HRE.out k n p w (HSZ.out.below hR.1)).mono ?_
              rintro e w4 ⟨rfl, h5⟩
              rw [Hv.out]
              exact ⟨rfl, hR.below h5⟩
            | 3, ho =>
              cases ho
              refine .inl ⟨by kernel_rfl, fun w hR => ?_⟩
              first | (go_simp; done) | (go_simp; exact ⟨rfl, hR⟩)
            | 4, ho =>
              cases ho
              refine .inl ⟨by kernel_rfl, fun w hR => ?_⟩
              first | (go_simp; done) | (go_simp; exact ⟨rfl, hR⟩)
            | 5, ho =>
              cases ho
              refine .inl ⟨by kernel_rfl, fun w hR => ?_⟩
              first | (go_simp; done) | (go_simp; exact ⟨rfl, hR⟩)
            | 6, ho =>
              cases ho
              refine .inl ⟨by kernel_rfl, fun w hR => ?_⟩
              exact ow_hx _ _ rfl hR (cs := ce) (by simp) rfl (by kernel_rfl) 136 (HSE.out.size) (by kernel_rfl) ⟨rfl, hR⟩
            | 7, ho =>
              cases ho
              refine .inl ⟨by kernel_rfl, fun w hR => ?_⟩
              exact ow_hx _ _ rfl hR (cs := #[Value.int .i64 k, .int .i64 n, .int .i64 p]) (by simp) rfl (by kernel_rfl) 3 (rfl) (by kernel_rfl) ⟨rfl, hR⟩
            | 8, ho =>
              cases ho
              refine .inl ⟨by kernel_rfl, fun w hR => ?_⟩
              first | (go_simp; done) | (go_simp; exact ⟨rfl, hR⟩)
            | 9, ho =>
              cases ho
              refine .inl ⟨by kernel_rfl, fun w hR => ?_⟩
              go_simp
              go_wp2_with fail
              refine (ip_any ce cs HSE.out HRE.out k n p b Hback.out HS.out w (HSZ.out.below hR.1)).mono ?_
              rintro e w4 ⟨rfl, h5⟩
              exact ⟨rfl, hR.below h5⟩
            | 10, ho =>
              cases ho
              refine .inl ⟨by kernel_rfl, fun w hR => ?_⟩
              exact ow_hx _ _ rfl hR (cs := cs) (by simp) rfl (by kernel_rfl) 136 (HS.out.size) (by kernel_rfl) ⟨rfl, hR⟩
            | 11, ho =>
              cases ho
              refine .inl ⟨by kernel_rfl, fun w hR => ?_⟩
              go_simp
              go_wp2_with fail
              refine (memSame_any cs cs HS.out HS.out w).mono ?_
              rintro e w4 ⟨r, rfl, hr, h5⟩
              obtain rfl : r = true := hr.2 (MemEq.refl _)
              exact ⟨rfl, hR.below h5⟩
            | 12, ho =>
              cases ho
              refine .inl ⟨by kernel_rfl, fun w hR => ?_⟩
              first | (go_simp; done) | (go_simp; exact ⟨rfl, hR⟩)
            | 13, ho =>
              cases ho
              refine .inl ⟨by kernel_rfl, fun w hR => ?_⟩
              first | (go_simp; done) | (go_simp; exact ⟨rfl, hR⟩)
            | i + 14, ho => simp at ho
          case hR8 => exact H13.out.drew
          case fin8 =>
            intro w14 h14
            have B14 := Lib.hid h14.1
            clear h14
            go_wp2_with fail
            go_ret
            exact ⟨rfl, B14.out⟩
theorem walk (W : World) (base : Nat) (v0 v1 : Value) (o0 : Value.okWide Tryd.prog W .any base 60 v0) (o1 : Value.okWide Tryd.prog W .any base 60 v1) (b0 : kit.Bytes W v0) (b1 : kit.Bytes W v1) (hL : laidMetH Tryd.prog Rows.fnMemPutRow.laid W) :
    Calls Tryd.prog 9 #[v0, v1] W fun e w' => e = .returned (.bool true) ∧ Below W.heap.size W w' := by
  have hs : Sizes W := kit.laid_ints (zs := sizes) (k := .i64) (n := "loop.example/stile/impl.devSizes") hL (by kernel_rfl) (by repeat (first | exact List.Mem.head _ | apply List.Mem.tail)) (by kernel_rfl) (by kernel_rfl) Tryd.underlying110 Tryd.underlying3 (by kernel_rfl) (by decide)
  obtain ⟨A0, len0, cap0, zs0, rfl, h0, y0⟩ := b0
  obtain ⟨l0, rfl, hr0, hm0, hwf0, hc0⟩ := ReadsInt.ofRowC h0
  obtain ⟨A1, len1, cap1, zs1, rfl, h1, y1⟩ := b1
  obtain ⟨l1, rfl, hr1, hm1, hwf1, hc1⟩ := ReadsInt.ofRowC h1
  exact walkI hs ⟨hr0, hc0, hwf0⟩ ⟨hr1, hc1, hwf1⟩
end Go.Proofs.YtnffgafofkknoaaDoor.fnMemPut
