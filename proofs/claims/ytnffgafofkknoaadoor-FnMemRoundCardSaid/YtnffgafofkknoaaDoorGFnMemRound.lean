/-
  The walk of 'FnMemRound': it returns true, whatever the code.
  Conditions: the listed variables hold what they are laid with.
-/
import Derived.Test.YtnffgafofkknoaaDoorQMc
namespace Go.Proofs.YtnffgafofkknoaaDoor.fnMemRound
open Go Go.RowKit Go.Proofs.YtnffgafofkknoaaDoor.part Go.Proofs.YtnffgafofkknoaaDoor.dev Go.Proofs.YtnffgafofkknoaaDoor.draws Go.Proofs.YtnffgafofkknoaaDoorW.PrintWords
set_option linter.unusedVariables false
set_option linter.unusedSimpArgs false
set_option maxRecDepth 100000

theorem mr_det {cs : Array Value} {k n : Int} {x : Nat} (hk : cnt k ≠ 0) (h : Mr cs k n 0 x) : x = (if k = 10 then fnum (cel cs (117 + (plc k n).toNat)) else 0) := by
  unfold Mr at h
  split at h
  · rename_i e
    rw [if_pos e]; exact h
  · rename_i e
    rw [if_neg e]
    have hk13 : k ≠ 12 ∧ k ≠ 13 := by
      constructor <;> (rintro rfl; exact hk rfl)
    unfold flo.Arg at h
    split at h
    · rw [if_neg hk13.1, if_neg hk13.2] at h; exact h
    · exact h

/-- The walk, from the drawn memory and operand on. -/
def Round (W : World) (v : Value) : Prop := Calls Tryd.prog 11 #[v] W fun e w' => e = .returned (.bool true) ∧ Below W.heap.size W w'
set_option maxHeartbeats 60000000 in
theorem walkI {W : World} (hs : Sizes W) (hw : Words W) {A : Option Addr} {l : List Int} {c : Nat} (hc : ReadsInt W .u8 A l.length l ∧ l.length ≤ c ∧ ∀ x ∈ l, (Lit.int .u8 x).wf = true) : Round W (.slice A l.length c) := by
  unfold Round
  have HC := Lib.hid hc
  have HSZ := Lib.hid hs
  have HWD := Lib.hid hw
  obtain ⟨z, hzs, hz⟩ := zero_run (P := Tryd.prog) (t := 45) (n := 136) (by kernel_rfl)
  have HZ := Lib.hid hzs
  clear hs hw hc hzs
  by_cases hl : (l.length : Int) > 1048576
  · clear hz
    go_enter Tryd.func11, Tryd.ntmps11
    go_wp2
    go_ret
    exact ⟨rfl, Below.refl _ _⟩
  have HCD := Lib.hid (show Code_ W A l c from ⟨HC.out.1, HC.out.2.1, by omega, HC.out.2.2⟩)
  go_enter Tryd.func11, Tryd.ntmps11
  go_wp2_with fail
  refine (drawMemBit HCD.out).mono ?_
  rintro e w1 ⟨cs, k, n, p, rfl, hT, hRg, h1⟩
  have HS := Lib.hid hT.shape
  have HR := Lib.hid hRg
  have H1 := Lib.hid (Hx.nil h1)
  have G1 := Lib.hid (heap_alloc2_old w1 (.cells z 45) (.cells #[.int .i64 0, .int .i64 0, .int .i64 0] 47))
  have G2 := Lib.hid (heap_alloc2_new w1 (.cells z 45) (.cells #[.int .i64 0, .int .i64 0, .int .i64 0] 47))
  have H2 := Lib.hid ((H1.out.alloc (.cells z 45)).alloc (.cells #[.int .i64 0, .int .i64 0, .int .i64 0] 47))
  clear hT hRg h1
  go_upto_region 4 with (first | (refine wl_fill rfl _ _ _ rfl H2.out _ z G1.out H1.out.1.size (fun p hp => by cases hp) rfl rfl HS.out.one 136 HS.out.size HZ.out (by kernel_rfl) ?_; intro w2 h3 g3) | (refine wl_fill rfl _ _ _ rfl h3 _ _ ((g3 _ (by omega)).trans G2.out) (by have := H1.out.1.size; omega) (by simp) rfl rfl (dev_one k n p) 3 rfl rfl (by kernel_rfl) ?_; intro w3 h4 g4))
  have H4 := Lib.hid h4
  clear h3 g3 h4 g4 G1 G2 H2 H1 HC HZ
  have c0 := H4.out.cell (g := w1.heap.size + 1) (by simp) 0 (show #[Value.int .i64 k, .int .i64 n, .int .i64 p][0]? = some (.int .i64 k) from rfl)
  have c1 := H4.out.cell (g := w1.heap.size + 1) (by simp) 1 (show #[Value.int .i64 k, .int .i64 n, .int .i64 p][1]? = some (.int .i64 n) from rfl)
  by_cases h6 : k = 6
  · subst h6
    have HCN := Lib.hid (show cnt 6 = 8 from rfl)
    go_wp2_with fail
    refine (dev.spec_size 6 _).mono ?_
    rintro e w' ⟨rfl, rfl⟩
    rw [show size 6 = 5 from rfl]
    by_cases hn1 : n > 1000
    · clear HCN
      obtain ⟨b, hb⟩ : ∃ b, mb cs 6 n = b := ⟨_, rfl⟩
      have Hb := Lib.hid hb
      clear hb
      go_wp2_with fail
      refine wp_region_vals (R := Hx W [(w1.heap.size + 1, #[Value.int .i64 6, .int .i64 n, .int .i64 p]), (w1.heap.size, cs)]) (aa := ?aa1) [(34, .agg cs), (35, .agg #[Value.int .i64 6, .int .i64 n, .int .i64 p]), (36, .bool b), (37, .agg cs), (38, .agg #[Value.int .i64 6, .int .i64 n, .int .i64 p]), (39, .bool b), (40, .bool true), (2, .bool true)] ?hL1 (by kernel_rfl) ?hv1 ?hD1 ?hR1 ?hdo1 ?fin1
      case hL1 =>
        simp only [putD, Act.put]
        go_simp
        rfl
      case hv1 => kernel_rfl
      case hD1 => kernel_rfl
      case hdo1 =>
        intro i o ho
        match i, ho with
        | 0, ho =>
          cases ho
          refine .inl ⟨by kernel_rfl, fun w hR => ?_⟩
          exact ow_hx _ _ rfl hR (cs := cs) (by simp) rfl (by kernel_rfl) 136 HS.out.size (by kernel_rfl) ⟨rfl, hR⟩
        | 1, ho =>
          cases ho
          refine .inl ⟨by kernel_rfl, fun w hR => ?_⟩
          exact ow_hx _ _ rfl hR (cs := #[Value.int .i64 6, .int .i64 n, .int .i64 p]) (by simp) rfl (by kernel_rfl) 3 rfl (by kernel_rfl) ⟨rfl, hR⟩
        | 2, ho =>
          cases ho
          refine .inl ⟨by kernel_rfl, fun w hR => ?_⟩
          go_simp
          go_wp2_with fail
          refine (ib_any cs HS.out HR.out 6 n p w (HSZ.out.below hR.1)).mono ?_
          rintro e w4 ⟨rfl, h5⟩
          rw [Hb.out]
          exact ⟨rfl, hR.below h5⟩
        | 3, ho =>
          cases ho
          refine .inl ⟨by kernel_rfl, fun w hR => ?_⟩
          exact ow_hx _ _ rfl hR (cs := cs) (by simp) rfl (by kernel_rfl) 136 HS.out.size (by kernel_rfl) ⟨rfl, hR⟩
        | 4, ho =>
          cases ho
          refine .inl ⟨by kernel_rfl, fun w hR => ?_⟩
          exact ow_hx _ _ rfl hR (cs := #[Value.int .i64 6, .int .i64 n, .int .i64 p]) (by simp) rfl (by kernel_rfl) 3 rfl (by kernel_rfl) ⟨rfl, hR⟩
        | 5, ho =>
          cases ho
          refine .inl ⟨by kernel_rfl, fun w hR => ?_⟩
          go_simp
          go_wp2_with fail
          refine (sb_any cs HS.out HR.out 6 n p w).mono ?_
          rintro e w4 ⟨rfl, h5⟩
          rw [Hb.out]
          exact ⟨rfl, hR.below h5⟩
        | 6, ho =>
          cases ho
          refine .inl ⟨by kernel_rfl, fun w hR => ?_⟩
          first | (go_simp; done) | (go_simp; exact ⟨rfl, hR⟩)
        | 7, ho =>
          cases ho
          refine .inl ⟨by kernel_rfl, fun w hR => ?_⟩
          first | (go_simp; done) | (go_simp; exact ⟨rfl, hR⟩)
        | i + 8, ho => simp at ho
      case hR1 => exact H4.out.drew
      case fin1 =>
        intro w9 h9
        have H9 := Lib.hid h9.1
        clear h9
        go_wp2_with fail
        go_ret
        exact ⟨rfl, H9.out⟩
    by_cases hn2 : n < -1000
    · clear HCN
      obtain ⟨b, hb⟩ : ∃ b, mb cs 6 n = b := ⟨_, rfl⟩
      have Hb := Lib.hid hb
      clear hb
      go_wp2_with fail
      refine wp_region_vals (R := Hx W [(w1.heap.size + 1, #[Value.int .i64 6, .int .i64 n, .int .i64 p]), (w1.heap.size, cs)]) (aa := ?aa2) [(34, .agg cs), (35, .agg #[Value.int .i64 6, .int .i64 n, .int .i64 p]), (36, .bool b), (37, .agg cs), (38, .agg #[Value.int .i64 6, .int .i64 n, .int .i64 p]), (39, .bool b), (40, .bool true), (2, .bool true)] ?hL2 (by kernel_rfl) ?hv2 ?hD2 ?hR2 ?hdo2 ?fin2
      case hL2 =>
        simp only [putD, Act.put]
        go_simp
        rfl
      case hv2 => kernel_rfl
      case hD2 => kernel_rfl
      case hdo2 =>
        intro i o ho
        match i, ho with
        | 0, ho =>
          cases ho
          refine .inl ⟨by kernel_rfl, fun w hR => ?_⟩
          exact ow_hx _ _ rfl hR (cs := cs) (by simp) rfl (by kernel_rfl) 136 HS.out.size (by kernel_rfl) ⟨rfl, hR⟩
        | 1, ho =>
          cases ho
          refine .inl ⟨by kernel_rfl, fun w hR => ?_⟩
          exact ow_hx _ _ rfl hR (cs := #[Value.int .i64 6, .int .i64 n, .int .i64 p]) (by simp) rfl (by kernel_rfl) 3 rfl (by kernel_rfl) ⟨rfl, hR⟩
        | 2, ho =>
          cases ho
          refine .inl ⟨by kernel_rfl, fun w hR => ?_⟩
          go_simp
          go_wp2_with fail
          refine (ib_any cs HS.out HR.out 6 n p w (HSZ.out.below hR.1)).mono ?_
          rintro e w4 ⟨rfl, h5⟩
          rw [Hb.out]
          exact ⟨rfl, hR.below h5⟩
        | 3, ho =>
          cases ho
          refine .inl ⟨by kernel_rfl, fun w hR => ?_⟩
          exact ow_hx _ _ rfl hR (cs := cs) (by simp) rfl (by kernel_rfl) 136 HS.out.size (by kernel_rfl) ⟨rfl, hR⟩
        | 4, ho =>
          cases ho
          refine .inl ⟨by kernel_rfl, fun w hR => ?_⟩
          exact ow_hx _ _ rfl hR (cs := #[Value.int .i64 6, .int .i64 n, .int .i64 p]) (by simp) rfl (by kernel_rfl) 3 rfl (by kernel_rfl) ⟨rfl, hR⟩
        | 5, ho =>
          cases ho
          refine .inl ⟨by kernel_rfl, fun w hR => ?_⟩
          go_simp
          go_wp2_with fail
          refine (sb_any cs HS.out HR.out 6 n p w).mono ?_
          rintro e w4 ⟨rfl, h5⟩
          rw [Hb.out]
          exact ⟨rfl, hR.below h5⟩
        | 6, ho =>
          cases ho
          refine .inl ⟨by kernel_rfl, fun w hR => ?_⟩
          first | (go_simp; done) | (go_simp; exact ⟨rfl, hR⟩)
        | 7, ho =>
          cases ho
          refine .inl ⟨by kernel_rfl, fun w hR => ?_⟩
          first | (go_simp; done) | (go_simp; exact ⟨rfl, hR⟩)
        | i + 8, ho => simp at ho
      case hR2 => exact H4.out.drew
      case fin2 =>
        intro w9 h9
        have H9 := Lib.hid h9.1
        clear h9
        go_wp2_with fail
        go_ret
        exact ⟨rfl, H9.out⟩
    have hb1 : n ≤ 1000 := by omega
    have hb2 : -1000 ≤ n := by omega
    clear hn1 hn2
    have E1 : plc 6 (n + 8) = plc 6 n := by have := plc_round (k := 6) (n := n) (q := 1) (by rw [HCN.out]; omega); rw [HCN.out] at this; rw [← this]; congr 1 <;> omega
    have E2 : plc 6 (n - 24) = plc 6 n := by have := plc_round (k := 6) (n := n) (q := -3) (by rw [HCN.out]; omega); rw [HCN.out] at this; rw [← this]; congr 1 <;> omega
    obtain ⟨b, hb⟩ : ∃ b, mb cs 6 n = b := ⟨_, rfl⟩
    obtain ⟨m, hm⟩ : ∃ m, mw cs 6 n = m := ⟨_, rfl⟩
    obtain ⟨x, hx⟩ : ∃ x, (if (6 : Int) = 10 then fnum (cel cs (117 + (plc 6 n).toNat)) else 0) = x := ⟨_, rfl⟩
    have hn11 : (6 : Int) ≠ 11 := by have := HCN.out; rintro e; first | (cases e; done) | (rw [e] at this; have h0 : cnt 11 = 0 := rfl; omega)
    have B1 := Lib.hid ((mb_plc E1).trans hb)
    have B2 := Lib.hid ((mb_plc E2).trans hb)
    have B0 := Lib.hid hb
    have M1 := Lib.hid ((mw_plc E1 hn11).trans hm)
    have M2 := Lib.hid ((mw_plc E2 hn11).trans hm)
    have M0 := Lib.hid hm
    have X1 := Lib.hid (fun (y : Nat) (h : Mr cs 6 (n + 8) 0 y) => (show y = x by rw [mr_det (by rw [HCN.out]; omega) h, E1]; exact hx))
    have X2 := Lib.hid (fun (y : Nat) (h : Mr cs 6 (n - 24) 0 y) => (show y = x by rw [mr_det (by rw [HCN.out]; omega) h, E2]; exact hx))
    clear E1 E2 hb hm hx hn11
    have H5 := (H4.out.box #[Value.int .i64 6, .int .i64 (n + 8), .int .i64 0] 47).box #[Value.int .i64 6, .int .i64 (n - 24), .int .i64 0] 47
    rw [size_alloc] at H5
    have HH := Lib.hid H5
    clear H5
    have hz3 : w1.heap.size + 1 < w3.heap.size := by obtain ⟨_, t, e⟩ := H4.out.2 (w1.heap.size + 1, #[Value.int .i64 6, .int .i64 n, .int .i64 p]) (by simp); exact kit.box_lt e
    have c0b := (H4.out.alloc (.cells #[Value.int .i64 6, .int .i64 (n + 8), .int .i64 0] 47)).cell (g := w1.heap.size + 1) (cs := #[Value.int .i64 6, .int .i64 n, .int .i64 p]) (by simp) 0 rfl
    have c1b := (H4.out.alloc (.cells #[Value.int .i64 6, .int .i64 (n + 8), .int .i64 0] 47)).cell (g := w1.heap.size + 1) (cs := #[Value.int .i64 6, .int .i64 n, .int .i64 p]) (by simp) 1 rfl
    go_wp2_with fail
    clear hz3 c0b c1b
    refine wp_region_vals (R := Hx W [(w3.heap.size + 1, #[Value.int .i64 6, .int .i64 (n - 24), .int .i64 0]), (w3.heap.size, #[Value.int .i64 6, .int .i64 (n + 8), .int .i64 0]), (w1.heap.size + 1, #[Value.int .i64 6, .int .i64 n, .int .i64 p]), (w1.heap.size, cs)]) (aa := ?aa3) [(56, .agg cs), (57, .agg #[Value.int .i64 6, .int .i64 (n + 8), .int .i64 0]), (58, .bool b), (59, .agg cs), (60, .agg #[Value.int .i64 6, .int .i64 n, .int .i64 p]), (61, .bool b), (62, .bool true), (63, .bool true), (64, .agg cs), (65, .agg #[Value.int .i64 6, .int .i64 (n - 24), .int .i64 0]), (66, .bool b), (67, .agg cs), (68, .agg #[Value.int .i64 6, .int .i64 n, .int .i64 p]), (69, .bool b), (70, .bool true), (71, .bool true), (72, .bool true), (73, .agg cs), (74, .agg #[Value.int .i64 6, .int .i64 (n + 8), .int .i64 0]), (75, .int .i16 m), (76, .agg cs), (77, .agg #[Value.int .i64 6, .int .i64 n, .int .i64 p]), (78, .int .i16 m), (79, .bool true), (80, .bool true), (81, .bool true), (82, .agg cs), (83, .agg #[Value.int .i64 6, .int .i64 (n - 24), .int .i64 0]), (84, .int .i16 m), (85, .agg cs), (86, .agg #[Value.int .i64 6, .int .i64 n, .int .i64 p]), (87, .int .i16 m), (88, .bool true), (89, .bool true), (90, .bool true), (91, .agg cs), (92, .agg #[Value.int .i64 6, .int .i64 (n + 8), .int .i64 0]), (93, .float .f64 x), (94, .agg cs), (95, .agg #[Value.int .i64 6, .int .i64 (n - 24), .int .i64 0]), (96, .float .f64 x), (97, .bool true), (98, .bool true), (2, .bool true)] ?hL3 (by kernel_rfl) ?hv3 ?hD3 ?hR3 ?hdo3 ?fin3
    case hL3 =>
      simp only [putD, Act.put]
      go_simp
      rfl
    case hv3 => kernel_rfl
    case hD3 => kernel_rfl
    case hdo3 =>
      intro i o ho
      match i, ho with
      | 0, ho =>
        cases ho
        refine .inl ⟨by kernel_rfl, fun w hR => ?_⟩
        exact ow_hx _ _ rfl hR (cs := cs) (by simp) rfl (by kernel_rfl) 136 HS.out.size (by kernel_rfl) ⟨rfl, hR⟩
      | 1, ho =>
        cases ho
        refine .inl ⟨by kernel_rfl, fun w hR => ?_⟩
        exact ow_hx _ _ rfl hR (cs := #[Value.int .i64 6, .int .i64 (n + 8), .int .i64 0]) (by simp) rfl (by kernel_rfl) 3 rfl (by kernel_rfl) ⟨rfl, hR⟩
      | 2, ho =>
        cases ho
        refine .inl ⟨by kernel_rfl, fun w hR => ?_⟩
        go_simp
        go_wp2_with fail
        refine (ib_any cs HS.out HR.out 6 (n + 8) 0 w (HSZ.out.below hR.1)).mono ?_
        rintro e w4 ⟨rfl, h5⟩
        rw [B1.out]
        exact ⟨rfl, hR.below h5⟩
      | 3, ho =>
        cases ho
        refine .inl ⟨by kernel_rfl, fun w hR => ?_⟩
        exact ow_hx _ _ rfl hR (cs := cs) (by simp) rfl (by kernel_rfl) 136 HS.out.size (by kernel_rfl) ⟨rfl, hR⟩
      | 4, ho =>
        cases ho
        refine .inl ⟨by kernel_rfl, fun w hR => ?_⟩
        exact ow_hx _ _ rfl hR (cs := #[Value.int .i64 6, .int .i64 n, .int .i64 p]) (by simp) rfl (by kernel_rfl) 3 rfl (by kernel_rfl) ⟨rfl, hR⟩
      | 5, ho =>
        cases ho
        refine .inl ⟨by kernel_rfl, fun w hR => ?_⟩
        go_simp
        go_wp2_with fail
        refine (ib_any cs HS.out HR.out 6 (n) p w (HSZ.out.below hR.1)).mono ?_
        rintro e w4 ⟨rfl, h5⟩
        rw [B0.out]
        exact ⟨rfl, hR.below h5⟩
      | 6, ho =>
        cases ho
        refine .inl ⟨by kernel_rfl, fun w hR => ?_⟩
        first | (go_simp; done) | (go_simp; exact ⟨rfl, hR⟩)
      | 7, ho =>
        cases ho
        refine .inl ⟨by kernel_rfl, fun w hR => ?_⟩
        first | (go_simp; done) | (go_simp; exact ⟨rfl, hR⟩)
      | 8, ho =>
        cases ho
        refine .inl ⟨by kernel_rfl, fun w hR => ?_⟩
        exact ow_hx _ _ rfl hR (cs := cs) (by simp) rfl (by kernel_rfl) 136 HS.out.size (by kernel_rfl) ⟨rfl, hR⟩
      | 9, ho =>
        cases ho
        refine .inl ⟨by kernel_rfl, fun w hR => ?_⟩
        exact ow_hx _ _ rfl hR (cs := #[Value.int .i64 6, .int .i64 (n - 24), .int .i64 0]) (by simp) rfl (by kernel_rfl) 3 rfl (by kernel_rfl) ⟨rfl, hR⟩
      | 10, ho =>
        cases ho
        refine .inl ⟨by kernel_rfl, fun w hR => ?_⟩
        go_simp
        go_wp2_with fail
        refine (ib_any cs HS.out HR.out 6 (n - 24) 0 w (HSZ.out.below hR.1)).mono ?_
        rintro e w4 ⟨rfl, h5⟩
        rw [B2.out]
        exact ⟨rfl, hR.below h5⟩
      | 11, ho =>
        cases ho
        refine .inl ⟨by kernel_rfl, fun w hR => ?_⟩
        exact ow_hx _ _ rfl hR (cs := cs) (by simp) rfl (by kernel_rfl) 136 HS.out.size (by kernel_rfl) ⟨rfl, hR⟩
      | 12, ho =>
        cases ho
        refine .inl ⟨by kernel_rfl, fun w hR => ?_⟩
        exact ow_hx _ _ rfl hR (cs := #[Value.int .i64 6, .int .i64 n, .int .i64 p]) (by simp) rfl (by kernel_rfl) 3 rfl (by kernel_rfl) ⟨rfl, hR⟩
      | 13, ho =>
        cases ho
        refine .inl ⟨by kernel_rfl, fun w hR => ?_⟩
        go_simp
        go_wp2_with fail
        refine (sb_any cs HS.out HR.out 6 n p w).mono ?_
        rintro e w4 ⟨rfl, h5⟩
        rw [B0.out]
        exact ⟨rfl, hR.below h5⟩
      | 14, ho =>
        cases ho
        refine .inl ⟨by kernel_rfl, fun w hR => ?_⟩
        first | (go_simp; done) | (go_simp; exact ⟨rfl, hR⟩)
      | 15, ho =>
        cases ho
        refine .inl ⟨by kernel_rfl, fun w hR => ?_⟩
        first | (go_simp; done) | (go_simp; exact ⟨rfl, hR⟩)
      | 16, ho =>
        cases ho
        refine .inl ⟨by kernel_rfl, fun w hR => ?_⟩
        first | (go_simp; done) | (go_simp; exact ⟨rfl, hR⟩)
      | 17, ho =>
        cases ho
        refine .inl ⟨by kernel_rfl, fun w hR => ?_⟩
        exact ow_hx _ _ rfl hR (cs := cs) (by simp) rfl (by kernel_rfl) 136 HS.out.size (by kernel_rfl) ⟨rfl, hR⟩
      | 18, ho =>
        cases ho
        refine .inl ⟨by kernel_rfl, fun w hR => ?_⟩
        exact ow_hx _ _ rfl hR (cs := #[Value.int .i64 6, .int .i64 (n + 8), .int .i64 0]) (by simp) rfl (by kernel_rfl) 3 rfl (by kernel_rfl) ⟨rfl, hR⟩
      | 19, ho =>
        cases ho
        refine .inl ⟨by kernel_rfl, fun w hR => ?_⟩
        go_simp
        go_wp2_with fail
        refine (iw_any cs HS.out 6 (n + 8) 0 w (HSZ.out.below hR.1)).mono ?_
        rintro e w4 ⟨rfl, h5⟩
        rw [M1.out]
        exact ⟨rfl, hR.below h5⟩
      | 20, ho =>
        cases ho
        refine .inl ⟨by kernel_rfl, fun w hR => ?_⟩
        exact ow_hx _ _ rfl hR (cs := cs) (by simp) rfl (by kernel_rfl) 136 HS.out.size (by kernel_rfl) ⟨rfl, hR⟩
      | 21, ho =>
        cases ho
        refine .inl ⟨by kernel_rfl, fun w hR => ?_⟩
        exact ow_hx _ _ rfl hR (cs := #[Value.int .i64 6, .int .i64 n, .int .i64 p]) (by simp) rfl (by kernel_rfl) 3 rfl (by kernel_rfl) ⟨rfl, hR⟩
      | 22, ho =>
        cases ho
        refine .inl ⟨by kernel_rfl, fun w hR => ?_⟩
        go_simp
        go_wp2_with fail
        refine (iw_any cs HS.out 6 (n) p w (HSZ.out.below hR.1)).mono ?_
        rintro e w4 ⟨rfl, h5⟩
        rw [M0.out]
        exact ⟨rfl, hR.below h5⟩
      | 23, ho =>
        cases ho
        refine .inl ⟨by kernel_rfl, fun w hR => ?_⟩
        first | (go_simp; done) | (go_simp; exact ⟨rfl, hR⟩)
      | 24, ho =>
        cases ho
        refine .inl ⟨by kernel_rfl, fun w hR => ?_⟩
        first | (go_simp; done) | (go_simp; exact ⟨rfl, hR⟩)
      | 25, ho =>
        cases ho
        refine .inl ⟨by kernel_rfl, fun w hR => ?_⟩
        first | (go_simp; done) | (go_simp; exact ⟨rfl, hR⟩)
      | 26, ho =>
        cases ho
        refine .inl ⟨by kernel_rfl, fun w hR => ?_⟩
        exact ow_hx _ _ rfl hR (cs := cs) (by simp) rfl (by kernel_rfl) 136 HS.out.size (by kernel_rfl) ⟨rfl, hR⟩
      | 27, ho =>
        cases ho
        refine .inl ⟨by kernel_rfl, fun w hR => ?_⟩
        exact ow_hx _ _ rfl hR (cs := #[Value.int .i64 6, .int .i64 (n - 24), .int .i64 0]) (by simp) rfl (by kernel_rfl) 3 rfl (by kernel_rfl) ⟨rfl, hR⟩
      | 28, ho =>
        cases ho
        refine .inl ⟨by kernel_rfl, fun w hR => ?_⟩
        go_simp
        go_wp2_with fail
        refine (iw_any cs HS.out 6 (n - 24) 0 w (HSZ.out.below hR.1)).mono ?_
        rintro e w4 ⟨rfl, h5⟩
        rw [M2.out]
        exact ⟨rfl, hR.below h5⟩
      | 29, ho =>
        cases ho
        refine .inl ⟨by kernel_rfl, fun w hR => ?_⟩
        exact ow_hx _ _ rfl hR (cs := cs) (by simp) rfl (by kernel_rfl) 136 HS.out.size (by kernel_rfl) ⟨rfl, hR⟩
      | 30, ho =>
        cases ho
        refine .inl ⟨by kernel_rfl, fun w hR => ?_⟩
        exact ow_hx _ _ rfl hR (cs := #[Value.int .i64 6, .int .i64 n, .int .i64 p]) (by simp) rfl (by kernel_rfl) 3 rfl (by kernel_rfl) ⟨rfl, hR⟩
      | 31, ho =>
        cases ho
        refine .inl ⟨by kernel_rfl, fun w hR => ?_⟩
        go_simp
        go_wp2_with fail
        refine (sw_any cs HS.out 6 n p w).mono ?_
        rintro e w4 ⟨rfl, h5⟩
        rw [M0.out]
        exact ⟨rfl, hR.below h5⟩
      | 32, ho =>
        cases ho
        refine .inl ⟨by kernel_rfl, fun w hR => ?_⟩
        first | (go_simp; done) | (go_simp; exact ⟨rfl, hR⟩)
      | 33, ho =>
        cases ho
        refine .inl ⟨by kernel_rfl, fun w hR => ?_⟩
        first | (go_simp; done) | (go_simp; exact ⟨rfl, hR⟩)
      | 34, ho =>
        cases ho
        refine .inl ⟨by kernel_rfl, fun w hR => ?_⟩
        first | (go_simp; done) | (go_simp; exact ⟨rfl, hR⟩)
      | 35, ho =>
        cases ho
        refine .inl ⟨by kernel_rfl, fun w hR => ?_⟩
        exact ow_hx _ _ rfl hR (cs := cs) (by simp) rfl (by kernel_rfl) 136 HS.out.size (by kernel_rfl) ⟨rfl, hR⟩
      | 36, ho =>
        cases ho
        refine .inl ⟨by kernel_rfl, fun w hR => ?_⟩
        exact ow_hx _ _ rfl hR (cs := #[Value.int .i64 6, .int .i64 (n + 8), .int .i64 0]) (by simp) rfl (by kernel_rfl) 3 rfl (by kernel_rfl) ⟨rfl, hR⟩
      | 37, ho =>
        cases ho
        refine .inl ⟨by kernel_rfl, fun w hR => ?_⟩
        go_simp
        go_wp2_with fail
        refine (imr_any cs HS.out 6 (n + 8) 0 w (HSZ.out.below hR.1) (HWD.out.below hR.1)).mono ?_
        rintro e w4 ⟨y, rfl, hy, h5⟩
        have ey := X1.out y hy
        subst ey
        exact ⟨rfl, hR.below h5⟩
      | 38, ho =>
        cases ho
        refine .inl ⟨by kernel_rfl, fun w hR => ?_⟩
        exact ow_hx _ _ rfl hR (cs := cs) (by simp) rfl (by kernel_rfl) 136 HS.out.size (by kernel_rfl) ⟨rfl, hR⟩
      | 39, ho =>
        cases ho
        refine .inl ⟨by kernel_rfl, fun w hR => ?_⟩
        exact ow_hx _ _ rfl hR (cs := #[Value.int .i64 6, .int .i64 (n - 24), .int .i64 0]) (by simp) rfl (by kernel_rfl) 3 rfl (by kernel_rfl) ⟨rfl, hR⟩
      | 40, ho =>
        cases ho
        refine .inl ⟨by kernel_rfl, fun w hR => ?_⟩
        go_simp
        go_wp2_with fail
        refine (imr_any cs HS.out 6 (n - 24) 0 w (HSZ.out.below hR.1) (HWD.out.below hR.1)).mono ?_
        rintro e w4 ⟨y, rfl, hy, h5⟩
        have ey := X2.out y hy
        subst ey
        exact ⟨rfl, hR.below h5⟩
      | 41, ho =>
        cases ho
        refine .inl ⟨by kernel_rfl, fun w hR => ?_⟩
        go_simp
        go_wp2_with fail
        refine (flo.wr_any x x w (flo.Same.refl x)).mono ?_
        rintro e w4 ⟨rfl, rfl⟩
        exact ⟨rfl, hR⟩
      | 42, ho =>
        cases ho
        refine .inl ⟨by kernel_rfl, fun w hR => ?_⟩
        first | (go_simp; done) | (go_simp; exact ⟨rfl, hR⟩)
      | 43, ho =>
        cases ho
        refine .inl ⟨by kernel_rfl, fun w hR => ?_⟩
        first | (go_simp; done) | (go_simp; exact ⟨rfl, hR⟩)
      | i + 44, ho => simp at ho
    case hR3 => exact HH.out.drew
    case fin3 =>
      intro w9 h9
      have H9 := Lib.hid h9.1
      clear h9
      go_wp2_with fail
      go_ret
      exact ⟨rfl, H9.out⟩
  have b6 : (k == 6) = false := beq_eq_false_iff_ne.2 h6
  obtain ⟨c, hcn⟩ : ∃ c, size k = c := ⟨_, rfl⟩
  have Hcn := Lib.hid hcn
  have HCN := Lib.hid (show cnt k = c by unfold cnt; rw [if_neg h6]; exact hcn)
  have hcle : 0 ≤ c ∧ c ≤ 64 := by rw [← hcn]; exact size_le k
  have hc1 := hcle.1
  have hc2 := hcle.2
  clear hcn h6 hcle
  go_wp2_with fail
  refine (dev.spec_size k _).mono ?_
  rintro e w' ⟨rfl, rfl⟩
  rw [Hcn.out]
  clear Hcn
  by_cases hc0 : c = 0
  · subst hc0
    clear hc1 hc2 HCN
    obtain ⟨b, hb⟩ : ∃ b, mb cs k n = b := ⟨_, rfl⟩
    have Hb := Lib.hid hb
    clear hb
    go_wp2_with fail
    refine wp_region_vals (R := Hx W [(w1.heap.size + 1, #[Value.int .i64 k, .int .i64 n, .int .i64 p]), (w1.heap.size, cs)]) (aa := ?aa4) [(34, .agg cs), (35, .agg #[Value.int .i64 k, .int .i64 n, .int .i64 p]), (36, .bool b), (37, .agg cs), (38, .agg #[Value.int .i64 k, .int .i64 n, .int .i64 p]), (39, .bool b), (40, .bool true), (2, .bool true)] ?hL4 (by kernel_rfl) ?hv4 ?hD4 ?hR4 ?hdo4 ?fin4
    case hL4 =>
      simp only [putD, Act.put]
      go_simp
      rfl
    case hv4 => kernel_rfl
    case hD4 => kernel_rfl
    case hdo4 =>
      intro i o ho
      match i, ho with
      | 0, ho =>
        cases ho
        refine .inl ⟨by kernel_rfl, fun w hR => ?_⟩
        exact ow_hx _ _ rfl hR (cs := cs) (by simp) rfl (by kernel_rfl) 136 HS.out.size (by kernel_rfl) ⟨rfl, hR⟩
      | 1, ho =>
        cases ho
        refine .inl ⟨by kernel_rfl, fun w hR => ?_⟩
        exact ow_hx _ _ rfl hR (cs := #[Value.int .i64 k, .int .i64 n, .int .i64 p]) (by simp) rfl (by kernel_rfl) 3 rfl (by kernel_rfl) ⟨rfl, hR⟩
      | 2, ho =>
        cases ho
        refine .inl ⟨by kernel_rfl, fun w hR => ?_⟩
        go_simp
        go_wp2_with fail
        refine (ib_any cs HS.out HR.out k n p w (HSZ.out.below hR.1)).mono ?_
        rintro e w4 ⟨rfl, h5⟩
        rw [Hb.out]
        exact ⟨rfl, hR.below h5⟩
      | 3, ho =>
        cases ho
        refine .inl ⟨by kernel_rfl, fun w hR => ?_⟩
        exact ow_hx _ _ rfl hR (cs := cs) (by simp) rfl (by kernel_rfl) 136 HS.out.size (by kernel_rfl) ⟨rfl, hR⟩
      | 4, ho =>
        cases ho
        refine .inl ⟨by kernel_rfl, fun w hR => ?_⟩
        exact ow_hx _ _ rfl hR (cs := #[Value.int .i64 k, .int .i64 n, .int .i64 p]) (by simp) rfl (by kernel_rfl) 3 rfl (by kernel_rfl) ⟨rfl, hR⟩
      | 5, ho =>
        cases ho
        refine .inl ⟨by kernel_rfl, fun w hR => ?_⟩
        go_simp
        go_wp2_with fail
        refine (sb_any cs HS.out HR.out k n p w).mono ?_
        rintro e w4 ⟨rfl, h5⟩
        rw [Hb.out]
        exact ⟨rfl, hR.below h5⟩
      | 6, ho =>
        cases ho
        refine .inl ⟨by kernel_rfl, fun w hR => ?_⟩
        first | (go_simp; done) | (go_simp; exact ⟨rfl, hR⟩)
      | 7, ho =>
        cases ho
        refine .inl ⟨by kernel_rfl, fun w hR => ?_⟩
        first | (go_simp; done) | (go_simp; exact ⟨rfl, hR⟩)
      | i + 8, ho => simp at ho
    case hR4 => exact H4.out.drew
    case fin4 =>
      intro w9 h9
      have H9 := Lib.hid h9.1
      clear h9
      go_wp2_with fail
      go_ret
      exact ⟨rfl, H9.out⟩
  have bc0 : (c == 0) = false := beq_eq_false_iff_ne.2 hc0
  have hc1 : 0 < c := by omega
  clear hc0
  by_cases hn1 : n > 1000
  · clear HCN
    obtain ⟨b, hb⟩ : ∃ b, mb cs k n = b := ⟨_, rfl⟩
    have Hb := Lib.hid hb
    clear hb
    go_wp2_with fail
    refine wp_region_vals (R := Hx W [(w1.heap.size + 1, #[Value.int .i64 k, .int .i64 n, .int .i64 p]), (w1.heap.size, cs)]) (aa := ?aa5) [(34, .agg cs), (35, .agg #[Value.int .i64 k, .int .i64 n, .int .i64 p]), (36, .bool b), (37, .agg cs), (38, .agg #[Value.int .i64 k, .int .i64 n, .int .i64 p]), (39, .bool b), (40, .bool true), (2, .bool true)] ?hL5 (by kernel_rfl) ?hv5 ?hD5 ?hR5 ?hdo5 ?fin5
    case hL5 =>
      simp only [putD, Act.put]
      go_simp
      rfl
    case hv5 => kernel_rfl
    case hD5 => kernel_rfl
    case hdo5 =>
      intro i o ho
      match i, ho with
      | 0, ho =>
        cases ho
        refine .inl ⟨by kernel_rfl, fun w hR => ?_⟩
        exact ow_hx _ _ rfl hR (cs := cs) (by simp) rfl (by kernel_rfl) 136 HS.out.size (by kernel_rfl) ⟨rfl, hR⟩
      | 1, ho =>
        cases ho
        refine .inl ⟨by kernel_rfl, fun w hR => ?_⟩
        exact ow_hx _ _ rfl hR (cs := #[Value.int .i64 k, .int .i64 n, .int .i64 p]) (by simp) rfl (by kernel_rfl) 3 rfl (by kernel_rfl) ⟨rfl, hR⟩
      | 2, ho =>
        cases ho
        refine .inl ⟨by kernel_rfl, fun w hR => ?_⟩
        go_simp
        go_wp2_with fail
        refine (ib_any cs HS.out HR.out k n p w (HSZ.out.below hR.1)).mono ?_
        rintro e w4 ⟨rfl, h5⟩
        rw [Hb.out]
        exact ⟨rfl, hR.below h5⟩
      | 3, ho =>
        cases ho
        refine .inl ⟨by kernel_rfl, fun w hR => ?_⟩
        exact ow_hx _ _ rfl hR (cs := cs) (by simp) rfl (by kernel_rfl) 136 HS.out.size (by kernel_rfl) ⟨rfl, hR⟩
      | 4, ho =>
        cases ho
        refine .inl ⟨by kernel_rfl, fun w hR => ?_⟩
        exact ow_hx _ _ rfl hR (cs := #[Value.int .i64 k, .int .i64 n, .int .i64 p]) (by simp) rfl (by kernel_rfl) 3 rfl (by kernel_rfl) ⟨rfl, hR⟩
      | 5, ho =>
        cases ho
        refine .inl ⟨by kernel_rfl, fun w hR => ?_⟩
        go_simp
        go_wp2_with fail
        refine (sb_any cs HS.out HR.out k n p w).mono ?_
        rintro e w4 ⟨rfl, h5⟩
        rw [Hb.out]
        exact ⟨rfl, hR.below h5⟩
      | 6, ho =>
        cases ho
        refine .inl ⟨by kernel_rfl, fun w hR => ?_⟩
        first | (go_simp; done) | (go_simp; exact ⟨rfl, hR⟩)
      | 7, ho =>
        cases ho
        refine .inl ⟨by kernel_rfl, fun w hR => ?_⟩
        first | (go_simp; done) | (go_simp; exact ⟨rfl, hR⟩)
      | i + 8, ho => simp at ho
    case hR5 => exact H4.out.drew
    case fin5 =>
      intro w9 h9
      have H9 := Lib.hid h9.1
      clear h9
      go_wp2_with fail
      go_ret
      exact ⟨rfl, H9.out⟩
  by_cases hn2 : n < -1000
  · clear HCN
    obtain ⟨b, hb⟩ : ∃ b, mb cs k n = b := ⟨_, rfl⟩
    have Hb := Lib.hid hb
    clear hb
    go_wp2_with fail
    refine wp_region_vals (R := Hx W [(w1.heap.size + 1, #[Value.int .i64 k, .int .i64 n, .int .i64 p]), (w1.heap.size, cs)]) (aa := ?aa6) [(34, .agg cs), (35, .agg #[Value.int .i64 k, .int .i64 n, .int .i64 p]), (36, .bool b), (37, .agg cs), (38, .agg #[Value.int .i64 k, .int .i64 n, .int .i64 p]), (39, .bool b), (40, .bool true), (2, .bool true)] ?hL6 (by kernel_rfl) ?hv6 ?hD6 ?hR6 ?hdo6 ?fin6
    case hL6 =>
      simp only [putD, Act.put]
      go_simp
      rfl
    case hv6 => kernel_rfl
    case hD6 => kernel_rfl
    case hdo6 =>
      intro i o ho
      match i, ho with
      | 0, ho =>
        cases ho
        refine .inl ⟨by kernel_rfl, fun w hR => ?_⟩
        exact ow_hx _ _ rfl hR (cs := cs) (by simp) rfl (by kernel_rfl) 136 HS.out.size (by kernel_rfl) ⟨rfl, hR⟩
      | 1, ho =>
        cases ho
        refine .inl ⟨by kernel_rfl, fun w hR => ?_⟩
        exact ow_hx _ _ rfl hR (cs := #[Value.int .i64 k, .int .i64 n, .int .i64 p]) (by simp) rfl (by kernel_rfl) 3 rfl (by kernel_rfl) ⟨rfl, hR⟩
      | 2, ho =>
        cases ho
        refine .inl ⟨by kernel_rfl, fun w hR => ?_⟩
        go_simp
        go_wp2_with fail
        refine (ib_any cs HS.out HR.out k n p w (HSZ.out.below hR.1)).mono ?_
        rintro e w4 ⟨rfl, h5⟩
        rw [Hb.out]
        exact ⟨rfl, hR.below h5⟩
      | 3, ho =>
        cases ho
        refine .inl ⟨by kernel_rfl, fun w hR => ?_⟩
        exact ow_hx _ _ rfl hR (cs := cs) (by simp) rfl (by kernel_rfl) 136 HS.out.size (by kernel_rfl) ⟨rfl, hR⟩
      | 4, ho =>
        cases ho
        refine .inl ⟨by kernel_rfl, fun w hR => ?_⟩
        exact ow_hx _ _ rfl hR (cs := #[Value.int .i64 k, .int .i64 n, .int .i64 p]) (by simp) rfl (by kernel_rfl) 3 rfl (by kernel_rfl) ⟨rfl, hR⟩
      | 5, ho =>
        cases ho
        refine .inl ⟨by kernel_rfl, fun w hR => ?_⟩
        go_simp
        go_wp2_with fail
        refine (sb_any cs HS.out HR.out k n p w).mono ?_
        rintro e w4 ⟨rfl, h5⟩
        rw [Hb.out]
        exact ⟨rfl, hR.below h5⟩
      | 6, ho =>
        cases ho
        refine .inl ⟨by kernel_rfl, fun w hR => ?_⟩
        first | (go_simp; done) | (go_simp; exact ⟨rfl, hR⟩)
      | 7, ho =>
        cases ho
        refine .inl ⟨by kernel_rfl, fun w hR => ?_⟩
        first | (go_simp; done) | (go_simp; exact ⟨rfl, hR⟩)
      | i + 8, ho => simp at ho
    case hR6 => exact H4.out.drew
    case fin6 =>
      intro w9 h9
      have H9 := Lib.hid h9.1
      clear h9
      go_wp2_with fail
      go_ret
      exact ⟨rfl, H9.out⟩
  have hb1 : n ≤ 1000 := by omega
  have hb2 : -1000 ≤ n := by omega
  clear hn1 hn2
  have E1 : plc k (n + c) = plc k n := by have := plc_round (k := k) (n := n) (q := 1) (by rw [HCN.out]; omega); rw [HCN.out] at this; rw [← this]; congr 1 <;> omega
  have E2 : plc k (n - 3 * c) = plc k n := by have := plc_round (k := k) (n := n) (q := -3) (by rw [HCN.out]; omega); rw [HCN.out] at this; rw [← this]; congr 1 <;> omega
  obtain ⟨b, hb⟩ : ∃ b, mb cs k n = b := ⟨_, rfl⟩
  obtain ⟨m, hm⟩ : ∃ m, mw cs k n = m := ⟨_, rfl⟩
  obtain ⟨x, hx⟩ : ∃ x, (if (k : Int) = 10 then fnum (cel cs (117 + (plc k n).toNat)) else 0) = x := ⟨_, rfl⟩
  have hn11 : (k : Int) ≠ 11 := by have := HCN.out; rintro e; first | (cases e; done) | (rw [e] at this; have h0 : cnt 11 = 0 := rfl; omega)
  have B1 := Lib.hid ((mb_plc E1).trans hb)
  have B2 := Lib.hid ((mb_plc E2).trans hb)
  have B0 := Lib.hid hb
  have M1 := Lib.hid ((mw_plc E1 hn11).trans hm)
  have M2 := Lib.hid ((mw_plc E2 hn11).trans hm)
  have M0 := Lib.hid hm
  have X1 := Lib.hid (fun (y : Nat) (h : Mr cs k (n + c) 0 y) => (show y = x by rw [mr_det (by rw [HCN.out]; omega) h, E1]; exact hx))
  have X2 := Lib.hid (fun (y : Nat) (h : Mr cs k (n - 3 * c) 0 y) => (show y = x by rw [mr_det (by rw [HCN.out]; omega) h, E2]; exact hx))
  clear E1 E2 hb hm hx hn11
  have H5 := (H4.out.box #[Value.int .i64 k, .int .i64 (n + c), .int .i64 0] 47).box #[Value.int .i64 k, .int .i64 (n - 3 * c), .int .i64 0] 47
  rw [size_alloc] at H5
  have HH := Lib.hid H5
  clear H5
  have hz3 : w1.heap.size + 1 < w3.heap.size := by obtain ⟨_, t, e⟩ := H4.out.2 (w1.heap.size + 1, #[Value.int .i64 k, .int .i64 n, .int .i64 p]) (by simp); exact kit.box_lt e
  have c0b := (H4.out.alloc (.cells #[Value.int .i64 k, .int .i64 (n + c), .int .i64 0] 47)).cell (g := w1.heap.size + 1) (cs := #[Value.int .i64 k, .int .i64 n, .int .i64 p]) (by simp) 0 rfl
  have c1b := (H4.out.alloc (.cells #[Value.int .i64 k, .int .i64 (n + c), .int .i64 0] 47)).cell (g := w1.heap.size + 1) (cs := #[Value.int .i64 k, .int .i64 n, .int .i64 p]) (by simp) 1 rfl
  go_wp2_with fail
  clear hz3 c0b c1b
  refine wp_region_vals (R := Hx W [(w3.heap.size + 1, #[Value.int .i64 k, .int .i64 (n - 3 * c), .int .i64 0]), (w3.heap.size, #[Value.int .i64 k, .int .i64 (n + c), .int .i64 0]), (w1.heap.size + 1, #[Value.int .i64 k, .int .i64 n, .int .i64 p]), (w1.heap.size, cs)]) (aa := ?aa7) [(56, .agg cs), (57, .agg #[Value.int .i64 k, .int .i64 (n + c), .int .i64 0]), (58, .bool b), (59, .agg cs), (60, .agg #[Value.int .i64 k, .int .i64 n, .int .i64 p]), (61, .bool b), (62, .bool true), (63, .bool true), (64, .agg cs), (65, .agg #[Value.int .i64 k, .int .i64 (n - 3 * c), .int .i64 0]), (66, .bool b), (67, .agg cs), (68, .agg #[Value.int .i64 k, .int .i64 n, .int .i64 p]), (69, .bool b), (70, .bool true), (71, .bool true), (72, .bool true), (73, .agg cs), (74, .agg #[Value.int .i64 k, .int .i64 (n + c), .int .i64 0]), (75, .int .i16 m), (76, .agg cs), (77, .agg #[Value.int .i64 k, .int .i64 n, .int .i64 p]), (78, .int .i16 m), (79, .bool true), (80, .bool true), (81, .bool true), (82, .agg cs), (83, .agg #[Value.int .i64 k, .int .i64 (n - 3 * c), .int .i64 0]), (84, .int .i16 m), (85, .agg cs), (86, .agg #[Value.int .i64 k, .int .i64 n, .int .i64 p]), (87, .int .i16 m), (88, .bool true), (89, .bool true), (90, .bool true), (91, .agg cs), (92, .agg #[Value.int .i64 k, .int .i64 (n + c), .int .i64 0]), (93, .float .f64 x), (94, .agg cs), (95, .agg #[Value.int .i64 k, .int .i64 (n - 3 * c), .int .i64 0]), (96, .float .f64 x), (97, .bool true), (98, .bool true), (2, .bool true)] ?hL7 (by kernel_rfl) ?hv7 ?hD7 ?hR7 ?hdo7 ?fin7
  case hL7 =>
    simp only [putD, Act.put]
    go_simp
    rfl
  case hv7 => kernel_rfl
  case hD7 => kernel_rfl
  case hdo7 =>
    intro i o ho
    match i, ho with
    | 0, ho =>
      cases ho
      refine .inl ⟨by kernel_rfl, fun w hR => ?_⟩
      exact ow_hx _ _ rfl hR (cs := cs) (by simp) rfl (by kernel_rfl) 136 HS.out.size (by kernel_rfl) ⟨rfl, hR⟩
    | 1, ho =>
      cases ho
      refine .inl ⟨by kernel_rfl, fun w hR => ?_⟩
      exact ow_hx _ _ rfl hR (cs := #[Value.int .i64 k, .int .i64 (n + c), .int .i64 0]) (by simp) rfl (by kernel_rfl) 3 rfl (by kernel_rfl) ⟨rfl, hR⟩
    | 2, ho =>
      cases ho
      refine .inl ⟨by kernel_rfl, fun w hR => ?_⟩
      go_simp
      go_wp2_with fail
      refine (ib_any cs HS.out HR.out k (n + c) 0 w (HSZ.out.below hR.1)).mono ?_
      rintro e w4 ⟨rfl, h5⟩
      rw [B1.out]
      exact ⟨rfl, hR.below h5⟩
    | 3, ho =>
      cases ho
      refine .inl ⟨by kernel_rfl, fun w hR => ?_⟩
      exact ow_hx _ _ rfl hR (cs := cs) (by simp) rfl (by kernel_rfl) 136 HS.out.size (by kernel_rfl) ⟨rfl, hR⟩
    | 4, ho =>
      cases ho
      refine .inl ⟨by kernel_rfl, fun w hR => ?_⟩
      exact ow_hx _ _ rfl hR (cs := #[Value.int .i64 k, .int .i64 n, .int .i64 p]) (by simp) rfl (by kernel_rfl) 3 rfl (by kernel_rfl) ⟨rfl, hR⟩
    | 5, ho =>
      cases ho
      refine .inl ⟨by kernel_rfl, fun w hR => ?_⟩
      go_simp
      go_wp2_with fail
      refine (ib_any cs HS.out HR.out k (n) p w (HSZ.out.below hR.1)).mono ?_
      rintro e w4 ⟨rfl, h5⟩
      rw [B0.out]
      exact ⟨rfl, hR.below h5⟩
    | 6, ho =>
      cases ho
      refine .inl ⟨by kernel_rfl, fun w hR => ?_⟩
      first | (go_simp; done) | (go_simp; exact ⟨rfl, hR⟩)
    | 7, ho =>
      cases ho
      refine .inl ⟨by kernel_rfl, fun w hR => ?_⟩
      first | (go_simp; done) | (go_simp; exact ⟨rfl, hR⟩)
    | 8, ho =>
      cases ho
      refine .inl ⟨by kernel_rfl, fun w hR => ?_⟩
      exact ow_hx _ _ rfl hR (cs := cs) (by simp) rfl (by kernel_rfl) 136 HS.out.size (by kernel_rfl) ⟨rfl, hR⟩
    | 9, ho =>
      cases ho
      refine .inl ⟨by kernel_rfl, fun w hR => ?_⟩
      exact ow_hx _ _ rfl hR (cs := #[Value.int .i64 k, .int .i64 (n - 3 * c), .int .i64 0]) (by simp) rfl (by kernel_rfl) 3 rfl (by kernel_rfl) ⟨rfl, hR⟩
    | 10, ho =>
      cases ho
      refine .inl ⟨by kernel_rfl, fun w hR => ?_⟩
      go_simp
      go_wp2_with fail
      refine (ib_any cs HS.out HR.out k (n - 3 * c) 0 w (HSZ.out.below hR.1)).mono ?_
      rintro e w4 ⟨rfl, h5⟩
      rw [B2.out]
      exact ⟨rfl, hR.below h5⟩
    | 11, ho =>
      cases ho
      refine .inl ⟨by kernel_rfl, fun w hR => ?_⟩
      exact ow_hx _ _ rfl hR (cs := cs) (by simp) rfl (by kernel_rfl) 136 HS.out.size (by kernel_rfl) ⟨rfl, hR⟩
    | 12, ho =>
      cases ho
      refine .inl ⟨by kernel_rfl, fun w hR => ?_⟩
      exact ow_hx _ _ rfl hR (cs := #[Value.int .i64 k, .int .i64 n, .int .i64 p]) (by simp) rfl (by kernel_rfl) 3 rfl (by kernel_rfl) ⟨rfl, hR⟩
    | 13, ho =>
      cases ho
      refine .inl ⟨by kernel_rfl, fun w hR => ?_⟩
      go_simp
      go_wp2_with fail
      refine (sb_any cs HS.out HR.out k n p w).mono ?_
      rintro e w4 ⟨rfl, h5⟩
      rw [B0.out]
      exact ⟨rfl, hR.below h5⟩
    | 14, ho =>
      cases ho
      refine .inl ⟨by kernel_rfl, fun w hR => ?_⟩
      first | (go_simp; done) | (go_simp; exact ⟨rfl, hR⟩)
    | 15, ho =>
      cases ho
      refine .inl ⟨by kernel_rfl, fun w hR => ?_⟩
      first | (go_simp; done) | (go_simp; exact ⟨rfl, hR⟩)
    | 16, ho =>
      cases ho
      refine .inl ⟨by kernel_rfl, fun w hR => ?_⟩
      first | (go_simp; done) | (go_simp; exact ⟨rfl, hR⟩)
    | 17, ho =>
      cases ho
      refine .inl ⟨by kernel_rfl, fun w hR => ?_⟩
      exact ow_hx _ _ rfl hR (cs := cs) (by simp) rfl (by kernel_rfl) 136 HS.out.size (by kernel_rfl) ⟨rfl, hR⟩
    | 18, ho =>
      cases ho
      refine .inl ⟨by kernel_rfl, fun w hR => ?_⟩
      exact ow_hx _ _ rfl hR (cs := #[Value.int .i64 k, .int .i64 (n + c), .int .i64 0]) (by simp) rfl (by kernel_rfl) 3 rfl (by kernel_rfl) ⟨rfl, hR⟩
    | 19, ho =>
      cases ho
      refine .inl ⟨by kernel_rfl, fun w hR => ?_⟩
      go_simp
      go_wp2_with fail
      refine (iw_any cs HS.out k (n + c) 0 w (HSZ.out.below hR.1)).mono ?_
      rintro e w4 ⟨rfl, h5⟩
      rw [M1.out]
      exact ⟨rfl, hR.below h5⟩
    | 20, ho =>
      cases ho
      refine .inl ⟨by kernel_rfl, fun w hR => ?_⟩
      exact ow_hx _ _ rfl hR (cs := cs) (by simp) rfl (by kernel_rfl) 136 HS.out.size (by kernel_rfl) ⟨rfl, hR⟩
    | 21, ho =>
      cases ho
      refine .inl ⟨by kernel_rfl, fun w hR => ?_⟩
      exact ow_hx _ _ rfl hR (cs := #[Value.int .i64 k, .int .i64 n, .int .i64 p]) (by simp) rfl (by kernel_rfl) 3 rfl (by kernel_rfl) ⟨rfl, hR⟩
    | 22, ho =>
      cases ho
      refine .inl ⟨by kernel_rfl, fun w hR => ?_⟩
      go_simp
      go_wp2_with fail
      refine (iw_any cs HS.out k (n) p w (HSZ.out.below hR.1)).mono ?_
      rintro e w4 ⟨rfl, h5⟩
      rw [M0.out]
      exact ⟨rfl, hR.below h5⟩
    | 23, ho =>
      cases ho
      refine .inl ⟨by kernel_rfl, fun w hR => ?_⟩
      first | (go_simp; done) | (go_simp; exact ⟨rfl, hR⟩)
    | 24, ho =>
      cases ho
      refine .inl ⟨by kernel_rfl, fun w hR => ?_⟩
      first | (go_simp; done) | (go_simp; exact ⟨rfl, hR⟩)
    | 25, ho =>
      cases ho
      refine .inl ⟨by kernel_rfl, fun w hR => ?_⟩
      first | (go_simp; done) | (go_simp; exact ⟨rfl, hR⟩)
    | 26, ho =>
      cases ho
      refine .inl ⟨by kernel_rfl, fun w hR => ?_⟩
      exact ow_hx _ _ rfl hR (cs := cs) (by simp) rfl (by kernel_rfl) 136 HS.out.size (by kernel_rfl) ⟨rfl, hR⟩
    | 27, ho =>
      cases ho
      refine .inl ⟨by kernel_rfl, fun w hR => ?_⟩
      exact ow_hx _ _ rfl hR (cs := #[Value.int .i64 k, .int .i64 (n - 3 * c), .int .i64 0]) (by simp) rfl (by kernel_rfl) 3 rfl (by kernel_rfl) ⟨rfl, hR⟩
    | 28, ho =>
      cases ho
      refine .inl ⟨by kernel_rfl, fun w hR => ?_⟩
      go_simp
      go_wp2_with fail
      refine (iw_any cs HS.out k (n - 3 * c) 0 w (HSZ.out.below hR.1)).mono ?_
      rintro e w4 ⟨rfl, h5⟩
      rw [M2.out]
      exact ⟨rfl, hR.below h5⟩
    | 29, ho =>
      cases ho
      refine .inl ⟨by kernel_rfl, fun w hR => ?_⟩
      exact ow_hx _ _ rfl hR (cs := cs) (by simp) rfl (by kernel_rfl) 136 HS.out.size (by kernel_rfl) ⟨rfl, hR⟩
    | 30, ho =>
      cases ho
      refine .inl ⟨by kernel_rfl, fun w hR => ?_⟩
      exact ow_hx _ _ rfl hR (cs := #[Value.int .i64 k, .int .i64 n, .int .i64 p]) (by simp) rfl (by kernel_rfl) 3 rfl (by kernel_rfl) ⟨rfl, hR⟩
    | 31, ho =>
      cases ho
      refine .inl ⟨by kernel_rfl, fun w hR => ?_⟩
      go_simp
      go_wp2_with fail
      refine (sw_any cs HS.out k n p w).mono ?_
      rintro e w4 ⟨rfl, h5⟩
      rw [M0.out]
      exact ⟨rfl, hR.below h5⟩
    | 32, ho =>
      cases ho
      refine .inl ⟨by kernel_rfl, fun w hR => ?_⟩
      first | (go_simp; done) | (go_simp; exact ⟨rfl, hR⟩)
    | 33, ho =>
      cases ho
      refine .inl ⟨by kernel_rfl, fun w hR => ?_⟩
      first | (go_simp; done) | (go_simp; exact ⟨rfl, hR⟩)
    | 34, ho =>
      cases ho
      refine .inl ⟨by kernel_rfl, fun w hR => ?_⟩
      first | (go_simp; done) | (go_simp; exact ⟨rfl, hR⟩)
    | 35, ho =>
      cases ho
      refine .inl ⟨by kernel_rfl, fun w hR => ?_⟩
      exact ow_hx _ _ rfl hR (cs := cs) (by simp) rfl (by kernel_rfl) 136 HS.out.size (by kernel_rfl) ⟨rfl, hR⟩
    | 36, ho =>
      cases ho
      refine .inl ⟨by kernel_rfl, fun w hR => ?_⟩
      exact ow_hx _ _ rfl hR (cs := #[Value.int .i64 k, .int .i64 (n + c), .int .i64 0]) (by simp) rfl (by kernel_rfl) 3 rfl (by kernel_rfl) ⟨rfl, hR⟩
    | 37, ho =>
      cases ho
      refine .inl ⟨by kernel_rfl, fun w hR => ?_⟩
      go_simp
      go_wp2_with fail
      refine (imr_any cs HS.out k (n + c) 0 w (HSZ.out.below hR.1) (HWD.out.below hR.1)).mono ?_
      rintro e w4 ⟨y, rfl, hy, h5⟩
      have ey := X1.out y hy
      subst ey
      exact ⟨rfl, hR.below h5⟩
    | 38, ho =>
      cases ho
      refine .inl ⟨by kernel_rfl, fun w hR => ?_⟩
      exact ow_hx _ _ rfl hR (cs := cs) (by simp) rfl (by kernel_rfl) 136 HS.out.size (by kernel_rfl) ⟨rfl, hR⟩
    | 39, ho =>
      cases ho
      refine .inl ⟨by kernel_rfl, fun w hR => ?_⟩
      exact ow_hx _ _ rfl hR (cs := #[Value.int .i64 k, .int .i64 (n - 3 * c), .int .i64 0]) (by simp) rfl (by kernel_rfl) 3 rfl (by kernel_rfl) ⟨rfl, hR⟩
    | 40, ho =>
      cases ho
      refine .inl ⟨by kernel_rfl, fun w hR => ?_⟩
      go_simp
      go_wp2_with fail
      refine (imr_any cs HS.out k (n - 3 * c) 0 w (HSZ.out.below hR.1) (HWD.out.below hR.1)).mono ?_
      rintro e w4 ⟨y, rfl, hy, h5⟩
      have ey := X2.out y hy
      subst ey
      exact ⟨rfl, hR.below h5⟩
    | 41, ho =>
      cases ho
      refine .inl ⟨by kernel_rfl, fun w hR => ?_⟩
      go_simp
      go_wp2_with fail
      refine (flo.wr_any x x w (flo.Same.refl x)).mono ?_
      rintro e w4 ⟨rfl, rfl⟩
      exact ⟨rfl, hR⟩
    | 42, ho =>
      cases ho
      refine .inl ⟨by kernel_rfl, fun w hR => ?_⟩
      first | (go_simp; done) | (go_simp; exact ⟨rfl, hR⟩)
    | 43, ho =>
      cases ho
      refine .inl ⟨by kernel_rfl, fun w hR => ?_⟩
      first | (go_simp; done) | (go_simp; exact ⟨rfl, hR⟩)
    | i + 44, ho => simp at ho
  case hR7 => exact HH.out.drew
  case fin7 =>
    intro w9 h9
    have H9 := Lib.hid h9.1
    clear h9
    go_wp2_with fail
    go_ret
    exact ⟨rfl, H9.out⟩
theorem walk (W : World) (base : Nat) (v0 : Value) (o0 : Value.okWide Tryd.prog W .any base 60 v0) (b0 : kit.Bytes W v0) (hL : laidMetH Tryd.prog Rows.fnMemRoundRow.laid W) :
    Calls Tryd.prog 11 #[v0] W fun e w' => e = .returned (.bool true) ∧ Below W.heap.size W w' := by
  have hs : Sizes W := kit.laid_ints (zs := sizes) (k := .i64) (n := "loop.example/stile/impl.devSizes") hL (by kernel_rfl) (by repeat (first | exact List.Mem.head _ | apply List.Mem.tail)) (by kernel_rfl) (by kernel_rfl) Tryd.underlying110 Tryd.underlying3 (by kernel_rfl) (by decide)
  have hw : Words W := by
    obtain ⟨b, off, hc, _⟩ := kit.laid_strs (g := 2) (L := [[110, 97, 110], [105, 110, 102], [45, 105, 110, 102], [45, 48, 46, 48]]) (n := "loop.example/stile/impl.devWords") hL (by kernel_rfl) (by repeat (first | exact List.Mem.head _ | apply List.Mem.tail)) (by kernel_rfl) (by kernel_rfl) Tryd.underlying118 Tryd.underlying9 (by kernel_rfl) (by decide)
    exact ⟨b, off, hc⟩
  obtain ⟨A, len, cap, zs, rfl, h, y⟩ := b0
  obtain ⟨l, rfl, hr, hm, hwf, hc⟩ := ReadsInt.ofRowC h
  exact walkI hs hw ⟨hr, hc, hwf⟩
end Go.Proofs.YtnffgafofkknoaaDoor.fnMemRound
