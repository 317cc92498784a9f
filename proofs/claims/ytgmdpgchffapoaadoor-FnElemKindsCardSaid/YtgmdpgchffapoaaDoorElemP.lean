/-
  'impl.ElemIsCoil', number by number.
  Conditions: the operands' cells hold them; the variables 'devSizes', 'devWords' hold what they are laid with.
-/
import Derived.Test.YtgmdpgchffapoaaDoorElemL
namespace Go.Proofs.YtgmdpgchffapoaaDoor.dev
open Go Go.RowKit Go.Proofs.YtgmdpgchffapoaaDoor.part
set_option linter.unusedVariables false
set_option linter.unusedSimpArgs false
set_option maxRecDepth 100000

set_option maxHeartbeats 8000000 in
theorem coil_35 (x y z : Tri) (b off c : Nat) (W : World) (hT : Trip W b off [x, y, z]) (hc : 3 ≤ c) (hs : Sizes W) (hw : Words W) :
    Calls Tryd.prog 6 #[.agg #[.int .i64 35, .slice (some ⟨b, off, none⟩) 3 c]] W fun e w' => e = .returned (.bool (tKis x [9] && [y, z].all tWhole)) ∧ Below W.heap.size W w' := by
  have Hin := Lib.hid (show inB 35 21 37 = true by decide)
  have Har := Lib.hid (show arity 35 = 3 by decide)
  have HT := Lib.hid hT
  have Hc := Lib.hid hc
  clear hT hc
  have H1 := Lib.hid (Hx.box (Hx.nil (Below.refl W.heap.size W)) #[.int .i64 35, .slice (some ⟨b, off, none⟩) 3 c] 25)
  have Hs := Lib.hid hs
  have Hw := Lib.hid hw
  clear hs hw
  go_enter Tryd.func6, Tryd.ntmps6
  go_wp2_with fail
  refine wp_region_vals (R := Hx W [(W.heap.size, #[.int .i64 35, .slice (some ⟨b, off, none⟩) 3 c])]) (aa := ?aa15) [(6, .pointer (some ⟨W.heap.size, 0, none⟩)), (7, .int .i64 35), (8, .bool true), (9, .bool false), (10, .bool false), (11, .pointer (some ⟨W.heap.size, 1, none⟩)), (12, .slice (some ⟨b, off, none⟩) 3 c), (13, .int .i64 3), (14, .pointer (some ⟨W.heap.size, 0, none⟩)), (15, .int .i64 35), (16, .int .i64 3), (17, .bool false), (18, .bool false)] ?hL15 (by kernel_rfl) ?hv15 ?hD15 ?hR15 ?hdo15 ?fin15
  case hL15 =>
    simp only [putD, Act.put]
    go_simp
    rfl
  case hv15 => kernel_rfl
  case hD15 => kernel_rfl
  case hdo15 =>
    intro i o ho
    match i, ho with
    | 0, ho =>
      cases ho
      refine .inl ⟨by kernel_rfl, fun w hR => ?_⟩
      first | (go_simp; done) | (go_simp; exact ⟨rfl, hR⟩)
    | 1, ho =>
      cases ho
      refine .inl ⟨by kernel_rfl, fun w hR => ?_⟩
      exact ow_hxf _ _ rfl hR (cs := #[.int .i64 35, .slice (some ⟨b, off, none⟩) 3 c]) (by simp) 0 (.int .i64 35) rfl rfl (by decide +kernel) ⟨rfl, hR⟩
    | 2, ho =>
      cases ho
      refine .inl ⟨by kernel_rfl, fun w hR => ?_⟩
      go_simp
      go_wp2_with fail
      refine (in_any 35 21 37 w).mono ?_
      rintro e w4 ⟨rfl, rfl⟩
      rw [Hin.out]
      exact ⟨rfl, hR⟩
    | 3, ho =>
      cases ho
      refine .inl ⟨by kernel_rfl, fun w hR => ?_⟩
      first | (go_simp; done) | (go_simp; exact ⟨rfl, hR⟩)
    | 4, ho =>
      cases ho
      refine .inl ⟨by kernel_rfl, fun w hR => ?_⟩
      first | (go_simp; done) | (go_simp; exact ⟨rfl, hR⟩)
    | 5, ho =>
      cases ho
      refine .inl ⟨by kernel_rfl, fun w hR => ?_⟩
      first | (go_simp; done) | (go_simp; exact ⟨rfl, hR⟩)
    | 6, ho =>
      cases ho
      refine .inl ⟨by kernel_rfl, fun w hR => ?_⟩
      exact ow_hxf _ _ rfl hR (cs := #[.int .i64 35, .slice (some ⟨b, off, none⟩) 3 c]) (by simp) 1 (.slice (some ⟨b, off, none⟩) 3 c) rfl rfl (by decide +kernel) ⟨rfl, hR⟩
    | 7, ho =>
      cases ho
      refine .inl ⟨by kernel_rfl, fun w hR => ?_⟩
      first | (go_simp; done) | (go_simp; exact ⟨rfl, hR⟩)
    | 8, ho =>
      cases ho
      refine .inl ⟨by kernel_rfl, fun w hR => ?_⟩
      first | (go_simp; done) | (go_simp; exact ⟨rfl, hR⟩)
    | 9, ho =>
      cases ho
      refine .inl ⟨by kernel_rfl, fun w hR => ?_⟩
      exact ow_hxf _ _ rfl hR (cs := #[.int .i64 35, .slice (some ⟨b, off, none⟩) 3 c]) (by simp) 0 (.int .i64 35) rfl rfl (by decide +kernel) ⟨rfl, hR⟩
    | 10, ho =>
      cases ho
      refine .inl ⟨by kernel_rfl, fun w hR => ?_⟩
      go_simp
      go_wp2_with fail
      refine (arity_any 35 w).mono ?_
      rintro e w4 ⟨rfl, h5⟩
      rw [Har.out]
      exact ⟨rfl, hR.below h5⟩
    | 11, ho =>
      cases ho
      refine .inl ⟨by kernel_rfl, fun w hR => ?_⟩
      first | (go_simp; done) | (go_simp; exact ⟨rfl, hR⟩)
    | 12, ho =>
      cases ho
      refine .inl ⟨by kernel_rfl, fun w hR => ?_⟩
      first | (go_simp; done) | (go_simp; exact ⟨rfl, hR⟩)
    | i + 13, ho => simp at ho
  case hR15 => exact H1.out.drew
  case fin15 =>
    intro w2 h2
    have H2 := Lib.hid h2
    clear h2 H1
    go_wp2_with fail
    refine wp_region_famD (π := Two) (aa := ?aa) (R := Rk W [(W.heap.size, #[.int .i64 35, .slice (some ⟨b, off, none⟩) 3 c])] #[.int .i64 x.1, .int .i64 x.2.1, .int .i64 x.2.2] #[.slice (some ⟨b, off + 3, none⟩) 2 (c - 1)]) ⟨0, 0⟩ (fun p => [(19, .pointer (some ⟨W.heap.size, 1, none⟩)), (20, .slice (some ⟨b, off, none⟩) 3 c), (21, .pointer (some ⟨b, off, none⟩)), (22, .agg #[.int .i64 x.1, .int .i64 x.2.1, .int .i64 x.2.2]), (23, .pointer (some ⟨W.heap.size, 1, none⟩)), (24, .slice (some ⟨b, off, none⟩) 3 c), (25, .slice (some ⟨b, off + 3, none⟩) 2 (c - 1)), (3, .pointer (some ⟨p.one, 0, none⟩)), (4, .pointer (some ⟨p.two, 0, none⟩))]) ?hL (by kernel_rfl) ?hv ?hk ?hR ?hdo ?fin
    case hL => intro p; simp only [putD, Act.put]; go_simp; rfl
    case hv => kernel_rfl
    case hk => kernel_rfl
    case hR => exact Rk.init H2.out.drew
    case hdo =>
      intro i o ho
      match i, ho with
      | 0, ho =>
        cases ho
        intro p listed w hs hi hd hR
        refine does_gen (fun K hK => ?_); go_simp; exact hK _ _ ⟨p, fun t h => rfl, fun t h => by cases h; rfl, hR.pure 0 (by decide)⟩
      | 1, ho =>
        cases ho
        intro p listed w hs hi hd hR
        exact ow_hxf _ _ rfl hR.1 (cs := #[.int .i64 35, .slice (some ⟨b, off, none⟩) 3 c]) (by simp) 1 (.slice (some ⟨b, off, none⟩) 3 c) rfl rfl (by decide +kernel) ⟨_, rfl, p, fun t h => rfl, fun t h => by cases h; rfl, hR.pure 1 (by decide)⟩
      | 2, ho =>
        cases ho
        intro p listed w hs hi hd hR
        refine does_gen (fun K hK => ?_); go_simp; exact hK _ _ ⟨p, fun t h => rfl, fun t h => by cases h; rfl, hR.pure 2 (by decide)⟩
      | 3, ho =>
        cases ho
        intro p listed w hs hi hd hR
        obtain ⟨d0, d1, d2⟩ := (HT.out.below hR.1.1).at0
        refine does_gen (fun K hK => ?_); go_simp; exact hK _ _ ⟨p, fun t h => rfl, fun t h => by cases h; rfl, hR.pure 3 (by decide)⟩
      | 4, ho =>
        cases ho
        intro p listed w hs hi hd hR
        refine does_gen (fun K hK => ?_); go_simp; exact hK _ _ ⟨p, fun t h => rfl, fun t h => by cases h; rfl, hR.pure 4 (by decide)⟩
      | 5, ho =>
        cases ho
        intro p listed w hs hi hd hR
        exact ow_hxf _ _ rfl hR.1 (cs := #[.int .i64 35, .slice (some ⟨b, off, none⟩) 3 c]) (by simp) 1 (.slice (some ⟨b, off, none⟩) 3 c) rfl rfl (by decide +kernel) ⟨_, rfl, p, fun t h => rfl, fun t h => by cases h; rfl, hR.pure 5 (by decide)⟩
      | 6, ho =>
        cases ho
        intro p listed w hs hi hd hR
        refine does_gen (fun K hK => ?_)
        have hc1 := Hc.out
        go_simp
        rw [if_neg (by omega : ¬ c = 1)]
        exact hK _ _ ⟨p, fun t h => rfl, fun t h => by cases h; rfl, hR.pure 6 (by decide)⟩
      | 7, ho =>
        cases ho
        intro p listed w hs hi hd hR
        exact ow_alloc _ (.agg #[.int .i64 0, .int .i64 0, .int .i64 0]) rfl (by kernel_rfl) ⟨_, rfl, fam_put 3 ⟨w.heap.size, p.two⟩ rfl (Nat.lt_of_lt_of_eq (by decide : 3 < 128) rfl) (hR.new1 hs hi _ rfl)⟩
      | 8, ho =>
        cases ho
        intro p listed w hs hi hd hR
        exact ow_alloc _ (.slice none 0 0) rfl (by kernel_rfl) ⟨_, rfl, fam_put 4 ⟨p.one, w.heap.size⟩ rfl (Nat.lt_of_lt_of_eq (by decide : 4 < 128) rfl) (hR.new2 hs hi _ rfl)⟩
      | 9, ho =>
        cases ho
        intro p listed w hs hi hd hR
        have h7 : listed.getD 7 false = true := hd ⟨7, .data⟩ (by simp) rfl
        have h9 : listed.getD 9 false = false := getD_tf hi
        have a3 := (hR.2.1 h7).2.2
        rw [h9, if_neg (by decide)] at a3
        exact ow_fill _ _ _ rfl a3 (.agg #[.int .i64 x.1, .int .i64 x.2.1, .int .i64 x.2.2]) rfl rfl (one3 x) 3 rfl rfl (by kernel_rfl) fun w1 e1 e2 e3 => ⟨_, rfl, p, fun t h => rfl, (fun t h => by cases h), hR.fill1 hs h7 e1 e2 e3⟩
      | 10, ho =>
        cases ho
        intro p listed w hs hi hd hR
        have h8 : listed.getD 8 false = true := hd ⟨8, .data⟩ (by simp) rfl
        have h10 : listed.getD 10 false = false := getD_tf hi
        have a3 := (hR.2.2.1 h8).2.2
        rw [h10, if_neg (by decide)] at a3
        exact ow_fill _ _ _ rfl a3 (.slice (some ⟨b, off + 3, none⟩) 2 (c - 1)) rfl rfl (oneS _ _ _) 1 rfl rfl (by kernel_rfl) fun w1 e1 e2 e3 => ⟨_, rfl, p, fun t h => rfl, (fun t h => by cases h), hR.fill2 hs h8 e1 e2 e3⟩
      | i + 11, ho => simp at ho
    case fin =>
      intro p listed w3 hall hR
      have H3 := Lib.hid (hR.fin hall)
      clear hR hall H2
      cases hb : tKis x [9] with
      | false =>
        have Hb3 := Lib.hid hb
        clear hb
        have T3 := Lib.hid (HT.out.below H3.out.1)
        have S3 := Lib.hid (Hs.out.below H3.out.1)
        have W3 := Lib.hid (Hw.out.below H3.out.1)
        have c0 := H3.out.cell (g := W.heap.size) (cs := #[.int .i64 35, .slice (some ⟨b, off, none⟩) 3 c]) (by simp) 0 rfl
        have a0 := H3.out.cell (g := p.one) (cs := #[.int .i64 x.1, .int .i64 x.2.1, .int .i64 x.2.2]) (by simp) 0 rfl
        have a1 := H3.out.cell (g := p.one) (cs := #[.int .i64 x.1, .int .i64 x.2.1, .int .i64 x.2.2]) (by simp) 1 rfl
        have a2 := H3.out.cell (g := p.one) (cs := #[.int .i64 x.1, .int .i64 x.2.1, .int .i64 x.2.2]) (by simp) 2 rfl
        have r0 := H3.out.cell (g := p.two) (cs := #[.slice (some ⟨b, off + 3, none⟩) 2 (c - 1)]) (by simp) 0 rfl
        go_wp2_with fail
        refine (kindIs_any x.1 x.2.1 x.2.2 _ 0 [9] _ (by decide) (rowOf [9] _ rfl (heap_alloc_new _ _)) (S3.out.alloc _) (W3.out.alloc _)).mono ?_
        rw [show kis x.1 x.2.1 x.2.2 [9] = false from Hb3.out]
        rintro e w4 ⟨rfl, h⟩
        have H4 := Lib.hid ((H3.out.alloc _).below h)
        clear h H3 c0 a0 a1 a2 r0
        go_wp2_with fail
        go_ret
        exact ⟨kit.ret_bool (by rw [Hb3.out]; try rfl), H4.out.1⟩
      | true =>
        have Hb3 := Lib.hid hb
        clear hb
        have T3 := Lib.hid (HT.out.below H3.out.1)
        have S3 := Lib.hid (Hs.out.below H3.out.1)
        have W3 := Lib.hid (Hw.out.below H3.out.1)
        have c0 := H3.out.cell (g := W.heap.size) (cs := #[.int .i64 35, .slice (some ⟨b, off, none⟩) 3 c]) (by simp) 0 rfl
        have a0 := H3.out.cell (g := p.one) (cs := #[.int .i64 x.1, .int .i64 x.2.1, .int .i64 x.2.2]) (by simp) 0 rfl
        have a1 := H3.out.cell (g := p.one) (cs := #[.int .i64 x.1, .int .i64 x.2.1, .int .i64 x.2.2]) (by simp) 1 rfl
        have a2 := H3.out.cell (g := p.one) (cs := #[.int .i64 x.1, .int .i64 x.2.1, .int .i64 x.2.2]) (by simp) 2 rfl
        have r0 := H3.out.cell (g := p.two) (cs := #[.slice (some ⟨b, off + 3, none⟩) 2 (c - 1)]) (by simp) 0 rfl
        go_wp2_with fail
        refine (kindIs_any x.1 x.2.1 x.2.2 _ 0 [9] _ (by decide) (rowOf [9] _ rfl (heap_alloc_new _ _)) (S3.out.alloc _) (W3.out.alloc _)).mono ?_
        rw [show kis x.1 x.2.1 x.2.2 [9] = true from Hb3.out]
        rintro e w4 ⟨rfl, h⟩
        have H4 := Lib.hid ((H3.out.alloc _).below h)
        clear h H3 c0 a0 a1 a2 r0
        cases hb : [y, z].all tWhole with
        | false =>
          have Hb4 := Lib.hid hb
          clear hb
          have T4 := Lib.hid (HT.out.below H4.out.1)
          have S4 := Lib.hid (Hs.out.below H4.out.1)
          have W4 := Lib.hid (Hw.out.below H4.out.1)
          have c0 := H4.out.cell (g := W.heap.size) (cs := #[.int .i64 35, .slice (some ⟨b, off, none⟩) 3 c]) (by simp) 0 rfl
          have a0 := H4.out.cell (g := p.one) (cs := #[.int .i64 x.1, .int .i64 x.2.1, .int .i64 x.2.2]) (by simp) 0 rfl
          have a1 := H4.out.cell (g := p.one) (cs := #[.int .i64 x.1, .int .i64 x.2.1, .int .i64 x.2.2]) (by simp) 1 rfl
          have a2 := H4.out.cell (g := p.one) (cs := #[.int .i64 x.1, .int .i64 x.2.1, .int .i64 x.2.2]) (by simp) 2 rfl
          have r0 := H4.out.cell (g := p.two) (cs := #[.slice (some ⟨b, off + 3, none⟩) 2 (c - 1)]) (by simp) 0 rfl
          go_wp2_with fail
          refine (allWhole b (off + 3) (c - 1) [y, z] _ (by simp) T4.out.tail S4.out W4.out).mono ?_
          rw [Hb4.out]
          rintro e w5 ⟨rfl, h⟩
          have H5 := Lib.hid ((H4.out).below h)
          clear h H4 c0 a0 a1 a2 r0
          go_wp2_with fail
          go_ret
          exact ⟨kit.ret_bool (by rw [Hb3.out, Hb4.out]; try rfl), H5.out.1⟩
        | true =>
          have Hb4 := Lib.hid hb
          clear hb
          have T4 := Lib.hid (HT.out.below H4.out.1)
          have S4 := Lib.hid (Hs.out.below H4.out.1)
          have W4 := Lib.hid (Hw.out.below H4.out.1)
          have c0 := H4.out.cell (g := W.heap.size) (cs := #[.int .i64 35, .slice (some ⟨b, off, none⟩) 3 c]) (by simp) 0 rfl
          have a0 := H4.out.cell (g := p.one) (cs := #[.int .i64 x.1, .int .i64 x.2.1, .int .i64 x.2.2]) (by simp) 0 rfl
          have a1 := H4.out.cell (g := p.one) (cs := #[.int .i64 x.1, .int .i64 x.2.1, .int .i64 x.2.2]) (by simp) 1 rfl
          have a2 := H4.out.cell (g := p.one) (cs := #[.int .i64 x.1, .int .i64 x.2.1, .int .i64 x.2.2]) (by simp) 2 rfl
          have r0 := H4.out.cell (g := p.two) (cs := #[.slice (some ⟨b, off + 3, none⟩) 2 (c - 1)]) (by simp) 0 rfl
          go_wp2_with fail
          refine (allWhole b (off + 3) (c - 1) [y, z] _ (by simp) T4.out.tail S4.out W4.out).mono ?_
          rw [Hb4.out]
          rintro e w5 ⟨rfl, h⟩
          have H5 := Lib.hid ((H4.out).below h)
          clear h H4 c0 a0 a1 a2 r0
          go_wp2_with fail
          go_ret
          exact ⟨kit.ret_bool (by rw [Hb3.out, Hb4.out]; try rfl), H5.out.1⟩
set_option maxHeartbeats 8000000 in
theorem coil_36 (x y : Tri) (b off c : Nat) (W : World) (hT : Trip W b off [x, y]) (hc : 2 ≤ c) (hs : Sizes W) (hw : Words W) :
    Calls Tryd.prog 6 #[.agg #[.int .i64 36, .slice (some ⟨b, off, none⟩) 2 c]] W fun e w' => e = .returned (.bool (tKis x [10] && tWhole y)) ∧ Below W.heap.size W w' := by
  have Hin := Lib.hid (show inB 36 21 37 = true by decide)
  have Har := Lib.hid (show arity 36 = 2 by decide)
  have HT := Lib.hid hT
  have Hc := Lib.hid hc
  clear hT hc
  have H1 := Lib.hid (Hx.box (Hx.nil (Below.refl W.heap.size W)) #[.int .i64 36, .slice (some ⟨b, off, none⟩) 2 c] 25)
  have Hs := Lib.hid hs
  have Hw := Lib.hid hw
  clear hs hw
  go_enter Tryd.func6, Tryd.ntmps6
  go_wp2_with fail
  refine wp_region_vals (R := Hx W [(W.heap.size, #[.int .i64 36, .slice (some ⟨b, off, none⟩) 2 c])]) (aa := ?aa16) [(6, .pointer (some ⟨W.heap.size, 0, none⟩)), (7, .int .i64 36), (8, .bool true), (9, .bool false), (10, .bool false), (11, .pointer (some ⟨W.heap.size, 1, none⟩)), (12, .slice (some ⟨b, off, none⟩) 2 c), (13, .int .i64 2), (14, .pointer (some ⟨W.heap.size, 0, none⟩)), (15, .int .i64 36), (16, .int .i64 2), (17, .bool false), (18, .bool false)] ?hL16 (by kernel_rfl) ?hv16 ?hD16 ?hR16 ?hdo16 ?fin16
  case hL16 =>
    simp only [putD, Act.put]
    go_simp
    rfl
  case hv16 => kernel_rfl
  case hD16 => kernel_rfl
  case hdo16 =>
    intro i o ho
    match i, ho with
    | 0, ho =>
      cases ho
      refine .inl ⟨by kernel_rfl, fun w hR => ?_⟩
      first | (go_simp; done) | (go_simp; exact ⟨rfl, hR⟩)
    | 1, ho =>
      cases ho
      refine .inl ⟨by kernel_rfl, fun w hR => ?_⟩
      exact ow_hxf _ _ rfl hR (cs := #[.int .i64 36, .slice (some ⟨b, off, none⟩) 2 c]) (by simp) 0 (.int .i64 36) rfl rfl (by decide +kernel) ⟨rfl, hR⟩
    | 2, ho =>
      cases ho
      refine .inl ⟨by kernel_rfl, fun w hR => ?_⟩
      go_simp
      go_wp2_with fail
      refine (in_any 36 21 37 w).mono ?_
      rintro e w4 ⟨rfl, rfl⟩
      rw [Hin.out]
      exact ⟨rfl, hR⟩
    | 3, ho =>
      cases ho
      refine .inl ⟨by kernel_rfl, fun w hR => ?_⟩
      first | (go_simp; done) | (go_simp; exact ⟨rfl, hR⟩)
    | 4, ho =>
      cases ho
      refine .inl ⟨by kernel_rfl, fun w hR => ?_⟩
      first | (go_simp; done) | (go_simp; exact ⟨rfl, hR⟩)
    | 5, ho =>
      cases ho
      refine .inl ⟨by kernel_rfl, fun w hR => ?_⟩
      first | (go_simp; done) | (go_simp; exact ⟨rfl, hR⟩)
    | 6, ho =>
      cases ho
      refine .inl ⟨by kernel_rfl, fun w hR => ?_⟩
      exact ow_hxf _ _ rfl hR (cs := #[.int .i64 36, .slice (some ⟨b, off, none⟩) 2 c]) (by simp) 1 (.slice (some ⟨b, off, none⟩) 2 c) rfl rfl (by decide +kernel) ⟨rfl, hR⟩
    | 7, ho =>
      cases ho
      refine .inl ⟨by kernel_rfl, fun w hR => ?_⟩
      first | (go_simp; done) | (go_simp; exact ⟨rfl, hR⟩)
    | 8, ho =>
      cases ho
      refine .inl ⟨by kernel_rfl, fun w hR => ?_⟩
      first | (go_simp; done) | (go_simp; exact ⟨rfl, hR⟩)
    | 9, ho =>
      cases ho
      refine .inl ⟨by kernel_rfl, fun w hR => ?_⟩
      exact ow_hxf _ _ rfl hR (cs := #[.int .i64 36, .slice (some ⟨b, off, none⟩) 2 c]) (by simp) 0 (.int .i64 36) rfl rfl (by decide +kernel) ⟨rfl, hR⟩
    | 10, ho =>
      cases ho
      refine .inl ⟨by kernel_rfl, fun w hR => ?_⟩
      go_simp
      go_wp2_with fail
      refine (arity_any 36 w).mono ?_
      rintro e w4 ⟨rfl, h5⟩
      rw [Har.out]
      exact ⟨rfl, hR.below h5⟩
    | 11, ho =>
      cases ho
      refine .inl ⟨by kernel_rfl, fun w hR => ?_⟩
      first | (go_simp; done) | (go_simp; exact ⟨rfl, hR⟩)
    | 12, ho =>
      cases ho
      refine .inl ⟨by kernel_rfl, fun w hR => ?_⟩
      first | (go_simp; done) | (go_simp; exact ⟨rfl, hR⟩)
    | i + 13, ho => simp at ho
  case hR16 => exact H1.out.drew
  case fin16 =>
    intro w2 h2
    have H2 := Lib.hid h2
    clear h2 H1
    go_wp2_with fail
    refine wp_region_famD (π := Two) (aa := ?aa) (R := Rk W [(W.heap.size, #[.int .i64 36, .slice (some ⟨b, off, none⟩) 2 c])] #[.int .i64 x.1, .int .i64 x.2.1, .int .i64 x.2.2] #[.slice (some ⟨b, off + 3, none⟩) 1 (c - 1)]) ⟨0, 0⟩ (fun p => [(19, .pointer (some ⟨W.heap.size, 1, none⟩)), (20, .slice (some ⟨b, off, none⟩) 2 c), (21, .pointer (some ⟨b, off, none⟩)), (22, .agg #[.int .i64 x.1, .int .i64 x.2.1, .int .i64 x.2.2]), (23, .pointer (some ⟨W.heap.size, 1, none⟩)), (24, .slice (some ⟨b, off, none⟩) 2 c), (25, .slice (some ⟨b, off + 3, none⟩) 1 (c - 1)), (3, .pointer (some ⟨p.one, 0, none⟩)), (4, .pointer (some ⟨p.two, 0, none⟩))]) ?hL (by kernel_rfl) ?hv ?hk ?hR ?hdo ?fin
    case hL => intro p; simp only [putD, Act.put]; go_simp; rfl
    case hv => kernel_rfl
    case hk => kernel_rfl
    case hR => exact Rk.init H2.out.drew
    case hdo =>
      intro i o ho
      match i, ho with
      | 0, ho =>
        cases ho
        intro p listed w hs hi hd hR
        refine does_gen (fun K hK => ?_); go_simp; exact hK _ _ ⟨p, fun t h => rfl, fun t h => by cases h; rfl, hR.pure 0 (by decide)⟩
      | 1, ho =>
        cases ho
        intro p listed w hs hi hd hR
        exact ow_hxf _ _ rfl hR.1 (cs := #[.int .i64 36, .slice (some ⟨b, off, none⟩) 2 c]) (by simp) 1 (.slice (some ⟨b, off, none⟩) 2 c) rfl rfl (by decide +kernel) ⟨_, rfl, p, fun t h => rfl, fun t h => by cases h; rfl, hR.pure 1 (by decide)⟩
      | 2, ho =>
        cases ho
        intro p listed w hs hi hd hR
        refine does_gen (fun K hK => ?_); go_simp; exact hK _ _ ⟨p, fun t h => rfl, fun t h => by cases h; rfl, hR.pure 2 (by decide)⟩
      | 3, ho =>
        cases ho
        intro p listed w hs hi hd hR
        obtain ⟨d0, d1, d2⟩ := (HT.out.below hR.1.1).at0
        refine does_gen (fun K hK => ?_); go_simp; exact hK _ _ ⟨p, fun t h => rfl, fun t h => by cases h; rfl, hR.pure 3 (by decide)⟩
      | 4, ho =>
        cases ho
        intro p listed w hs hi hd hR
        refine does_gen (fun K hK => ?_); go_simp; exact hK _ _ ⟨p, fun t h => rfl, fun t h => by cases h; rfl, hR.pure 4 (by decide)⟩
      | 5, ho =>
        cases ho
        intro p listed w hs hi hd hR
        exact ow_hxf _ _ rfl hR.1 (cs := #[.int .i64 36, .slice (some ⟨b, off, none⟩) 2 c]) (by simp) 1 (.slice (some ⟨b, off, none⟩) 2 c) rfl rfl (by decide +kernel) ⟨_, rfl, p, fun t h => rfl, fun t h => by cases h; rfl, hR.pure 5 (by decide)⟩
      | 6, ho =>
        cases ho
        intro p listed w hs hi hd hR
        refine does_gen (fun K hK => ?_)
        have hc1 := Hc.out
        go_simp
        rw [if_neg (by omega : ¬ c = 1)]
        exact hK _ _ ⟨p, fun t h => rfl, fun t h => by cases h; rfl, hR.pure 6 (by decide)⟩
      | 7, ho =>
        cases ho
        intro p listed w hs hi hd hR
        exact ow_alloc _ (.agg #[.int .i64 0, .int .i64 0, .int .i64 0]) rfl (by kernel_rfl) ⟨_, rfl, fam_put 3 ⟨w.heap.size, p.two⟩ rfl (Nat.lt_of_lt_of_eq (by decide : 3 < 128) rfl) (hR.new1 hs hi _ rfl)⟩
      | 8, ho =>
        cases ho
        intro p listed w hs hi hd hR
        exact ow_alloc _ (.slice none 0 0) rfl (by kernel_rfl) ⟨_, rfl, fam_put 4 ⟨p.one, w.heap.size⟩ rfl (Nat.lt_of_lt_of_eq (by decide : 4 < 128) rfl) (hR.new2 hs hi _ rfl)⟩
      | 9, ho =>
        cases ho
        intro p listed w hs hi hd hR
        have h7 : listed.getD 7 false = true := hd ⟨7, .data⟩ (by simp) rfl
        have h9 : listed.getD 9 false = false := getD_tf hi
        have a3 := (hR.2.1 h7).2.2
        rw [h9, if_neg (by decide)] at a3
        exact ow_fill _ _ _ rfl a3 (.agg #[.int .i64 x.1, .int .i64 x.2.1, .int .i64 x.2.2]) rfl rfl (one3 x) 3 rfl rfl (by kernel_rfl) fun w1 e1 e2 e3 => ⟨_, rfl, p, fun t h => rfl, (fun t h => by cases h), hR.fill1 hs h7 e1 e2 e3⟩
      | 10, ho =>
        cases ho
        intro p listed w hs hi hd hR
        have h8 : listed.getD 8 false = true := hd ⟨8, .data⟩ (by simp) rfl
        have h10 : listed.getD 10 false = false := getD_tf hi
        have a3 := (hR.2.2.1 h8).2.2
        rw [h10, if_neg (by decide)] at a3
        exact ow_fill _ _ _ rfl a3 (.slice (some ⟨b, off + 3, none⟩) 1 (c - 1)) rfl rfl (oneS _ _ _) 1 rfl rfl (by kernel_rfl) fun w1 e1 e2 e3 => ⟨_, rfl, p, fun t h => rfl, (fun t h => by cases h), hR.fill2 hs h8 e1 e2 e3⟩
      | i + 11, ho => simp at ho
    case fin =>
      intro p listed w3 hall hR
      have H3 := Lib.hid (hR.fin hall)
      clear hR hall H2
      cases hb : tKis x [10] with
      | false =>
        have Hb3 := Lib.hid hb
        clear hb
        have T3 := Lib.hid (HT.out.below H3.out.1)
        have S3 := Lib.hid (Hs.out.below H3.out.1)
        have W3 := Lib.hid (Hw.out.below H3.out.1)
        have c0 := H3.out.cell (g := W.heap.size) (cs := #[.int .i64 36, .slice (some ⟨b, off, none⟩) 2 c]) (by simp) 0 rfl
        have a0 := H3.out.cell (g := p.one) (cs := #[.int .i64 x.1, .int .i64 x.2.1, .int .i64 x.2.2]) (by simp) 0 rfl
        have a1 := H3.out.cell (g := p.one) (cs := #[.int .i64 x.1, .int .i64 x.2.1, .int .i64 x.2.2]) (by simp) 1 rfl
        have a2 := H3.out.cell (g := p.one) (cs := #[.int .i64 x.1, .int .i64 x.2.1, .int .i64 x.2.2]) (by simp) 2 rfl
        have r0 := H3.out.cell (g := p.two) (cs := #[.slice (some ⟨b, off + 3, none⟩) 1 (c - 1)]) (by simp) 0 rfl
        go_wp2_with fail
        refine (kindIs_any x.1 x.2.1 x.2.2 _ 0 [10] _ (by decide) (rowOf [10] _ rfl (heap_alloc_new _ _)) (S3.out.alloc _) (W3.out.alloc _)).mono ?_
        rw [show kis x.1 x.2.1 x.2.2 [10] = false from Hb3.out]
        rintro e w4 ⟨rfl, h⟩
        have H4 := Lib.hid ((H3.out.alloc _).below h)
        clear h H3 c0 a0 a1 a2 r0
        go_wp2_with fail
        go_ret
        exact ⟨kit.ret_bool (by rw [Hb3.out]; try rfl), H4.out.1⟩
      | true =>
        have Hb3 := Lib.hid hb
        clear hb
        have T3 := Lib.hid (HT.out.below H3.out.1)
        have S3 := Lib.hid (Hs.out.below H3.out.1)
        have W3 := Lib.hid (Hw.out.below H3.out.1)
        have c0 := H3.out.cell (g := W.heap.size) (cs := #[.int .i64 36, .slice (some ⟨b, off, none⟩) 2 c]) (by simp) 0 rfl
        have a0 := H3.out.cell (g := p.one) (cs := #[.int .i64 x.1, .int .i64 x.2.1, .int .i64 x.2.2]) (by simp) 0 rfl
        have a1 := H3.out.cell (g := p.one) (cs := #[.int .i64 x.1, .int .i64 x.2.1, .int .i64 x.2.2]) (by simp) 1 rfl
        have a2 := H3.out.cell (g := p.one) (cs := #[.int .i64 x.1, .int .i64 x.2.1, .int .i64 x.2.2]) (by simp) 2 rfl
        have r0 := H3.out.cell (g := p.two) (cs := #[.slice (some ⟨b, off + 3, none⟩) 1 (c - 1)]) (by simp) 0 rfl
        go_wp2_with fail
        refine (kindIs_any x.1 x.2.1 x.2.2 _ 0 [10] _ (by decide) (rowOf [10] _ rfl (heap_alloc_new _ _)) (S3.out.alloc _) (W3.out.alloc _)).mono ?_
        rw [show kis x.1 x.2.1 x.2.2 [10] = true from Hb3.out]
        rintro e w4 ⟨rfl, h⟩
        have H4 := Lib.hid ((H3.out.alloc _).below h)
        clear h H3 c0 a0 a1 a2 r0
        cases hb : tWhole y with
        | false =>
          have Hb4 := Lib.hid hb
          clear hb
          have T4 := Lib.hid (HT.out.below H4.out.1)
          have S4 := Lib.hid (Hs.out.below H4.out.1)
          have W4 := Lib.hid (Hw.out.below H4.out.1)
          have c0 := H4.out.cell (g := W.heap.size) (cs := #[.int .i64 36, .slice (some ⟨b, off, none⟩) 2 c]) (by simp) 0 rfl
          have a0 := H4.out.cell (g := p.one) (cs := #[.int .i64 x.1, .int .i64 x.2.1, .int .i64 x.2.2]) (by simp) 0 rfl
          have a1 := H4.out.cell (g := p.one) (cs := #[.int .i64 x.1, .int .i64 x.2.1, .int .i64 x.2.2]) (by simp) 1 rfl
          have a2 := H4.out.cell (g := p.one) (cs := #[.int .i64 x.1, .int .i64 x.2.1, .int .i64 x.2.2]) (by simp) 2 rfl
          have r0 := H4.out.cell (g := p.two) (cs := #[.slice (some ⟨b, off + 3, none⟩) 1 (c - 1)]) (by simp) 0 rfl
          obtain ⟨y0, y1, y2⟩ := T4.out.at1
          go_wp2_with fail
          refine (impl_isWhole y.1 y.2.1 y.2.2 _ S4.out W4.out).mono ?_
          rw [show isWhole y.1 y.2.1 y.2.2 = false from Hb4.out]
          rintro e w5 ⟨rfl, h⟩
          have H5 := Lib.hid ((H4.out).below h)
          clear h H4 c0 a0 a1 a2 r0 y0 y1 y2
          go_wp2_with fail
          go_ret
          exact ⟨kit.ret_bool (by rw [Hb3.out, Hb4.out]; try rfl), H5.out.1⟩
        | true =>
          have Hb4 := Lib.hid hb
          clear hb
          have T4 := Lib.hid (HT.out.below H4.out.1)
          have S4 := Lib.hid (Hs.out.below H4.out.1)
          have W4 := Lib.hid (Hw.out.below H4.out.1)
          have c0 := H4.out.cell (g := W.heap.size) (cs := #[.int .i64 36, .slice (some ⟨b, off, none⟩) 2 c]) (by simp) 0 rfl
          have a0 := H4.out.cell (g := p.one) (cs := #[.int .i64 x.1, .int .i64 x.2.1, .int .i64 x.2.2]) (by simp) 0 rfl
          have a1 := H4.out.cell (g := p.one) (cs := #[.int .i64 x.1, .int .i64 x.2.1, .int .i64 x.2.2]) (by simp) 1 rfl
          have a2 := H4.out.cell (g := p.one) (cs := #[.int .i64 x.1, .int .i64 x.2.1, .int .i64 x.2.2]) (by simp) 2 rfl
          have r0 := H4.out.cell (g := p.two) (cs := #[.slice (some ⟨b, off + 3, none⟩) 1 (c - 1)]) (by simp) 0 rfl
          obtain ⟨y0, y1, y2⟩ := T4.out.at1
          go_wp2_with fail
          refine (impl_isWhole y.1 y.2.1 y.2.2 _ S4.out W4.out).mono ?_
          rw [show isWhole y.1 y.2.1 y.2.2 = true from Hb4.out]
          rintro e w5 ⟨rfl, h⟩
          have H5 := Lib.hid ((H4.out).below h)
          clear h H4 c0 a0 a1 a2 r0 y0 y1 y2
          go_wp2_with fail
          go_ret
          exact ⟨kit.ret_bool (by rw [Hb3.out, Hb4.out]; try rfl), H5.out.1⟩
set_option maxHeartbeats 8000000 in
theorem coil_37 (x y : Tri) (b off c : Nat) (W : World) (hT : Trip W b off [x, y]) (hc : 2 ≤ c) (hs : Sizes W) (hw : Words W) :
    Calls Tryd.prog 6 #[.agg #[.int .i64 37, .slice (some ⟨b, off, none⟩) 2 c]] W fun e w' => e = .returned (.bool (tKis x [9] && tReal y)) ∧ Below W.heap.size W w' := by
  have Hin := Lib.hid (show inB 37 21 37 = true by decide)
  have Har := Lib.hid (show arity 37 = 2 by decide)
  have HT := Lib.hid hT
  have Hc := Lib.hid hc
  clear hT hc
  have H1 := Lib.hid (Hx.box (Hx.nil (Below.refl W.heap.size W)) #[.int .i64 37, .slice (some ⟨b, off, none⟩) 2 c] 25)
  have Hs := Lib.hid hs
  have Hw := Lib.hid hw
  clear hs hw
  go_enter Tryd.func6, Tryd.ntmps6
  go_wp2_with fail
  refine wp_region_vals (R := Hx W [(W.heap.size, #[.int .i64 37, .slice (some ⟨b, off, none⟩) 2 c])]) (aa := ?aa17) [(6, .pointer (some ⟨W.heap.size, 0, none⟩)), (7, .int .i64 37), (8, .bool true), (9, .bool false), (10, .bool false), (11, .pointer (some ⟨W.heap.size, 1, none⟩)), (12, .slice (some ⟨b, off, none⟩) 2 c), (13, .int .i64 2), (14, .pointer (some ⟨W.heap.size, 0, none⟩)), (15, .int .i64 37), (16, .int .i64 2), (17, .bool false), (18, .bool false)] ?hL17 (by kernel_rfl) ?hv17 ?hD17 ?hR17 ?hdo17 ?fin17
  case hL17 =>
    simp only [putD, Act.put]
    go_simp
    rfl
  case hv17 => kernel_rfl
  case hD17 => kernel_rfl
  case hdo17 =>
    intro i o ho
    match i, ho with
    | 0, ho =>
      cases ho
      refine .inl ⟨by kernel_rfl, fun w hR => ?_⟩
      first | (go_simp; done) | (go_simp; exact ⟨rfl, hR⟩)
    | 1, ho =>
      cases ho
      refine .inl ⟨by kernel_rfl, fun w hR => ?_⟩
      exact ow_hxf _ _ rfl hR (cs := #[.int .i64 37, .slice (some ⟨b, off, none⟩) 2 c]) (by simp) 0 (.int .i64 37) rfl rfl (by decide +kernel) ⟨rfl, hR⟩
    | 2, ho =>
      cases ho
      refine .inl ⟨by kernel_rfl, fun w hR => ?_⟩
      go_simp
      go_wp2_with fail
      refine (in_any 37 21 37 w).mono ?_
      rintro e w4 ⟨rfl, rfl⟩
      rw [Hin.out]
      exact ⟨rfl, hR⟩
    | 3, ho =>
      cases ho
      refine .inl ⟨by kernel_rfl, fun w hR => ?_⟩
      first | (go_simp; done) | (go_simp; exact ⟨rfl, hR⟩)
    | 4, ho =>
      cases ho
      refine .inl ⟨by kernel_rfl, fun w hR => ?_⟩
      first | (go_simp; done) | (go_simp; exact ⟨rfl, hR⟩)
    | 5, ho =>
      cases ho
      refine .inl ⟨by kernel_rfl, fun w hR => ?_⟩
      first | (go_simp; done) | (go_simp; exact ⟨rfl, hR⟩)
    | 6, ho =>
      cases ho
      refine .inl ⟨by kernel_rfl, fun w hR => ?_⟩
      exact ow_hxf _ _ rfl hR (cs := #[.int .i64 37, .slice (some ⟨b, off, none⟩) 2 c]) (by simp) 1 (.slice (some ⟨b, off, none⟩) 2 c) rfl rfl (by decide +kernel) ⟨rfl, hR⟩
    | 7, ho =>
      cases ho
      refine .inl ⟨by kernel_rfl, fun w hR => ?_⟩
      first | (go_simp; done) | (go_simp; exact ⟨rfl, hR⟩)
    | 8, ho =>
      cases ho
      refine .inl ⟨by kernel_rfl, fun w hR => ?_⟩
      first | (go_simp; done) | (go_simp; exact ⟨rfl, hR⟩)
    | 9, ho =>
      cases ho
      refine .inl ⟨by kernel_rfl, fun w hR => ?_⟩
      exact ow_hxf _ _ rfl hR (cs := #[.int .i64 37, .slice (some ⟨b, off, none⟩) 2 c]) (by simp) 0 (.int .i64 37) rfl rfl (by decide +kernel) ⟨rfl, hR⟩
    | 10, ho =>
      cases ho
      refine .inl ⟨by kernel_rfl, fun w hR => ?_⟩
      go_simp
      go_wp2_with fail
      refine (arity_any 37 w).mono ?_
      rintro e w4 ⟨rfl, h5⟩
      rw [Har.out]
      exact ⟨rfl, hR.below h5⟩
    | 11, ho =>
      cases ho
      refine .inl ⟨by kernel_rfl, fun w hR => ?_⟩
      first | (go_simp; done) | (go_simp; exact ⟨rfl, hR⟩)
    | 12, ho =>
      cases ho
      refine .inl ⟨by kernel_rfl, fun w hR => ?_⟩
      first | (go_simp; done) | (go_simp; exact ⟨rfl, hR⟩)
    | i + 13, ho => simp at ho
  case hR17 => exact H1.out.drew
  case fin17 =>
    intro w2 h2
    have H2 := Lib.hid h2
    clear h2 H1
    go_wp2_with fail
    refine wp_region_famD (π := Two) (aa := ?aa) (R := Rk W [(W.heap.size, #[.int .i64 37, .slice (some ⟨b, off, none⟩) 2 c])] #[.int .i64 x.1, .int .i64 x.2.1, .int .i64 x.2.2] #[.slice (some ⟨b, off + 3, none⟩) 1 (c - 1)]) ⟨0, 0⟩ (fun p => [(19, .pointer (some ⟨W.heap.size, 1, none⟩)), (20, .slice (some ⟨b, off, none⟩) 2 c), (21, .pointer (some ⟨b, off, none⟩)), (22, .agg #[.int .i64 x.1, .int .i64 x.2.1, .int .i64 x.2.2]), (23, .pointer (some ⟨W.heap.size, 1, none⟩)), (24, .slice (some ⟨b, off, none⟩) 2 c), (25, .slice (some ⟨b, off + 3, none⟩) 1 (c - 1)), (3, .pointer (some ⟨p.one, 0, none⟩)), (4, .pointer (some ⟨p.two, 0, none⟩))]) ?hL (by kernel_rfl) ?hv ?hk ?hR ?hdo ?fin
    case hL => intro p; simp only [putD, Act.put]; go_simp; rfl
    case hv => kernel_rfl
    case hk => kernel_rfl
    case hR => exact Rk.init H2.out.drew
    case hdo =>
      intro i o ho
      match i, ho with
      | 0, ho =>
        cases ho
        intro p listed w hs hi hd hR
        refine does_gen (fun K hK => ?_); go_simp; exact hK _ _ ⟨p, fun t h => rfl, fun t h => by cases h; rfl, hR.pure 0 (by decide)⟩
      | 1, ho =>
        cases ho
        intro p listed w hs hi hd hR
        exact ow_hxf _ _ rfl hR.1 (cs := #[.int .i64 37, .slice (some ⟨b, off, none⟩) 2 c]) (by simp) 1 (.slice (some ⟨b, off, none⟩) 2 c) rfl rfl (by decide +kernel) ⟨_, rfl, p, fun t h => rfl, fun t h => by cases h; rfl, hR.pure 1 (by decide)⟩
      | 2, ho =>
        cases ho
        intro p listed w hs hi hd hR
        refine does_gen (fun K hK => ?_); go_simp; exact hK _ _ ⟨p, fun t h => rfl, fun t h => by cases h; rfl, hR.pure 2 (by decide)⟩
      | 3, ho =>
        cases ho
        intro p listed w hs hi hd hR
        obtain ⟨d0, d1, d2⟩ := (HT.out.below hR.1.1).at0
        refine does_gen (fun K hK => ?_); go_simp; exact hK _ _ ⟨p, fun t h => rfl, fun t h => by cases h; rfl, hR.pure 3 (by decide)⟩
      | 4, ho =>
        cases ho
        intro p listed w hs hi hd hR
        refine does_gen (fun K hK => ?_); go_simp; exact hK _ _ ⟨p, fun t h => rfl, fun t h => by cases h; rfl, hR.pure 4 (by decide)⟩
      | 5, ho =>
        cases ho
        intro p listed w hs hi hd hR
        exact ow_hxf _ _ rfl hR.1 (cs := #[.int .i64 37, .slice (some ⟨b, off, none⟩) 2 c]) (by simp) 1 (.slice (some ⟨b, off, none⟩) 2 c) rfl rfl (by decide +kernel) ⟨_, rfl, p, fun t h => rfl, fun t h => by cases h; rfl, hR.pure 5 (by decide)⟩
      | 6, ho =>
        cases ho
        intro p listed w hs hi hd hR
        refine does_gen (fun K hK => ?_)
        have hc1 := Hc.out
        go_simp
        rw [if_neg (by omega : ¬ c = 1)]
        exact hK _ _ ⟨p, fun t h => rfl, fun t h => by cases h; rfl, hR.pure 6 (by decide)⟩
      | 7, ho =>
        cases ho
        intro p listed w hs hi hd hR
        exact ow_alloc _ (.agg #[.int .i64 0, .int .i64 0, .int .i64 0]) rfl (by kernel_rfl) ⟨_, rfl, fam_put 3 ⟨w.heap.size, p.two⟩ rfl (Nat.lt_of_lt_of_eq (by decide : 3 < 128) rfl) (hR.new1 hs hi _ rfl)⟩
      | 8, ho =>
        cases ho
        intro p listed w hs hi hd hR
        exact ow_alloc _ (.slice none 0 0) rfl (by kernel_rfl) ⟨_, rfl, fam_put 4 ⟨p.one, w.heap.size⟩ rfl (Nat.lt_of_lt_of_eq (by decide : 4 < 128) rfl) (hR.new2 hs hi _ rfl)⟩
      | 9, ho =>
        cases ho
        intro p listed w hs hi hd hR
        have h7 : listed.getD 7 false = true := hd ⟨7, .data⟩ (by simp) rfl
        have h9 : listed.getD 9 false = false := getD_tf hi
        have a3 := (hR.2.1 h7).2.2
        rw [h9, if_neg (by decide)] at a3
        exact ow_fill _ _ _ rfl a3 (.agg #[.int .i64 x.1, .int .i64 x.2.1, .int .i64 x.2.2]) rfl rfl (one3 x) 3 rfl rfl (by kernel_rfl) fun w1 e1 e2 e3 => ⟨_, rfl, p, fun t h => rfl, (fun t h => by cases h), hR.fill1 hs h7 e1 e2 e3⟩
      | 10, ho =>
        cases ho
        intro p listed w hs hi hd hR
        have h8 : listed.getD 8 false = true := hd ⟨8, .data⟩ (by simp) rfl
        have h10 : listed.getD 10 false = false := getD_tf hi
        have a3 := (hR.2.2.1 h8).2.2
        rw [h10, if_neg (by decide)] at a3
        exact ow_fill _ _ _ rfl a3 (.slice (some ⟨b, off + 3, none⟩) 1 (c - 1)) rfl rfl (oneS _ _ _) 1 rfl rfl (by kernel_rfl) fun w1 e1 e2 e3 => ⟨_, rfl, p, fun t h => rfl, (fun t h => by cases h), hR.fill2 hs h8 e1 e2 e3⟩
      | i + 11, ho => simp at ho
    case fin =>
      intro p listed w3 hall hR
      have H3 := Lib.hid (hR.fin hall)
      clear hR hall H2
      cases hb : tKis x [9] with
      | false =>
        have Hb3 := Lib.hid hb
        clear hb
        have T3 := Lib.hid (HT.out.below H3.out.1)
        have S3 := Lib.hid (Hs.out.below H3.out.1)
        have W3 := Lib.hid (Hw.out.below H3.out.1)
        have c0 := H3.out.cell (g := W.heap.size) (cs := #[.int .i64 37, .slice (some ⟨b, off, none⟩) 2 c]) (by simp) 0 rfl
        have a0 := H3.out.cell (g := p.one) (cs := #[.int .i64 x.1, .int .i64 x.2.1, .int .i64 x.2.2]) (by simp) 0 rfl
        have a1 := H3.out.cell (g := p.one) (cs := #[.int .i64 x.1, .int .i64 x.2.1, .int .i64 x.2.2]) (by simp) 1 rfl
        have a2 := H3.out.cell (g := p.one) (cs := #[.int .i64 x.1, .int .i64 x.2.1, .int .i64 x.2.2]) (by simp) 2 rfl
        have r0 := H3.out.cell (g := p.two) (cs := #[.slice (some ⟨b, off + 3, none⟩) 1 (c - 1)]) (by simp) 0 rfl
        go_wp2_with fail
        refine (kindIs_any x.1 x.2.1 x.2.2 _ 0 [9] _ (by decide) (rowOf [9] _ rfl (heap_alloc_new _ _)) (S3.out.alloc _) (W3.out.alloc _)).mono ?_
        rw [show kis x.1 x.2.1 x.2.2 [9] = false from Hb3.out]
        rintro e w4 ⟨rfl, h⟩
        have H4 := Lib.hid ((H3.out.alloc _).below h)
        clear h H3 c0 a0 a1 a2 r0
        go_wp2_with fail
        go_ret
        exact ⟨kit.ret_bool (by rw [Hb3.out]; try rfl), H4.out.1⟩
      | true =>
        have Hb3 := Lib.hid hb
        clear hb
        have T3 := Lib.hid (HT.out.below H3.out.1)
        have S3 := Lib.hid (Hs.out.below H3.out.1)
        have W3 := Lib.hid (Hw.out.below H3.out.1)
        have c0 := H3.out.cell (g := W.heap.size) (cs := #[.int .i64 37, .slice (some ⟨b, off, none⟩) 2 c]) (by simp) 0 rfl
        have a0 := H3.out.cell (g := p.one) (cs := #[.int .i64 x.1, .int .i64 x.2.1, .int .i64 x.2.2]) (by simp) 0 rfl
        have a1 := H3.out.cell (g := p.one) (cs := #[.int .i64 x.1, .int .i64 x.2.1, .int .i64 x.2.2]) (by simp) 1 rfl
        have a2 := H3.out.cell (g := p.one) (cs := #[.int .i64 x.1, .int .i64 x.2.1, .int .i64 x.2.2]) (by simp) 2 rfl
        have r0 := H3.out.cell (g := p.two) (cs := #[.slice (some ⟨b, off + 3, none⟩) 1 (c - 1)]) (by simp) 0 rfl
        go_wp2_with fail
        refine (kindIs_any x.1 x.2.1 x.2.2 _ 0 [9] _ (by decide) (rowOf [9] _ rfl (heap_alloc_new _ _)) (S3.out.alloc _) (W3.out.alloc _)).mono ?_
        rw [show kis x.1 x.2.1 x.2.2 [9] = true from Hb3.out]
        rintro e w4 ⟨rfl, h⟩
        have H4 := Lib.hid ((H3.out.alloc _).below h)
        clear h H3 c0 a0 a1 a2 r0
        cases hb : tReal y with
        | false =>
          have Hb4 := Lib.hid hb
          clear hb
          have T4 := Lib.hid (HT.out.below H4.out.1)
          have S4 := Lib.hid (Hs.out.below H4.out.1)
          have W4 := Lib.hid (Hw.out.below H4.out.1)
          have c0 := H4.out.cell (g := W.heap.size) (cs := #[.int .i64 37, .slice (some ⟨b, off, none⟩) 2 c]) (by simp) 0 rfl
          have a0 := H4.out.cell (g := p.one) (cs := #[.int .i64 x.1, .int .i64 x.2.1, .int .i64 x.2.2]) (by simp) 0 rfl
          have a1 := H4.out.cell (g := p.one) (cs := #[.int .i64 x.1, .int .i64 x.2.1, .int .i64 x.2.2]) (by simp) 1 rfl
          have a2 := H4.out.cell (g := p.one) (cs := #[.int .i64 x.1, .int .i64 x.2.1, .int .i64 x.2.2]) (by simp) 2 rfl
          have r0 := H4.out.cell (g := p.two) (cs := #[.slice (some ⟨b, off + 3, none⟩) 1 (c - 1)]) (by simp) 0 rfl
          obtain ⟨y0, y1, y2⟩ := T4.out.at1
          go_wp2_with fail
          refine (impl_isReal y.1 y.2.1 y.2.2 _ S4.out W4.out).mono ?_
          rw [show isReal y.1 y.2.1 y.2.2 = false from Hb4.out]
          rintro e w5 ⟨rfl, h⟩
          have H5 := Lib.hid ((H4.out).below h)
          clear h H4 c0 a0 a1 a2 r0 y0 y1 y2
          go_wp2_with fail
          go_ret
          exact ⟨kit.ret_bool (by rw [Hb3.out, Hb4.out]; try rfl), H5.out.1⟩
        | true =>
          have Hb4 := Lib.hid hb
          clear hb
          have T4 := Lib.hid (HT.out.below H4.out.1)
          have S4 := Lib.hid (Hs.out.below H4.out.1)
          have W4 := Lib.hid (Hw.out.below H4.out.1)
          have c0 := H4.out.cell (g := W.heap.size) (cs := #[.int .i64 37, .slice (some ⟨b, off, none⟩) 2 c]) (by simp) 0 rfl
          have a0 := H4.out.cell (g := p.one) (cs := #[.int .i64 x.1, .int .i64 x.2.1, .int .i64 x.2.2]) (by simp) 0 rfl
          have a1 := H4.out.cell (g := p.one) (cs := #[.int .i64 x.1, .int .i64 x.2.1, .int .i64 x.2.2]) (by simp) 1 rfl
          have a2 := H4.out.cell (g := p.one) (cs := #[.int .i64 x.1, .int .i64 x.2.1, .int .i64 x.2.2]) (by simp) 2 rfl
          have r0 := H4.out.cell (g := p.two) (cs := #[.slice (some ⟨b, off + 3, none⟩) 1 (c - 1)]) (by simp) 0 rfl
          obtain ⟨y0, y1, y2⟩ := T4.out.at1
          go_wp2_with fail
          refine (impl_isReal y.1 y.2.1 y.2.2 _ S4.out W4.out).mono ?_
          rw [show isReal y.1 y.2.1 y.2.2 = true from Hb4.out]
          rintro e w5 ⟨rfl, h⟩
          have H5 := Lib.hid ((H4.out).below h)
          clear h H4 c0 a0 a1 a2 r0 y0 y1 y2
          go_wp2_with fail
          go_ret
          exact ⟨kit.ret_bool (by rw [Hb3.out, Hb4.out]; try rfl), H5.out.1⟩
end Go.Proofs.YtgmdpgchffapoaaDoor.dev
