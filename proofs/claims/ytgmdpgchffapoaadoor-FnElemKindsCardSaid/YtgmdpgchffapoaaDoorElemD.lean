/-
  'impl.ElemIsContact': what it returns.
  Conditions: the operands' cells hold them; the variables 'devSizes', 'devWords' hold what they are laid with.
-/
import Derived.Test.YtgmdpgchffapoaaDoorElemC
namespace Go.Proofs.YtgmdpgchffapoaaDoor.dev
open Go Go.RowKit Go.Proofs.YtgmdpgchffapoaaDoor.part
set_option linter.unusedVariables false
set_option linter.unusedSimpArgs false

theorem rowFive {w : World} {B : Nat} {t : TypeId} (h : w.heap[B]? = some (.cells #[.int .i64 5] t (0, 0))) : Row w B 0 [5] := by
  intro j hj
  rw [Nat.zero_add, cell_of_row w B j _ _ _ h]
  match j, hj with
  | 0, _ => rfl
theorem contact_1 (x : Tri) (A : Option Addr) (c : Nat) (W : World) (b off : Nat) (hA : A = some ⟨b, off, none⟩) (hT : Trip W b off [x]) (hs : Sizes W) (hw : Words W) :
    Calls Tryd.prog 5 #[.agg #[.int .i64 1, .slice A 1 c]] W fun e w' => e = .returned (.bool (tBit x)) ∧ Below W.heap.size W w' := by
  have Hin := Lib.hid (show inB 1 1 10 = true by decide)
  have Har := Lib.hid (show arity 1 = 1 by decide)
  have HA := Lib.hid hA
  have HT := Lib.hid hT
  clear hA hT
  have H1 := Lib.hid (Hx.box (Hx.nil (Below.refl W.heap.size W)) #[.int .i64 1, .slice A 1 c] 25)
  have Hs := Lib.hid hs
  have Hw := Lib.hid hw
  clear hs hw
  go_enter Tryd.func5, Tryd.ntmps5
  go_wp2_with fail
  refine wp_region_vals (R := Hx W [(W.heap.size, #[.int .i64 1, .slice A 1 c])]) (aa := ?aa3) [(3, .pointer (some ⟨W.heap.size, 0, none⟩)), (4, .int .i64 1), (5, .bool true), (6, .bool false), (7, .bool false), (8, .pointer (some ⟨W.heap.size, 1, none⟩)), (9, .slice A 1 c), (10, .int .i64 1), (11, .pointer (some ⟨W.heap.size, 0, none⟩)), (12, .int .i64 1), (13, .int .i64 1), (14, .bool false), (15, .bool false)] ?hL3 (by kernel_rfl) ?hv3 ?hD3 ?hR3 ?hdo3 ?fin3
  case hL3 =>
    simp only [putD, Act.put]
    go_simp
    rfl
  case hv3 => kernel_rfl
  case hD3 => kernel_rfl
  case hdo3 =>
    intro i o ho
    match i, ho with
    | 0, ho =>
      cases ho
      refine .inl ⟨by kernel_rfl, fun w hR => ?_⟩
      first | (go_simp; done) | (go_simp; exact ⟨rfl, hR⟩)
    | 1, ho =>
      cases ho
      refine .inl ⟨by kernel_rfl, fun w hR => ?_⟩
      exact ow_hxf _ _ rfl hR (cs := #[.int .i64 1, .slice A 1 c]) (by simp) 0 (.int .i64 1) rfl rfl (by decide +kernel) ⟨rfl, hR⟩
    | 2, ho =>
      cases ho
      refine .inl ⟨by kernel_rfl, fun w hR => ?_⟩
      go_simp
      go_wp2_with fail
      refine (in_any 1 1 10 w).mono ?_
      rintro e w4 ⟨rfl, rfl⟩
      rw [Hin.out]
      exact ⟨rfl, hR⟩
    | 3, ho =>
      cases ho
      refine .inl ⟨by kernel_rfl, fun w hR => ?_⟩
      first | (go_simp; done) | (go_simp; exact ⟨rfl, hR⟩)
    | 4, ho =>
      cases ho
      refine .inl ⟨by kernel_rfl, fun w hR => ?_⟩
      first | (go_simp; done) | (go_simp; exact ⟨rfl, hR⟩)
    | 5, ho =>
      cases ho
      refine .inl ⟨by kernel_rfl, fun w hR => ?_⟩
      first | (go_simp; done) | (go_simp; exact ⟨rfl, hR⟩)
    | 6, ho =>
      cases ho
      refine .inl ⟨by kernel_rfl, fun w hR => ?_⟩
      exact ow_hxf _ _ rfl hR (cs := #[.int .i64 1, .slice A 1 c]) (by simp) 1 (.slice A 1 c) rfl rfl (by decide +kernel) ⟨rfl, hR⟩
    | 7, ho =>
      cases ho
      refine .inl ⟨by kernel_rfl, fun w hR => ?_⟩
      first | (go_simp; done) | (go_simp; exact ⟨rfl, hR⟩)
    | 8, ho =>
      cases ho
      refine .inl ⟨by kernel_rfl, fun w hR => ?_⟩
      first | (go_simp; done) | (go_simp; exact ⟨rfl, hR⟩)
    | 9, ho =>
      cases ho
      refine .inl ⟨by kernel_rfl, fun w hR => ?_⟩
      exact ow_hxf _ _ rfl hR (cs := #[.int .i64 1, .slice A 1 c]) (by simp) 0 (.int .i64 1) rfl rfl (by decide +kernel) ⟨rfl, hR⟩
    | 10, ho =>
      cases ho
      refine .inl ⟨by kernel_rfl, fun w hR => ?_⟩
      go_simp
      go_wp2_with fail
      refine (arity_any 1 w).mono ?_
      rintro e w4 ⟨rfl, h5⟩
      rw [Har.out]
      exact ⟨rfl, hR.below h5⟩
    | 11, ho =>
      cases ho
      refine .inl ⟨by kernel_rfl, fun w hR => ?_⟩
      first | (go_simp; done) | (go_simp; exact ⟨rfl, hR⟩)
    | 12, ho =>
      cases ho
      refine .inl ⟨by kernel_rfl, fun w hR => ?_⟩
      first | (go_simp; done) | (go_simp; exact ⟨rfl, hR⟩)
    | i + 13, ho => simp at ho
  case hR3 => exact H1.out.drew
  case fin3 =>
    intro w2 h2
    have H2 := Lib.hid h2
    clear h2 H1
    have T2 := Lib.hid (HT.out.below H2.out.1)
    have S2 := Lib.hid (Hs.out.below H2.out.1)
    have W2 := Lib.hid (Hw.out.below H2.out.1)
    obtain rfl := HA.out
    have c0 := H2.out.cell (g := W.heap.size) (cs := #[.int .i64 1, .slice (some ⟨b, off, none⟩) 1 c]) (by simp) 0 rfl
    have c1 := H2.out.cell (g := W.heap.size) (cs := #[.int .i64 1, .slice (some ⟨b, off, none⟩) 1 c]) (by simp) 1 rfl
    obtain ⟨d0, d1, d2⟩ := T2.out.at0
    go_wp2_with fail
    refine (impl_isBit x.1 x.2.1 x.2.2 _ S2.out W2.out).mono ?_
    rintro e w3 ⟨rfl, h3⟩
    go_wp2_with fail
    go_ret
    exact ⟨rfl, (H2.out.below h3).1⟩
theorem contact_2 (x : Tri) (A : Option Addr) (c : Nat) (W : World) (b off : Nat) (hA : A = some ⟨b, off, none⟩) (hT : Trip W b off [x]) (hs : Sizes W) (hw : Words W) :
    Calls Tryd.prog 5 #[.agg #[.int .i64 2, .slice A 1 c]] W fun e w' => e = .returned (.bool (tBit x)) ∧ Below W.heap.size W w' := by
  have Hin := Lib.hid (show inB 2 1 10 = true by decide)
  have Har := Lib.hid (show arity 2 = 1 by decide)
  have HA := Lib.hid hA
  have HT := Lib.hid hT
  clear hA hT
  have H1 := Lib.hid (Hx.box (Hx.nil (Below.refl W.heap.size W)) #[.int .i64 2, .slice A 1 c] 25)
  have Hs := Lib.hid hs
  have Hw := Lib.hid hw
  clear hs hw
  go_enter Tryd.func5, Tryd.ntmps5
  go_wp2_with fail
  refine wp_region_vals (R := Hx W [(W.heap.size, #[.int .i64 2, .slice A 1 c])]) (aa := ?aa4) [(3, .pointer (some ⟨W.heap.size, 0, none⟩)), (4, .int .i64 2), (5, .bool true), (6, .bool false), (7, .bool false), (8, .pointer (some ⟨W.heap.size, 1, none⟩)), (9, .slice A 1 c), (10, .int .i64 1), (11, .pointer (some ⟨W.heap.size, 0, none⟩)), (12, .int .i64 2), (13, .int .i64 1), (14, .bool false), (15, .bool false)] ?hL4 (by kernel_rfl) ?hv4 ?hD4 ?hR4 ?hdo4 ?fin4
  case hL4 =>
    simp only [putD, Act.put]
    go_simp
    rfl
  case hv4 => kernel_rfl
  case hD4 => kernel_rfl
  case hdo4 =>
    intro i o ho
    match i, ho with
    | 0, ho =>
      cases ho
      refine .inl ⟨by kernel_rfl, fun w hR => ?_⟩
      first | (go_simp; done) | (go_simp; exact ⟨rfl, hR⟩)
    | 1, ho =>
      cases ho
      refine .inl ⟨by kernel_rfl, fun w hR => ?_⟩
      exact ow_hxf _ _ rfl hR (cs := #[.int .i64 2, .slice A 1 c]) (by simp) 0 (.int .i64 2) rfl rfl (by decide +kernel) ⟨rfl, hR⟩
    | 2, ho =>
      cases ho
      refine .inl ⟨by kernel_rfl, fun w hR => ?_⟩
      go_simp
      go_wp2_with fail
      refine (in_any 2 1 10 w).mono ?_
      rintro e w4 ⟨rfl, rfl⟩
      rw [Hin.out]
      exact ⟨rfl, hR⟩
    | 3, ho =>
      cases ho
      refine .inl ⟨by kernel_rfl, fun w hR => ?_⟩
      first | (go_simp; done) | (go_simp; exact ⟨rfl, hR⟩)
    | 4, ho =>
      cases ho
      refine .inl ⟨by kernel_rfl, fun w hR => ?_⟩
      first | (go_simp; done) | (go_simp; exact ⟨rfl, hR⟩)
    | 5, ho =>
      cases ho
      refine .inl ⟨by kernel_rfl, fun w hR => ?_⟩
      first | (go_simp; done) | (go_simp; exact ⟨rfl, hR⟩)
    | 6, ho =>
      cases ho
      refine .inl ⟨by kernel_rfl, fun w hR => ?_⟩
      exact ow_hxf _ _ rfl hR (cs := #[.int .i64 2, .slice A 1 c]) (by simp) 1 (.slice A 1 c) rfl rfl (by decide +kernel) ⟨rfl, hR⟩
    | 7, ho =>
      cases ho
      refine .inl ⟨by kernel_rfl, fun w hR => ?_⟩
      first | (go_simp; done) | (go_simp; exact ⟨rfl, hR⟩)
    | 8, ho =>
      cases ho
      refine .inl ⟨by kernel_rfl, fun w hR => ?_⟩
      first | (go_simp; done) | (go_simp; exact ⟨rfl, hR⟩)
    | 9, ho =>
      cases ho
      refine .inl ⟨by kernel_rfl, fun w hR => ?_⟩
      exact ow_hxf _ _ rfl hR (cs := #[.int .i64 2, .slice A 1 c]) (by simp) 0 (.int .i64 2) rfl rfl (by decide +kernel) ⟨rfl, hR⟩
    | 10, ho =>
      cases ho
      refine .inl ⟨by kernel_rfl, fun w hR => ?_⟩
      go_simp
      go_wp2_with fail
      refine (arity_any 2 w).mono ?_
      rintro e w4 ⟨rfl, h5⟩
      rw [Har.out]
      exact ⟨rfl, hR.below h5⟩
    | 11, ho =>
      cases ho
      refine .inl ⟨by kernel_rfl, fun w hR => ?_⟩
      first | (go_simp; done) | (go_simp; exact ⟨rfl, hR⟩)
    | 12, ho =>
      cases ho
      refine .inl ⟨by kernel_rfl, fun w hR => ?_⟩
      first | (go_simp; done) | (go_simp; exact ⟨rfl, hR⟩)
    | i + 13, ho => simp at ho
  case hR4 => exact H1.out.drew
  case fin4 =>
    intro w2 h2
    have H2 := Lib.hid h2
    clear h2 H1
    have T2 := Lib.hid (HT.out.below H2.out.1)
    have S2 := Lib.hid (Hs.out.below H2.out.1)
    have W2 := Lib.hid (Hw.out.below H2.out.1)
    obtain rfl := HA.out
    have c0 := H2.out.cell (g := W.heap.size) (cs := #[.int .i64 2, .slice (some ⟨b, off, none⟩) 1 c]) (by simp) 0 rfl
    have c1 := H2.out.cell (g := W.heap.size) (cs := #[.int .i64 2, .slice (some ⟨b, off, none⟩) 1 c]) (by simp) 1 rfl
    obtain ⟨d0, d1, d2⟩ := T2.out.at0
    go_wp2_with fail
    refine (impl_isBit x.1 x.2.1 x.2.2 _ S2.out W2.out).mono ?_
    rintro e w3 ⟨rfl, h3⟩
    go_wp2_with fail
    go_ret
    exact ⟨rfl, (H2.out.below h3).1⟩
theorem contact_3 (x y : Tri) (A : Option Addr) (c : Nat) (W : World) (b off : Nat) (hA : A = some ⟨b, off, none⟩) (hT : Trip W b off [x, y]) (hs : Sizes W) (hw : Words W) :
    Calls Tryd.prog 5 #[.agg #[.int .i64 3, .slice A 2 c]] W fun e w' => e = .returned (.bool (tBit x && tKis y [5])) ∧ Below W.heap.size W w' := by
  have Hin := Lib.hid (show inB 3 1 10 = true by decide)
  have Har := Lib.hid (show arity 3 = 2 by decide)
  have HA := Lib.hid hA
  have HT := Lib.hid hT
  clear hA hT
  have H1 := Lib.hid (Hx.box (Hx.nil (Below.refl W.heap.size W)) #[.int .i64 3, .slice A 2 c] 25)
  have Hs := Lib.hid hs
  have Hw := Lib.hid hw
  clear hs hw
  go_enter Tryd.func5, Tryd.ntmps5
  go_wp2_with fail
  refine wp_region_vals (R := Hx W [(W.heap.size, #[.int .i64 3, .slice A 2 c])]) (aa := ?aa5) [(3, .pointer (some ⟨W.heap.size, 0, none⟩)), (4, .int .i64 3), (5, .bool true), (6, .bool false), (7, .bool false), (8, .pointer (some ⟨W.heap.size, 1, none⟩)), (9, .slice A 2 c), (10, .int .i64 2), (11, .pointer (some ⟨W.heap.size, 0, none⟩)), (12, .int .i64 3), (13, .int .i64 2), (14, .bool false), (15, .bool false)] ?hL5 (by kernel_rfl) ?hv5 ?hD5 ?hR5 ?hdo5 ?fin5
  case hL5 =>
    simp only [putD, Act.put]
    go_simp
    rfl
  case hv5 => kernel_rfl
  case hD5 => kernel_rfl
  case hdo5 =>
    intro i o ho
    match i, ho with
    | 0, ho =>
      cases ho
      refine .inl ⟨by kernel_rfl, fun w hR => ?_⟩
      first | (go_simp; done) | (go_simp; exact ⟨rfl, hR⟩)
    | 1, ho =>
      cases ho
      refine .inl ⟨by kernel_rfl, fun w hR => ?_⟩
      exact ow_hxf _ _ rfl hR (cs := #[.int .i64 3, .slice A 2 c]) (by simp) 0 (.int .i64 3) rfl rfl (by decide +kernel) ⟨rfl, hR⟩
    | 2, ho =>
      cases ho
      refine .inl ⟨by kernel_rfl, fun w hR => ?_⟩
      go_simp
      go_wp2_with fail
      refine (in_any 3 1 10 w).mono ?_
      rintro e w4 ⟨rfl, rfl⟩
      rw [Hin.out]
      exact ⟨rfl, hR⟩
    | 3, ho =>
      cases ho
      refine .inl ⟨by kernel_rfl, fun w hR => ?_⟩
      first | (go_simp; done) | (go_simp; exact ⟨rfl, hR⟩)
    | 4, ho =>
      cases ho
      refine .inl ⟨by kernel_rfl, fun w hR => ?_⟩
      first | (go_simp; done) | (go_simp; exact ⟨rfl, hR⟩)
    | 5, ho =>
      cases ho
      refine .inl ⟨by kernel_rfl, fun w hR => ?_⟩
      first | (go_simp; done) | (go_simp; exact ⟨rfl, hR⟩)
    | 6, ho =>
      cases ho
      refine .inl ⟨by kernel_rfl, fun w hR => ?_⟩
      exact ow_hxf _ _ rfl hR (cs := #[.int .i64 3, .slice A 2 c]) (by simp) 1 (.slice A 2 c) rfl rfl (by decide +kernel) ⟨rfl, hR⟩
    | 7, ho =>
      cases ho
      refine .inl ⟨by kernel_rfl, fun w hR => ?_⟩
      first | (go_simp; done) | (go_simp; exact ⟨rfl, hR⟩)
    | 8, ho =>
      cases ho
      refine .inl ⟨by kernel_rfl, fun w hR => ?_⟩
      first | (go_simp; done) | (go_simp; exact ⟨rfl, hR⟩)
    | 9, ho =>
      cases ho
      refine .inl ⟨by kernel_rfl, fun w hR => ?_⟩
      exact ow_hxf _ _ rfl hR (cs := #[.int .i64 3, .slice A 2 c]) (by simp) 0 (.int .i64 3) rfl rfl (by decide +kernel) ⟨rfl, hR⟩
    | 10, ho =>
      cases ho
      refine .inl ⟨by kernel_rfl, fun w hR => ?_⟩
      go_simp
      go_wp2_with fail
      refine (arity_any 3 w).mono ?_
      rintro e w4 ⟨rfl, h5⟩
      rw [Har.out]
      exact ⟨rfl, hR.below h5⟩
    | 11, ho =>
      cases ho
      refine .inl ⟨by kernel_rfl, fun w hR => ?_⟩
      first | (go_simp; done) | (go_simp; exact ⟨rfl, hR⟩)
    | 12, ho =>
      cases ho
      refine .inl ⟨by kernel_rfl, fun w hR => ?_⟩
      first | (go_simp; done) | (go_simp; exact ⟨rfl, hR⟩)
    | i + 13, ho => simp at ho
  case hR5 => exact H1.out.drew
  case fin5 =>
    intro w2 h2
    have H2 := Lib.hid h2
    clear h2 H1
    have T2 := Lib.hid (HT.out.below H2.out.1)
    have S2 := Lib.hid (Hs.out.below H2.out.1)
    have W2 := Lib.hid (Hw.out.below H2.out.1)
    obtain rfl := HA.out
    have c0 := H2.out.cell (g := W.heap.size) (cs := #[.int .i64 3, .slice (some ⟨b, off, none⟩) 2 c]) (by simp) 0 rfl
    have c1 := H2.out.cell (g := W.heap.size) (cs := #[.int .i64 3, .slice (some ⟨b, off, none⟩) 2 c]) (by simp) 1 rfl
    obtain ⟨d0, d1, d2⟩ := T2.out.at0
    cases hb : tBit x with
    | false =>
      have Hb := Lib.hid hb
      clear hb
      go_wp2_with fail
      refine (impl_isBit x.1 x.2.1 x.2.2 _ S2.out W2.out).mono ?_
      rw [show isBit x.1 x.2.1 x.2.2 = false from Hb.out]
      rintro e w3 ⟨rfl, h3⟩
      have H3 := Lib.hid (H2.out.below h3)
      go_wp2_with fail
      go_ret
      exact ⟨kit.ret_bool (by rw [Hb.out]; rfl), H3.out.1⟩
    | true =>
      have Hb := Lib.hid hb
      clear hb
      go_wp2_with fail
      refine (impl_isBit x.1 x.2.1 x.2.2 _ S2.out W2.out).mono ?_
      rw [show isBit x.1 x.2.1 x.2.2 = true from Hb.out]
      rintro e w3 ⟨rfl, h3⟩
      have H3 := Lib.hid (H2.out.below h3)
      have f1 := H3.out.cell (g := W.heap.size) (cs := #[.int .i64 3, .slice (some ⟨b, off, none⟩) 2 c]) (by simp) 1 rfl
      obtain ⟨e0, e1, e2⟩ := (HT.out.below H3.out.1).at1
      have S3 := Lib.hid (Hs.out.below H3.out.1)
      have W3 := Lib.hid (Hw.out.below H3.out.1)
      clear h3
      go_wp2_with fail
      refine (kindIs_any y.1 y.2.1 y.2.2 w3.heap.size 0 [5] _ (by decide) (rowFive (heap_alloc_new _ _)) (S3.out.alloc _) (W3.out.alloc _)).mono ?_
      rintro e w4 ⟨rfl, h4⟩
      go_wp2_with fail
      go_ret
      exact ⟨kit.ret_bool (by rw [Hb.out]; rfl), ((H3.out.alloc _).below h4).1⟩
theorem contact_4 (x y : Tri) (A : Option Addr) (c : Nat) (W : World) (b off : Nat) (hA : A = some ⟨b, off, none⟩) (hT : Trip W b off [x, y]) (hs : Sizes W) (hw : Words W) :
    Calls Tryd.prog 5 #[.agg #[.int .i64 4, .slice A 2 c]] W fun e w' => e = .returned (.bool (tBit x && tKis y [5])) ∧ Below W.heap.size W w' := by
  have Hin := Lib.hid (show inB 4 1 10 = true by decide)
  have Har := Lib.hid (show arity 4 = 2 by decide)
  have HA := Lib.hid hA
  have HT := Lib.hid hT
  clear hA hT
  have H1 := Lib.hid (Hx.box (Hx.nil (Below.refl W.heap.size W)) #[.int .i64 4, .slice A 2 c] 25)
  have Hs := Lib.hid hs
  have Hw := Lib.hid hw
  clear hs hw
  go_enter Tryd.func5, Tryd.ntmps5
  go_wp2_with fail
  refine wp_region_vals (R := Hx W [(W.heap.size, #[.int .i64 4, .slice A 2 c])]) (aa := ?aa6) [(3, .pointer (some ⟨W.heap.size, 0, none⟩)), (4, .int .i64 4), (5, .bool true), (6, .bool false), (7, .bool false), (8, .pointer (some ⟨W.heap.size, 1, none⟩)), (9, .slice A 2 c), (10, .int .i64 2), (11, .pointer (some ⟨W.heap.size, 0, none⟩)), (12, .int .i64 4), (13, .int .i64 2), (14, .bool false), (15, .bool false)] ?hL6 (by kernel_rfl) ?hv6 ?hD6 ?hR6 ?hdo6 ?fin6
  case hL6 =>
    simp only [putD, Act.put]
    go_simp
    rfl
  case hv6 => kernel_rfl
  case hD6 => kernel_rfl
  case hdo6 =>
    intro i o ho
    match i, ho with
    | 0, ho =>
      cases ho
      refine .inl ⟨by kernel_rfl, fun w hR => ?_⟩
      first | (go_simp; done) | (go_simp; exact ⟨rfl, hR⟩)
    | 1, ho =>
      cases ho
      refine .inl ⟨by kernel_rfl, fun w hR => ?_⟩
      exact ow_hxf _ _ rfl hR (cs := #[.int .i64 4, .slice A 2 c]) (by simp) 0 (.int .i64 4) rfl rfl (by decide +kernel) ⟨rfl, hR⟩
    | 2, ho =>
      cases ho
      refine .inl ⟨by kernel_rfl, fun w hR => ?_⟩
      go_simp
      go_wp2_with fail
      refine (in_any 4 1 10 w).mono ?_
      rintro e w4 ⟨rfl, rfl⟩
      rw [Hin.out]
      exact ⟨rfl, hR⟩
    | 3, ho =>
      cases ho
      refine .inl ⟨by kernel_rfl, fun w hR => ?_⟩
      first | (go_simp; done) | (go_simp; exact ⟨rfl, hR⟩)
    | 4, ho =>
      cases ho
      refine .inl ⟨by kernel_rfl, fun w hR => ?_⟩
      first | (go_simp; done) | (go_simp; exact ⟨rfl, hR⟩)
    | 5, ho =>
      cases ho
      refine .inl ⟨by kernel_rfl, fun w hR => ?_⟩
      first | (go_simp; done) | (go_simp; exact ⟨rfl, hR⟩)
    | 6, ho =>
      cases ho
      refine .inl ⟨by kernel_rfl, fun w hR => ?_⟩
      exact ow_hxf _ _ rfl hR (cs := #[.int .i64 4, .slice A 2 c]) (by simp) 1 (.slice A 2 c) rfl rfl (by decide +kernel) ⟨rfl, hR⟩
    | 7, ho =>
      cases ho
      refine .inl ⟨by kernel_rfl, fun w hR => ?_⟩
      first | (go_simp; done) | (go_simp; exact ⟨rfl, hR⟩)
    | 8, ho =>
      cases ho
      refine .inl ⟨by kernel_rfl, fun w hR => ?_⟩
      first | (go_simp; done) | (go_simp; exact ⟨rfl, hR⟩)
    | 9, ho =>
      cases ho
      refine .inl ⟨by kernel_rfl, fun w hR => ?_⟩
      exact ow_hxf _ _ rfl hR (cs := #[.int .i64 4, .slice A 2 c]) (by simp) 0 (.int .i64 4) rfl rfl (by decide +kernel) ⟨rfl, hR⟩
    | 10, ho =>
      cases ho
      refine .inl ⟨by kernel_rfl, fun w hR => ?_⟩
      go_simp
      go_wp2_with fail
      refine (arity_any 4 w).mono ?_
      rintro e w4 ⟨rfl, h5⟩
      rw [Har.out]
      exact ⟨rfl, hR.below h5⟩
    | 11, ho =>
      cases ho
      refine .inl ⟨by kernel_rfl, fun w hR => ?_⟩
      first | (go_simp; done) | (go_simp; exact ⟨rfl, hR⟩)
    | 12, ho =>
      cases ho
      refine .inl ⟨by kernel_rfl, fun w hR => ?_⟩
      first | (go_simp; done) | (go_simp; exact ⟨rfl, hR⟩)
    | i + 13, ho => simp at ho
  case hR6 => exact H1.out.drew
  case fin6 =>
    intro w2 h2
    have H2 := Lib.hid h2
    clear h2 H1
    have T2 := Lib.hid (HT.out.below H2.out.1)
    have S2 := Lib.hid (Hs.out.below H2.out.1)
    have W2 := Lib.hid (Hw.out.below H2.out.1)
    obtain rfl := HA.out
    have c0 := H2.out.cell (g := W.heap.size) (cs := #[.int .i64 4, .slice (some ⟨b, off, none⟩) 2 c]) (by simp) 0 rfl
    have c1 := H2.out.cell (g := W.heap.size) (cs := #[.int .i64 4, .slice (some ⟨b, off, none⟩) 2 c]) (by simp) 1 rfl
    obtain ⟨d0, d1, d2⟩ := T2.out.at0
    cases hb : tBit x with
    | false =>
      have Hb := Lib.hid hb
      clear hb
      go_wp2_with fail
      refine (impl_isBit x.1 x.2.1 x.2.2 _ S2.out W2.out).mono ?_
      rw [show isBit x.1 x.2.1 x.2.2 = false from Hb.out]
      rintro e w3 ⟨rfl, h3⟩
      have H3 := Lib.hid (H2.out.below h3)
      go_wp2_with fail
      go_ret
      exact ⟨kit.ret_bool (by rw [Hb.out]; rfl), H3.out.1⟩
    | true =>
      have Hb := Lib.hid hb
      clear hb
      go_wp2_with fail
      refine (impl_isBit x.1 x.2.1 x.2.2 _ S2.out W2.out).mono ?_
      rw [show isBit x.1 x.2.1 x.2.2 = true from Hb.out]
      rintro e w3 ⟨rfl, h3⟩
      have H3 := Lib.hid (H2.out.below h3)
      have f1 := H3.out.cell (g := W.heap.size) (cs := #[.int .i64 4, .slice (some ⟨b, off, none⟩) 2 c]) (by simp) 1 rfl
      obtain ⟨e0, e1, e2⟩ := (HT.out.below H3.out.1).at1
      have S3 := Lib.hid (Hs.out.below H3.out.1)
      have W3 := Lib.hid (Hw.out.below H3.out.1)
      clear h3
      go_wp2_with fail
      refine (kindIs_any y.1 y.2.1 y.2.2 w3.heap.size 0 [5] _ (by decide) (rowFive (heap_alloc_new _ _)) (S3.out.alloc _) (W3.out.alloc _)).mono ?_
      rintro e w4 ⟨rfl, h4⟩
      go_wp2_with fail
      go_ret
      exact ⟨kit.ret_bool (by rw [Hb.out]; rfl), ((H3.out.alloc _).below h4).1⟩
theorem contact_5 (x y : Tri) (A : Option Addr) (c : Nat) (W : World) (b off : Nat) (hA : A = some ⟨b, off, none⟩) (hT : Trip W b off [x, y]) (hs : Sizes W) (hw : Words W) :
    Calls Tryd.prog 5 #[.agg #[.int .i64 5, .slice A 2 c]] W fun e w' => e = .returned (.bool ([x, y].all tWhole || [x, y].all tReal)) ∧ Below W.heap.size W w' := by
  have Hin := Lib.hid (show inB 5 1 10 = true by decide)
  have Har := Lib.hid (show arity 5 = 2 by decide)
  have HA := Lib.hid hA
  have HT := Lib.hid hT
  clear hA hT
  have H1 := Lib.hid (Hx.box (Hx.nil (Below.refl W.heap.size W)) #[.int .i64 5, .slice A 2 c] 25)
  have Hs := Lib.hid hs
  have Hw := Lib.hid hw
  clear hs hw
  go_enter Tryd.func5, Tryd.ntmps5
  go_wp2_with fail
  refine wp_region_vals (R := Hx W [(W.heap.size, #[.int .i64 5, .slice A 2 c])]) (aa := ?aa7) [(3, .pointer (some ⟨W.heap.size, 0, none⟩)), (4, .int .i64 5), (5, .bool true), (6, .bool false), (7, .bool false), (8, .pointer (some ⟨W.heap.size, 1, none⟩)), (9, .slice A 2 c), (10, .int .i64 2), (11, .pointer (some ⟨W.heap.size, 0, none⟩)), (12, .int .i64 5), (13, .int .i64 2), (14, .bool false), (15, .bool false)] ?hL7 (by kernel_rfl) ?hv7 ?hD7 ?hR7 ?hdo7 ?fin7
  case hL7 =>
    simp only [putD, Act.put]
    go_simp
    rfl
  case hv7 => kernel_rfl
  case hD7 => kernel_rfl
  case hdo7 =>
    intro i o ho
    match i, ho with
    | 0, ho =>
      cases ho
      refine .inl ⟨by kernel_rfl, fun w hR => ?_⟩
      first | (go_simp; done) | (go_simp; exact ⟨rfl, hR⟩)
    | 1, ho =>
      cases ho
      refine .inl ⟨by kernel_rfl, fun w hR => ?_⟩
      exact ow_hxf _ _ rfl hR (cs := #[.int .i64 5, .slice A 2 c]) (by simp) 0 (.int .i64 5) rfl rfl (by decide +kernel) ⟨rfl, hR⟩
    | 2, ho =>
      cases ho
      refine .inl ⟨by kernel_rfl, fun w hR => ?_⟩
      go_simp
      go_wp2_with fail
      refine (in_any 5 1 10 w).mono ?_
      rintro e w4 ⟨rfl, rfl⟩
      rw [Hin.out]
      exact ⟨rfl, hR⟩
    | 3, ho =>
      cases ho
      refine .inl ⟨by kernel_rfl, fun w hR => ?_⟩
      first | (go_simp; done) | (go_simp; exact ⟨rfl, hR⟩)
    | 4, ho =>
      cases ho
      refine .inl ⟨by kernel_rfl, fun w hR => ?_⟩
      first | (go_simp; done) | (go_simp; exact ⟨rfl, hR⟩)
    | 5, ho =>
      cases ho
      refine .inl ⟨by kernel_rfl, fun w hR => ?_⟩
      first | (go_simp; done) | (go_simp; exact ⟨rfl, hR⟩)
    | 6, ho =>
      cases ho
      refine .inl ⟨by kernel_rfl, fun w hR => ?_⟩
      exact ow_hxf _ _ rfl hR (cs := #[.int .i64 5, .slice A 2 c]) (by simp) 1 (.slice A 2 c) rfl rfl (by decide +kernel) ⟨rfl, hR⟩
    | 7, ho =>
      cases ho
      refine .inl ⟨by kernel_rfl, fun w hR => ?_⟩
      first | (go_simp; done) | (go_simp; exact ⟨rfl, hR⟩)
    | 8, ho =>
      cases ho
      refine .inl ⟨by kernel_rfl, fun w hR => ?_⟩
      first | (go_simp; done) | (go_simp; exact ⟨rfl, hR⟩)
    | 9, ho =>
      cases ho
      refine .inl ⟨by kernel_rfl, fun w hR => ?_⟩
      exact ow_hxf _ _ rfl hR (cs := #[.int .i64 5, .slice A 2 c]) (by simp) 0 (.int .i64 5) rfl rfl (by decide +kernel) ⟨rfl, hR⟩
    | 10, ho =>
      cases ho
      refine .inl ⟨by kernel_rfl, fun w hR => ?_⟩
      go_simp
      go_wp2_with fail
      refine (arity_any 5 w).mono ?_
      rintro e w4 ⟨rfl, h5⟩
      rw [Har.out]
      exact ⟨rfl, hR.below h5⟩
    | 11, ho =>
      cases ho
      refine .inl ⟨by kernel_rfl, fun w hR => ?_⟩
      first | (go_simp; done) | (go_simp; exact ⟨rfl, hR⟩)
    | 12, ho =>
      cases ho
      refine .inl ⟨by kernel_rfl, fun w hR => ?_⟩
      first | (go_simp; done) | (go_simp; exact ⟨rfl, hR⟩)
    | i + 13, ho => simp at ho
  case hR7 => exact H1.out.drew
  case fin7 =>
    intro w2 h2
    have H2 := Lib.hid h2
    clear h2 H1
    have T2 := Lib.hid (HT.out.below H2.out.1)
    have S2 := Lib.hid (Hs.out.below H2.out.1)
    have W2 := Lib.hid (Hw.out.below H2.out.1)
    obtain rfl := HA.out
    have c0 := H2.out.cell (g := W.heap.size) (cs := #[.int .i64 5, .slice (some ⟨b, off, none⟩) 2 c]) (by simp) 0 rfl
    have c1 := H2.out.cell (g := W.heap.size) (cs := #[.int .i64 5, .slice (some ⟨b, off, none⟩) 2 c]) (by simp) 1 rfl
    go_wp2_with fail
    refine (numbers_any b off c [x, y] _ (by simp) T2.out S2.out W2.out).mono ?_
    rintro e w3 ⟨rfl, h3⟩
    go_wp2_with fail
    go_ret
    exact ⟨kit.ret_bool (by simp), (H2.out.below h3).1⟩
theorem contact_6 (x y : Tri) (A : Option Addr) (c : Nat) (W : World) (b off : Nat) (hA : A = some ⟨b, off, none⟩) (hT : Trip W b off [x, y]) (hs : Sizes W) (hw : Words W) :
    Calls Tryd.prog 5 #[.agg #[.int .i64 6, .slice A 2 c]] W fun e w' => e = .returned (.bool ([x, y].all tWhole || [x, y].all tReal)) ∧ Below W.heap.size W w' := by
  have Hin := Lib.hid (show inB 6 1 10 = true by decide)
  have Har := Lib.hid (show arity 6 = 2 by decide)
  have HA := Lib.hid hA
  have HT := Lib.hid hT
  clear hA hT
  have H1 := Lib.hid (Hx.box (Hx.nil (Below.refl W.heap.size W)) #[.int .i64 6, .slice A 2 c] 25)
  have Hs := Lib.hid hs
  have Hw := Lib.hid hw
  clear hs hw
  go_enter Tryd.func5, Tryd.ntmps5
  go_wp2_with fail
  refine wp_region_vals (R := Hx W [(W.heap.size, #[.int .i64 6, .slice A 2 c])]) (aa := ?aa8) [(3, .pointer (some ⟨W.heap.size, 0, none⟩)), (4, .int .i64 6), (5, .bool true), (6, .bool false), (7, .bool false), (8, .pointer (some ⟨W.heap.size, 1, none⟩)), (9, .slice A 2 c), (10, .int .i64 2), (11, .pointer (some ⟨W.heap.size, 0, none⟩)), (12, .int .i64 6), (13, .int .i64 2), (14, .bool false), (15, .bool false)] ?hL8 (by kernel_rfl) ?hv8 ?hD8 ?hR8 ?hdo8 ?fin8
  case hL8 =>
    simp only [putD, Act.put]
    go_simp
    rfl
  case hv8 => kernel_rfl
  case hD8 => kernel_rfl
  case hdo8 =>
    intro i o ho
    match i, ho with
    | 0, ho =>
      cases ho
      refine .inl ⟨by kernel_rfl, fun w hR => ?_⟩
      first | (go_simp; done) | (go_simp; exact ⟨rfl, hR⟩)
    | 1, ho =>
      cases ho
      refine .inl ⟨by kernel_rfl, fun w hR => ?_⟩
      exact ow_hxf _ _ rfl hR (cs := #[.int .i64 6, .slice A 2 c]) (by simp) 0 (.int .i64 6) rfl rfl (by decide +kernel) ⟨rfl, hR⟩
    | 2, ho =>
      cases ho
      refine .inl ⟨by kernel_rfl, fun w hR => ?_⟩
      go_simp
      go_wp2_with fail
      refine (in_any 6 1 10 w).mono ?_
      rintro e w4 ⟨rfl, rfl⟩
      rw [Hin.out]
      exact ⟨rfl, hR⟩
    | 3, ho =>
      cases ho
      refine .inl ⟨by kernel_rfl, fun w hR => ?_⟩
      first | (go_simp; done) | (go_simp; exact ⟨rfl, hR⟩)
    | 4, ho =>
      cases ho
      refine .inl ⟨by kernel_rfl, fun w hR => ?_⟩
      first | (go_simp; done) | (go_simp; exact ⟨rfl, hR⟩)
    | 5, ho =>
      cases ho
      refine .inl ⟨by kernel_rfl, fun w hR => ?_⟩
      first | (go_simp; done) | (go_simp; exact ⟨rfl, hR⟩)
    | 6, ho =>
      cases ho
      refine .inl ⟨by kernel_rfl, fun w hR => ?_⟩
      exact ow_hxf _ _ rfl hR (cs := #[.int .i64 6, .slice A 2 c]) (by simp) 1 (.slice A 2 c) rfl rfl (by decide +kernel) ⟨rfl, hR⟩
    | 7, ho =>
      cases ho
      refine .inl ⟨by kernel_rfl, fun w hR => ?_⟩
      first | (go_simp; done) | (go_simp; exact ⟨rfl, hR⟩)
    | 8, ho =>
      cases ho
      refine .inl ⟨by kernel_rfl, fun w hR => ?_⟩
      first | (go_simp; done) | (go_simp; exact ⟨rfl, hR⟩)
    | 9, ho =>
      cases ho
      refine .inl ⟨by kernel_rfl, fun w hR => ?_⟩
      exact ow_hxf _ _ rfl hR (cs := #[.int .i64 6, .slice A 2 c]) (by simp) 0 (.int .i64 6) rfl rfl (by decide +kernel) ⟨rfl, hR⟩
    | 10, ho =>
      cases ho
      refine .inl ⟨by kernel_rfl, fun w hR => ?_⟩
      go_simp
      go_wp2_with fail
      refine (arity_any 6 w).mono ?_
      rintro e w4 ⟨rfl, h5⟩
      rw [Har.out]
      exact ⟨rfl, hR.below h5⟩
    | 11, ho =>
      cases ho
      refine .inl ⟨by kernel_rfl, fun w hR => ?_⟩
      first | (go_simp; done) | (go_simp; exact ⟨rfl, hR⟩)
    | 12, ho =>
      cases ho
      refine .inl ⟨by kernel_rfl, fun w hR => ?_⟩
      first | (go_simp; done) | (go_simp; exact ⟨rfl, hR⟩)
    | i + 13, ho => simp at ho
  case hR8 => exact H1.out.drew
  case fin8 =>
    intro w2 h2
    have H2 := Lib.hid h2
    clear h2 H1
    have T2 := Lib.hid (HT.out.below H2.out.1)
    have S2 := Lib.hid (Hs.out.below H2.out.1)
    have W2 := Lib.hid (Hw.out.below H2.out.1)
    obtain rfl := HA.out
    have c0 := H2.out.cell (g := W.heap.size) (cs := #[.int .i64 6, .slice (some ⟨b, off, none⟩) 2 c]) (by simp) 0 rfl
    have c1 := H2.out.cell (g := W.heap.size) (cs := #[.int .i64 6, .slice (some ⟨b, off, none⟩) 2 c]) (by simp) 1 rfl
    go_wp2_with fail
    refine (numbers_any b off c [x, y] _ (by simp) T2.out S2.out W2.out).mono ?_
    rintro e w3 ⟨rfl, h3⟩
    go_wp2_with fail
    go_ret
    exact ⟨kit.ret_bool (by simp), (H2.out.below h3).1⟩
theorem contact_7 (x y : Tri) (A : Option Addr) (c : Nat) (W : World) (b off : Nat) (hA : A = some ⟨b, off, none⟩) (hT : Trip W b off [x, y]) (hs : Sizes W) (hw : Words W) :
    Calls Tryd.prog 5 #[.agg #[.int .i64 7, .slice A 2 c]] W fun e w' => e = .returned (.bool ([x, y].all tWhole || [x, y].all tReal)) ∧ Below W.heap.size W w' := by
  have Hin := Lib.hid (show inB 7 1 10 = true by decide)
  have Har := Lib.hid (show arity 7 = 2 by decide)
  have HA := Lib.hid hA
  have HT := Lib.hid hT
  clear hA hT
  have H1 := Lib.hid (Hx.box (Hx.nil (Below.refl W.heap.size W)) #[.int .i64 7, .slice A 2 c] 25)
  have Hs := Lib.hid hs
  have Hw := Lib.hid hw
  clear hs hw
  go_enter Tryd.func5, Tryd.ntmps5
  go_wp2_with fail
  refine wp_region_vals (R := Hx W [(W.heap.size, #[.int .i64 7, .slice A 2 c])]) (aa := ?aa9) [(3, .pointer (some ⟨W.heap.size, 0, none⟩)), (4, .int .i64 7), (5, .bool true), (6, .bool false), (7, .bool false), (8, .pointer (some ⟨W.heap.size, 1, none⟩)), (9, .slice A 2 c), (10, .int .i64 2), (11, .pointer (some ⟨W.heap.size, 0, none⟩)), (12, .int .i64 7), (13, .int .i64 2), (14, .bool false), (15, .bool false)] ?hL9 (by kernel_rfl) ?hv9 ?hD9 ?hR9 ?hdo9 ?fin9
  case hL9 =>
    simp only [putD, Act.put]
    go_simp
    rfl
  case hv9 => kernel_rfl
  case hD9 => kernel_rfl
  case hdo9 =>
    intro i o ho
    match i, ho with
    | 0, ho =>
      cases ho
      refine .inl ⟨by kernel_rfl, fun w hR => ?_⟩
      first | (go_simp; done) | (go_simp; exact ⟨rfl, hR⟩)
    | 1, ho =>
      cases ho
      refine .inl ⟨by kernel_rfl, fun w hR => ?_⟩
      exact ow_hxf _ _ rfl hR (cs := #[.int .i64 7, .slice A 2 c]) (by simp) 0 (.int .i64 7) rfl rfl (by decide +kernel) ⟨rfl, hR⟩
    | 2, ho =>
      cases ho
      refine .inl ⟨by kernel_rfl, fun w hR => ?_⟩
      go_simp
      go_wp2_with fail
      refine (in_any 7 1 10 w).mono ?_
      rintro e w4 ⟨rfl, rfl⟩
      rw [Hin.out]
      exact ⟨rfl, hR⟩
    | 3, ho =>
      cases ho
      refine .inl ⟨by kernel_rfl, fun w hR => ?_⟩
      first | (go_simp; done) | (go_simp; exact ⟨rfl, hR⟩)
    | 4, ho =>
      cases ho
      refine .inl ⟨by kernel_rfl, fun w hR => ?_⟩
      first | (go_simp; done) | (go_simp; exact ⟨rfl, hR⟩)
    | 5, ho =>
      cases ho
      refine .inl ⟨by kernel_rfl, fun w hR => ?_⟩
      first | (go_simp; done) | (go_simp; exact ⟨rfl, hR⟩)
    | 6, ho =>
      cases ho
      refine .inl ⟨by kernel_rfl, fun w hR => ?_⟩
      exact ow_hxf _ _ rfl hR (cs := #[.int .i64 7, .slice A 2 c]) (by simp) 1 (.slice A 2 c) rfl rfl (by decide +kernel) ⟨rfl, hR⟩
    | 7, ho =>
      cases ho
      refine .inl ⟨by kernel_rfl, fun w hR => ?_⟩
      first | (go_simp; done) | (go_simp; exact ⟨rfl, hR⟩)
    | 8, ho =>
      cases ho
      refine .inl ⟨by kernel_rfl, fun w hR => ?_⟩
      first | (go_simp; done) | (go_simp; exact ⟨rfl, hR⟩)
    | 9, ho =>
      cases ho
      refine .inl ⟨by kernel_rfl, fun w hR => ?_⟩
      exact ow_hxf _ _ rfl hR (cs := #[.int .i64 7, .slice A 2 c]) (by simp) 0 (.int .i64 7) rfl rfl (by decide +kernel) ⟨rfl, hR⟩
    | 10, ho =>
      cases ho
      refine .inl ⟨by kernel_rfl, fun w hR => ?_⟩
      go_simp
      go_wp2_with fail
      refine (arity_any 7 w).mono ?_
      rintro e w4 ⟨rfl, h5⟩
      rw [Har.out]
      exact ⟨rfl, hR.below h5⟩
    | 11, ho =>
      cases ho
      refine .inl ⟨by kernel_rfl, fun w hR => ?_⟩
      first | (go_simp; done) | (go_simp; exact ⟨rfl, hR⟩)
    | 12, ho =>
      cases ho
      refine .inl ⟨by kernel_rfl, fun w hR => ?_⟩
      first | (go_simp; done) | (go_simp; exact ⟨rfl, hR⟩)
    | i + 13, ho => simp at ho
  case hR9 => exact H1.out.drew
  case fin9 =>
    intro w2 h2
    have H2 := Lib.hid h2
    clear h2 H1
    have T2 := Lib.hid (HT.out.below H2.out.1)
    have S2 := Lib.hid (Hs.out.below H2.out.1)
    have W2 := Lib.hid (Hw.out.below H2.out.1)
    obtain rfl := HA.out
    have c0 := H2.out.cell (g := W.heap.size) (cs := #[.int .i64 7, .slice (some ⟨b, off, none⟩) 2 c]) (by simp) 0 rfl
    have c1 := H2.out.cell (g := W.heap.size) (cs := #[.int .i64 7, .slice (some ⟨b, off, none⟩) 2 c]) (by simp) 1 rfl
    go_wp2_with fail
    refine (numbers_any b off c [x, y] _ (by simp) T2.out S2.out W2.out).mono ?_
    rintro e w3 ⟨rfl, h3⟩
    go_wp2_with fail
    go_ret
    exact ⟨kit.ret_bool (by simp), (H2.out.below h3).1⟩
theorem contact_8 (x y : Tri) (A : Option Addr) (c : Nat) (W : World) (b off : Nat) (hA : A = some ⟨b, off, none⟩) (hT : Trip W b off [x, y]) (hs : Sizes W) (hw : Words W) :
    Calls Tryd.prog 5 #[.agg #[.int .i64 8, .slice A 2 c]] W fun e w' => e = .returned (.bool ([x, y].all tWhole || [x, y].all tReal)) ∧ Below W.heap.size W w' := by
  have Hin := Lib.hid (show inB 8 1 10 = true by decide)
  have Har := Lib.hid (show arity 8 = 2 by decide)
  have HA := Lib.hid hA
  have HT := Lib.hid hT
  clear hA hT
  have H1 := Lib.hid (Hx.box (Hx.nil (Below.refl W.heap.size W)) #[.int .i64 8, .slice A 2 c] 25)
  have Hs := Lib.hid hs
  have Hw := Lib.hid hw
  clear hs hw
  go_enter Tryd.func5, Tryd.ntmps5
  go_wp2_with fail
  refine wp_region_vals (R := Hx W [(W.heap.size, #[.int .i64 8, .slice A 2 c])]) (aa := ?aa10) [(3, .pointer (some ⟨W.heap.size, 0, none⟩)), (4, .int .i64 8), (5, .bool true), (6, .bool false), (7, .bool false), (8, .pointer (some ⟨W.heap.size, 1, none⟩)), (9, .slice A 2 c), (10, .int .i64 2), (11, .pointer (some ⟨W.heap.size, 0, none⟩)), (12, .int .i64 8), (13, .int .i64 2), (14, .bool false), (15, .bool false)] ?hL10 (by kernel_rfl) ?hv10 ?hD10 ?hR10 ?hdo10 ?fin10
  case hL10 =>
    simp only [putD, Act.put]
    go_simp
    rfl
  case hv10 => kernel_rfl
  case hD10 => kernel_rfl
  case hdo10 =>
    intro i o ho
    match i, ho with
    | 0, ho =>
      cases ho
      refine .inl ⟨by kernel_rfl, fun w hR => ?_⟩
      first | (go_simp; done) | (go_simp; exact ⟨rfl, hR⟩)
    | 1, ho =>
      cases ho
      refine .inl ⟨by kernel_rfl, fun w hR => ?_⟩
      exact ow_hxf _ _ rfl hR (cs := #[.int .i64 8, .slice A 2 c]) (by simp) 0 (.int .i64 8) rfl rfl (by decide +kernel) ⟨rfl, hR⟩
    | 2, ho =>
      cases ho
      refine .inl ⟨by kernel_rfl, fun w hR => ?_⟩
      go_simp
      go_wp2_with fail
      refine (in_any 8 1 10 w).mono ?_
      rintro e w4 ⟨rfl, rfl⟩
      rw [Hin.out]
      exact ⟨rfl, hR⟩
    | 3, ho =>
      cases ho
      refine .inl ⟨by kernel_rfl, fun w hR => ?_⟩
      first | (go_simp; done) | (go_simp; exact ⟨rfl, hR⟩)
    | 4, ho =>
      cases ho
      refine .inl ⟨by kernel_rfl, fun w hR => ?_⟩
      first | (go_simp; done) | (go_simp; exact ⟨rfl, hR⟩)
    | 5, ho =>
      cases ho
      refine .inl ⟨by kernel_rfl, fun w hR => ?_⟩
      first | (go_simp; done) | (go_simp; exact ⟨rfl, hR⟩)
    | 6, ho =>
      cases ho
      refine .inl ⟨by kernel_rfl, fun w hR => ?_⟩
      exact ow_hxf _ _ rfl hR (cs := #[.int .i64 8, .slice A 2 c]) (by simp) 1 (.slice A 2 c) rfl rfl (by decide +kernel) ⟨rfl, hR⟩
    | 7, ho =>
      cases ho
      refine .inl ⟨by kernel_rfl, fun w hR => ?_⟩
      first | (go_simp; done) | (go_simp; exact ⟨rfl, hR⟩)
    | 8, ho =>
      cases ho
      refine .inl ⟨by kernel_rfl, fun w hR => ?_⟩
      first | (go_simp; done) | (go_simp; exact ⟨rfl, hR⟩)
    | 9, ho =>
      cases ho
      refine .inl ⟨by kernel_rfl, fun w hR => ?_⟩
      exact ow_hxf _ _ rfl hR (cs := #[.int .i64 8, .slice A 2 c]) (by simp) 0 (.int .i64 8) rfl rfl (by decide +kernel) ⟨rfl, hR⟩
    | 10, ho =>
      cases ho
      refine .inl ⟨by kernel_rfl, fun w hR => ?_⟩
      go_simp
      go_wp2_with fail
      refine (arity_any 8 w).mono ?_
      rintro e w4 ⟨rfl, h5⟩
      rw [Har.out]
      exact ⟨rfl, hR.below h5⟩
    | 11, ho =>
      cases ho
      refine .inl ⟨by kernel_rfl, fun w hR => ?_⟩
      first | (go_simp; done) | (go_simp; exact ⟨rfl, hR⟩)
    | 12, ho =>
      cases ho
      refine .inl ⟨by kernel_rfl, fun w hR => ?_⟩
      first | (go_simp; done) | (go_simp; exact ⟨rfl, hR⟩)
    | i + 13, ho => simp at ho
  case hR10 => exact H1.out.drew
  case fin10 =>
    intro w2 h2
    have H2 := Lib.hid h2
    clear h2 H1
    have T2 := Lib.hid (HT.out.below H2.out.1)
    have S2 := Lib.hid (Hs.out.below H2.out.1)
    have W2 := Lib.hid (Hw.out.below H2.out.1)
    obtain rfl := HA.out
    have c0 := H2.out.cell (g := W.heap.size) (cs := #[.int .i64 8, .slice (some ⟨b, off, none⟩) 2 c]) (by simp) 0 rfl
    have c1 := H2.out.cell (g := W.heap.size) (cs := #[.int .i64 8, .slice (some ⟨b, off, none⟩) 2 c]) (by simp) 1 rfl
    go_wp2_with fail
    refine (numbers_any b off c [x, y] _ (by simp) T2.out S2.out W2.out).mono ?_
    rintro e w3 ⟨rfl, h3⟩
    go_wp2_with fail
    go_ret
    exact ⟨kit.ret_bool (by simp), (H2.out.below h3).1⟩
theorem contact_9 (x y : Tri) (A : Option Addr) (c : Nat) (W : World) (b off : Nat) (hA : A = some ⟨b, off, none⟩) (hT : Trip W b off [x, y]) (hs : Sizes W) (hw : Words W) :
    Calls Tryd.prog 5 #[.agg #[.int .i64 9, .slice A 2 c]] W fun e w' => e = .returned (.bool ([x, y].all tWhole || [x, y].all tReal)) ∧ Below W.heap.size W w' := by
  have Hin := Lib.hid (show inB 9 1 10 = true by decide)
  have Har := Lib.hid (show arity 9 = 2 by decide)
  have HA := Lib.hid hA
  have HT := Lib.hid hT
  clear hA hT
  have H1 := Lib.hid (Hx.box (Hx.nil (Below.refl W.heap.size W)) #[.int .i64 9, .slice A 2 c] 25)
  have Hs := Lib.hid hs
  have Hw := Lib.hid hw
  clear hs hw
  go_enter Tryd.func5, Tryd.ntmps5
  go_wp2_with fail
  refine wp_region_vals (R := Hx W [(W.heap.size, #[.int .i64 9, .slice A 2 c])]) (aa := ?aa11) [(3, .pointer (some ⟨W.heap.size, 0, none⟩)), (4, .int .i64 9), (5, .bool true), (6, .bool false), (7, .bool false), (8, .pointer (some ⟨W.heap.size, 1, none⟩)), (9, .slice A 2 c), (10, .int .i64 2), (11, .pointer (some ⟨W.heap.size, 0, none⟩)), (12, .int .i64 9), (13, .int .i64 2), (14, .bool false), (15, .bool false)] ?hL11 (by kernel_rfl) ?hv11 ?hD11 ?hR11 ?hdo11 ?fin11
  case hL11 =>
    simp only [putD, Act.put]
    go_simp
    rfl
  case hv11 => kernel_rfl
  case hD11 => kernel_rfl
  case hdo11 =>
    intro i o ho
    match i, ho with
    | 0, ho =>
      cases ho
      refine .inl ⟨by kernel_rfl, fun w hR => ?_⟩
      first | (go_simp; done) | (go_simp; exact ⟨rfl, hR⟩)
    | 1, ho =>
      cases ho
      refine .inl ⟨by kernel_rfl, fun w hR => ?_⟩
      exact ow_hxf _ _ rfl hR (cs := #[.int .i64 9, .slice A 2 c]) (by simp) 0 (.int .i64 9) rfl rfl (by decide +kernel) ⟨rfl, hR⟩
    | 2, ho =>
      cases ho
      refine .inl ⟨by kernel_rfl, fun w hR => ?_⟩
      go_simp
      go_wp2_with fail
      refine (in_any 9 1 10 w).mono ?_
      rintro e w4 ⟨rfl, rfl⟩
      rw [Hin.out]
      exact ⟨rfl, hR⟩
    | 3, ho =>
      cases ho
      refine .inl ⟨by kernel_rfl, fun w hR => ?_⟩
      first | (go_simp; done) | (go_simp; exact ⟨rfl, hR⟩)
    | 4, ho =>
      cases ho
      refine .inl ⟨by kernel_rfl, fun w hR => ?_⟩
      first | (go_simp; done) | (go_simp; exact ⟨rfl, hR⟩)
    | 5, ho =>
      cases ho
      refine .inl ⟨by kernel_rfl, fun w hR => ?_⟩
      first | (go_simp; done) | (go_simp; exact ⟨rfl, hR⟩)
    | 6, ho =>
      cases ho
      refine .inl ⟨by kernel_rfl, fun w hR => ?_⟩
      exact ow_hxf _ _ rfl hR (cs := #[.int .i64 9, .slice A 2 c]) (by simp) 1 (.slice A 2 c) rfl rfl (by decide +kernel) ⟨rfl, hR⟩
    | 7, ho =>
      cases ho
      refine .inl ⟨by kernel_rfl, fun w hR => ?_⟩
      first | (go_simp; done) | (go_simp; exact ⟨rfl, hR⟩)
    | 8, ho =>
      cases ho
      refine .inl ⟨by kernel_rfl, fun w hR => ?_⟩
      first | (go_simp; done) | (go_simp; exact ⟨rfl, hR⟩)
    | 9, ho =>
      cases ho
      refine .inl ⟨by kernel_rfl, fun w hR => ?_⟩
      exact ow_hxf _ _ rfl hR (cs := #[.int .i64 9, .slice A 2 c]) (by simp) 0 (.int .i64 9) rfl rfl (by decide +kernel) ⟨rfl, hR⟩
    | 10, ho =>
      cases ho
      refine .inl ⟨by kernel_rfl, fun w hR => ?_⟩
      go_simp
      go_wp2_with fail
      refine (arity_any 9 w).mono ?_
      rintro e w4 ⟨rfl, h5⟩
      rw [Har.out]
      exact ⟨rfl, hR.below h5⟩
    | 11, ho =>
      cases ho
      refine .inl ⟨by kernel_rfl, fun w hR => ?_⟩
      first | (go_simp; done) | (go_simp; exact ⟨rfl, hR⟩)
    | 12, ho =>
      cases ho
      refine .inl ⟨by kernel_rfl, fun w hR => ?_⟩
      first | (go_simp; done) | (go_simp; exact ⟨rfl, hR⟩)
    | i + 13, ho => simp at ho
  case hR11 => exact H1.out.drew
  case fin11 =>
    intro w2 h2
    have H2 := Lib.hid h2
    clear h2 H1
    have T2 := Lib.hid (HT.out.below H2.out.1)
    have S2 := Lib.hid (Hs.out.below H2.out.1)
    have W2 := Lib.hid (Hw.out.below H2.out.1)
    obtain rfl := HA.out
    have c0 := H2.out.cell (g := W.heap.size) (cs := #[.int .i64 9, .slice (some ⟨b, off, none⟩) 2 c]) (by simp) 0 rfl
    have c1 := H2.out.cell (g := W.heap.size) (cs := #[.int .i64 9, .slice (some ⟨b, off, none⟩) 2 c]) (by simp) 1 rfl
    go_wp2_with fail
    refine (numbers_any b off c [x, y] _ (by simp) T2.out S2.out W2.out).mono ?_
    rintro e w3 ⟨rfl, h3⟩
    go_wp2_with fail
    go_ret
    exact ⟨kit.ret_bool (by simp), (H2.out.below h3).1⟩
theorem contact_10 (x y : Tri) (A : Option Addr) (c : Nat) (W : World) (b off : Nat) (hA : A = some ⟨b, off, none⟩) (hT : Trip W b off [x, y]) (hs : Sizes W) (hw : Words W) :
    Calls Tryd.prog 5 #[.agg #[.int .i64 10, .slice A 2 c]] W fun e w' => e = .returned (.bool ([x, y].all tWhole || [x, y].all tReal)) ∧ Below W.heap.size W w' := by
  have Hin := Lib.hid (show inB 10 1 10 = true by decide)
  have Har := Lib.hid (show arity 10 = 2 by decide)
  have HA := Lib.hid hA
  have HT := Lib.hid hT
  clear hA hT
  have H1 := Lib.hid (Hx.box (Hx.nil (Below.refl W.heap.size W)) #[.int .i64 10, .slice A 2 c] 25)
  have Hs := Lib.hid hs
  have Hw := Lib.hid hw
  clear hs hw
  go_enter Tryd.func5, Tryd.ntmps5
  go_wp2_with fail
  refine wp_region_vals (R := Hx W [(W.heap.size, #[.int .i64 10, .slice A 2 c])]) (aa := ?aa12) [(3, .pointer (some ⟨W.heap.size, 0, none⟩)), (4, .int .i64 10), (5, .bool true), (6, .bool false), (7, .bool false), (8, .pointer (some ⟨W.heap.size, 1, none⟩)), (9, .slice A 2 c), (10, .int .i64 2), (11, .pointer (some ⟨W.heap.size, 0, none⟩)), (12, .int .i64 10), (13, .int .i64 2), (14, .bool false), (15, .bool false)] ?hL12 (by kernel_rfl) ?hv12 ?hD12 ?hR12 ?hdo12 ?fin12
  case hL12 =>
    simp only [putD, Act.put]
    go_simp
    rfl
  case hv12 => kernel_rfl
  case hD12 => kernel_rfl
  case hdo12 =>
    intro i o ho
    match i, ho with
    | 0, ho =>
      cases ho
      refine .inl ⟨by kernel_rfl, fun w hR => ?_⟩
      first | (go_simp; done) | (go_simp; exact ⟨rfl, hR⟩)
    | 1, ho =>
      cases ho
      refine .inl ⟨by kernel_rfl, fun w hR => ?_⟩
      exact ow_hxf _ _ rfl hR (cs := #[.int .i64 10, .slice A 2 c]) (by simp) 0 (.int .i64 10) rfl rfl (by decide +kernel) ⟨rfl, hR⟩
    | 2, ho =>
      cases ho
      refine .inl ⟨by kernel_rfl, fun w hR => ?_⟩
      go_simp
      go_wp2_with fail
      refine (in_any 10 1 10 w).mono ?_
      rintro e w4 ⟨rfl, rfl⟩
      rw [Hin.out]
      exact ⟨rfl, hR⟩
    | 3, ho =>
      cases ho
      refine .inl ⟨by kernel_rfl, fun w hR => ?_⟩
      first | (go_simp; done) | (go_simp; exact ⟨rfl, hR⟩)
    | 4, ho =>
      cases ho
      refine .inl ⟨by kernel_rfl, fun w hR => ?_⟩
      first | (go_simp; done) | (go_simp; exact ⟨rfl, hR⟩)
    | 5, ho =>
      cases ho
      refine .inl ⟨by kernel_rfl, fun w hR => ?_⟩
      first | (go_simp; done) | (go_simp; exact ⟨rfl, hR⟩)
    | 6, ho =>
      cases ho
      refine .inl ⟨by kernel_rfl, fun w hR => ?_⟩
      exact ow_hxf _ _ rfl hR (cs := #[.int .i64 10, .slice A 2 c]) (by simp) 1 (.slice A 2 c) rfl rfl (by decide +kernel) ⟨rfl, hR⟩
    | 7, ho =>
      cases ho
      refine .inl ⟨by kernel_rfl, fun w hR => ?_⟩
      first | (go_simp; done) | (go_simp; exact ⟨rfl, hR⟩)
    | 8, ho =>
      cases ho
      refine .inl ⟨by kernel_rfl, fun w hR => ?_⟩
      first | (go_simp; done) | (go_simp; exact ⟨rfl, hR⟩)
    | 9, ho =>
      cases ho
      refine .inl ⟨by kernel_rfl, fun w hR => ?_⟩
      exact ow_hxf _ _ rfl hR (cs := #[.int .i64 10, .slice A 2 c]) (by simp) 0 (.int .i64 10) rfl rfl (by decide +kernel) ⟨rfl, hR⟩
    | 10, ho =>
      cases ho
      refine .inl ⟨by kernel_rfl, fun w hR => ?_⟩
      go_simp
      go_wp2_with fail
      refine (arity_any 10 w).mono ?_
      rintro e w4 ⟨rfl, h5⟩
      rw [Har.out]
      exact ⟨rfl, hR.below h5⟩
    | 11, ho =>
      cases ho
      refine .inl ⟨by kernel_rfl, fun w hR => ?_⟩
      first | (go_simp; done) | (go_simp; exact ⟨rfl, hR⟩)
    | 12, ho =>
      cases ho
      refine .inl ⟨by kernel_rfl, fun w hR => ?_⟩
      first | (go_simp; done) | (go_simp; exact ⟨rfl, hR⟩)
    | i + 13, ho => simp at ho
  case hR12 => exact H1.out.drew
  case fin12 =>
    intro w2 h2
    have H2 := Lib.hid h2
    clear h2 H1
    have T2 := Lib.hid (HT.out.below H2.out.1)
    have S2 := Lib.hid (Hs.out.below H2.out.1)
    have W2 := Lib.hid (Hw.out.below H2.out.1)
    obtain rfl := HA.out
    have c0 := H2.out.cell (g := W.heap.size) (cs := #[.int .i64 10, .slice (some ⟨b, off, none⟩) 2 c]) (by simp) 0 rfl
    have c1 := H2.out.cell (g := W.heap.size) (cs := #[.int .i64 10, .slice (some ⟨b, off, none⟩) 2 c]) (by simp) 1 rfl
    go_wp2_with fail
    refine (numbers_any b off c [x, y] _ (by simp) T2.out S2.out W2.out).mono ?_
    rintro e w3 ⟨rfl, h3⟩
    go_wp2_with fail
    go_ret
    exact ⟨kit.ret_bool (by simp), (H2.out.below h3).1⟩

theorem contact_any (op : Int) (A : Option Addr) (c : Nat) (l : List Tri) (W : World) (hA : Argsat W A l) (hs : Sizes W) (hw : Words W) :
    Calls Tryd.prog 5 #[.agg #[.int .i64 op, .slice A l.length c]] W fun e w' => e = .returned (.bool (contact op l)) ∧ Below W.heap.size W w' := by
  cases hin : inB op 1 10 with
  | false => rw [show contact op l = false by unfold contact; rw [hin]; rfl]; exact contact_out op l.length A c W hin hs hw
  | true =>
    by_cases hne : (l.length : Int) = arity op
    · have hc : contact op l = (if op ≤ 2 then tBit (l.getD 0 zT) else if op ≤ 4 then tBit (l.getD 0 zT) && tKis (l.getD 1 zT) [5] else l.all tWhole || l.all tReal) := by unfold contact; rw [hin, decide_eq_true hne]; rfl
      rw [hc]
      have hop := of_decide_eq_true hin
      rcases hA with rfl | ⟨b, off, rfl, hT⟩
      · exfalso
        revert hne
        unfold arity
        simp only [List.length_nil]
        repeat' split
        all_goals omega
      have hop : op = 1 ∨ op = 2 ∨ op = 3 ∨ op = 4 ∨ op = 5 ∨ op = 6 ∨ op = 7 ∨ op = 8 ∨ op = 9 ∨ op = 10 := by omega
      rcases hop with rfl | rfl | rfl | rfl | rfl | rfl | rfl | rfl | rfl | rfl
      · obtain ⟨x, rfl⟩ := kit.list1 (l := l) (by have e : arity 1 = 1 := (by decide); rw [e] at hne; omega)
        exact contact_1 x _ c W b off rfl hT hs hw
      · obtain ⟨x, rfl⟩ := kit.list1 (l := l) (by have e : arity 2 = 1 := (by decide); rw [e] at hne; omega)
        exact contact_2 x _ c W b off rfl hT hs hw
      · obtain ⟨x, y, rfl⟩ := kit.list2 (l := l) (by have e : arity 3 = 2 := (by decide); rw [e] at hne; omega)
        exact contact_3 x y _ c W b off rfl hT hs hw
      · obtain ⟨x, y, rfl⟩ := kit.list2 (l := l) (by have e : arity 4 = 2 := (by decide); rw [e] at hne; omega)
        exact contact_4 x y _ c W b off rfl hT hs hw
      · obtain ⟨x, y, rfl⟩ := kit.list2 (l := l) (by have e : arity 5 = 2 := (by decide); rw [e] at hne; omega)
        exact contact_5 x y _ c W b off rfl hT hs hw
      · obtain ⟨x, y, rfl⟩ := kit.list2 (l := l) (by have e : arity 6 = 2 := (by decide); rw [e] at hne; omega)
        exact contact_6 x y _ c W b off rfl hT hs hw
      · obtain ⟨x, y, rfl⟩ := kit.list2 (l := l) (by have e : arity 7 = 2 := (by decide); rw [e] at hne; omega)
        exact contact_7 x y _ c W b off rfl hT hs hw
      · obtain ⟨x, y, rfl⟩ := kit.list2 (l := l) (by have e : arity 8 = 2 := (by decide); rw [e] at hne; omega)
        exact contact_8 x y _ c W b off rfl hT hs hw
      · obtain ⟨x, y, rfl⟩ := kit.list2 (l := l) (by have e : arity 9 = 2 := (by decide); rw [e] at hne; omega)
        exact contact_9 x y _ c W b off rfl hT hs hw
      · obtain ⟨x, y, rfl⟩ := kit.list2 (l := l) (by have e : arity 10 = 2 := (by decide); rw [e] at hne; omega)
        exact contact_10 x y _ c W b off rfl hT hs hw
    · rw [show contact op l = false by unfold contact; rw [decide_eq_false hne, Bool.and_false]; rfl]
      exact contact_len op l.length A c W hin hne hs hw
end Go.Proofs.YtgmdpgchffapoaaDoor.dev
