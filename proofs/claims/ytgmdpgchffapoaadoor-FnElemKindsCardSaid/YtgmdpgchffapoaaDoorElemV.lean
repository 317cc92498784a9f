/-
  'spec.ElemIsContact': what it returns.
  Conditions: the operands' cells hold them.
-/
import Derived.Test.YtgmdpgchffapoaaDoorElemC
import Derived.Test.YtgmdpgchffapoaaDoorHxS
import Derived.Deep.CutBlock
namespace Go.Proofs.YtgmdpgchffapoaaDoor.dev
open Go Go.RowKit Go.Proofs.YtgmdpgchffapoaaDoor.part
set_option linter.unusedVariables false
set_option linter.unusedSimpArgs false
set_option maxRecDepth 100000
def tokB (x : Tri) : Bool := dok x.1 x.2.1 x.2.2

theorem scon_lt (op : Int) (n : Nat) (A : Option Addr) (c : Nat) (W : World) (hlt : op < 1) :
    Calls Tryd.prog 7 #[.agg #[.int .i64 op, .slice A n c]] W fun e w' => e = .returned (.bool false) ∧ Below W.heap.size W w' := by
  have Hlt := Lib.hid hlt
  clear hlt
  have H1 := Lib.hid (Hx.box (Hx.nil (Below.refl W.heap.size W)) #[.int .i64 op, .slice A n c] 25)
  go_enter Tryd.func7, Tryd.ntmps7
  go_wp2_with fail
  refine wp_region_vals (R := Hx W [(W.heap.size, #[.int .i64 op, .slice A n c])]) (aa := ?aa1) [(3, .pointer (some ⟨W.heap.size, 0, none⟩)), (4, .int .i64 op), (5, .bool true), (6, .bool true), (7, undef), (8, undef), (9, undef), (10, .bool true), (11, .bool true), (12, undef), (13, undef), (14, undef), (15, undef), (16, undef), (17, undef), (18, undef), (19, .bool true)] ?hL1 (by kernel_rfl) ?hv1 ?hD1 ?hR1 ?hdo1 ?fin1
  case hL1 =>
    simp only [putD, Act.put]
    go_simp
    rfl
  case hv1 => kernel_rfl
  case hD1 => kernel_rfl
  case hdo1 =>
    intro i o ho
    match i, ho with
    | 0, ho =>
      cases ho
      refine .inl ⟨by kernel_rfl, fun w hR => ?_⟩
      first | (go_simp; done) | (go_simp; exact ⟨rfl, hR⟩) | (go_simp; exact ⟨Hx.out, hR⟩) | (go_simp; exact Hx.out)
    | 1, ho =>
      cases ho
      refine .inl ⟨by kernel_rfl, fun w hR => ?_⟩
      exact ow_hxf _ _ rfl hR (cs := #[.int .i64 op, .slice A n c]) (by simp) 0 (.int .i64 op) rfl rfl (by decide +kernel) ⟨rfl, hR⟩
    | 2, ho =>
      cases ho
      refine .inl ⟨by kernel_rfl, fun w hR => ?_⟩
      first | (go_simp; done) | (go_simp; exact ⟨rfl, hR⟩) | (go_simp; exact ⟨Hlt.out, hR⟩) | (go_simp; exact Hlt.out)
    | 3, ho =>
      cases ho
      refine .inl ⟨by kernel_rfl, fun w hR => ?_⟩
      first | (go_simp; done) | (go_simp; exact ⟨rfl, hR⟩) | (go_simp; exact ⟨Hlt.out, hR⟩) | (go_simp; exact Hlt.out)
    | 4, ho =>
      cases ho
      exact .inr ⟨by kernel_rfl, fun t ht => by cases ht; rfl⟩
    | 5, ho =>
      cases ho
      exact .inr ⟨by kernel_rfl, fun t ht => by cases ht; rfl⟩
    | 6, ho =>
      cases ho
      exact .inr ⟨by kernel_rfl, fun t ht => by cases ht; rfl⟩
    | 7, ho =>
      cases ho
      refine .inl ⟨by kernel_rfl, fun w hR => ?_⟩
      first | (go_simp; done) | (go_simp; exact ⟨rfl, hR⟩) | (go_simp; exact ⟨Hx.out, hR⟩) | (go_simp; exact Hx.out)
    | 8, ho =>
      cases ho
      refine .inl ⟨by kernel_rfl, fun w hR => ?_⟩
      first | (go_simp; done) | (go_simp; exact ⟨rfl, hR⟩) | (go_simp; exact ⟨Hx.out, hR⟩) | (go_simp; exact Hx.out)
    | 9, ho =>
      cases ho
      exact .inr ⟨by kernel_rfl, fun t ht => by cases ht; rfl⟩
    | 10, ho =>
      cases ho
      exact .inr ⟨by kernel_rfl, fun t ht => by cases ht; rfl⟩
    | 11, ho =>
      cases ho
      exact .inr ⟨by kernel_rfl, fun t ht => by cases ht; rfl⟩
    | 12, ho =>
      cases ho
      exact .inr ⟨by kernel_rfl, fun t ht => by cases ht; rfl⟩
    | 13, ho =>
      cases ho
      exact .inr ⟨by kernel_rfl, fun t ht => by cases ht; rfl⟩
    | 14, ho =>
      cases ho
      exact .inr ⟨by kernel_rfl, fun t ht => by cases ht; rfl⟩
    | 15, ho =>
      cases ho
      exact .inr ⟨by kernel_rfl, fun t ht => by cases ht; rfl⟩
    | 16, ho =>
      cases ho
      refine .inl ⟨by kernel_rfl, fun w hR => ?_⟩
      first | (go_simp; done) | (go_simp; exact ⟨rfl, hR⟩) | (go_simp; exact ⟨Hx.out, hR⟩) | (go_simp; exact Hx.out)
    | i + 17, ho => simp at ho
  case hR1 => exact H1.out.drew
  case fin1 =>
    intro w2 h2
    have H2 := Lib.hid h2
    clear h2 H1
    go_wp2_with fail
    go_ret
    exact ⟨rfl, H2.out.1⟩
theorem scon_gt (op : Int) (n : Nat) (A : Option Addr) (c : Nat) (W : World) (hlt : 1 ≤ op) (hgt : 10 < op) :
    Calls Tryd.prog 7 #[.agg #[.int .i64 op, .slice A n c]] W fun e w' => e = .returned (.bool false) ∧ Below W.heap.size W w' := by
  have Hlt := Lib.hid hlt
  have Hgt := Lib.hid hgt
  clear hlt hgt
  have H1 := Lib.hid (Hx.box (Hx.nil (Below.refl W.heap.size W)) #[.int .i64 op, .slice A n c] 25)
  go_enter Tryd.func7, Tryd.ntmps7
  go_wp2_with fail
  refine wp_region_vals (R := Hx W [(W.heap.size, #[.int .i64 op, .slice A n c])]) (aa := ?aa2) [(3, .pointer (some ⟨W.heap.size, 0, none⟩)), (4, .int .i64 op), (5, .bool false), (6, .bool false), (7, .pointer (some ⟨W.heap.size, 0, none⟩)), (8, .int .i64 op), (9, .bool true), (10, .bool true), (11, .bool true), (12, undef), (13, undef), (14, undef), (15, undef), (16, undef), (17, undef), (18, undef), (19, .bool true)] ?hL2 (by kernel_rfl) ?hv2 ?hD2 ?hR2 ?hdo2 ?fin2
  case hL2 =>
    simp only [putD, Act.put]
    go_simp
    rfl
  case hv2 => kernel_rfl
  case hD2 => kernel_rfl
  case hdo2 =>
    intro i o ho
    match i, ho with
    | 0, ho =>
      cases ho
      refine .inl ⟨by kernel_rfl, fun w hR => ?_⟩
      first | (go_simp; done) | (go_simp; exact ⟨rfl, hR⟩) | (go_simp; exact ⟨Hx.out, hR⟩) | (go_simp; exact Hx.out)
    | 1, ho =>
      cases ho
      refine .inl ⟨by kernel_rfl, fun w hR => ?_⟩
      exact ow_hxf _ _ rfl hR (cs := #[.int .i64 op, .slice A n c]) (by simp) 0 (.int .i64 op) rfl rfl (by decide +kernel) ⟨rfl, hR⟩
    | 2, ho =>
      cases ho
      refine .inl ⟨by kernel_rfl, fun w hR => ?_⟩
      first | (go_simp; done) | (go_simp; exact ⟨rfl, hR⟩) | (go_simp; exact ⟨Hlt.out, hR⟩) | (go_simp; exact Hlt.out)
    | 3, ho =>
      cases ho
      refine .inl ⟨by kernel_rfl, fun w hR => ?_⟩
      first | (go_simp; done) | (go_simp; exact ⟨rfl, hR⟩) | (go_simp; exact ⟨Hlt.out, hR⟩) | (go_simp; exact Hlt.out)
    | 4, ho =>
      cases ho
      refine .inl ⟨by kernel_rfl, fun w hR => ?_⟩
      first | (go_simp; done) | (go_simp; exact ⟨rfl, hR⟩) | (go_simp; exact ⟨Hx.out, hR⟩) | (go_simp; exact Hx.out)
    | 5, ho =>
      cases ho
      refine .inl ⟨by kernel_rfl, fun w hR => ?_⟩
      exact ow_hxf _ _ rfl hR (cs := #[.int .i64 op, .slice A n c]) (by simp) 0 (.int .i64 op) rfl rfl (by decide +kernel) ⟨rfl, hR⟩
    | 6, ho =>
      cases ho
      refine .inl ⟨by kernel_rfl, fun w hR => ?_⟩
      first | (go_simp; done) | (go_simp; exact ⟨rfl, hR⟩) | (go_simp; exact ⟨Hgt.out, hR⟩) | (go_simp; exact Hgt.out)
    | 7, ho =>
      cases ho
      refine .inl ⟨by kernel_rfl, fun w hR => ?_⟩
      first | (go_simp; done) | (go_simp; exact ⟨rfl, hR⟩) | (go_simp; exact ⟨Hx.out, hR⟩) | (go_simp; exact Hx.out)
    | 8, ho =>
      cases ho
      refine .inl ⟨by kernel_rfl, fun w hR => ?_⟩
      first | (go_simp; done) | (go_simp; exact ⟨rfl, hR⟩) | (go_simp; exact ⟨Hx.out, hR⟩) | (go_simp; exact Hx.out)
    | 9, ho =>
      cases ho
      exact .inr ⟨by kernel_rfl, fun t ht => by cases ht; rfl⟩
    | 10, ho =>
      cases ho
      exact .inr ⟨by kernel_rfl, fun t ht => by cases ht; rfl⟩
    | 11, ho =>
      cases ho
      exact .inr ⟨by kernel_rfl, fun t ht => by cases ht; rfl⟩
    | 12, ho =>
      cases ho
      exact .inr ⟨by kernel_rfl, fun t ht => by cases ht; rfl⟩
    | 13, ho =>
      cases ho
      exact .inr ⟨by kernel_rfl, fun t ht => by cases ht; rfl⟩
    | 14, ho =>
      cases ho
      exact .inr ⟨by kernel_rfl, fun t ht => by cases ht; rfl⟩
    | 15, ho =>
      cases ho
      exact .inr ⟨by kernel_rfl, fun t ht => by cases ht; rfl⟩
    | 16, ho =>
      cases ho
      refine .inl ⟨by kernel_rfl, fun w hR => ?_⟩
      first | (go_simp; done) | (go_simp; exact ⟨rfl, hR⟩) | (go_simp; exact ⟨Hx.out, hR⟩) | (go_simp; exact Hx.out)
    | i + 17, ho => simp at ho
  case hR2 => exact H1.out.drew
  case fin2 =>
    intro w2 h2
    have H2 := Lib.hid h2
    clear h2 H1
    go_wp2_with fail
    go_ret
    exact ⟨rfl, H2.out.1⟩
theorem scon_len (op : Int) (n : Nat) (A : Option Addr) (c : Nat) (W : World) (hlt : 1 ≤ op) (hgt : op ≤ 10) (hne : (n : Int) ≠ arity op) :
    Calls Tryd.prog 7 #[.agg #[.int .i64 op, .slice A n c]] W fun e w' => e = .returned (.bool false) ∧ Below W.heap.size W w' := by
  have Hlt := Lib.hid hlt
  have Hgt := Lib.hid hgt
  have Hne := Lib.hid (show (n : Int) = arity op → False from hne)
  clear hlt hgt hne
  have H1 := Lib.hid (Hx.box (Hx.nil (Below.refl W.heap.size W)) #[.int .i64 op, .slice A n c] 25)
  go_enter Tryd.func7, Tryd.ntmps7
  go_wp2_with fail
  refine wp_region_vals (R := Hx W [(W.heap.size, #[.int .i64 op, .slice A n c])]) (aa := ?aa3) [(3, .pointer (some ⟨W.heap.size, 0, none⟩)), (4, .int .i64 op), (5, .bool false), (6, .bool false), (7, .pointer (some ⟨W.heap.size, 0, none⟩)), (8, .int .i64 op), (9, .bool false), (10, .bool false), (11, .bool false), (12, .pointer (some ⟨W.heap.size, 1, none⟩)), (13, .slice A n c), (14, .int .i64 n), (15, .pointer (some ⟨W.heap.size, 0, none⟩)), (16, .int .i64 op), (17, .int .i64 (arity op)), (18, .bool true), (19, .bool true)] ?hL3 (by kernel_rfl) ?hv3 ?hD3 ?hR3 ?hdo3 ?fin3
  case hL3 =>
    simp only [putD, Act.put]
    go_simp
    rfl
  case hv3 => kernel_rfl
  case hD3 => kernel_rfl
  case hdo3 =>
    intro i o ho
    match i, ho with
    | 0, ho =>
      cases ho
      refine .inl ⟨by kernel_rfl, fun w hR => ?_⟩
      first | (go_simp; done) | (go_simp; exact ⟨rfl, hR⟩) | (go_simp; exact ⟨Hx.out, hR⟩) | (go_simp; exact Hx.out)
    | 1, ho =>
      cases ho
      refine .inl ⟨by kernel_rfl, fun w hR => ?_⟩
      exact ow_hxf _ _ rfl hR (cs := #[.int .i64 op, .slice A n c]) (by simp) 0 (.int .i64 op) rfl rfl (by decide +kernel) ⟨rfl, hR⟩
    | 2, ho =>
      cases ho
      refine .inl ⟨by kernel_rfl, fun w hR => ?_⟩
      first | (go_simp; done) | (go_simp; exact ⟨rfl, hR⟩) | (go_simp; exact ⟨Hlt.out, hR⟩) | (go_simp; exact Hlt.out)
    | 3, ho =>
      cases ho
      refine .inl ⟨by kernel_rfl, fun w hR => ?_⟩
      first | (go_simp; done) | (go_simp; exact ⟨rfl, hR⟩) | (go_simp; exact ⟨Hlt.out, hR⟩) | (go_simp; exact Hlt.out)
    | 4, ho =>
      cases ho
      refine .inl ⟨by kernel_rfl, fun w hR => ?_⟩
      first | (go_simp; done) | (go_simp; exact ⟨rfl, hR⟩) | (go_simp; exact ⟨Hx.out, hR⟩) | (go_simp; exact Hx.out)
    | 5, ho =>
      cases ho
      refine .inl ⟨by kernel_rfl, fun w hR => ?_⟩
      exact ow_hxf _ _ rfl hR (cs := #[.int .i64 op, .slice A n c]) (by simp) 0 (.int .i64 op) rfl rfl (by decide +kernel) ⟨rfl, hR⟩
    | 6, ho =>
      cases ho
      refine .inl ⟨by kernel_rfl, fun w hR => ?_⟩
      first | (go_simp; done) | (go_simp; exact ⟨rfl, hR⟩) | (go_simp; exact ⟨Hgt.out, hR⟩) | (go_simp; exact Hgt.out)
    | 7, ho =>
      cases ho
      refine .inl ⟨by kernel_rfl, fun w hR => ?_⟩
      first | (go_simp; done) | (go_simp; exact ⟨rfl, hR⟩) | (go_simp; exact ⟨Hx.out, hR⟩) | (go_simp; exact Hx.out)
    | 8, ho =>
      cases ho
      refine .inl ⟨by kernel_rfl, fun w hR => ?_⟩
      first | (go_simp; done) | (go_simp; exact ⟨rfl, hR⟩) | (go_simp; exact ⟨Hx.out, hR⟩) | (go_simp; exact Hx.out)
    | 9, ho =>
      cases ho
      refine .inl ⟨by kernel_rfl, fun w hR => ?_⟩
      first | (go_simp; done) | (go_simp; exact ⟨rfl, hR⟩) | (go_simp; exact ⟨Hx.out, hR⟩) | (go_simp; exact Hx.out)
    | 10, ho =>
      cases ho
      refine .inl ⟨by kernel_rfl, fun w hR => ?_⟩
      exact ow_hxf _ _ rfl hR (cs := #[.int .i64 op, .slice A n c]) (by simp) 1 (.slice A n c) rfl rfl (by decide +kernel) ⟨rfl, hR⟩
    | 11, ho =>
      cases ho
      refine .inl ⟨by kernel_rfl, fun w hR => ?_⟩
      first | (go_simp; done) | (go_simp; exact ⟨rfl, hR⟩) | (go_simp; exact ⟨Hx.out, hR⟩) | (go_simp; exact Hx.out)
    | 12, ho =>
      cases ho
      refine .inl ⟨by kernel_rfl, fun w hR => ?_⟩
      first | (go_simp; done) | (go_simp; exact ⟨rfl, hR⟩) | (go_simp; exact ⟨Hx.out, hR⟩) | (go_simp; exact Hx.out)
    | 13, ho =>
      cases ho
      refine .inl ⟨by kernel_rfl, fun w hR => ?_⟩
      exact ow_hxf _ _ rfl hR (cs := #[.int .i64 op, .slice A n c]) (by simp) 0 (.int .i64 op) rfl rfl (by decide +kernel) ⟨rfl, hR⟩
    | 14, ho =>
      cases ho
      refine .inl ⟨by kernel_rfl, fun w hR => ?_⟩
      go_simp
      go_wp2_with fail
      refine (arityS_any op w).mono ?_
      rintro e w4 ⟨rfl, h5⟩
      exact ⟨rfl, hR.below h5⟩
    | 15, ho =>
      cases ho
      refine .inl ⟨by kernel_rfl, fun w hR => ?_⟩
      first | (go_simp; done) | (go_simp; exact ⟨rfl, hR⟩) | (go_simp; exact ⟨Hne.out, hR⟩) | (go_simp; exact Hne.out)
    | 16, ho =>
      cases ho
      refine .inl ⟨by kernel_rfl, fun w hR => ?_⟩
      first | (go_simp; done) | (go_simp; exact ⟨rfl, hR⟩) | (go_simp; exact ⟨Hx.out, hR⟩) | (go_simp; exact Hx.out)
    | i + 17, ho => simp at ho
  case hR3 => exact H1.out.drew
  case fin3 =>
    intro w2 h2
    have H2 := Lib.hid h2
    clear h2 H1
    go_wp2_with fail
    go_ret
    exact ⟨rfl, H2.out.1⟩
set_option maxHeartbeats 8000000 in
theorem scon_1 (op : Int) (x : Tri) (b off c : Nat) (W : World) (hlt : 1 ≤ op) (hgt : op ≤ 10) (har : arity op = 1) (b2 : decide (op ≤ 2) = true) (hT : Trip W b off [x]) :
    Calls Tryd.prog 7 #[.agg #[.int .i64 op, .slice (some ⟨b, off, none⟩) 1 c]] W fun e w' => e = .returned (.bool (tBit x)) ∧ Below W.heap.size W w' := by
  have Hlt := Lib.hid hlt
  have Hgt := Lib.hid hgt
  have Har := Lib.hid har
  have HT := Lib.hid hT
  clear hT hlt hgt har
  have H1 := Lib.hid (Hx.box (Hx.nil (Below.refl W.heap.size W)) #[.int .i64 op, .slice (some ⟨b, off, none⟩) 1 c] 25)
  go_enter Tryd.func7, Tryd.ntmps7
  go_wp2_with fail
  refine wp_region_vals (R := Hx W [(W.heap.size, #[.int .i64 op, .slice (some ⟨b, off, none⟩) 1 c])]) (aa := ?aa4) [(3, .pointer (some ⟨W.heap.size, 0, none⟩)), (4, .int .i64 op), (5, .bool false), (6, .bool false), (7, .pointer (some ⟨W.heap.size, 0, none⟩)), (8, .int .i64 op), (9, .bool false), (10, .bool false), (11, .bool false), (12, .pointer (some ⟨W.heap.size, 1, none⟩)), (13, .slice (some ⟨b, off, none⟩) 1 c), (14, .int .i64 1), (15, .pointer (some ⟨W.heap.size, 0, none⟩)), (16, .int .i64 op), (17, .int .i64 1), (18, .bool false), (19, .bool false)] ?hL4 (by kernel_rfl) ?hv4 ?hD4 ?hR4 ?hdo4 ?fin4
  case hL4 =>
    simp only [putD, Act.put]
    go_simp
    rfl
  case hv4 => kernel_rfl
  case hD4 => kernel_rfl
  case hdo4 =>
    intro i o ho
    match i, ho with
    | 0, ho =>
      cases ho
      refine .inl ⟨by kernel_rfl, fun w hR => ?_⟩
      first | (go_simp; done) | (go_simp; exact ⟨rfl, hR⟩) | (go_simp; exact ⟨Hx.out, hR⟩) | (go_simp; exact Hx.out)
    | 1, ho =>
      cases ho
      refine .inl ⟨by kernel_rfl, fun w hR => ?_⟩
      exact ow_hxf _ _ rfl hR (cs := #[.int .i64 op, .slice (some ⟨b, off, none⟩) 1 c]) (by simp) 0 (.int .i64 op) rfl rfl (by decide +kernel) ⟨rfl, hR⟩
    | 2, ho =>
      cases ho
      refine .inl ⟨by kernel_rfl, fun w hR => ?_⟩
      first | (go_simp; done) | (go_simp; exact ⟨rfl, hR⟩) | (go_simp; exact ⟨Hlt.out, hR⟩) | (go_simp; exact Hlt.out)
    | 3, ho =>
      cases ho
      refine .inl ⟨by kernel_rfl, fun w hR => ?_⟩
      first | (go_simp; done) | (go_simp; exact ⟨rfl, hR⟩) | (go_simp; exact ⟨Hlt.out, hR⟩) | (go_simp; exact Hlt.out)
    | 4, ho =>
      cases ho
      refine .inl ⟨by kernel_rfl, fun w hR => ?_⟩
      first | (go_simp; done) | (go_simp; exact ⟨rfl, hR⟩) | (go_simp; exact ⟨Hx.out, hR⟩) | (go_simp; exact Hx.out)
    | 5, ho =>
      cases ho
      refine .inl ⟨by kernel_rfl, fun w hR => ?_⟩
      exact ow_hxf _ _ rfl hR (cs := #[.int .i64 op, .slice (some ⟨b, off, none⟩) 1 c]) (by simp) 0 (.int .i64 op) rfl rfl (by decide +kernel) ⟨rfl, hR⟩
    | 6, ho =>
      cases ho
      refine .inl ⟨by kernel_rfl, fun w hR => ?_⟩
      first | (go_simp; done) | (go_simp; exact ⟨rfl, hR⟩) | (go_simp; exact ⟨Hgt.out, hR⟩) | (go_simp; exact Hgt.out)
    | 7, ho =>
      cases ho
      refine .inl ⟨by kernel_rfl, fun w hR => ?_⟩
      first | (go_simp; done) | (go_simp; exact ⟨rfl, hR⟩) | (go_simp; exact ⟨Hx.out, hR⟩) | (go_simp; exact Hx.out)
    | 8, ho =>
      cases ho
      refine .inl ⟨by kernel_rfl, fun w hR => ?_⟩
      first | (go_simp; done) | (go_simp; exact ⟨rfl, hR⟩) | (go_simp; exact ⟨Hx.out, hR⟩) | (go_simp; exact Hx.out)
    | 9, ho =>
      cases ho
      refine .inl ⟨by kernel_rfl, fun w hR => ?_⟩
      first | (go_simp; done) | (go_simp; exact ⟨rfl, hR⟩) | (go_simp; exact ⟨Hx.out, hR⟩) | (go_simp; exact Hx.out)
    | 10, ho =>
      cases ho
      refine .inl ⟨by kernel_rfl, fun w hR => ?_⟩
      exact ow_hxf _ _ rfl hR (cs := #[.int .i64 op, .slice (some ⟨b, off, none⟩) 1 c]) (by simp) 1 (.slice (some ⟨b, off, none⟩) 1 c) rfl rfl (by decide +kernel) ⟨rfl, hR⟩
    | 11, ho =>
      cases ho
      refine .inl ⟨by kernel_rfl, fun w hR => ?_⟩
      first | (go_simp; done) | (go_simp; exact ⟨rfl, hR⟩) | (go_simp; exact ⟨Hx.out, hR⟩) | (go_simp; exact Hx.out)
    | 12, ho =>
      cases ho
      refine .inl ⟨by kernel_rfl, fun w hR => ?_⟩
      first | (go_simp; done) | (go_simp; exact ⟨rfl, hR⟩) | (go_simp; exact ⟨Hx.out, hR⟩) | (go_simp; exact Hx.out)
    | 13, ho =>
      cases ho
      refine .inl ⟨by kernel_rfl, fun w hR => ?_⟩
      exact ow_hxf _ _ rfl hR (cs := #[.int .i64 op, .slice (some ⟨b, off, none⟩) 1 c]) (by simp) 0 (.int .i64 op) rfl rfl (by decide +kernel) ⟨rfl, hR⟩
    | 14, ho =>
      cases ho
      refine .inl ⟨by kernel_rfl, fun w hR => ?_⟩
      go_simp
      go_wp2_with fail
      refine (arityS_any op w).mono ?_
      rintro e w4 ⟨rfl, h5⟩
      rw [Har.out]
      exact ⟨rfl, hR.below h5⟩
    | 15, ho =>
      cases ho
      refine .inl ⟨by kernel_rfl, fun w hR => ?_⟩
      first | (go_simp; done) | (go_simp; exact ⟨rfl, hR⟩) | (go_simp; exact ⟨Hne.out, hR⟩) | (go_simp; exact Hne.out)
    | 16, ho =>
      cases ho
      refine .inl ⟨by kernel_rfl, fun w hR => ?_⟩
      first | (go_simp; done) | (go_simp; exact ⟨rfl, hR⟩) | (go_simp; exact ⟨Hx.out, hR⟩) | (go_simp; exact Hx.out)
    | i + 17, ho => simp at ho
  case hR4 => exact H1.out.drew
  case fin4 =>
    intro w2 h2
    have H2 := Lib.hid h2
    clear h2 H1
    cases hb : tBit x with
    | false =>
      have Hb2 := Lib.hid hb
      clear hb
      obtain ⟨x0, x1, x2⟩ := (HT.out.below H2.out.1).at0
      have c0 := H2.out.cell (g := W.heap.size) (cs := #[.int .i64 op, .slice (some ⟨b, off, none⟩) 1 c]) (by simp) 0 rfl
      have c1 := H2.out.cell (g := W.heap.size) (cs := #[.int .i64 op, .slice (some ⟨b, off, none⟩) 1 c]) (by simp) 1 rfl
      go_wp2_with fail
      refine (spec_isBit x.1 x.2.1 x.2.2 _).mono ?_
      rw [show isBit x.1 x.2.1 x.2.2 = false from Hb2.out]
      rintro e w3 ⟨rfl, h⟩
      have H3 := Lib.hid ((H2.out).below h)
      clear h H2 c0 c1 x0 x1 x2 
      go_wp2_with fail
      go_ret
      exact ⟨kit.ret_bool (by rw [Hb2.out]; try first | rfl | (simp; done)), H3.out.1⟩
    | true =>
      have Hb2 := Lib.hid hb
      clear hb
      obtain ⟨x0, x1, x2⟩ := (HT.out.below H2.out.1).at0
      have c0 := H2.out.cell (g := W.heap.size) (cs := #[.int .i64 op, .slice (some ⟨b, off, none⟩) 1 c]) (by simp) 0 rfl
      have c1 := H2.out.cell (g := W.heap.size) (cs := #[.int .i64 op, .slice (some ⟨b, off, none⟩) 1 c]) (by simp) 1 rfl
      go_wp2_with fail
      refine (spec_isBit x.1 x.2.1 x.2.2 _).mono ?_
      rw [show isBit x.1 x.2.1 x.2.2 = true from Hb2.out]
      rintro e w3 ⟨rfl, h⟩
      have H3 := Lib.hid ((H2.out).below h)
      clear h H2 c0 c1 x0 x1 x2 
      go_wp2_with fail
      go_ret
      exact ⟨kit.ret_bool (by rw [Hb2.out]; try first | rfl | (simp; done)), H3.out.1⟩
set_option maxHeartbeats 8000000 in
theorem scon_2 (op : Int) (x y : Tri) (b off c : Nat) (W : World) (hlt : 1 ≤ op) (hgt : op ≤ 10) (har : arity op = 2) (b2 : decide (op ≤ 2) = false) (b4 : decide (op ≤ 4) = true) (hT : Trip W b off [x, y]) :
    Calls Tryd.prog 7 #[.agg #[.int .i64 op, .slice (some ⟨b, off, none⟩) 2 c]] W fun e w' => e = .returned (.bool (tBit x && (tokB y && (y.1 == 5)))) ∧ Below W.heap.size W w' := by
  have Hlt := Lib.hid hlt
  have Hgt := Lib.hid hgt
  have Har := Lib.hid har
  have HT := Lib.hid hT
  clear hT hlt hgt har
  have H1 := Lib.hid (Hx.box (Hx.nil (Below.refl W.heap.size W)) #[.int .i64 op, .slice (some ⟨b, off, none⟩) 2 c] 25)
  go_enter Tryd.func7, Tryd.ntmps7
  go_wp2_with fail
  refine wp_region_vals (R := Hx W [(W.heap.size, #[.int .i64 op, .slice (some ⟨b, off, none⟩) 2 c])]) (aa := ?aa5) [(3, .pointer (some ⟨W.heap.size, 0, none⟩)), (4, .int .i64 op), (5, .bool false), (6, .bool false), (7, .pointer (some ⟨W.heap.size, 0, none⟩)), (8, .int .i64 op), (9, .bool false), (10, .bool false), (11, .bool false), (12, .pointer (some ⟨W.heap.size, 1, none⟩)), (13, .slice (some ⟨b, off, none⟩) 2 c), (14, .int .i64 2), (15, .pointer (some ⟨W.heap.size, 0, none⟩)), (16, .int .i64 op), (17, .int .i64 2), (18, .bool false), (19, .bool false)] ?hL5 (by kernel_rfl) ?hv5 ?hD5 ?hR5 ?hdo5 ?fin5
  case hL5 =>
    simp only [putD, Act.put]
    go_simp
    rfl
  case hv5 => kernel_rfl
  case hD5 => kernel_rfl
  case hdo5 =>
    intro i o ho
    match i, ho with
    | 0, ho =>
      cases ho
      refine .inl ⟨by kernel_rfl, fun w hR => ?_⟩
      first | (go_simp; done) | (go_simp; exact ⟨rfl, hR⟩) | (go_simp; exact ⟨Hx.out, hR⟩) | (go_simp; exact Hx.out)
    | 1, ho =>
      cases ho
      refine .inl ⟨by kernel_rfl, fun w hR => ?_⟩
      exact ow_hxf _ _ rfl hR (cs := #[.int .i64 op, .slice (some ⟨b, off, none⟩) 2 c]) (by simp) 0 (.int .i64 op) rfl rfl (by decide +kernel) ⟨rfl, hR⟩
    | 2, ho =>
      cases ho
      refine .inl ⟨by kernel_rfl, fun w hR => ?_⟩
      first | (go_simp; done) | (go_simp; exact ⟨rfl, hR⟩) | (go_simp; exact ⟨Hlt.out, hR⟩) | (go_simp; exact Hlt.out)
    | 3, ho =>
      cases ho
      refine .inl ⟨by kernel_rfl, fun w hR => ?_⟩
      first | (go_simp; done) | (go_simp; exact ⟨rfl, hR⟩) | (go_simp; exact ⟨Hlt.out, hR⟩) | (go_simp; exact Hlt.out)
    | 4, ho =>
      cases ho
      refine .inl ⟨by kernel_rfl, fun w hR => ?_⟩
      first | (go_simp; done) | (go_simp; exact ⟨rfl, hR⟩) | (go_simp; exact ⟨Hx.out, hR⟩) | (go_simp; exact Hx.out)
    | 5, ho =>
      cases ho
      refine .inl ⟨by kernel_rfl, fun w hR => ?_⟩
      exact ow_hxf _ _ rfl hR (cs := #[.int .i64 op, .slice (some ⟨b, off, none⟩) 2 c]) (by simp) 0 (.int .i64 op) rfl rfl (by decide +kernel) ⟨rfl, hR⟩
    | 6, ho =>
      cases ho
      refine .inl ⟨by kernel_rfl, fun w hR => ?_⟩
      first | (go_simp; done) | (go_simp; exact ⟨rfl, hR⟩) | (go_simp; exact ⟨Hgt.out, hR⟩) | (go_simp; exact Hgt.out)
    | 7, ho =>
      cases ho
      refine .inl ⟨by kernel_rfl, fun w hR => ?_⟩
      first | (go_simp; done) | (go_simp; exact ⟨rfl, hR⟩) | (go_simp; exact ⟨Hx.out, hR⟩) | (go_simp; exact Hx.out)
    | 8, ho =>
      cases ho
      refine .inl ⟨by kernel_rfl, fun w hR => ?_⟩
      first | (go_simp; done) | (go_simp; exact ⟨rfl, hR⟩) | (go_simp; exact ⟨Hx.out, hR⟩) | (go_simp; exact Hx.out)
    | 9, ho =>
      cases ho
      refine .inl ⟨by kernel_rfl, fun w hR => ?_⟩
      first | (go_simp; done) | (go_simp; exact ⟨rfl, hR⟩) | (go_simp; exact ⟨Hx.out, hR⟩) | (go_simp; exact Hx.out)
    | 10, ho =>
      cases ho
      refine .inl ⟨by kernel_rfl, fun w hR => ?_⟩
      exact ow_hxf _ _ rfl hR (cs := #[.int .i64 op, .slice (some ⟨b, off, none⟩) 2 c]) (by simp) 1 (.slice (some ⟨b, off, none⟩) 2 c) rfl rfl (by decide +kernel) ⟨rfl, hR⟩
    | 11, ho =>
      cases ho
      refine .inl ⟨by kernel_rfl, fun w hR => ?_⟩
      first | (go_simp; done) | (go_simp; exact ⟨rfl, hR⟩) | (go_simp; exact ⟨Hx.out, hR⟩) | (go_simp; exact Hx.out)
    | 12, ho =>
      cases ho
      refine .inl ⟨by kernel_rfl, fun w hR => ?_⟩
      first | (go_simp; done) | (go_simp; exact ⟨rfl, hR⟩) | (go_simp; exact ⟨Hx.out, hR⟩) | (go_simp; exact Hx.out)
    | 13, ho =>
      cases ho
      refine .inl ⟨by kernel_rfl, fun w hR => ?_⟩
      exact ow_hxf _ _ rfl hR (cs := #[.int .i64 op, .slice (some ⟨b, off, none⟩) 2 c]) (by simp) 0 (.int .i64 op) rfl rfl (by decide +kernel) ⟨rfl, hR⟩
    | 14, ho =>
      cases ho
      refine .inl ⟨by kernel_rfl, fun w hR => ?_⟩
      go_simp
      go_wp2_with fail
      refine (arityS_any op w).mono ?_
      rintro e w4 ⟨rfl, h5⟩
      rw [Har.out]
      exact ⟨rfl, hR.below h5⟩
    | 15, ho =>
      cases ho
      refine .inl ⟨by kernel_rfl, fun w hR => ?_⟩
      first | (go_simp; done) | (go_simp; exact ⟨rfl, hR⟩) | (go_simp; exact ⟨Hne.out, hR⟩) | (go_simp; exact Hne.out)
    | 16, ho =>
      cases ho
      refine .inl ⟨by kernel_rfl, fun w hR => ?_⟩
      first | (go_simp; done) | (go_simp; exact ⟨rfl, hR⟩) | (go_simp; exact ⟨Hx.out, hR⟩) | (go_simp; exact Hx.out)
    | i + 17, ho => simp at ho
  case hR5 => exact H1.out.drew
  case fin5 =>
    intro w2 h2
    have H2 := Lib.hid h2
    clear h2 H1
    cases hb : tBit x with
    | false =>
      have Hb2 := Lib.hid hb
      clear hb
      obtain ⟨x0, x1, x2⟩ := (HT.out.below H2.out.1).at0
      obtain ⟨y0, y1, y2⟩ := (HT.out.below H2.out.1).at1
      have c0 := H2.out.cell (g := W.heap.size) (cs := #[.int .i64 op, .slice (some ⟨b, off, none⟩) 2 c]) (by simp) 0 rfl
      have c1 := H2.out.cell (g := W.heap.size) (cs := #[.int .i64 op, .slice (some ⟨b, off, none⟩) 2 c]) (by simp) 1 rfl
      go_wp2_with fail
      refine (spec_isBit x.1 x.2.1 x.2.2 _).mono ?_
      rw [show isBit x.1 x.2.1 x.2.2 = false from Hb2.out]
      rintro e w3 ⟨rfl, h⟩
      have H3 := Lib.hid ((H2.out).below h)
      clear h H2 c0 c1 x0 x1 x2 y0 y1 y2
      go_wp2_with fail
      go_ret
      exact ⟨kit.ret_bool (by rw [Hb2.out]; try first | rfl | (simp; done)), H3.out.1⟩
    | true =>
      have Hb2 := Lib.hid hb
      clear hb
      obtain ⟨x0, x1, x2⟩ := (HT.out.below H2.out.1).at0
      obtain ⟨y0, y1, y2⟩ := (HT.out.below H2.out.1).at1
      have c0 := H2.out.cell (g := W.heap.size) (cs := #[.int .i64 op, .slice (some ⟨b, off, none⟩) 2 c]) (by simp) 0 rfl
      have c1 := H2.out.cell (g := W.heap.size) (cs := #[.int .i64 op, .slice (some ⟨b, off, none⟩) 2 c]) (by simp) 1 rfl
      go_wp2_with fail
      refine (spec_isBit x.1 x.2.1 x.2.2 _).mono ?_
      rw [show isBit x.1 x.2.1 x.2.2 = true from Hb2.out]
      rintro e w3 ⟨rfl, h⟩
      have H3 := Lib.hid ((H2.out).below h)
      clear h H2 c0 c1 x0 x1 x2 y0 y1 y2
      cases hb : tokB y with
      | false =>
        have Hb3 := Lib.hid hb
        clear hb
        obtain ⟨x0, x1, x2⟩ := (HT.out.below H3.out.1).at0
        obtain ⟨y0, y1, y2⟩ := (HT.out.below H3.out.1).at1
        have c0 := H3.out.cell (g := W.heap.size) (cs := #[.int .i64 op, .slice (some ⟨b, off, none⟩) 2 c]) (by simp) 0 rfl
        have c1 := H3.out.cell (g := W.heap.size) (cs := #[.int .i64 op, .slice (some ⟨b, off, none⟩) 2 c]) (by simp) 1 rfl
        go_wp2_with fail
        refine (spec_dok y.1 y.2.1 y.2.2 _).mono ?_
        rw [show dok y.1 y.2.1 y.2.2 = false from Hb3.out]
        rintro e w4 ⟨rfl, h⟩
        have H4 := Lib.hid ((H3.out).below h)
        clear h H3 c0 c1 x0 x1 x2 y0 y1 y2
        go_wp2_with fail
        go_ret
        exact ⟨kit.ret_bool (by rw [Hb2.out, Hb3.out]; try first | rfl | (simp; done)), H4.out.1⟩
      | true =>
        have Hb3 := Lib.hid hb
        clear hb
        obtain ⟨x0, x1, x2⟩ := (HT.out.below H3.out.1).at0
        obtain ⟨y0, y1, y2⟩ := (HT.out.below H3.out.1).at1
        have c0 := H3.out.cell (g := W.heap.size) (cs := #[.int .i64 op, .slice (some ⟨b, off, none⟩) 2 c]) (by simp) 0 rfl
        have c1 := H3.out.cell (g := W.heap.size) (cs := #[.int .i64 op, .slice (some ⟨b, off, none⟩) 2 c]) (by simp) 1 rfl
        go_wp2_with fail
        refine (spec_dok y.1 y.2.1 y.2.2 _).mono ?_
        rw [show dok y.1 y.2.1 y.2.2 = true from Hb3.out]
        rintro e w4 ⟨rfl, h⟩
        have H4 := Lib.hid ((H3.out).below h)
        clear h H3 c0 c1 x0 x1 x2 y0 y1 y2
        obtain ⟨y0, y1, y2⟩ := (HT.out.below H4.out.1).at1
        have c0 := H4.out.cell (g := W.heap.size) (cs := #[.int .i64 op, .slice (some ⟨b, off, none⟩) 2 c]) (by simp) 0 rfl
        have c1 := H4.out.cell (g := W.heap.size) (cs := #[.int .i64 op, .slice (some ⟨b, off, none⟩) 2 c]) (by simp) 1 rfl
        go_wp2_with fail
        go_ret
        exact ⟨kit.ret_bool (by rw [Hb2.out, Hb3.out]; try first | rfl | (simp; done)), H4.out.1⟩
set_option maxHeartbeats 8000000 in
theorem scon_3 (op : Int) (x y : Tri) (b off c : Nat) (W : World) (hlt : 1 ≤ op) (hgt : op ≤ 10) (har : arity op = 2) (b2 : decide (op ≤ 2) = false) (b4 : decide (op ≤ 4) = false) (hT : Trip W b off [x, y]) :
    Calls Tryd.prog 7 #[.agg #[.int .i64 op, .slice (some ⟨b, off, none⟩) 2 c]] W fun e w' => e = .returned (.bool ((tWhole x && tWhole y) || (tReal x && tReal y))) ∧ Below W.heap.size W w' := by
  have Hlt := Lib.hid hlt
  have Hgt := Lib.hid hgt
  have Har := Lib.hid har
  have HT := Lib.hid hT
  clear hT hlt hgt har
  have H1 := Lib.hid (Hx.box (Hx.nil (Below.refl W.heap.size W)) #[.int .i64 op, .slice (some ⟨b, off, none⟩) 2 c] 25)
  go_enter Tryd.func7, Tryd.ntmps7
  go_wp2_with fail
  refine wp_region_vals (R := Hx W [(W.heap.size, #[.int .i64 op, .slice (some ⟨b, off, none⟩) 2 c])]) (aa := ?aa6) [(3, .pointer (some ⟨W.heap.size, 0, none⟩)), (4, .int .i64 op), (5, .bool false), (6, .bool false), (7, .pointer (some ⟨W.heap.size, 0, none⟩)), (8, .int .i64 op), (9, .bool false), (10, .bool false), (11, .bool false), (12, .pointer (some ⟨W.heap.size, 1, none⟩)), (13, .slice (some ⟨b, off, none⟩) 2 c), (14, .int .i64 2), (15, .pointer (some ⟨W.heap.size, 0, none⟩)), (16, .int .i64 op), (17, .int .i64 2), (18, .bool false), (19, .bool false)] ?hL6 (by kernel_rfl) ?hv6 ?hD6 ?hR6 ?hdo6 ?fin6
  case hL6 =>
    simp only [putD, Act.put]
    go_simp
    rfl
  case hv6 => kernel_rfl
  case hD6 => kernel_rfl
  case hdo6 =>
    intro i o ho
    match i, ho with
    | 0, ho =>
      cases ho
      refine .inl ⟨by kernel_rfl, fun w hR => ?_⟩
      first | (go_simp; done) | (go_simp; exact ⟨rfl, hR⟩) | (go_simp; exact ⟨Hx.out, hR⟩) | (go_simp; exact Hx.out)
    | 1, ho =>
      cases ho
      refine .inl ⟨by kernel_rfl, fun w hR => ?_⟩
      exact ow_hxf _ _ rfl hR (cs := #[.int .i64 op, .slice (some ⟨b, off, none⟩) 2 c]) (by simp) 0 (.int .i64 op) rfl rfl (by decide +kernel) ⟨rfl, hR⟩
    | 2, ho =>
      cases ho
      refine .inl ⟨by kernel_rfl, fun w hR => ?_⟩
      first | (go_simp; done) | (go_simp; exact ⟨rfl, hR⟩) | (go_simp; exact ⟨Hlt.out, hR⟩) | (go_simp; exact Hlt.out)
    | 3, ho =>
      cases ho
      refine .inl ⟨by kernel_rfl, fun w hR => ?_⟩
      first | (go_simp; done) | (go_simp; exact ⟨rfl, hR⟩) | (go_simp; exact ⟨Hlt.out, hR⟩) | (go_simp; exact Hlt.out)
    | 4, ho =>
      cases ho
      refine .inl ⟨by kernel_rfl, fun w hR => ?_⟩
      first | (go_simp; done) | (go_simp; exact ⟨rfl, hR⟩) | (go_simp; exact ⟨Hx.out, hR⟩) | (go_simp; exact Hx.out)
    | 5, ho =>
      cases ho
      refine .inl ⟨by kernel_rfl, fun w hR => ?_⟩
      exact ow_hxf _ _ rfl hR (cs := #[.int .i64 op, .slice (some ⟨b, off, none⟩) 2 c]) (by simp) 0 (.int .i64 op) rfl rfl (by decide +kernel) ⟨rfl, hR⟩
    | 6, ho =>
      cases ho
      refine .inl ⟨by kernel_rfl, fun w hR => ?_⟩
      first | (go_simp; done) | (go_simp; exact ⟨rfl, hR⟩) | (go_simp; exact ⟨Hgt.out, hR⟩) | (go_simp; exact Hgt.out)
    | 7, ho =>
      cases ho
      refine .inl ⟨by kernel_rfl, fun w hR => ?_⟩
      first | (go_simp; done) | (go_simp; exact ⟨rfl, hR⟩) | (go_simp; exact ⟨Hx.out, hR⟩) | (go_simp; exact Hx.out)
    | 8, ho =>
      cases ho
      refine .inl ⟨by kernel_rfl, fun w hR => ?_⟩
      first | (go_simp; done) | (go_simp; exact ⟨rfl, hR⟩) | (go_simp; exact ⟨Hx.out, hR⟩) | (go_simp; exact Hx.out)
    | 9, ho =>
      cases ho
      refine .inl ⟨by kernel_rfl, fun w hR => ?_⟩
      first | (go_simp; done) | (go_simp; exact ⟨rfl, hR⟩) | (go_simp; exact ⟨Hx.out, hR⟩) | (go_simp; exact Hx.out)
    | 10, ho =>
      cases ho
      refine .inl ⟨by kernel_rfl, fun w hR => ?_⟩
      exact ow_hxf _ _ rfl hR (cs := #[.int .i64 op, .slice (some ⟨b, off, none⟩) 2 c]) (by simp) 1 (.slice (some ⟨b, off, none⟩) 2 c) rfl rfl (by decide +kernel) ⟨rfl, hR⟩
    | 11, ho =>
      cases ho
      refine .inl ⟨by kernel_rfl, fun w hR => ?_⟩
      first | (go_simp; done) | (go_simp; exact ⟨rfl, hR⟩) | (go_simp; exact ⟨Hx.out, hR⟩) | (go_simp; exact Hx.out)
    | 12, ho =>
      cases ho
      refine .inl ⟨by kernel_rfl, fun w hR => ?_⟩
      first | (go_simp; done) | (go_simp; exact ⟨rfl, hR⟩) | (go_simp; exact ⟨Hx.out, hR⟩) | (go_simp; exact Hx.out)
    | 13, ho =>
      cases ho
      refine .inl ⟨by kernel_rfl, fun w hR => ?_⟩
      exact ow_hxf _ _ rfl hR (cs := #[.int .i64 op, .slice (some ⟨b, off, none⟩) 2 c]) (by simp) 0 (.int .i64 op) rfl rfl (by decide +kernel) ⟨rfl, hR⟩
    | 14, ho =>
      cases ho
      refine .inl ⟨by kernel_rfl, fun w hR => ?_⟩
      go_simp
      go_wp2_with fail
      refine (arityS_any op w).mono ?_
      rintro e w4 ⟨rfl, h5⟩
      rw [Har.out]
      exact ⟨rfl, hR.below h5⟩
    | 15, ho =>
      cases ho
      refine .inl ⟨by kernel_rfl, fun w hR => ?_⟩
      first | (go_simp; done) | (go_simp; exact ⟨rfl, hR⟩) | (go_simp; exact ⟨Hne.out, hR⟩) | (go_simp; exact Hne.out)
    | 16, ho =>
      cases ho
      refine .inl ⟨by kernel_rfl, fun w hR => ?_⟩
      first | (go_simp; done) | (go_simp; exact ⟨rfl, hR⟩) | (go_simp; exact ⟨Hx.out, hR⟩) | (go_simp; exact Hx.out)
    | i + 17, ho => simp at ho
  case hR6 => exact H1.out.drew
  case fin6 =>
    intro w2 h2
    have H2 := Lib.hid h2
    clear h2 H1
    cases hb : tWhole x with
    | false =>
      have Hb2 := Lib.hid hb
      clear hb
      obtain ⟨x0, x1, x2⟩ := (HT.out.below H2.out.1).at0
      obtain ⟨y0, y1, y2⟩ := (HT.out.below H2.out.1).at1
      have c0 := H2.out.cell (g := W.heap.size) (cs := #[.int .i64 op, .slice (some ⟨b, off, none⟩) 2 c]) (by simp) 0 rfl
      have c1 := H2.out.cell (g := W.heap.size) (cs := #[.int .i64 op, .slice (some ⟨b, off, none⟩) 2 c]) (by simp) 1 rfl
      go_wp2_with fail
      refine (spec_isWhole x.1 x.2.1 x.2.2 _).mono ?_
      rw [show isWhole x.1 x.2.1 x.2.2 = false from Hb2.out]
      rintro e w3 ⟨rfl, h⟩
      have H3 := Lib.hid ((H2.out).below h)
      clear h H2 c0 c1 x0 x1 x2 y0 y1 y2
      cases hb : tReal x with
      | false =>
        have Hb3 := Lib.hid hb
        clear hb
        obtain ⟨x0, x1, x2⟩ := (HT.out.below H3.out.1).at0
        obtain ⟨y0, y1, y2⟩ := (HT.out.below H3.out.1).at1
        have c0 := H3.out.cell (g := W.heap.size) (cs := #[.int .i64 op, .slice (some ⟨b, off, none⟩) 2 c]) (by simp) 0 rfl
        have c1 := H3.out.cell (g := W.heap.size) (cs := #[.int .i64 op, .slice (some ⟨b, off, none⟩) 2 c]) (by simp) 1 rfl
        go_wp2_with fail
        refine (spec_isReal x.1 x.2.1 x.2.2 _).mono ?_
        rw [show isReal x.1 x.2.1 x.2.2 = false from Hb3.out]
        rintro e w4 ⟨rfl, h⟩
        have H4 := Lib.hid ((H3.out).below h)
        clear h H3 c0 c1 x0 x1 x2 y0 y1 y2
        go_wp2_with fail
        go_ret
        exact ⟨kit.ret_bool (by rw [Hb2.out, Hb3.out]; try first | rfl | (simp; done)), H4.out.1⟩
      | true =>
        have Hb3 := Lib.hid hb
        clear hb
        obtain ⟨x0, x1, x2⟩ := (HT.out.below H3.out.1).at0
        obtain ⟨y0, y1, y2⟩ := (HT.out.below H3.out.1).at1
        have c0 := H3.out.cell (g := W.heap.size) (cs := #[.int .i64 op, .slice (some ⟨b, off, none⟩) 2 c]) (by simp) 0 rfl
        have c1 := H3.out.cell (g := W.heap.size) (cs := #[.int .i64 op, .slice (some ⟨b, off, none⟩) 2 c]) (by simp) 1 rfl
        go_wp2_with fail
        refine (spec_isReal x.1 x.2.1 x.2.2 _).mono ?_
        rw [show isReal x.1 x.2.1 x.2.2 = true from Hb3.out]
        rintro e w4 ⟨rfl, h⟩
        have H4 := Lib.hid ((H3.out).below h)
        clear h H3 c0 c1 x0 x1 x2 y0 y1 y2
        cases hb : tReal y with
        | false =>
          have Hb4 := Lib.hid hb
          clear hb
          obtain ⟨x0, x1, x2⟩ := (HT.out.below H4.out.1).at0
          obtain ⟨y0, y1, y2⟩ := (HT.out.below H4.out.1).at1
          have c0 := H4.out.cell (g := W.heap.size) (cs := #[.int .i64 op, .slice (some ⟨b, off, none⟩) 2 c]) (by simp) 0 rfl
          have c1 := H4.out.cell (g := W.heap.size) (cs := #[.int .i64 op, .slice (some ⟨b, off, none⟩) 2 c]) (by simp) 1 rfl
          go_wp2_with fail
          refine (spec_isReal y.1 y.2.1 y.2.2 _).mono ?_
          rw [show isReal y.1 y.2.1 y.2.2 = false from Hb4.out]
          rintro e w5 ⟨rfl, h⟩
          have H5 := Lib.hid ((H4.out).below h)
          clear h H4 c0 c1 x0 x1 x2 y0 y1 y2
          go_wp2_with fail
          go_ret
          exact ⟨kit.ret_bool (by rw [Hb2.out, Hb3.out, Hb4.out]; try first | rfl | (simp; done)), H5.out.1⟩
        | true =>
          have Hb4 := Lib.hid hb
          clear hb
          obtain ⟨x0, x1, x2⟩ := (HT.out.below H4.out.1).at0
          obtain ⟨y0, y1, y2⟩ := (HT.out.below H4.out.1).at1
          have c0 := H4.out.cell (g := W.heap.size) (cs := #[.int .i64 op, .slice (some ⟨b, off, none⟩) 2 c]) (by simp) 0 rfl
          have c1 := H4.out.cell (g := W.heap.size) (cs := #[.int .i64 op, .slice (some ⟨b, off, none⟩) 2 c]) (by simp) 1 rfl
          go_wp2_with fail
          refine (spec_isReal y.1 y.2.1 y.2.2 _).mono ?_
          rw [show isReal y.1 y.2.1 y.2.2 = true from Hb4.out]
          rintro e w5 ⟨rfl, h⟩
          have H5 := Lib.hid ((H4.out).below h)
          clear h H4 c0 c1 x0 x1 x2 y0 y1 y2
          go_wp2_with fail
          go_ret
          exact ⟨kit.ret_bool (by rw [Hb2.out, Hb3.out, Hb4.out]; try first | rfl | (simp; done)), H5.out.1⟩
    | true =>
      have Hb2 := Lib.hid hb
      clear hb
      obtain ⟨x0, x1, x2⟩ := (HT.out.below H2.out.1).at0
      obtain ⟨y0, y1, y2⟩ := (HT.out.below H2.out.1).at1
      have c0 := H2.out.cell (g := W.heap.size) (cs := #[.int .i64 op, .slice (some ⟨b, off, none⟩) 2 c]) (by simp) 0 rfl
      have c1 := H2.out.cell (g := W.heap.size) (cs := #[.int .i64 op, .slice (some ⟨b, off, none⟩) 2 c]) (by simp) 1 rfl
      go_wp2_with fail
      refine (spec_isWhole x.1 x.2.1 x.2.2 _).mono ?_
      rw [show isWhole x.1 x.2.1 x.2.2 = true from Hb2.out]
      rintro e w3 ⟨rfl, h⟩
      have H3 := Lib.hid ((H2.out).below h)
      clear h H2 c0 c1 x0 x1 x2 y0 y1 y2
      cases hb : tWhole y with
      | false =>
        have Hb3 := Lib.hid hb
        clear hb
        obtain ⟨x0, x1, x2⟩ := (HT.out.below H3.out.1).at0
        obtain ⟨y0, y1, y2⟩ := (HT.out.below H3.out.1).at1
        have c0 := H3.out.cell (g := W.heap.size) (cs := #[.int .i64 op, .slice (some ⟨b, off, none⟩) 2 c]) (by simp) 0 rfl
        have c1 := H3.out.cell (g := W.heap.size) (cs := #[.int .i64 op, .slice (some ⟨b, off, none⟩) 2 c]) (by simp) 1 rfl
        go_wp2_with fail
        refine (spec_isWhole y.1 y.2.1 y.2.2 _).mono ?_
        rw [show isWhole y.1 y.2.1 y.2.2 = false from Hb3.out]
        rintro e w4 ⟨rfl, h⟩
        have H4 := Lib.hid ((H3.out).below h)
        clear h H3 c0 c1 x0 x1 x2 y0 y1 y2
        cases hb : tReal x with
        | false =>
          have Hb4 := Lib.hid hb
          clear hb
          obtain ⟨x0, x1, x2⟩ := (HT.out.below H4.out.1).at0
          obtain ⟨y0, y1, y2⟩ := (HT.out.below H4.out.1).at1
          have c0 := H4.out.cell (g := W.heap.size) (cs := #[.int .i64 op, .slice (some ⟨b, off, none⟩) 2 c]) (by simp) 0 rfl
          have c1 := H4.out.cell (g := W.heap.size) (cs := #[.int .i64 op, .slice (some ⟨b, off, none⟩) 2 c]) (by simp) 1 rfl
          go_wp2_with fail
          refine (spec_isReal x.1 x.2.1 x.2.2 _).mono ?_
          rw [show isReal x.1 x.2.1 x.2.2 = false from Hb4.out]
          rintro e w5 ⟨rfl, h⟩
          have H5 := Lib.hid ((H4.out).below h)
          clear h H4 c0 c1 x0 x1 x2 y0 y1 y2
          go_wp2_with fail
          go_ret
          exact ⟨kit.ret_bool (by rw [Hb2.out, Hb3.out, Hb4.out]; try first | rfl | (simp; done)), H5.out.1⟩
        | true =>
          have Hb4 := Lib.hid hb
          clear hb
          obtain ⟨x0, x1, x2⟩ := (HT.out.below H4.out.1).at0
          obtain ⟨y0, y1, y2⟩ := (HT.out.below H4.out.1).at1
          have c0 := H4.out.cell (g := W.heap.size) (cs := #[.int .i64 op, .slice (some ⟨b, off, none⟩) 2 c]) (by simp) 0 rfl
          have c1 := H4.out.cell (g := W.heap.size) (cs := #[.int .i64 op, .slice (some ⟨b, off, none⟩) 2 c]) (by simp) 1 rfl
          go_wp2_with fail
          refine (spec_isReal x.1 x.2.1 x.2.2 _).mono ?_
          rw [show isReal x.1 x.2.1 x.2.2 = true from Hb4.out]
          rintro e w5 ⟨rfl, h⟩
          have H5 := Lib.hid ((H4.out).below h)
          clear h H4 c0 c1 x0 x1 x2 y0 y1 y2
          cases hb : tReal y with
          | false =>
            have Hb5 := Lib.hid hb
            clear hb
            obtain ⟨x0, x1, x2⟩ := (HT.out.below H5.out.1).at0
            obtain ⟨y0, y1, y2⟩ := (HT.out.below H5.out.1).at1
            have c0 := H5.out.cell (g := W.heap.size) (cs := #[.int .i64 op, .slice (some ⟨b, off, none⟩) 2 c]) (by simp) 0 rfl
            have c1 := H5.out.cell (g := W.heap.size) (cs := #[.int .i64 op, .slice (some ⟨b, off, none⟩) 2 c]) (by simp) 1 rfl
            go_wp2_with fail
            refine (spec_isReal y.1 y.2.1 y.2.2 _).mono ?_
            rw [show isReal y.1 y.2.1 y.2.2 = false from Hb5.out]
            rintro e w6 ⟨rfl, h⟩
            have H6 := Lib.hid ((H5.out).below h)
            clear h H5 c0 c1 x0 x1 x2 y0 y1 y2
            go_wp2_with fail
            go_ret
            exact ⟨kit.ret_bool (by rw [Hb2.out, Hb3.out, Hb4.out, Hb5.out]; try first | rfl | (simp; done)), H6.out.1⟩
          | true =>
            have Hb5 := Lib.hid hb
            clear hb
            obtain ⟨x0, x1, x2⟩ := (HT.out.below H5.out.1).at0
            obtain ⟨y0, y1, y2⟩ := (HT.out.below H5.out.1).at1
            have c0 := H5.out.cell (g := W.heap.size) (cs := #[.int .i64 op, .slice (some ⟨b, off, none⟩) 2 c]) (by simp) 0 rfl
            have c1 := H5.out.cell (g := W.heap.size) (cs := #[.int .i64 op, .slice (some ⟨b, off, none⟩) 2 c]) (by simp) 1 rfl
            go_wp2_with fail
            refine (spec_isReal y.1 y.2.1 y.2.2 _).mono ?_
            rw [show isReal y.1 y.2.1 y.2.2 = true from Hb5.out]
            rintro e w6 ⟨rfl, h⟩
            have H6 := Lib.hid ((H5.out).below h)
            clear h H5 c0 c1 x0 x1 x2 y0 y1 y2
            go_wp2_with fail
            go_ret
            exact ⟨kit.ret_bool (by rw [Hb2.out, Hb3.out, Hb4.out, Hb5.out]; try first | rfl | (simp; done)), H6.out.1⟩
      | true =>
        have Hb3 := Lib.hid hb
        clear hb
        obtain ⟨x0, x1, x2⟩ := (HT.out.below H3.out.1).at0
        obtain ⟨y0, y1, y2⟩ := (HT.out.below H3.out.1).at1
        have c0 := H3.out.cell (g := W.heap.size) (cs := #[.int .i64 op, .slice (some ⟨b, off, none⟩) 2 c]) (by simp) 0 rfl
        have c1 := H3.out.cell (g := W.heap.size) (cs := #[.int .i64 op, .slice (some ⟨b, off, none⟩) 2 c]) (by simp) 1 rfl
        go_wp2_with fail
        refine (spec_isWhole y.1 y.2.1 y.2.2 _).mono ?_
        rw [show isWhole y.1 y.2.1 y.2.2 = true from Hb3.out]
        rintro e w4 ⟨rfl, h⟩
        have H4 := Lib.hid ((H3.out).below h)
        clear h H3 c0 c1 x0 x1 x2 y0 y1 y2
        go_wp2_with fail
        go_ret
        exact ⟨kit.ret_bool (by rw [Hb2.out, Hb3.out]; try first | rfl | (simp; done)), H4.out.1⟩
theorem scon_any (op : Int) (A : Option Addr) (c : Nat) (l : List Tri) (W : World) (hA : Argsat W A l) :
    Calls Tryd.prog 7 #[.agg #[.int .i64 op, .slice A l.length c]] W fun e w' => e = .returned (.bool (contact op l)) ∧ Below W.heap.size W w' := by
  by_cases h1 : op < 1
  · rw [show contact op l = false by unfold contact; rw [inB_false (by omega)]; rfl]
    exact scon_lt op l.length A c W h1
  by_cases h2 : 10 < op
  · rw [show contact op l = false by unfold contact; rw [inB_false (by omega)]; rfl]
    exact scon_gt op l.length A c W (by omega) h2
  by_cases hne : (l.length : Int) = arity op
  · have hc : contact op l = (if op ≤ 2 then tBit (l.getD 0 zT) else if op ≤ 4 then tBit (l.getD 0 zT) && tKis (l.getD 1 zT) [5] else l.all tWhole || l.all tReal) := by unfold contact; rw [inB_true (by omega), decide_eq_true hne]; rfl
    rw [hc]
    by_cases o2 : op ≤ 2
    · have ha : arity op = 1 := by unfold arity; rw [if_pos (by omega)]
      obtain ⟨x, rfl⟩ := kit.list1 (l := l) (by omega)
      rcases hA with hA | ⟨b, off, rfl, hT⟩
      · cases hA
      rw [if_pos o2]
      exact scon_1 op x b off c W (by omega) (by omega) ha (decide_eq_true o2) hT
    · have ha : arity op = 2 := by unfold arity; rw [if_neg (by omega), if_neg (by omega), if_pos (by omega)]
      obtain ⟨x, y, rfl⟩ := kit.list2 (l := l) (by omega)
      rcases hA with hA | ⟨b, off, rfl, hT⟩
      · cases hA
      rw [if_neg o2]
      by_cases o4 : op ≤ 4
      · rw [if_pos o4, show (tBit ([x, y].getD 0 zT) && tKis ([x, y].getD 1 zT) [5]) = (tBit x && (tokB y && (y.1 == 5))) by simp [tKis, kis, has, tokB]; rfl]
        exact scon_2 op x y b off c W (by omega) (by omega) ha (decide_eq_false o2) (decide_eq_true o4) hT
      · rw [if_neg o4, show ([x, y].all tWhole || [x, y].all tReal) = ((tWhole x && tWhole y) || (tReal x && tReal y)) by simp]
        exact scon_3 op x y b off c W (by omega) (by omega) ha (decide_eq_false o2) (decide_eq_false o4) hT
  · rw [show contact op l = false by unfold contact; rw [decide_eq_false hne, Bool.and_false]; rfl]
    exact scon_len op l.length A c W (by omega) (by omega) hne
end Go.Proofs.YtgmdpgchffapoaaDoor.dev
