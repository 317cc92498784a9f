/-
  'impl.ElemIsCoil': what it returns.
  Conditions: the operands' cells hold them; the variables 'devSizes', 'devWords' hold what they are laid with.
-/
import Derived.Test.YtgmdpgchffapoaaDoorElemC
import Derived.Test.YtgmdpgchffapoaaDoorFam
namespace Go.Proofs.YtgmdpgchffapoaaDoor.dev
open Go Go.RowKit Go.Proofs.YtgmdpgchffapoaaDoor.part
set_option linter.unusedVariables false
set_option linter.unusedSimpArgs false
set_option maxRecDepth 100000

/-- Where two boxes came to lie. -/
structure Two where
  one : Nat
  two : Nat
/-- Region 3 of 'impl.ElemIsCoil': the first operand's box (where the first of p says) and the rest's. -/
def Rk (W : World) (bs : List (Nat × Array Value)) (da ra : Array Value) (p : Two) (listed : Array Bool) (w : World) : Prop :=
  Hx W bs w ∧
  (listed.getD 7 false = true → W.heap.size ≤ p.one ∧ (∀ q ∈ bs, q.1 ≠ p.one) ∧ w.heap[p.one]? = some (.cells (if listed.getD 9 false then da else #[.int .i64 0, .int .i64 0, .int .i64 0]) 31 (0, 0))) ∧
  (listed.getD 8 false = true → W.heap.size ≤ p.two ∧ (∀ q ∈ bs, q.1 ≠ p.two) ∧ w.heap[p.two]? = some (.cells (if listed.getD 10 false then ra else #[.slice none 0 0]) 23 (0, 0))) ∧
  (listed.getD 7 false = true → listed.getD 8 false = true → p.one ≠ p.two) ∧ (listed.getD 9 false = true → listed.getD 7 false = true) ∧ (listed.getD 10 false = true → listed.getD 8 false = true)
theorem Rk.pure {W : World} {bs : List (Nat × Array Value)} {da ra : Array Value} {p : Two} {listed : Array Bool} {w : World} (h : Rk W bs da ra p listed w) (i : Nat) (hi : i < 7) : Rk W bs da ra p (listed.setIfInBounds i true) w := by
  unfold Rk
  rw [flag_other (by omega), flag_other (by omega), flag_other (by omega), flag_other (by omega)]
  exact h
theorem Rk.init {W w : World} {bs : List (Nat × Array Value)} {da ra : Array Value} {p : Two} (h : Hx W bs w) : Rk W bs da ra p (Array.replicate 11 false) w :=
  ⟨h, fun x => by simp at x, fun x => by simp at x, fun x => by simp at x, fun x => by simp at x, fun x => by simp at x⟩
theorem Rk.fin {W w : World} {bs : List (Nat × Array Value)} {da ra : Array Value} {p : Two} {listed : Array Bool} (h : Rk W bs da ra p listed w) (hall : ∀ j, j < 11 → listed.getD j false = true) : Hx W ((p.one, da) :: (p.two, ra) :: bs) w := by
  obtain ⟨h0, h1, h2, _⟩ := h
  obtain ⟨a1, _, a3⟩ := h1 (hall 7 (by decide))
  obtain ⟨b1, _, b3⟩ := h2 (hall 8 (by decide))
  rw [if_pos (hall 9 (by decide))] at a3
  rw [if_pos (hall 10 (by decide))] at b3
  refine ⟨h0.1, fun q hq => ?_⟩
  rcases List.mem_cons.1 hq with rfl | hq
  · exact ⟨a1, _, a3⟩
  rcases List.mem_cons.1 hq with rfl | hq
  · exact ⟨b1, _, b3⟩
  · exact h0.2 q hq

theorem coil_out (op : Int) (n : Nat) (A : Option Addr) (c : Nat) (W : World) (hin : inB op 21 37 = false) (hs : Sizes W) (hw : Words W) :
    Calls Tryd.prog 6 #[.agg #[.int .i64 op, .slice A n c]] W fun e w' => e = .returned (.bool false) ∧ Below W.heap.size W w' := by
  have Hin := Lib.hid hin
  clear hin
  have H1 := Lib.hid (Hx.box (Hx.nil (Below.refl W.heap.size W)) #[.int .i64 op, .slice A n c] 25)
  have Hs := Lib.hid hs
  have Hw := Lib.hid hw
  clear hs hw
  go_enter Tryd.func6, Tryd.ntmps6
  go_wp2_with fail
  refine wp_region_vals (R := Hx W [(W.heap.size, #[.int .i64 op, .slice A n c])]) (aa := ?aa1) [(6, .pointer (some ⟨W.heap.size, 0, none⟩)), (7, .int .i64 op), (8, .bool false), (9, .bool true), (10, .bool true), (11, undef), (12, undef), (13, undef), (14, undef), (15, undef), (16, undef), (17, undef), (18, .bool true)] ?hL1 (by kernel_rfl) ?hv1 ?hD1 ?hR1 ?hdo1 ?fin1
  case hL1 =>
    simp only [putD, Act.put]
    go_simp
    rfl
  case hv1 => kernel_rfl
  case hD1 => kernel_rfl
  case hdo1 =>
    intro i o ho
    match i, ho with
    | 0, ho =>
      cases ho
      refine .inl ⟨by kernel_rfl, fun w hR => ?_⟩
      first | (go_simp; done) | (go_simp; exact ⟨rfl, hR⟩)
    | 1, ho =>
      cases ho
      refine .inl ⟨by kernel_rfl, fun w hR => ?_⟩
      exact ow_hxf _ _ rfl hR (cs := #[.int .i64 op, .slice A n c]) (by simp) 0 (.int .i64 op) rfl rfl (by decide +kernel) ⟨rfl, hR⟩
    | 2, ho =>
      cases ho
      refine .inl ⟨by kernel_rfl, fun w hR => ?_⟩
      go_simp
      go_wp2_with fail
      refine (in_any op 21 37 w).mono ?_
      rintro e w4 ⟨rfl, rfl⟩
      rw [Hin.out]
      exact ⟨rfl, hR⟩
    | 3, ho =>
      cases ho
      refine .inl ⟨by kernel_rfl, fun w hR => ?_⟩
      first | (go_simp; done) | (go_simp; exact ⟨rfl, hR⟩)
    | 4, ho =>
      cases ho
      refine .inl ⟨by kernel_rfl, fun w hR => ?_⟩
      first | (go_simp; done) | (go_simp; exact ⟨rfl, hR⟩)
    | 5, ho =>
      cases ho
      exact .inr ⟨by kernel_rfl, fun t ht => by cases ht; rfl⟩
    | 6, ho =>
      cases ho
      exact .inr ⟨by kernel_rfl, fun t ht => by cases ht; rfl⟩
    | 7, ho =>
      cases ho
      exact .inr ⟨by kernel_rfl, fun t ht => by cases ht; rfl⟩
    | 8, ho =>
      cases ho
      exact .inr ⟨by kernel_rfl, fun t ht => by cases ht; rfl⟩
    | 9, ho =>
      cases ho
      exact .inr ⟨by kernel_rfl, fun t ht => by cases ht; rfl⟩
    | 10, ho =>
      cases ho
      exact .inr ⟨by kernel_rfl, fun t ht => by cases ht; rfl⟩
    | 11, ho =>
      cases ho
      exact .inr ⟨by kernel_rfl, fun t ht => by cases ht; rfl⟩
    | 12, ho =>
      cases ho
      refine .inl ⟨by kernel_rfl, fun w hR => ?_⟩
      first | (go_simp; done) | (go_simp; exact ⟨rfl, hR⟩)
    | i + 13, ho => simp at ho
  case hR1 => exact H1.out.drew
  case fin1 =>
    intro w2 h2
    have H2 := Lib.hid h2
    clear h2 H1
    go_wp2_with fail
    go_ret
    exact ⟨rfl, H2.out.1⟩
theorem coil_len (op : Int) (n : Nat) (A : Option Addr) (c : Nat) (W : World) (hin : inB op 21 37 = true) (hne : (n : Int) ≠ arity op) (hs : Sizes W) (hw : Words W) :
    Calls Tryd.prog 6 #[.agg #[.int .i64 op, .slice A n c]] W fun e w' => e = .returned (.bool false) ∧ Below W.heap.size W w' := by
  have Hin := Lib.hid hin
  have Hne := Lib.hid (show (n : Int) = arity op → False from hne)
  clear hin hne
  have H1 := Lib.hid (Hx.box (Hx.nil (Below.refl W.heap.size W)) #[.int .i64 op, .slice A n c] 25)
  have Hs := Lib.hid hs
  have Hw := Lib.hid hw
  clear hs hw
  go_enter Tryd.func6, Tryd.ntmps6
  go_wp2_with fail
  refine wp_region_vals (R := Hx W [(W.heap.size, #[.int .i64 op, .slice A n c])]) (aa := ?aa2) [(6, .pointer (some ⟨W.heap.size, 0, none⟩)), (7, .int .i64 op), (8, .bool true), (9, .bool false), (10, .bool false), (11, .pointer (some ⟨W.heap.size, 1, none⟩)), (12, .slice A n c), (13, .int .i64 n), (14, .pointer (some ⟨W.heap.size, 0, none⟩)), (15, .int .i64 op), (16, .int .i64 (arity op)), (17, .bool true), (18, .bool true)] ?hL2 (by kernel_rfl) ?hv2 ?hD2 ?hR2 ?hdo2 ?fin2
  case hL2 =>
    simp only [putD, Act.put]
    go_simp
    rfl
  case hv2 => kernel_rfl
  case hD2 => kernel_rfl
  case hdo2 =>
    intro i o ho
    match i, ho with
    | 0, ho =>
      cases ho
      refine .inl ⟨by kernel_rfl, fun w hR => ?_⟩
      first | (go_simp; done) | (go_simp; exact ⟨rfl, hR⟩)
    | 1, ho =>
      cases ho
      refine .inl ⟨by kernel_rfl, fun w hR => ?_⟩
      exact ow_hxf _ _ rfl hR (cs := #[.int .i64 op, .slice A n c]) (by simp) 0 (.int .i64 op) rfl rfl (by decide +kernel) ⟨rfl, hR⟩
    | 2, ho =>
      cases ho
      refine .inl ⟨by kernel_rfl, fun w hR => ?_⟩
      go_simp
      go_wp2_with fail
      refine (in_any op 21 37 w).mono ?_
      rintro e w4 ⟨rfl, rfl⟩
      rw [Hin.out]
      exact ⟨rfl, hR⟩
    | 3, ho =>
      cases ho
      refine .inl ⟨by kernel_rfl, fun w hR => ?_⟩
      first | (go_simp; done) | (go_simp; exact ⟨rfl, hR⟩)
    | 4, ho =>
      cases ho
      refine .inl ⟨by kernel_rfl, fun w hR => ?_⟩
      first | (go_simp; done) | (go_simp; exact ⟨rfl, hR⟩)
    | 5, ho =>
      cases ho
      refine .inl ⟨by kernel_rfl, fun w hR => ?_⟩
      first | (go_simp; done) | (go_simp; exact ⟨rfl, hR⟩)
    | 6, ho =>
      cases ho
      refine .inl ⟨by kernel_rfl, fun w hR => ?_⟩
      exact ow_hxf _ _ rfl hR (cs := #[.int .i64 op, .slice A n c]) (by simp) 1 (.slice A n c) rfl rfl (by decide +kernel) ⟨rfl, hR⟩
    | 7, ho =>
      cases ho
      refine .inl ⟨by kernel_rfl, fun w hR => ?_⟩
      first | (go_simp; done) | (go_simp; exact ⟨rfl, hR⟩)
    | 8, ho =>
      cases ho
      refine .inl ⟨by kernel_rfl, fun w hR => ?_⟩
      first | (go_simp; done) | (go_simp; exact ⟨rfl, hR⟩)
    | 9, ho =>
      cases ho
      refine .inl ⟨by kernel_rfl, fun w hR => ?_⟩
      exact ow_hxf _ _ rfl hR (cs := #[.int .i64 op, .slice A n c]) (by simp) 0 (.int .i64 op) rfl rfl (by decide +kernel) ⟨rfl, hR⟩
    | 10, ho =>
      cases ho
      refine .inl ⟨by kernel_rfl, fun w hR => ?_⟩
      go_simp
      go_wp2_with fail
      refine (arity_any op w).mono ?_
      rintro e w4 ⟨rfl, h5⟩
      exact ⟨rfl, hR.below h5⟩
    | 11, ho =>
      cases ho
      refine .inl ⟨by kernel_rfl, fun w hR => ?_⟩
      first | (go_simp; done) | (go_simp; exact ⟨rfl, hR⟩) | (go_simp; exact ⟨Hne.out, hR⟩) | (go_simp; exact Hne.out)
    | 12, ho =>
      cases ho
      refine .inl ⟨by kernel_rfl, fun w hR => ?_⟩
      first | (go_simp; done) | (go_simp; exact ⟨rfl, hR⟩)
    | i + 13, ho => simp at ho
  case hR2 => exact H1.out.drew
  case fin2 =>
    intro w2 h2
    have H2 := Lib.hid h2
    clear h2 H1
    go_wp2_with fail
    go_ret
    exact ⟨rfl, H2.out.1⟩
end Go.Proofs.YtgmdpgchffapoaaDoor.dev
