/-
  'impl.ElemArity', 'impl.ElemIsContact': what they return.
  Conditions: the operands' cells hold them; the variables 'devSizes', 'devWords' hold what they are laid with.
-/
import Derived.Test.YtgmdpgchffapoaaDoorAll
import Derived.Test.YtgmdpgchffapoaaDoorHxG
namespace Go.Proofs.YtgmdpgchffapoaaDoor.dev
open Go Go.RowKit Go.Proofs.YtgmdpgchffapoaaDoor.part
set_option linter.unusedVariables false
set_option linter.unusedSimpArgs false

def arity (op : Int) : Int := if (1 ≤ op ∧ op ≤ 2) ∨ (21 ≤ op ∧ op ≤ 23) ∨ op = 25 then 1 else if 31 ≤ op ∧ op ≤ 35 then 3 else if (3 ≤ op ∧ op ≤ 10) ∨ (24 ≤ op ∧ op ≤ 37) then 2 else 0
theorem arity_any (op : Int) (w : World) : Calls Tryd.prog 11 #[.int .i64 op] w fun e w' => e = .returned (.int .i64 (arity op)) ∧ Below w.heap.size w w' := by
  go_enter Tryd.func11, Tryd.ntmps11
  go_wp2
  all_goals
    go_ret
    refine ⟨kit.ret_int ?_, Below.refl _ _⟩
    simp only [beq_iff_eq, beq_eq_false_iff_ne, ne_eq] at *
    unfold arity
    (repeat' split) <;> omega
set_option maxHeartbeats 2000000 in
theorem arityS_any (op : Int) (w : World) : Calls Tryd.prog 22 #[.int .i64 op] w fun e w' => e = .returned (.int .i64 (arity op)) ∧ Below w.heap.size w w' := by
  go_enter Tryd.func22, Tryd.ntmps22
  go_wp2
  all_goals
    go_ret
    refine ⟨kit.ret_int ?_, Below.refl _ _⟩
    simp only [beq_iff_eq, beq_eq_false_iff_ne, ne_eq] at *
    unfold arity
    (repeat' split) <;> omega

/-- The operands lie in the slice. -/
def Argsat (w : World) (A : Option Addr) (l : List Tri) : Prop := l = [] ∨ ∃ b off, A = some ⟨b, off, none⟩ ∧ Trip w b off l
theorem Argsat.below {w w' : World} {A : Option Addr} {l : List Tri} (h : Argsat w A l) (hb : Below w.heap.size w w') : Argsat w' A l := by
  rcases h with h | ⟨b, off, e, h⟩
  · exact .inl h
  · exact .inr ⟨b, off, e, h.below hb⟩
theorem Trip.at0 {w : World} {b off : Nat} {x : Tri} {l : List Tri} (h : Trip w b off (x :: l)) : w.cell? ⟨b, off, none⟩ = some (.int .i64 x.1) ∧ w.cell? ⟨b, off + 1, none⟩ = some (.int .i64 x.2.1) ∧ w.cell? ⟨b, off + 2, none⟩ = some (.int .i64 x.2.2) := by
  simpa using h 0 (by simp)
theorem Trip.at1 {w : World} {b off : Nat} {x y : Tri} {l : List Tri} (h : Trip w b off (x :: y :: l)) : w.cell? ⟨b, off + 3, none⟩ = some (.int .i64 y.1) ∧ w.cell? ⟨b, off + 3 + 1, none⟩ = some (.int .i64 y.2.1) ∧ w.cell? ⟨b, off + 3 + 2, none⟩ = some (.int .i64 y.2.2) := by
  simpa using h 1 (by simp)
theorem Trip.tail {w : World} {b off : Nat} {x : Tri} {l : List Tri} (h : Trip w b off (x :: l)) : Trip w b (off + 3) l := by
  intro i hi
  have := h (i + 1) (by simp; omega)
  rw [show off + (i + 1) * 3 = off + 3 + i * 3 by omega] at this
  simpa using this

def tBit (x : Tri) : Bool := isBit x.1 x.2.1 x.2.2
def tKis (x : Tri) (zs : List Int) : Bool := kis x.1 x.2.1 x.2.2 zs
def contact (op : Int) (l : List Tri) : Bool := inB op 1 10 && decide ((l.length : Int) = arity op) &&
  (if op ≤ 2 then tBit (l.getD 0 zT) else if op ≤ 4 then tBit (l.getD 0 zT) && tKis (l.getD 1 zT) [5] else l.all tWhole || l.all tReal)

theorem contact_out (op : Int) (n : Nat) (A : Option Addr) (c : Nat) (W : World) (hin : inB op 1 10 = false) (hs : Sizes W) (hw : Words W) :
    Calls Tryd.prog 5 #[.agg #[.int .i64 op, .slice A n c]] W fun e w' => e = .returned (.bool false) ∧ Below W.heap.size W w' := by
  have Hin := Lib.hid hin
  clear hin
  have H1 := Lib.hid (Hx.box (Hx.nil (Below.refl W.heap.size W)) #[.int .i64 op, .slice A n c] 25)
  have Hs := Lib.hid hs
  have Hw := Lib.hid hw
  clear hs hw
  go_enter Tryd.func5, Tryd.ntmps5
  go_wp2_with fail
  refine wp_region_vals (R := Hx W [(W.heap.size, #[.int .i64 op, .slice A n c])]) (aa := ?aa1) [(3, .pointer (some ⟨W.heap.size, 0, none⟩)), (4, .int .i64 op), (5, .bool false), (6, .bool true), (7, .bool true), (8, undef), (9, undef), (10, undef), (11, undef), (12, undef), (13, undef), (14, undef), (15, .bool true)] ?hL1 (by kernel_rfl) ?hv1 ?hD1 ?hR1 ?hdo1 ?fin1
  case hL1 =>
    simp only [putD, Act.put]
    go_simp
    rfl
  case hv1 => kernel_rfl
  case hD1 => kernel_rfl
  case hdo1 =>
    intro i o ho
    match i, ho with
    | 0, ho =>
      cases ho
      refine .inl ⟨by kernel_rfl, fun w hR => ?_⟩
      first | (go_simp; done) | (go_simp; exact ⟨rfl, hR⟩)
    | 1, ho =>
      cases ho
      refine .inl ⟨by kernel_rfl, fun w hR => ?_⟩
      exact ow_hxf _ _ rfl hR (cs := #[.int .i64 op, .slice A n c]) (by simp) 0 (.int .i64 op) rfl rfl (by decide +kernel) ⟨rfl, hR⟩
    | 2, ho =>
      cases ho
      refine .inl ⟨by kernel_rfl, fun w hR => ?_⟩
      go_simp
      go_wp2_with fail
      refine (in_any op 1 10 w).mono ?_
      rintro e w4 ⟨rfl, rfl⟩
      rw [Hin.out]
      exact ⟨rfl, hR⟩
    | 3, ho =>
      cases ho
      refine .inl ⟨by kernel_rfl, fun w hR => ?_⟩
      first | (go_simp; done) | (go_simp; exact ⟨rfl, hR⟩)
    | 4, ho =>
      cases ho
      refine .inl ⟨by kernel_rfl, fun w hR => ?_⟩
      first | (go_simp; done) | (go_simp; exact ⟨rfl, hR⟩)
    | 5, ho =>
      cases ho
      exact .inr ⟨by kernel_rfl, fun t ht => by cases ht; rfl⟩
    | 6, ho =>
      cases ho
      exact .inr ⟨by kernel_rfl, fun t ht => by cases ht; rfl⟩
    | 7, ho =>
      cases ho
      exact .inr ⟨by kernel_rfl, fun t ht => by cases ht; rfl⟩
    | 8, ho =>
      cases ho
      exact .inr ⟨by kernel_rfl, fun t ht => by cases ht; rfl⟩
    | 9, ho =>
      cases ho
      exact .inr ⟨by kernel_rfl, fun t ht => by cases ht; rfl⟩
    | 10, ho =>
      cases ho
      exact .inr ⟨by kernel_rfl, fun t ht => by cases ht; rfl⟩
    | 11, ho =>
      cases ho
      exact .inr ⟨by kernel_rfl, fun t ht => by cases ht; rfl⟩
    | 12, ho =>
      cases ho
      refine .inl ⟨by kernel_rfl, fun w hR => ?_⟩
      first | (go_simp; done) | (go_simp; exact ⟨rfl, hR⟩)
    | i + 13, ho => simp at ho
  case hR1 => exact H1.out.drew
  case fin1 =>
    intro w2 h2
    have H2 := Lib.hid h2
    clear h2 H1
    go_wp2_with fail
    go_ret
    exact ⟨rfl, H2.out.1⟩
theorem contact_len (op : Int) (n : Nat) (A : Option Addr) (c : Nat) (W : World) (hin : inB op 1 10 = true) (hne : (n : Int) ≠ arity op) (hs : Sizes W) (hw : Words W) :
    Calls Tryd.prog 5 #[.agg #[.int .i64 op, .slice A n c]] W fun e w' => e = .returned (.bool false) ∧ Below W.heap.size W w' := by
  have Hin := Lib.hid hin
  have Hne := Lib.hid (show (n : Int) = arity op → False from hne)
  clear hin hne
  have H1 := Lib.hid (Hx.box (Hx.nil (Below.refl W.heap.size W)) #[.int .i64 op, .slice A n c] 25)
  have Hs := Lib.hid hs
  have Hw := Lib.hid hw
  clear hs hw
  go_enter Tryd.func5, Tryd.ntmps5
  go_wp2_with fail
  refine wp_region_vals (R := Hx W [(W.heap.size, #[.int .i64 op, .slice A n c])]) (aa := ?aa2) [(3, .pointer (some ⟨W.heap.size, 0, none⟩)), (4, .int .i64 op), (5, .bool true), (6, .bool false), (7, .bool false), (8, .pointer (some ⟨W.heap.size, 1, none⟩)), (9, .slice A n c), (10, .int .i64 n), (11, .pointer (some ⟨W.heap.size, 0, none⟩)), (12, .int .i64 op), (13, .int .i64 (arity op)), (14, .bool true), (15, .bool true)] ?hL2 (by kernel_rfl) ?hv2 ?hD2 ?hR2 ?hdo2 ?fin2
  case hL2 =>
    simp only [putD, Act.put]
    go_simp
    rfl
  case hv2 => kernel_rfl
  case hD2 => kernel_rfl
  case hdo2 =>
    intro i o ho
    match i, ho with
    | 0, ho =>
      cases ho
      refine .inl ⟨by kernel_rfl, fun w hR => ?_⟩
      first | (go_simp; done) | (go_simp; exact ⟨rfl, hR⟩)
    | 1, ho =>
      cases ho
      refine .inl ⟨by kernel_rfl, fun w hR => ?_⟩
      exact ow_hxf _ _ rfl hR (cs := #[.int .i64 op, .slice A n c]) (by simp) 0 (.int .i64 op) rfl rfl (by decide +kernel) ⟨rfl, hR⟩
    | 2, ho =>
      cases ho
      refine .inl ⟨by kernel_rfl, fun w hR => ?_⟩
      go_simp
      go_wp2_with fail
      refine (in_any op 1 10 w).mono ?_
      rintro e w4 ⟨rfl, rfl⟩
      rw [Hin.out]
      exact ⟨rfl, hR⟩
    | 3, ho =>
      cases ho
      refine .inl ⟨by kernel_rfl, fun w hR => ?_⟩
      first | (go_simp; done) | (go_simp; exact ⟨rfl, hR⟩)
    | 4, ho =>
      cases ho
      refine .inl ⟨by kernel_rfl, fun w hR => ?_⟩
      first | (go_simp; done) | (go_simp; exact ⟨rfl, hR⟩)
    | 5, ho =>
      cases ho
      refine .inl ⟨by kernel_rfl, fun w hR => ?_⟩
      first | (go_simp; done) | (go_simp; exact ⟨rfl, hR⟩)
    | 6, ho =>
      cases ho
      refine .inl ⟨by kernel_rfl, fun w hR => ?_⟩
      exact ow_hxf _ _ rfl hR (cs := #[.int .i64 op, .slice A n c]) (by simp) 1 (.slice A n c) rfl rfl (by decide +kernel) ⟨rfl, hR⟩
    | 7, ho =>
      cases ho
      refine .inl ⟨by kernel_rfl, fun w hR => ?_⟩
      first | (go_simp; done) | (go_simp; exact ⟨rfl, hR⟩)
    | 8, ho =>
      cases ho
      refine .inl ⟨by kernel_rfl, fun w hR => ?_⟩
      first | (go_simp; done) | (go_simp; exact ⟨rfl, hR⟩)
    | 9, ho =>
      cases ho
      refine .inl ⟨by kernel_rfl, fun w hR => ?_⟩
      exact ow_hxf _ _ rfl hR (cs := #[.int .i64 op, .slice A n c]) (by simp) 0 (.int .i64 op) rfl rfl (by decide +kernel) ⟨rfl, hR⟩
    | 10, ho =>
      cases ho
      refine .inl ⟨by kernel_rfl, fun w hR => ?_⟩
      go_simp
      go_wp2_with fail
      refine (arity_any op w).mono ?_
      rintro e w4 ⟨rfl, h5⟩
      exact ⟨rfl, hR.below h5⟩
    | 11, ho =>
      cases ho
      refine .inl ⟨by kernel_rfl, fun w hR => ?_⟩
      first | (go_simp; done) | (go_simp; exact ⟨rfl, hR⟩) | (go_simp; exact ⟨Hne.out, hR⟩) | (go_simp; exact Hne.out)
    | 12, ho =>
      cases ho
      refine .inl ⟨by kernel_rfl, fun w hR => ?_⟩
      first | (go_simp; done) | (go_simp; exact ⟨rfl, hR⟩)
    | i + 13, ho => simp at ho
  case hR2 => exact H1.out.drew
  case fin2 =>
    intro w2 h2
    have H2 := Lib.hid h2
    clear h2 H1
    go_wp2_with fail
    go_ret
    exact ⟨rfl, H2.out.1⟩
end Go.Proofs.YtgmdpgchffapoaaDoor.dev
