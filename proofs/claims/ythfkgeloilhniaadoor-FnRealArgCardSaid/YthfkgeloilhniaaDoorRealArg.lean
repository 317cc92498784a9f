/-
  'RealArg' of both sides: what they return.
  Conditions: the variables 'devSizes', 'devWords' hold what they are laid with.
-/
import Derived.Test.YthfkgeloilhniaaDoorNan
import Derived.Test.YthfkgeloilhniaaDoorDevIs
import Derived.Deep.RegionWith
import Derived.Outline
namespace Go.Proofs.YthfkgeloilhniaaDoor.flo
open Go.RowKit Go.Proofs.YthfkgeloilhniaaDoor.dev
set_option linter.unusedVariables false
set_option linter.unusedSimpArgs false

def ten (k : Nat) : Int := 10 ^ k
theorem ten_zero : ten 0 = 1 := rfl
theorem ten_succ (k : Nat) : ten (k + 1) = ten k * 10 := Int.pow_succ 10 k
theorem ten_le {k : Nat} (h : k ≤ 6) : 1 ≤ ten k ∧ ten k ≤ 1000000 := by
  have t : ∀ j : Fin 7, 1 ≤ ten j.val ∧ ten j.val ≤ 1000000 := by decide
  exact t ⟨k, by omega⟩

/-- What both sides return. -/
def Arg (k n p : Int) (x : Nat) : Prop :=
  if dok k n p = true then (if k = 12 then Res .quo (floatOfInt .f64 n) (floatOfInt .f64 (ten p.toNat)) x else if k = 13 then WordIs n x else x = 0) else x = 0
theorem Arg.same {k n p : Int} {x y : Nat} (hx : Arg k n p x) (hy : Arg k n p y) : Same y x := by
  unfold Arg at hx hy
  split at hx
  · rename_i h; rw [if_pos h] at hy
    split at hx
    · rename_i h; rw [if_pos h] at hy; exact hx.same hy
    rename_i h; rw [if_neg h] at hy
    split at hx
    · rename_i h; rw [if_pos h] at hy; exact hx.same hy
    rename_i h; rw [if_neg h] at hy
    exact .inr (hy.trans hx.symm)
  · rename_i h; rw [if_neg h] at hy
    exact .inr (hy.trans hx.symm)

/-- The quotient, in every world, and what it is. -/
theorem quo_run (a b : Nat) : ∃ f : World → Nat, (∀ w, Res .quo a b (f w)) ∧ ((∀ w, (binOp .quo 37 (.float .f64 a) (.float .f64 b)).run Tryd.prog w = .ok (.float .f64 (f w)) w) ∨ ∀ w, (binOp .quo 37 (.float .f64 a) (.float .f64 b)).run Tryd.prog w = .ok (.float .f64 (f w)) w.drew) := by
  cases hb : floatBits .quo .f64 a b with
  | some r => exact ⟨fun _ => r, fun _ => by unfold Res; rw [hb], .inl fun w => run_float_arith (P := Tryd.prog) w .quo 37 .f64 _ _ _ hb⟩
  | none => exact ⟨nanAt a b, fun w => by unfold Res; rw [hb]; exact nanAt_nan _ _ _, .inr (run_nan (P := Tryd.prog) .quo 37 a b (by decide) hb)⟩

set_option maxHeartbeats 1000000 in
theorem spec_arg (k n p : Int) (w : World) : Calls Tryd.prog 14 #[.agg #[.int .i64 k, .int .i64 n, .int .i64 p]] w (Flt (Arg k n p) w) := by
  cases hd : dok k n p with
  | false =>
    have Ha : Hid (Arg k n p 0) := Lib.hid (by rw [Arg, hd]; rfl)
    have Hd := Lib.hid hd
    clear hd
    go_enter Tryd.func14, Tryd.ntmps14
    go_wp2_with fail
    refine (spec_dok _ _ _ _).mono ?_
    rintro e w1 ⟨rfl, h1⟩
    rw [Hd.out]
    go_wp2_with fail
    go_ret
    exact ⟨_, rfl, Ha.out, ((Below.refl _ _).alloc (Nat.le_refl _) _).trans (h1.mono (by simp))⟩
  | true =>
    by_cases h13 : k = 13
    · subst h13
      have hn : 0 ≤ n ∧ n ≤ 3 := by rw [dok13, decide_eq_true_iff] at hd; omega
      have Ha : Hid (∀ x, WordIs n x → Arg 13 n p x) := Lib.hid (fun x hx => by rw [Arg, if_pos hd, if_neg (by decide), if_pos rfl]; exact hx)
      have Hd := Lib.hid hd
      clear hd
      go_enter Tryd.func14, Tryd.ntmps14
      go_wp2_with fail
      refine (spec_dok _ _ _ _).mono ?_
      rintro e w1 ⟨rfl, h1⟩
      rw [Hd.out]
      have k1 := kit.box_keep (kit.box_new w _ _) h1 (by simp)
      have c0 := kit.box_cell k1 0 rfl
      have c1 := kit.box_cell k1 1 rfl
      go_wp2_with fail
      refine (l3Word_any _ _ hn).mono ?_
      rintro e w2 ⟨x, rfl, hx, h2⟩
      have Hx := Lib.hid hx
      clear hx
      go_wp2_with fail
      go_ret
      have e1 := h1.size
      exact ⟨x, rfl, Ha.out x Hx.out, (((Below.refl _ _).alloc (Nat.le_refl _) _).trans (h1.mono (by simp))).trans (h2.mono (by simp at e1; omega))⟩
    by_cases h12 : k = 12
    · subst h12
      have hp : 1 ≤ p ∧ p ≤ 6 := by rw [dok12, decide_eq_true_iff] at hd; omega
      obtain ⟨q, rfl⟩ : ∃ q : Nat, p = q := ⟨p.toNat, by omega⟩
      have hq : q ≤ 6 := by omega
      obtain ⟨f, hf, hrun⟩ := quo_run (floatOfInt .f64 n) (floatOfInt .f64 (ten q))
      have Ha : Hid (∀ w, Arg 12 n q (f w)) := Lib.hid (fun w => by rw [Arg, if_pos hd, if_pos rfl]; simpa using hf w)
      have Hd := Lib.hid hd
      clear hd hf hp h13
      rcases hrun with hrun | hrun
      all_goals
        go_enter Tryd.func14, Tryd.ntmps14
        go_wp2_with fail
        refine (spec_dok _ _ _ _).mono ?_
        rintro e w1 ⟨rfl, h1⟩
        rw [Hd.out]
        have k1 := kit.box_keep (kit.box_new w _ _) h1 (by simp)
        have c0 := kit.box_cell k1 0 rfl
        have c1 := kit.box_cell k1 1 rfl
        have c2 := kit.box_cell k1 2 rfl
        have B1 := Lib.hid (((Below.refl w.heap.size w).alloc (Nat.le_refl _) _).trans (h1.mono (by simp)))
        go_wp2_with fail
        go_loop [3, 4] (fun b i => ∃ j : Nat, j ≤ q ∧ i = .int .i64 j ∧ b = .int .i64 (ten j)) (fun _ i => q - (intOf i).toNat)
        case atStart => exact ⟨0, Nat.zero_le _, rfl, rfl⟩
        case round =>
          obtain ⟨j, hj, rfl, rfl⟩ := hrel
          obtain ⟨t1, t2⟩ := ten_le (Nat.le_trans hj hq)
          by_cases hlt : j < q
          · go_wp2
            go_round
            case rel => exact ⟨j + 1, by omega, by go_num, by rw [ten_succ]⟩
            case measure => simp [intOf]; omega
          · obtain rfl : j = q := by omega
            go_wp2
            go_ret
            exact ⟨_, rfl, Ha.out _, (by have B := B1.out; first | exact B | exact B.drew)⟩
    · have Ha : Hid (Arg k n p 0) := Lib.hid (by rw [Arg, if_pos hd, if_neg h12, if_neg h13])
      have b13 : (k == 13) = false := beq_eq_false_iff_ne.2 h13
      have b12 : (k != 12) = true := by simpa using h12
      have Hd := Lib.hid hd
      clear hd h12 h13
      go_enter Tryd.func14, Tryd.ntmps14
      go_wp2_with fail
      refine (spec_dok _ _ _ _).mono ?_
      rintro e w1 ⟨rfl, h1⟩
      rw [Hd.out]
      have k1 := kit.box_keep (kit.box_new w _ _) h1 (by simp)
      have c0 := kit.box_cell k1 0 rfl
      have c1 := kit.box_cell k1 1 rfl
      go_wp2_with fail
      go_ret
      exact ⟨_, rfl, Ha.out, ((Below.refl _ _).alloc (Nat.le_refl _) _).trans (h1.mono (by simp))⟩

/-- kindIs at one kind. -/
theorem row1 {w : World} {B : Nat} {t : TypeId} {z : Int} (h : w.heap[B]? = some (.cells #[.int .i64 z] t (0, 0))) : Row w B 0 [z] := by
  intro j hj
  rw [Nat.zero_add, cell_of_row w B j _ _ _ h]
  match j, hj with
  | 0, _ => rfl
theorem kis1 (k n p z : Int) : kis k n p [z] = (dok k n p && (k == z)) := by
  unfold kis has
  simp [Bool.beq_comm]
  rfl


set_option maxHeartbeats 2000000 in
theorem impl_word0 (p : Int) (w : World) (Hs : Hid (Sizes ((w.alloc (.cells #[.int .i64 13, .int .i64 0, .int .i64 p] 35)).alloc (.cells #[.int .i64 12] 3)))) (Hw : Hid (Words ((w.alloc (.cells #[.int .i64 13, .int .i64 0, .int .i64 p] 35)).alloc (.cells #[.int .i64 12] 3))))
    (Ha : Hid (∀ x, WordIs 0 x → Arg 13 0 p x)) (Hb : Hid (kis 13 0 p [12] = false)) (Hc : Hid (kis 13 0 p [13] = true)) (Hnan : Hid (isNan 9221120237041090561 = true)) :
    Calls Tryd.prog 12 #[.agg #[.int .i64 13, .int .i64 0, .int .i64 p]] w (Flt (Arg 13 0 p) w) := by
  go_enter Tryd.func12, Tryd.ntmps12
  go_wp2_with fail
  refine (kindIs_any 13 0 p _ 0 [12] _ (by decide) (row1 (heap_alloc2_new w _ _)) Hs.out Hw.out).mono ?_
  rintro e w1 ⟨rfl, h1⟩
  rw [Hb.out]
  have k1 := kit.box_keep (heap_alloc2_old w _ _) h1 (by simp; omega)
  have c0 := kit.box_cell k1 0 rfl
  have c1 := kit.box_cell k1 1 rfl
  have c2 := kit.box_cell k1 2 rfl
  have B1 := Lib.hid ((((Below.refl w.heap.size w).alloc (Nat.le_refl _) _).alloc (by simp) _).trans (h1.mono (by simp; omega)))
  have z1 := h1.size
  have z0 : w.heap.size < w1.heap.size := by simp at z1; omega
  have Hs1 := Lib.hid ((Hs.out.below h1).alloc (.cells #[.int .i64 13] 3))
  have Hw1 := Lib.hid ((Hw.out.below h1).alloc (.cells #[.int .i64 13] 3))
  clear z1
  go_wp2_with fail
  refine (kindIs_any 13 0 p _ 0 [13] _ (by decide) (row1 (kit.box_new w1 _ _)) Hs1.out Hw1.out).mono ?_
  rintro e w2 ⟨rfl, h2⟩
  rw [Hc.out]
  have k2 := kit.box_keep ((heap_alloc_old w1 (.cells #[.int .i64 13] 3) z0).trans k1) h2 (by simp; omega)
  have d1 := kit.box_cell k2 1 rfl
  have B2 := Lib.hid ((B1.out.alloc (by omega) (.cells #[.int .i64 13] 3)).trans (h2.mono (by simp; omega)))
  have z2 := h2.size
  have z3 : w.heap.size < w2.heap.size := by simp at z2; omega
  clear z2
  go_wp2_with fail
  clear h1 h2 k1 k2 c0 c1 c2 Hs Hw Hs1 Hw1 Hb Hc B1 z0
  go_region_with (first | (go_at_call 35; refine (nan_exact _).mono ?_; rintro e w' ⟨rfl, rfl⟩) | (go_at_call 36; refine (inf_any _ _).mono ?_; rintro e w' ⟨rfl, rfl⟩) | (go_at_call 37; refine (copysign_zero _).mono ?_; rintro e w' ⟨rfl, rfl⟩))
  all_goals
    go_wp2
    go_ret
    exact ⟨_, rfl, Ha.out _ Hnan.out, by first | exact (B2.out.alloc (by omega) _).drew | exact B2.out.drew.alloc (by simp; omega) _⟩

set_option maxHeartbeats 2000000 in
theorem impl_word1 (p : Int) (w : World) (Hs : Hid (Sizes ((w.alloc (.cells #[.int .i64 13, .int .i64 1, .int .i64 p] 35)).alloc (.cells #[.int .i64 12] 3)))) (Hw : Hid (Words ((w.alloc (.cells #[.int .i64 13, .int .i64 1, .int .i64 p] 35)).alloc (.cells #[.int .i64 12] 3))))
    (Ha : Hid (∀ x, WordIs 1 x → Arg 13 1 p x)) (Hb : Hid (kis 13 1 p [12] = false)) (Hc : Hid (kis 13 1 p [13] = true)) (Hnan : Hid (isNan 9221120237041090561 = true)) :
    Calls Tryd.prog 12 #[.agg #[.int .i64 13, .int .i64 1, .int .i64 p]] w (Flt (Arg 13 1 p) w) := by
  go_enter Tryd.func12, Tryd.ntmps12
  go_wp2_with fail
  refine (kindIs_any 13 1 p _ 0 [12] _ (by decide) (row1 (heap_alloc2_new w _ _)) Hs.out Hw.out).mono ?_
  rintro e w1 ⟨rfl, h1⟩
  rw [Hb.out]
  have k1 := kit.box_keep (heap_alloc2_old w _ _) h1 (by simp; omega)
  have c0 := kit.box_cell k1 0 rfl
  have c1 := kit.box_cell k1 1 rfl
  have c2 := kit.box_cell k1 2 rfl
  have B1 := Lib.hid ((((Below.refl w.heap.size w).alloc (Nat.le_refl _) _).alloc (by simp) _).trans (h1.mono (by simp; omega)))
  have z1 := h1.size
  have z0 : w.heap.size < w1.heap.size := by simp at z1; omega
  have Hs1 := Lib.hid ((Hs.out.below h1).alloc (.cells #[.int .i64 13] 3))
  have Hw1 := Lib.hid ((Hw.out.below h1).alloc (.cells #[.int .i64 13] 3))
  clear z1
  go_wp2_with fail
  refine (kindIs_any 13 1 p _ 0 [13] _ (by decide) (row1 (kit.box_new w1 _ _)) Hs1.out Hw1.out).mono ?_
  rintro e w2 ⟨rfl, h2⟩
  rw [Hc.out]
  have k2 := kit.box_keep ((heap_alloc_old w1 (.cells #[.int .i64 13] 3) z0).trans k1) h2 (by simp; omega)
  have d1 := kit.box_cell k2 1 rfl
  have B2 := Lib.hid ((B1.out.alloc (by omega) (.cells #[.int .i64 13] 3)).trans (h2.mono (by simp; omega)))
  have z2 := h2.size
  have z3 : w.heap.size < w2.heap.size := by simp at z2; omega
  clear z2
  go_wp2_with fail
  clear h1 h2 k1 k2 c0 c1 c2 Hs Hw Hs1 Hw1 Hb Hc B1 z0
  go_region_with (first | (go_at_call 35; refine (nan_exact _).mono ?_; rintro e w' ⟨rfl, rfl⟩) | (go_at_call 36; refine (inf_any _ _).mono ?_; rintro e w' ⟨rfl, rfl⟩) | (go_at_call 37; refine (copysign_zero _).mono ?_; rintro e w' ⟨rfl, rfl⟩))
  all_goals
    go_wp2
    go_ret
    exact ⟨_, rfl, Ha.out _ rfl, by first | exact (B2.out.alloc (by omega) _).drew | exact B2.out.drew.alloc (by simp; omega) _⟩

set_option maxHeartbeats 2000000 in
theorem impl_word2 (p : Int) (w : World) (Hs : Hid (Sizes ((w.alloc (.cells #[.int .i64 13, .int .i64 2, .int .i64 p] 35)).alloc (.cells #[.int .i64 12] 3)))) (Hw : Hid (Words ((w.alloc (.cells #[.int .i64 13, .int .i64 2, .int .i64 p] 35)).alloc (.cells #[.int .i64 12] 3))))
    (Ha : Hid (∀ x, WordIs 2 x → Arg 13 2 p x)) (Hb : Hid (kis 13 2 p [12] = false)) (Hc : Hid (kis 13 2 p [13] = true)) (Hnan : Hid (isNan 9221120237041090561 = true)) :
    Calls Tryd.prog 12 #[.agg #[.int .i64 13, .int .i64 2, .int .i64 p]] w (Flt (Arg 13 2 p) w) := by
  go_enter Tryd.func12, Tryd.ntmps12
  go_wp2_with fail
  refine (kindIs_any 13 2 p _ 0 [12] _ (by decide) (row1 (heap_alloc2_new w _ _)) Hs.out Hw.out).mono ?_
  rintro e w1 ⟨rfl, h1⟩
  rw [Hb.out]
  have k1 := kit.box_keep (heap_alloc2_old w _ _) h1 (by simp; omega)
  have c0 := kit.box_cell k1 0 rfl
  have c1 := kit.box_cell k1 1 rfl
  have c2 := kit.box_cell k1 2 rfl
  have B1 := Lib.hid ((((Below.refl w.heap.size w).alloc (Nat.le_refl _) _).alloc (by simp) _).trans (h1.mono (by simp; omega)))
  have z1 := h1.size
  have z0 : w.heap.size < w1.heap.size := by simp at z1; omega
  have Hs1 := Lib.hid ((Hs.out.below h1).alloc (.cells #[.int .i64 13] 3))
  have Hw1 := Lib.hid ((Hw.out.below h1).alloc (.cells #[.int .i64 13] 3))
  clear z1
  go_wp2_with fail
  refine (kindIs_any 13 2 p _ 0 [13] _ (by decide) (row1 (kit.box_new w1 _ _)) Hs1.out Hw1.out).mono ?_
  rintro e w2 ⟨rfl, h2⟩
  rw [Hc.out]
  have k2 := kit.box_keep ((heap_alloc_old w1 (.cells #[.int .i64 13] 3) z0).trans k1) h2 (by simp; omega)
  have d1 := kit.box_cell k2 1 rfl
  have B2 := Lib.hid ((B1.out.alloc (by omega) (.cells #[.int .i64 13] 3)).trans (h2.mono (by simp; omega)))
  have z2 := h2.size
  have z3 : w.heap.size < w2.heap.size := by simp at z2; omega
  clear z2
  go_wp2_with fail
  clear h1 h2 k1 k2 c0 c1 c2 Hs Hw Hs1 Hw1 Hb Hc B1 z0
  go_region_with (first | (go_at_call 35; refine (nan_exact _).mono ?_; rintro e w' ⟨rfl, rfl⟩) | (go_at_call 36; refine (inf_any _ _).mono ?_; rintro e w' ⟨rfl, rfl⟩) | (go_at_call 37; refine (copysign_zero _).mono ?_; rintro e w' ⟨rfl, rfl⟩))
  all_goals
    go_wp2
    go_ret
    exact ⟨_, rfl, Ha.out _ rfl, by first | exact (B2.out.alloc (by omega) _).drew | exact B2.out.drew.alloc (by simp; omega) _⟩

set_option maxHeartbeats 2000000 in
theorem impl_word3 (p : Int) (w : World) (Hs : Hid (Sizes ((w.alloc (.cells #[.int .i64 13, .int .i64 3, .int .i64 p] 35)).alloc (.cells #[.int .i64 12] 3)))) (Hw : Hid (Words ((w.alloc (.cells #[.int .i64 13, .int .i64 3, .int .i64 p] 35)).alloc (.cells #[.int .i64 12] 3))))
    (Ha : Hid (∀ x, WordIs 3 x → Arg 13 3 p x)) (Hb : Hid (kis 13 3 p [12] = false)) (Hc : Hid (kis 13 3 p [13] = true)) (Hnan : Hid (isNan 9221120237041090561 = true)) :
    Calls Tryd.prog 12 #[.agg #[.int .i64 13, .int .i64 3, .int .i64 p]] w (Flt (Arg 13 3 p) w) := by
  go_enter Tryd.func12, Tryd.ntmps12
  go_wp2_with fail
  refine (kindIs_any 13 3 p _ 0 [12] _ (by decide) (row1 (heap_alloc2_new w _ _)) Hs.out Hw.out).mono ?_
  rintro e w1 ⟨rfl, h1⟩
  rw [Hb.out]
  have k1 := kit.box_keep (heap_alloc2_old w _ _) h1 (by simp; omega)
  have c0 := kit.box_cell k1 0 rfl
  have c1 := kit.box_cell k1 1 rfl
  have c2 := kit.box_cell k1 2 rfl
  have B1 := Lib.hid ((((Below.refl w.heap.size w).alloc (Nat.le_refl _) _).alloc (by simp) _).trans (h1.mono (by simp; omega)))
  have z1 := h1.size
  have z0 : w.heap.size < w1.heap.size := by simp at z1; omega
  have Hs1 := Lib.hid ((Hs.out.below h1).alloc (.cells #[.int .i64 13] 3))
  have Hw1 := Lib.hid ((Hw.out.below h1).alloc (.cells #[.int .i64 13] 3))
  clear z1
  go_wp2_with fail
  refine (kindIs_any 13 3 p _ 0 [13] _ (by decide) (row1 (kit.box_new w1 _ _)) Hs1.out Hw1.out).mono ?_
  rintro e w2 ⟨rfl, h2⟩
  rw [Hc.out]
  have k2 := kit.box_keep ((heap_alloc_old w1 (.cells #[.int .i64 13] 3) z0).trans k1) h2 (by simp; omega)
  have d1 := kit.box_cell k2 1 rfl
  have B2 := Lib.hid ((B1.out.alloc (by omega) (.cells #[.int .i64 13] 3)).trans (h2.mono (by simp; omega)))
  have z2 := h2.size
  have z3 : w.heap.size < w2.heap.size := by simp at z2; omega
  clear z2
  go_wp2_with fail
  clear h1 h2 k1 k2 c0 c1 c2 Hs Hw Hs1 Hw1 Hb Hc B1 z0
  go_region_with (first | (go_at_call 35; refine (nan_exact _).mono ?_; rintro e w' ⟨rfl, rfl⟩) | (go_at_call 36; refine (inf_any _ _).mono ?_; rintro e w' ⟨rfl, rfl⟩) | (go_at_call 37; refine (copysign_zero _).mono ?_; rintro e w' ⟨rfl, rfl⟩))
  all_goals
    go_wp2
    go_ret
    exact ⟨_, rfl, Ha.out _ rfl, by first | exact (B2.out.alloc (by omega) _).drew | exact B2.out.drew.alloc (by simp; omega) _⟩

set_option maxHeartbeats 2000000 in
theorem impl_arg (k n p : Int) (w : World) (hs : Sizes w) (hw : Words w) : Calls Tryd.prog 12 #[.agg #[.int .i64 k, .int .i64 n, .int .i64 p]] w (Flt (Arg k n p) w) := by
  have Hs := Lib.hid ((hs.alloc (.cells #[.int .i64 k, .int .i64 n, .int .i64 p] 35)).alloc (.cells #[.int .i64 12] 3))
  have Hw := Lib.hid ((hw.alloc (.cells #[.int .i64 k, .int .i64 n, .int .i64 p] 35)).alloc (.cells #[.int .i64 12] 3))
  clear hs hw
  cases hb : kis k n p [12] with
  | true =>
    have hd : dok k n p = true ∧ k = 12 := by rw [kis1] at hb; simpa using hb
    obtain ⟨hd, rfl⟩ := hd
    have hp : 1 ≤ p ∧ p ≤ 6 := by rw [dok12, decide_eq_true_iff] at hd; omega
    obtain ⟨q, rfl⟩ : ∃ q : Nat, p = q := ⟨p.toNat, by omega⟩
    have hq : q ≤ 6 := by omega
    obtain ⟨f, hf, hrun⟩ := quo_run (floatOfInt .f64 n) (floatOfInt .f64 (ten q))
    have Ha : Hid (∀ w, Arg 12 n q (f w)) := Lib.hid (fun w => by rw [Arg, if_pos hd, if_pos rfl]; simpa using hf w)
    have Hb := Lib.hid hb
    clear hb hd hf hp
    rcases hrun with hrun | hrun
    all_goals
      go_enter Tryd.func12, Tryd.ntmps12
      go_wp2_with fail
      refine (kindIs_any 12 n q _ 0 [12] _ (by decide) (row1 (heap_alloc2_new w _ _)) Hs.out Hw.out).mono ?_
      rintro e w1 ⟨rfl, h1⟩
      rw [Hb.out]
      have k1 := kit.box_keep (heap_alloc2_old w _ _) h1 (by simp; omega)
      have c1 := kit.box_cell k1 1 rfl
      have c2 := kit.box_cell k1 2 rfl
      have B1 := Lib.hid ((((Below.refl w.heap.size w).alloc (Nat.le_refl _) _).alloc (by simp) _).trans (h1.mono (by simp; omega)))
      go_wp2_with fail
      go_loop [3, 10] (fun b i => ∃ j : Nat, j ≤ q ∧ i = .int .i64 j ∧ b = .int .i64 (ten j)) (fun _ i => q - (intOf i).toNat)
      case atStart => exact ⟨0, Nat.zero_le _, rfl, rfl⟩
      case round =>
        obtain ⟨j, hj, rfl, rfl⟩ := hrel
        obtain ⟨t1, t2⟩ := ten_le (Nat.le_trans hj hq)
        by_cases hlt : j < q
        · go_wp2
          go_round
          case rel => exact ⟨j + 1, by omega, by go_num, by rw [ten_succ]⟩
          case measure => simp [intOf]; omega
        · obtain rfl : j = q := by omega
          go_wp2
          go_ret
          exact ⟨_, rfl, Ha.out _, (by have B := B1.out; first | exact B | exact B.drew)⟩
  | false =>
    cases hc : kis k n p [13] with
    | true =>
      have hd : dok k n p = true ∧ k = 13 := by rw [kis1] at hc; simpa using hc
      obtain ⟨hd, rfl⟩ := hd
      have hn : 0 ≤ n ∧ n ≤ 3 := by rw [dok13, decide_eq_true_iff] at hd; omega
      have hn : n = 0 ∨ n = 1 ∨ n = 2 ∨ n = 3 := by omega
      have hnan : isNan 9221120237041090561 = true := by decide +kernel
      have Ha : Hid (∀ x, WordIs n x → Arg 13 n p x) := Lib.hid (fun x hx => by rw [Arg, if_pos hd, if_neg (by decide), if_pos rfl]; exact hx)
      have Hb := Lib.hid hb
      have Hc := Lib.hid hc
      have Hnan := Lib.hid hnan
      clear hb hc hd hnan
      rcases hn with rfl | rfl | rfl | rfl
      · exact impl_word0 p w Hs Hw Ha Hb Hc Hnan
      · exact impl_word1 p w Hs Hw Ha Hb Hc Hnan
      · exact impl_word2 p w Hs Hw Ha Hb Hc Hnan
      · exact impl_word3 p w Hs Hw Ha Hb Hc Hnan
    | false =>
      have Ha : Hid (Arg k n p 0) := Lib.hid (by
        rw [kis1] at hb hc
        unfold Arg
        split
        · rename_i hd
          rw [hd] at hb hc
          rw [if_neg (by simpa using hb), if_neg (by simpa using hc)]
        · rfl)
      have Hb := Lib.hid hb
      have Hc := Lib.hid hc
      clear hb hc
      go_enter Tryd.func12, Tryd.ntmps12
      go_wp2_with fail
      refine (kindIs_any k n p _ 0 [12] _ (by decide) (row1 (heap_alloc2_new w _ _)) Hs.out Hw.out).mono ?_
      rintro e w1 ⟨rfl, h1⟩
      rw [Hb.out]
      have k1 := kit.box_keep (heap_alloc2_old w _ _) h1 (by simp; omega)
      have c0 := kit.box_cell k1 0 rfl
      have c1 := kit.box_cell k1 1 rfl
      have c2 := kit.box_cell k1 2 rfl
      have B1 := Lib.hid ((((Below.refl w.heap.size w).alloc (Nat.le_refl _) _).alloc (by simp) _).trans (h1.mono (by simp; omega)))
      have z1 := h1.size
      have z0 : w.heap.size < w1.heap.size := by simp at z1; omega
      have Hs1 := Lib.hid ((Hs.out.below h1).alloc (.cells #[.int .i64 13] 3))
      have Hw1 := Lib.hid ((Hw.out.below h1).alloc (.cells #[.int .i64 13] 3))
      clear z1
      go_wp2_with fail
      refine (kindIs_any k n p _ 0 [13] _ (by decide) (row1 (kit.box_new w1 _ _)) Hs1.out Hw1.out).mono ?_
      rintro e w2 ⟨rfl, h2⟩
      rw [Hc.out]
      go_wp2_with fail
      go_ret
      exact ⟨_, rfl, Ha.out, (B1.out.alloc (by omega) (.cells #[.int .i64 13] 3)).trans (h2.mono (by simp; omega))⟩
end Go.Proofs.YthfkgeloilhniaaDoor.flo
