/-
  'impl.DevOk' and 'spec.DevOk': what both return.
  Conditions: the variables 'devSizes', 'devWords' hold what they are laid with (the cells are hypotheses).
-/
import Derived.Test.YtgmdpgchffapoaaDoorDevSize
import Derived.BigQuiet
import Derived.Deep.QuietTactic
namespace Go.Proofs.YtgmdpgchffapoaaDoor.dev
open Go.RowKit
set_option linter.unusedVariables false
set_option linter.unusedSimpArgs false

def Words (w : World) : Prop := ∃ b off, w.cell? ⟨0, 0, none⟩ = some (.slice (some ⟨b, off, none⟩) 4 4)

theorem cell_stays {w w' : World} {a : Addr} {v : Value} (h : w.cell? a = some v) (hb : Below w.heap.size w w') : w'.cell? a = some v := by
  rw [hb.cell (p := a) (block_lt_of_cell h)]; exact h
theorem Sizes.below {w w' : World} (h : Sizes w) (hb : Below w.heap.size w w') : Sizes w' := by
  obtain ⟨b, off, hc, hel⟩ := h
  exact ⟨b, off, cell_stays hc hb, fun j hj => cell_stays (hel j hj) hb⟩
theorem below_drewN {B : Nat} (w : World) (n : Nat) : Below B w (w.drewN n) := ⟨rfl, rfl, rfl, Nat.le_refl _, fun _ _ => rfl⟩
theorem Sizes.drewN {w : World} (h : Sizes w) (n : Nat) : Sizes (w.drewN n) := h.below (below_drewN w n)
theorem Sizes.alloc {w : World} (h : Sizes w) (o : Obj) : Sizes (w.alloc o) := h.below ((Below.refl _ _).alloc (Nat.le_refl _) _)
theorem Words.below {w w' : World} (h : Words w) (hb : Below w.heap.size w w') : Words w' := by
  obtain ⟨b, off, hc⟩ := h
  exact ⟨b, off, cell_stays hc hb⟩
theorem Words.alloc {w : World} (h : Words w) (o : Obj) : Words (w.alloc o) := h.below ((Below.refl _ _).alloc (Nat.le_refl _) _)

def dok (k n p : Int) : Bool :=
  if k = 11 then decide (-32768 ≤ n ∧ n ≤ 32767 ∧ p = 0)
  else if k = 12 then decide (-999999999 ≤ n ∧ n ≤ 999999999 ∧ 1 ≤ p ∧ p ≤ 6 ∧ (p = 1 ∨ n.tmod 10 ≠ 0))
  else if k = 13 then decide (0 ≤ n ∧ n ≤ 3 ∧ p = 0)
  else decide (0 ≤ n ∧ n < size k ∧ p = 0)
theorem dok11 {n p : Int} : dok 11 n p = decide (-32768 ≤ n ∧ n ≤ 32767 ∧ p = 0) := rfl
theorem dok12 {n p : Int} : dok 12 n p = decide (-999999999 ≤ n ∧ n ≤ 999999999 ∧ 1 ≤ p ∧ p ≤ 6 ∧ (p = 1 ∨ n.tmod 10 ≠ 0)) := rfl
theorem dok13 {n p : Int} : dok 13 n p = decide (0 ≤ n ∧ n ≤ 3 ∧ p = 0) := rfl
theorem dokx {k n p : Int} (h1 : k ≠ 11) (h2 : k ≠ 12) (h3 : k ≠ 13) : dok k n p = decide (0 ≤ n ∧ n < size k ∧ p = 0) := by rw [dok, if_neg h1, if_neg h2, if_neg h3]

theorem to_dec {a b : Bool} (h : a = true ↔ b = true) : a = b := Bool.eq_iff_iff.2 h
theorem rem10 (n : Int) : -9223372036854775808 ≤ n.tmod 10 ∧ n.tmod 10 ≤ 9 := by
  have h : (n.tmod 10).natAbs ≤ 9 := by
    rw [Int.natAbs_tmod]
    have := Nat.mod_lt n.natAbs (show 0 < 10 by decide)
    simp only [Int.reduceAbs] at *
    omega
  omega

set_option maxHeartbeats 2000000 in
theorem impl_dok (k n p : Int) (w : World) (hs : Sizes w) (hw : Words w) : Calls Tryd.prog 10 #[.agg #[.int .i64 k, .int .i64 n, .int .i64 p]] w fun e w' => e = .returned (.bool (dok k n p)) ∧ Below w.heap.size w w' := by
  by_cases h11 : k = 11
  · subst h11
    clear hs hw
    have hd := Lib.hid (@dok11 n p)
    by_cases hi : -32768 ≤ n ∧ n ≤ 32767
    · have hb := inB_true hi
      go_enter Tryd.func10, Tryd.ntmps10
      go_wp2_with (go_at_call 14; refine (in_any _ _ _ _).mono ?_; rintro e w' ⟨rfl, rfl⟩)
      go_ret
      exact ⟨kit.ret_bool (to_dec (by rw [hd.out, decide_eq_true_iff, beq_iff_eq]; omega)), (Below.refl _ _).alloc (Nat.le_refl _) _⟩
    · have hb := inB_false hi
      go_enter Tryd.func10, Tryd.ntmps10
      go_wp2_with (go_at_call 14; refine (in_any _ _ _ _).mono ?_; rintro e w' ⟨rfl, rfl⟩)
      go_ret
      exact ⟨kit.ret_bool (by rw [hd.out]; symm; rw [decide_eq_false_iff_not]; omega), (Below.refl _ _).alloc (Nat.le_refl _) _⟩
  by_cases h12 : k = 12
  · subst h12
    clear hs hw h11
    have hd := Lib.hid (@dok12 n p)
    have hr := rem10 n
    obtain ⟨r1, r2⟩ := hr
    by_cases hi : (-999999999 ≤ n ∧ n ≤ 999999999)
    · have hb := inB_true hi
      by_cases hj : 1 ≤ p ∧ p ≤ 6
      · have hb2 := inB_true hj
        go_enter Tryd.func10, Tryd.ntmps10
        go_wp2_with (go_at_call 14; refine (in_any _ _ _ _).mono ?_; rintro e w' ⟨rfl, rfl⟩)
        all_goals
          go_ret
          refine ⟨kit.ret_bool (to_dec ?_), (Below.refl _ _).alloc (Nat.le_refl _) _⟩
          rw [hd.out, decide_eq_true_iff]
          simp only [Bool.or_eq_true, Bool.and_eq_true, beq_iff_eq, bne_iff_ne, decide_eq_true_iff, Bool.false_eq_true, true_iff, false_iff, ne_eq] at *; omega
      · have hb2 := inB_false hj
        go_enter Tryd.func10, Tryd.ntmps10
        go_wp2_with (go_at_call 14; refine (in_any _ _ _ _).mono ?_; rintro e w' ⟨rfl, rfl⟩)
        go_ret
        exact ⟨kit.ret_bool (by rw [hd.out]; symm; rw [decide_eq_false_iff_not]; omega), (Below.refl _ _).alloc (Nat.le_refl _) _⟩
    · have hb := inB_false hi
      go_enter Tryd.func10, Tryd.ntmps10
      go_wp2_with (go_at_call 14; refine (in_any _ _ _ _).mono ?_; rintro e w' ⟨rfl, rfl⟩)
      go_ret
      exact ⟨kit.ret_bool (by rw [hd.out]; symm; rw [decide_eq_false_iff_not]; omega), (Below.refl _ _).alloc (Nat.le_refl _) _⟩
  by_cases h13 : k = 13
  · subst h13
    obtain ⟨b, off, hc⟩ := hw
    have hlt := block_lt_of_cell hc
    clear hs h11 h12
    have hd := Lib.hid (@dok13 n p)
    by_cases hi : 0 ≤ n ∧ n ≤ 3
    · have hb := inB_true hi
      go_enter Tryd.func10, Tryd.ntmps10
      go_wp2_with (go_at_call 14; refine (in_any _ _ _ _).mono ?_; rintro e w' ⟨rfl, rfl⟩)
      go_ret
      exact ⟨kit.ret_bool (to_dec (by rw [hd.out, decide_eq_true_iff, beq_iff_eq]; omega)), (Below.refl _ _).alloc (Nat.le_refl _) _⟩
    · have hb := inB_false hi
      go_enter Tryd.func10, Tryd.ntmps10
      go_wp2_with (go_at_call 14; refine (in_any _ _ _ _).mono ?_; rintro e w' ⟨rfl, rfl⟩)
      go_ret
      exact ⟨kit.ret_bool (by rw [hd.out]; symm; rw [decide_eq_false_iff_not]; omega), (Below.refl _ _).alloc (Nat.le_refl _) _⟩
  · have hd := Lib.hid (@dokx k n p h11 h12 h13)
    have b11 : (k == 11) = false := beq_eq_false_iff_ne.2 h11
    have b12 : (k == 12) = false := beq_eq_false_iff_ne.2 h12
    have b13 : (k == 13) = false := beq_eq_false_iff_ne.2 h13
    clear h11 h12 h13 hw
    by_cases hn : 0 ≤ n
    · by_cases hz : n < size k
      · go_enter Tryd.func10, Tryd.ntmps10
        go_wp2_with fail
        go_quiet ((go_at_call 33; exact Calls.quiet_of_same ((impl_size _ _ ((hs.alloc _).drewN _)).mono fun _ _ h => ⟨h.1, h.2.symm⟩)))
        go_wp2
        go_ret
        exact ⟨kit.ret_bool (to_dec (by rw [hd.out, decide_eq_true_iff, beq_iff_eq]; omega)), (((Below.refl _ _).alloc (Nat.le_refl _) _)).trans (below_drewN _ _)⟩
      · have hz' : decide (n < size k) = false := decide_eq_false hz
        go_enter Tryd.func10, Tryd.ntmps10
        go_wp2_with fail
        go_quiet ((go_at_call 33; exact Calls.quiet_of_same ((impl_size _ _ ((hs.alloc _).drewN _)).mono fun _ _ h => ⟨h.1, h.2.symm⟩)))
        go_wp2
        go_ret
        exact ⟨kit.ret_bool (by rw [hd.out]; symm; rw [decide_eq_false_iff_not]; omega), (((Below.refl _ _).alloc (Nat.le_refl _) _)).trans (below_drewN _ _)⟩
    · have hn' : decide (0 ≤ n) = false := decide_eq_false hn
      go_enter Tryd.func10, Tryd.ntmps10
      go_wp2_with fail
      go_quiet (fail)
      go_wp2
      go_ret
      exact ⟨kit.ret_bool (by rw [hd.out]; symm; rw [decide_eq_false_iff_not]; omega), (((Below.refl _ _).alloc (Nat.le_refl _) _)).trans (below_drewN _ _)⟩

set_option maxHeartbeats 2000000 in
/-- The same of the reference. -/
theorem spec_dok (k n p : Int) (w : World) : Calls Tryd.prog 24 #[.agg #[.int .i64 k, .int .i64 n, .int .i64 p]] w fun e w' => e = .returned (.bool (dok k n p)) ∧ Below w.heap.size w w' := by
  have hr := rem10 n
  obtain ⟨r1, r2⟩ := hr
  by_cases h11 : k = 11
  · subst h11
    have hd := Lib.hid (@dok11 n p)
    go_enter Tryd.func24, Tryd.ntmps24
    go_wp2
    all_goals
      go_ret
      refine ⟨kit.ret_bool (to_dec ?_), (Below.refl _ _).alloc (Nat.le_refl _) _⟩
      rw [hd.out, decide_eq_true_iff]
      simp only [Bool.or_eq_true, Bool.and_eq_true, beq_iff_eq, bne_iff_ne, decide_eq_true_iff, Bool.false_eq_true, true_iff, false_iff, ne_eq] at *; omega
  by_cases h12 : k = 12
  · subst h12
    clear h11
    have hd := Lib.hid (@dok12 n p)
    go_enter Tryd.func24, Tryd.ntmps24
    go_wp2
    all_goals
      go_ret
      refine ⟨kit.ret_bool (to_dec ?_), (Below.refl _ _).alloc (Nat.le_refl _) _⟩
      rw [hd.out, decide_eq_true_iff]
      simp only [Bool.or_eq_true, Bool.and_eq_true, beq_iff_eq, bne_iff_ne, decide_eq_true_iff, Bool.false_eq_true, true_iff, false_iff, ne_eq] at *; omega
  by_cases h13 : k = 13
  · subst h13
    clear h11 h12
    have hd := Lib.hid (@dok13 n p)
    go_enter Tryd.func24, Tryd.ntmps24
    go_wp2
    all_goals
      go_ret
      refine ⟨kit.ret_bool (to_dec ?_), (Below.refl _ _).alloc (Nat.le_refl _) _⟩
      rw [hd.out, decide_eq_true_iff]
      simp only [Bool.or_eq_true, Bool.and_eq_true, beq_iff_eq, bne_iff_ne, decide_eq_true_iff, Bool.false_eq_true, true_iff, false_iff, ne_eq] at *; omega
  · have hd := Lib.hid (@dokx k n p h11 h12 h13)
    have b11 : (k == 11) = false := beq_eq_false_iff_ne.2 h11
    have b12 : (k == 12) = false := beq_eq_false_iff_ne.2 h12
    have b13 : (k == 13) = false := beq_eq_false_iff_ne.2 h13
    clear h11 h12 h13
    by_cases hn : 0 ≤ n
    · by_cases hz : n < size k
      · go_enter Tryd.func24, Tryd.ntmps24
        go_wp2_with fail
        go_quiet ((go_at_call 41; exact Calls.quiet_of_same ((spec_size _ _).mono fun _ _ h => ⟨h.1, h.2.symm⟩)))
        go_wp2
        go_ret
        exact ⟨kit.ret_bool (to_dec (by rw [hd.out, decide_eq_true_iff, beq_iff_eq]; omega)), (((Below.refl _ _).alloc (Nat.le_refl _) _)).trans (below_drewN _ _)⟩
      · have hz' : decide (n < size k) = false := decide_eq_false hz
        go_enter Tryd.func24, Tryd.ntmps24
        go_wp2_with fail
        go_quiet ((go_at_call 41; exact Calls.quiet_of_same ((spec_size _ _).mono fun _ _ h => ⟨h.1, h.2.symm⟩)))
        go_wp2
        go_ret
        exact ⟨kit.ret_bool (by rw [hd.out]; symm; rw [decide_eq_false_iff_not]; omega), (((Below.refl _ _).alloc (Nat.le_refl _) _)).trans (below_drewN _ _)⟩
    · have hn' : decide (0 ≤ n) = false := decide_eq_false hn
      go_enter Tryd.func24, Tryd.ntmps24
      go_wp2_with fail
      go_quiet (fail)
      go_wp2
      go_ret
      exact ⟨kit.ret_bool (by rw [hd.out]; symm; rw [decide_eq_false_iff_not]; omega), (((Below.refl _ _).alloc (Nat.le_refl _) _)).trans (below_drewN _ _)⟩

end Go.Proofs.YtgmdpgchffapoaaDoor.dev
