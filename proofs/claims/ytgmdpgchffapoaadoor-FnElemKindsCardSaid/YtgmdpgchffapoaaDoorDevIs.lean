/-
  'DevIsBit', 'DevIsWhole', 'DevIsReal' of both sides: what they return.
  Conditions: the variables 'devSizes', 'devWords' hold what they are laid with.
-/
import Derived.Test.YtgmdpgchffapoaaDoorKindIs
namespace Go.Proofs.YtgmdpgchffapoaaDoor.dev
open Go.RowKit
set_option linter.unusedVariables false
set_option linter.unusedSimpArgs false

theorem size_pos {k : Int} (h : 0 < size k) : 1 ≤ k ∧ k ≤ 10 := by
  unfold size at h
  split at h
  · omega
  · split at h
    · omega
    · omega
theorem dok_kind {k n p : Int} (h : dok k n p = true) : 1 ≤ k ∧ k ≤ 13 := by
  unfold dok at h
  split at h
  · omega
  split at h
  · omega
  split at h
  · omega
  · rw [decide_eq_true_iff] at h
    have := size_pos (k := k) (by omega)
    omega
theorem ret_of {a b : Bool} {w w' : World} (h : a = b) (hb : Below w.heap.size w w') : Ending.returned (.bool a) = .returned (.bool b) ∧ Below w.heap.size w w' := ⟨by rw [h], hb⟩

def isBit (k n p : Int) : Bool := kis k n p [1, 2, 3, 4, 6, 7, 8]
theorem rowBit {w : World} {B : Nat} {t : TypeId} (h : w.heap[B]? = some (.cells #[.int .i64 1, .int .i64 2, .int .i64 3, .int .i64 4, .int .i64 6, .int .i64 7, .int .i64 8] t (0, 0))) : Row w B 0 [1, 2, 3, 4, 6, 7, 8] := by
  intro j hj
  rw [Nat.zero_add, cell_of_row w B j _ _ _ h]
  match j, hj with
  | 0, _ | 1, _ | 2, _ | 3, _ | 4, _ | 5, _ | 6, _ => rfl
theorem impl_isBit (k n p : Int) (w : World) (hs : Sizes w) (hw : Words w) : Calls Tryd.prog 15 #[.agg #[.int .i64 k, .int .i64 n, .int .i64 p]] w fun e w' => e = .returned (.bool (isBit k n p)) ∧ Below w.heap.size w w' := by
  have Hs := Lib.hid hs
  have Hw := Lib.hid hw
  clear hs hw
  go_enter Tryd.func15, Tryd.ntmps15
  go_wp2_with fail
  refine (kindIs_any k n p _ 0 [1, 2, 3, 4, 6, 7, 8] _ (by decide) (rowBit (heap_alloc2_new w _ _)) ((Hs.out.alloc _).alloc _) ((Hw.out.alloc _).alloc _)).mono ?_
  rintro e w1 ⟨rfl, h1⟩
  go_wp2_with fail
  go_ret
  exact ret_of rfl ((((Below.refl _ _).alloc (Nat.le_refl _) _).alloc (by simp) _).trans (h1.mono (by simp; omega)))

theorem spec_isBit (k n p : Int) (w : World) : Calls Tryd.prog 23 #[.agg #[.int .i64 k, .int .i64 n, .int .i64 p]] w fun e w' => e = .returned (.bool (isBit k n p)) ∧ Below w.heap.size w w' := by
  cases hd : dok k n p with
  | false =>
    have hv : isBit k n p = false := by rw [isBit, kis, hd]; rfl
    have Hv := Lib.hid hv
    clear hv
    go_enter Tryd.func23, Tryd.ntmps23
    go_wp2_with fail
    refine (spec_dok _ _ _ _).mono ?_
    rintro e w1 ⟨rfl, h1⟩
    go_wp2_with fail
    go_ret
    exact ret_of Hv.out.symm (((Below.refl _ _).alloc (Nat.le_refl _) _).trans (h1.mono (by simp)))
  | true =>
    have hk := dok_kind hd
    have Hd := Lib.hid hd
    clear hd
    have hk : k = 1 ∨ k = 2 ∨ k = 3 ∨ k = 4 ∨ k = 5 ∨ k = 6 ∨ k = 7 ∨ k = 8 ∨ k = 9 ∨ k = 10 ∨ k = 11 ∨ k = 12 ∨ k = 13 := by omega
    rcases hk with rfl | rfl | rfl | rfl | rfl | rfl | rfl | rfl | rfl | rfl | rfl | rfl | rfl
    all_goals
      have hd := Hd.out
      have Hv := Lib.hid (show isBit _ n p = _ by rw [isBit, kis, hd])
      go_enter Tryd.func23, Tryd.ntmps23
      go_wp2_with fail
      refine (spec_dok _ _ _ _).mono ?_
      rintro e w1 ⟨rfl, h1⟩
      have k1 := kit.box_keep (kit.box_new w _ _) h1 (by simp)
      have c0 := kit.box_cell k1 0 rfl
      go_wp2_with fail
      go_ret
      exact ret_of (by rw [Hv.out]; rfl) (((Below.refl _ _).alloc (Nat.le_refl _) _).trans (h1.mono (by simp)))

def isWhole (k n p : Int) : Bool := kis k n p [7, 8, 9, 11]
theorem rowWhole {w : World} {B : Nat} {t : TypeId} (h : w.heap[B]? = some (.cells #[.int .i64 7, .int .i64 8, .int .i64 9, .int .i64 11] t (0, 0))) : Row w B 0 [7, 8, 9, 11] := by
  intro j hj
  rw [Nat.zero_add, cell_of_row w B j _ _ _ h]
  match j, hj with
  | 0, _ | 1, _ | 2, _ | 3, _ => rfl
theorem impl_isWhole (k n p : Int) (w : World) (hs : Sizes w) (hw : Words w) : Calls Tryd.prog 20 #[.agg #[.int .i64 k, .int .i64 n, .int .i64 p]] w fun e w' => e = .returned (.bool (isWhole k n p)) ∧ Below w.heap.size w w' := by
  have Hs := Lib.hid hs
  have Hw := Lib.hid hw
  clear hs hw
  go_enter Tryd.func20, Tryd.ntmps20
  go_wp2_with fail
  refine (kindIs_any k n p _ 0 [7, 8, 9, 11] _ (by decide) (rowWhole (heap_alloc2_new w _ _)) ((Hs.out.alloc _).alloc _) ((Hw.out.alloc _).alloc _)).mono ?_
  rintro e w1 ⟨rfl, h1⟩
  go_wp2_with fail
  go_ret
  exact ret_of rfl ((((Below.refl _ _).alloc (Nat.le_refl _) _).alloc (by simp) _).trans (h1.mono (by simp; omega)))

theorem spec_isWhole (k n p : Int) (w : World) : Calls Tryd.prog 25 #[.agg #[.int .i64 k, .int .i64 n, .int .i64 p]] w fun e w' => e = .returned (.bool (isWhole k n p)) ∧ Below w.heap.size w w' := by
  cases hd : dok k n p with
  | false =>
    have hv : isWhole k n p = false := by rw [isWhole, kis, hd]; rfl
    have Hv := Lib.hid hv
    clear hv
    go_enter Tryd.func25, Tryd.ntmps25
    go_wp2_with fail
    refine (spec_dok _ _ _ _).mono ?_
    rintro e w1 ⟨rfl, h1⟩
    go_wp2_with fail
    go_ret
    exact ret_of Hv.out.symm (((Below.refl _ _).alloc (Nat.le_refl _) _).trans (h1.mono (by simp)))
  | true =>
    have hk := dok_kind hd
    have Hd := Lib.hid hd
    clear hd
    have hk : k = 1 ∨ k = 2 ∨ k = 3 ∨ k = 4 ∨ k = 5 ∨ k = 6 ∨ k = 7 ∨ k = 8 ∨ k = 9 ∨ k = 10 ∨ k = 11 ∨ k = 12 ∨ k = 13 := by omega
    rcases hk with rfl | rfl | rfl | rfl | rfl | rfl | rfl | rfl | rfl | rfl | rfl | rfl | rfl
    all_goals
      have hd := Hd.out
      have Hv := Lib.hid (show isWhole _ n p = _ by rw [isWhole, kis, hd])
      go_enter Tryd.func25, Tryd.ntmps25
      go_wp2_with fail
      refine (spec_dok _ _ _ _).mono ?_
      rintro e w1 ⟨rfl, h1⟩
      have k1 := kit.box_keep (kit.box_new w _ _) h1 (by simp)
      have c0 := kit.box_cell k1 0 rfl
      go_wp2_with fail
      go_ret
      exact ret_of (by rw [Hv.out]; rfl) (((Below.refl _ _).alloc (Nat.le_refl _) _).trans (h1.mono (by simp)))

def isReal (k n p : Int) : Bool := kis k n p [10, 12, 13]
theorem rowReal {w : World} {B : Nat} {t : TypeId} (h : w.heap[B]? = some (.cells #[.int .i64 10, .int .i64 12, .int .i64 13] t (0, 0))) : Row w B 0 [10, 12, 13] := by
  intro j hj
  rw [Nat.zero_add, cell_of_row w B j _ _ _ h]
  match j, hj with
  | 0, _ | 1, _ | 2, _ => rfl
theorem impl_isReal (k n p : Int) (w : World) (hs : Sizes w) (hw : Words w) : Calls Tryd.prog 21 #[.agg #[.int .i64 k, .int .i64 n, .int .i64 p]] w fun e w' => e = .returned (.bool (isReal k n p)) ∧ Below w.heap.size w w' := by
  have Hs := Lib.hid hs
  have Hw := Lib.hid hw
  clear hs hw
  go_enter Tryd.func21, Tryd.ntmps21
  go_wp2_with fail
  refine (kindIs_any k n p _ 0 [10, 12, 13] _ (by decide) (rowReal (heap_alloc2_new w _ _)) ((Hs.out.alloc _).alloc _) ((Hw.out.alloc _).alloc _)).mono ?_
  rintro e w1 ⟨rfl, h1⟩
  go_wp2_with fail
  go_ret
  exact ret_of rfl ((((Below.refl _ _).alloc (Nat.le_refl _) _).alloc (by simp) _).trans (h1.mono (by simp; omega)))

theorem spec_isReal (k n p : Int) (w : World) : Calls Tryd.prog 26 #[.agg #[.int .i64 k, .int .i64 n, .int .i64 p]] w fun e w' => e = .returned (.bool (isReal k n p)) ∧ Below w.heap.size w w' := by
  cases hd : dok k n p with
  | false =>
    have hv : isReal k n p = false := by rw [isReal, kis, hd]; rfl
    have Hv := Lib.hid hv
    clear hv
    go_enter Tryd.func26, Tryd.ntmps26
    go_wp2_with fail
    refine (spec_dok _ _ _ _).mono ?_
    rintro e w1 ⟨rfl, h1⟩
    go_wp2_with fail
    go_ret
    exact ret_of Hv.out.symm (((Below.refl _ _).alloc (Nat.le_refl _) _).trans (h1.mono (by simp)))
  | true =>
    have hk := dok_kind hd
    have Hd := Lib.hid hd
    clear hd
    have hk : k = 1 ∨ k = 2 ∨ k = 3 ∨ k = 4 ∨ k = 5 ∨ k = 6 ∨ k = 7 ∨ k = 8 ∨ k = 9 ∨ k = 10 ∨ k = 11 ∨ k = 12 ∨ k = 13 := by omega
    rcases hk with rfl | rfl | rfl | rfl | rfl | rfl | rfl | rfl | rfl | rfl | rfl | rfl | rfl
    all_goals
      have hd := Hd.out
      have Hv := Lib.hid (show isReal _ n p = _ by rw [isReal, kis, hd])
      go_enter Tryd.func26, Tryd.ntmps26
      go_wp2_with fail
      refine (spec_dok _ _ _ _).mono ?_
      rintro e w1 ⟨rfl, h1⟩
      have k1 := kit.box_keep (kit.box_new w _ _) h1 (by simp)
      have c0 := kit.box_cell k1 0 rfl
      go_wp2_with fail
      go_ret
      exact ret_of (by rw [Hv.out]; rfl) (((Below.refl _ _).alloc (Nat.le_refl _) _).trans (h1.mono (by simp)))
end Go.Proofs.YtgmdpgchffapoaaDoor.dev
