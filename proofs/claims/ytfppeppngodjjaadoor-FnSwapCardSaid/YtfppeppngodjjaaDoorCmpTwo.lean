/-
  'CmpFlip' and 'CmpSwap' of both sides: what they return.
  Conditions: the variables 'cmpFlips', 'cmpSwaps' hold their numbers (the cells are hypotheses).
-/
import Derived.Test.YtfppeppngodjjaaDoorIn
namespace Go.Proofs.YtfppeppngodjjaaDoor.cmp
open Go.RowKit Go.Proofs.YtfppeppngodjjaaDoor.dev
set_option linter.unusedVariables false
def flips : List Int := [0, 5, 6, 4, 3, 1, 2]
def swaps : List Int := [0, 6, 5, 3, 4, 2, 1]
def pick (l : List Int) (k : Int) : Int := if 1 ≤ k ∧ k ≤ 6 then l.getD k.toNat 0 else 0

theorem isCmp_any (n : Int) (w : World) : Calls Tryd.prog 29 #[.int .i64 n] w fun e w' => e = .returned (.bool (inB n 1 6)) ∧ w = w' := by
  go_enter Tryd.func29, Tryd.ntmps29
  go_wp2_with (go_at_call 49; refine (in_any _ _ _ _).mono ?_; rintro e w' ⟨rfl, rfl⟩)
  go_ret
  exact ⟨rfl, rfl⟩

/-- The variable's cell leads to the seven numbers. -/
def Seven (g : Nat) (l : List Int) (w : World) : Prop := ∃ b off, w.cell? ⟨g, 0, none⟩ = some (.slice (some ⟨b, off, none⟩) 7 7) ∧ ∀ j, j < 7 → w.cell? ⟨b, off + j, none⟩ = some (.int .i64 (l.getD j 0))

theorem cell_stays {w w' : World} {a : Addr} {v : Value} (h : w.cell? a = some v) (hb : Below w.heap.size w w') : w'.cell? a = some v := by
  rw [hb.cell (p := a) (block_lt_of_cell h)]; exact h
theorem seven_below {g : Nat} {l : List Int} {w w' : World} (h : Seven g l w) (hb : Below w.heap.size w w') : Seven g l w' := by
  obtain ⟨b, off, hc, hel⟩ := h
  exact ⟨b, off, cell_stays hc hb, fun j hj => cell_stays (hel j hj) hb⟩

theorem impl_flip (k : Int) (w : World) (hs : Seven 0 flips w) : Calls Tryd.prog 10 #[.int .i64 k] w fun e w' => e = .returned (.int .i64 (pick flips k)) ∧ w = w' := by
  obtain ⟨b, off, hc, hel⟩ := hs
  by_cases h1 : 1 ≤ k ∧ k ≤ 6
  · have hi := inB_true h1
    have he := hel k.toNat (by omega)
    have hv : Hid (flips.getD k.toNat 0 = pick flips k) := Lib.hid (by rw [pick, if_pos h1])
    obtain ⟨h1, h2⟩ := h1
    generalize flips.getD k.toNat 0 = v at *
    clear hel
    go_enter Tryd.func10, Tryd.ntmps10
    go_wp2_with (go_at_call 29; refine (isCmp_any _ _).mono ?_; rintro e w' ⟨rfl, rfl⟩)
    go_ret
    exact ⟨kit.ret_int hv.out, rfl⟩
  · have hi := inB_false h1
    have hv : Hid (0 = pick flips k) := Lib.hid (by rw [pick, if_neg h1])
    clear hel h1
    go_enter Tryd.func10, Tryd.ntmps10
    go_wp2_with (go_at_call 29; refine (isCmp_any _ _).mono ?_; rintro e w' ⟨rfl, rfl⟩)
    go_ret
    exact ⟨kit.ret_int hv.out, rfl⟩

theorem impl_swap (k : Int) (w : World) (hs : Seven 1 swaps w) : Calls Tryd.prog 14 #[.int .i64 k] w fun e w' => e = .returned (.int .i64 (pick swaps k)) ∧ w = w' := by
  obtain ⟨b, off, hc, hel⟩ := hs
  by_cases h1 : 1 ≤ k ∧ k ≤ 6
  · have hi := inB_true h1
    have he := hel k.toNat (by omega)
    have hv : Hid (swaps.getD k.toNat 0 = pick swaps k) := Lib.hid (by rw [pick, if_pos h1])
    obtain ⟨h1, h2⟩ := h1
    generalize swaps.getD k.toNat 0 = v at *
    clear hel
    go_enter Tryd.func14, Tryd.ntmps14
    go_wp2_with (go_at_call 29; refine (isCmp_any _ _).mono ?_; rintro e w' ⟨rfl, rfl⟩)
    go_ret
    exact ⟨kit.ret_int hv.out, rfl⟩
  · have hi := inB_false h1
    have hv : Hid (0 = pick swaps k) := Lib.hid (by rw [pick, if_neg h1])
    clear hel h1
    go_enter Tryd.func14, Tryd.ntmps14
    go_wp2_with (go_at_call 29; refine (isCmp_any _ _).mono ?_; rintro e w' ⟨rfl, rfl⟩)
    go_ret
    exact ⟨kit.ret_int hv.out, rfl⟩

theorem out_of {k : Int} (h : ¬ (1 ≤ k ∧ k ≤ 6)) : (k == 1) = false ∧ (k == 2) = false ∧ (k == 3) = false ∧ (k == 4) = false ∧ (k == 5) = false ∧ (k == 6) = false := by
  simp only [beq_eq_false_iff_ne, ne_eq]; omega

theorem spec_flip (k : Int) (w : World) : Calls Tryd.prog 11 #[.int .i64 k] w fun e w' => e = .returned (.int .i64 (pick flips k)) ∧ Below w.heap.size w w' := by
  by_cases h1 : 1 ≤ k ∧ k ≤ 6
  · have hk : k = 1 ∨ k = 2 ∨ k = 3 ∨ k = 4 ∨ k = 5 ∨ k = 6 := by omega
    clear h1
    rcases hk with rfl | rfl | rfl | rfl | rfl | rfl
    all_goals
      go_enter Tryd.func11, Tryd.ntmps11
      go_wp2
      go_ret
      exact ⟨kit.ret_int (by decide), (Below.refl _ _).alloc (Nat.le_refl _) _⟩
  · have hv : Hid (0 = pick flips k) := Lib.hid (by rw [pick, if_neg h1])
    by_cases h2 : k < 1
    · clear h1
      go_enter Tryd.func11, Tryd.ntmps11
      go_wp2
      go_ret
      exact ⟨kit.ret_int hv.out, Below.refl _ _⟩
    · have h3 : 6 < k := by omega
      clear h1
      go_enter Tryd.func11, Tryd.ntmps11
      go_wp2
      go_ret
      exact ⟨kit.ret_int hv.out, Below.refl _ _⟩

theorem spec_swap (k : Int) (w : World) : Calls Tryd.prog 15 #[.int .i64 k] w fun e w' => e = .returned (.int .i64 (pick swaps k)) ∧ w = w' := by
  by_cases h1 : 1 ≤ k ∧ k ≤ 6
  · have hk : k = 1 ∨ k = 2 ∨ k = 3 ∨ k = 4 ∨ k = 5 ∨ k = 6 := by omega
    clear h1
    rcases hk with rfl | rfl | rfl | rfl | rfl | rfl
    all_goals
      go_enter Tryd.func15, Tryd.ntmps15
      go_wp2
      go_ret
      exact ⟨kit.ret_int (by decide), rfl⟩
  · have hv : Hid (0 = pick swaps k) := Lib.hid (by rw [pick, if_neg h1])
    obtain ⟨b1, b2, b3, b4, b5, b6⟩ := out_of h1
    clear h1
    go_enter Tryd.func15, Tryd.ntmps15
    go_wp2
    go_ret
    exact ⟨kit.ret_int hv.out, rfl⟩
end Go.Proofs.YtfppeppngodjjaaDoor.cmp
