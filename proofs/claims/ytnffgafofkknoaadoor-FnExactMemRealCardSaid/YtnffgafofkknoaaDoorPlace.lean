/-
  'place' and 'l5At': the place of a device, counted round.
  Conditions: the variable 'devSizes' holds its numbers.
-/
import Derived.Test.YtnffgafofkknoaaDoorDevSize
import Derived.BigQuiet
import Derived.Deep.QuietTactic
namespace Go.Proofs.YtnffgafofkknoaaDoor.dev
open Go Go.RowKit
set_option linter.unusedVariables false
set_option linter.unusedSimpArgs false

theorem cell_stays {w w' : World} {a : Addr} {v : Value} (h : w.cell? a = some v) (hb : Below w.heap.size w w') : w'.cell? a = some v := by
  rw [hb.cell (p := a) (block_lt_of_cell h)]; exact h
theorem Sizes.below {w w' : World} (h : Sizes w) (hb : Below w.heap.size w w') : Sizes w' := by
  obtain ⟨b, off, hc, hel⟩ := h
  exact ⟨b, off, cell_stays hc hb, fun j hj => cell_stays (hel j hj) hb⟩
theorem below_drewN {B : Nat} (w : World) (n : Nat) : Below B w (w.drewN n) := ⟨rfl, rfl, rfl, Nat.le_refl _, fun _ _ => rfl⟩
theorem Sizes.drewN {w : World} (h : Sizes w) (n : Nat) : Sizes (w.drewN n) := h.below (below_drewN w n)
theorem Sizes.alloc {w : World} (h : Sizes w) (o : Obj) : Sizes (w.alloc o) := h.below ((Below.refl _ _).alloc (Nat.le_refl _) _)

def cnt (k : Int) : Int := if k = 6 then 8 else size k
def plc (k n : Int) : Int := if cnt k = 0 then 0 else n % cnt k
theorem size_le (k : Int) : 0 ≤ size k ∧ size k ≤ 64 := by
  unfold size
  split
  · omega
  · split
    · omega
    · have h : k = 1 ∨ k = 2 ∨ k = 3 ∨ k = 4 ∨ k = 5 ∨ k = 6 ∨ k = 7 ∨ k = 8 ∨ k = 9 ∨ k = 10 := by omega
      rcases h with rfl | rfl | rfl | rfl | rfl | rfl | rfl | rfl | rfl | rfl <;> decide
theorem cnt_le (k : Int) : 0 ≤ cnt k ∧ cnt k ≤ 64 := by
  unfold cnt
  split
  · omega
  · exact size_le k
theorem plc_in (k n : Int) : 0 ≤ plc k n ∧ (cnt k ≠ 0 → plc k n < cnt k) := by
  have h := cnt_le k
  unfold plc
  split
  · exact ⟨by omega, fun h => absurd ‹_› h⟩
  · exact ⟨Int.emod_nonneg _ (by omega), fun _ => Int.emod_lt_of_pos _ (by omega)⟩
theorem w64' (n : Int) (h : -9223372036854775808 ≤ n ∧ n ≤ 9223372036854775807) : wrap64 n = n := by unfold wrap64; omega
theorem round_impl (n c : Int) (h0 : 0 < c) (h1 : c ≤ 64) : Int.tmod (wrap64 (Int.tmod n c + c)) c = n % c := by
  have h2 : Int.tmod n c = if 0 ≤ n ∨ c ∣ n then n % c else n % c - c := by
    rw [Int.tmod_eq_emod]
    split
    · simp
    · rw [show (c.natAbs : Int) = c by omega]
  have h3 := Int.emod_nonneg n (show c ≠ 0 by omega)
  have h4 := Int.emod_lt_of_pos n h0
  rw [w64' _ (by rw [h2]; split <;> omega)]
  rw [Int.tmod_eq_emod_of_nonneg (by rw [h2]; split <;> omega)]
  rw [h2]
  split
  · rw [Int.add_emod_right, Int.emod_emod]
  · rw [show n % c - c + c = n % c by omega, Int.emod_emod]
theorem round_spec (n c : Int) (h0 : 0 < c) (h1 : c ≤ 64) : (Int.tmod n c < 0 → wrap64 (Int.tmod n c + c) = n % c) ∧ (¬ Int.tmod n c < 0 → Int.tmod n c = n % c) := by
  have h2 : Int.tmod n c = if 0 ≤ n ∨ c ∣ n then n % c else n % c - c := by
    rw [Int.tmod_eq_emod]
    split
    · simp
    · rw [show (c.natAbs : Int) = c by omega]
  have h3 := Int.emod_nonneg n (show c ≠ 0 by omega)
  have h4 := Int.emod_lt_of_pos n h0
  constructor
  · intro h
    rw [w64' _ (by rw [h2]; split <;> omega)]
    rw [h2] at h ⊢
    split <;> omega
  · intro h
    rw [h2] at h ⊢
    split <;> omega

theorem impl_place (k n p : Int) (w : World) (hs : Sizes w) : Calls Tryd.prog 43 #[.agg #[.int .i64 k, .int .i64 n, .int .i64 p]] w fun e w' => e = .returned (.int .i64 (plc k n)) ∧ Below w.heap.size w w' := by
  have Hs := Lib.hid (hs.alloc (.cells #[.int .i64 k, .int .i64 n, .int .i64 p] 47))
  have hc := cnt_le k
  have hv : Hid (plc k n = if cnt k = 0 then 0 else n % cnt k) := Lib.hid rfl
  have hk : Hid (cnt k = if k = 6 then 8 else size k) := Lib.hid rfl
  have hr : Hid (0 < cnt k → Int.tmod (wrap64 (Int.tmod n (cnt k) + cnt k)) (cnt k) = n % cnt k) := Lib.hid fun h => round_impl n _ h hc.2
  clear hs
  by_cases h6 : k = 6
  · subst h6
    have hk8 : cnt 6 = 8 := rfl
    rw [hk8] at hv hr
    have Hc := Lib.hid hc
    clear hk hk8 hc
    go_enter Tryd.func43, Tryd.ntmps43
    go_wp2_with fail
    refine (impl_size _ _ Hs.out).mono ?_
    rintro e w' ⟨rfl, rfl⟩
    go_wp2_with fail
    go_ret
    exact ⟨kit.ret_int (by rw [hv.out, if_neg (by decide)]; exact hr.out (by decide)), (Below.refl _ _).alloc (Nat.le_refl _) _⟩
  · have b6 : (k == 6) = false := beq_eq_false_iff_ne.2 h6
    rw [if_neg h6] at hk
    have hkk := hk.out
    rw [hkk] at hv hr hc
    have hm : ∃ c, size k = c := ⟨_, rfl⟩
    obtain ⟨c, hsc⟩ := hm
    rw [hsc] at hv hr hc
    have Hsc := Lib.hid hsc
    clear hk hkk hsc h6
    by_cases h0 : c = 0
    · subst h0
      have Hv := Lib.hid (show plc k n = 0 by rw [hv.out, if_pos rfl])
      clear hv hr hc
      go_enter Tryd.func43, Tryd.ntmps43
      go_wp2_with fail
      refine (impl_size _ _ Hs.out).mono ?_
      rintro e w' ⟨rfl, rfl⟩
      rw [Hsc.out]
      go_wp2_with fail
      go_ret
      exact ⟨kit.ret_int Hv.out.symm, (Below.refl _ _).alloc (Nat.le_refl _) _⟩
    · have b0 : (c == 0) = false := beq_eq_false_iff_ne.2 h0
      have Hv := Lib.hid (show plc k n = Int.tmod (wrap64 (Int.tmod n c + c)) c by rw [hv.out, if_neg h0, hr.out (by omega)])
      clear hv hr hc
      go_enter Tryd.func43, Tryd.ntmps43
      go_wp2_with fail
      refine (impl_size _ _ Hs.out).mono ?_
      rintro e w' ⟨rfl, rfl⟩
      rw [Hsc.out]
      go_wp2_with fail
      go_ret
      exact ⟨kit.ret_int Hv.out.symm, (Below.refl _ _).alloc (Nat.le_refl _) _⟩
theorem spec_place (k n p : Int) (w : World) : Calls Tryd.prog 36 #[.agg #[.int .i64 k, .int .i64 n, .int .i64 p]] w fun e w' => e = .returned (.int .i64 (plc k n)) ∧ Below w.heap.size w w' := by
  have hc := cnt_le k
  have hv : Hid (plc k n = if cnt k = 0 then 0 else n % cnt k) := Lib.hid rfl
  have hk : Hid (cnt k = if k = 6 then 8 else size k) := Lib.hid rfl
  have hr : Hid (0 < cnt k → (Int.tmod n (cnt k) < 0 → wrap64 (Int.tmod n (cnt k) + cnt k) = n % cnt k) ∧ (¬ Int.tmod n (cnt k) < 0 → Int.tmod n (cnt k) = n % cnt k)) := Lib.hid fun h => round_spec n _ h hc.2
  by_cases h6 : k = 6
  · subst h6
    have hk8 : cnt 6 = 8 := rfl
    rw [hk8] at hv hr
    have Hc := Lib.hid hc
    clear hk hk8 hc
    have hv8 := hv.out
    rw [if_neg (by decide)] at hv8
    have Hv := Lib.hid hv8
    clear hv8 hv
    by_cases hneg : Int.tmod n 8 < 0
    · have Hr := Lib.hid ((hr.out (by decide)).1 hneg)
      clear hr
      go_enter Tryd.func36, Tryd.ntmps36
      go_wp2_with fail
      refine (spec_size _ _).mono ?_
      rintro e w' ⟨rfl, rfl⟩
      go_wp2_with fail
      go_ret
      exact ⟨kit.ret_int (Hr.out.trans Hv.out.symm), (Below.refl _ _).alloc (Nat.le_refl _) _⟩
    · have Hr := Lib.hid ((hr.out (by decide)).2 hneg)
      have hnd : decide (Int.tmod n 8 < 0) = false := decide_eq_false hneg
      clear hr
      go_enter Tryd.func36, Tryd.ntmps36
      go_wp2_with fail
      refine (spec_size _ _).mono ?_
      rintro e w' ⟨rfl, rfl⟩
      go_wp2_with fail
      go_ret
      exact ⟨kit.ret_int (Hr.out.trans Hv.out.symm), (Below.refl _ _).alloc (Nat.le_refl _) _⟩
  · have b6 : (k == 6) = false := beq_eq_false_iff_ne.2 h6
    rw [if_neg h6] at hk
    have hkk := hk.out
    rw [hkk] at hv hr hc
    have hm : ∃ c, size k = c := ⟨_, rfl⟩
    obtain ⟨c, hsc⟩ := hm
    rw [hsc] at hv hr hc
    have Hsc := Lib.hid hsc
    clear hk hkk hsc h6
    by_cases h0 : c = 0
    · subst h0
      have Hv := Lib.hid (show plc k n = 0 by rw [hv.out, if_pos rfl])
      clear hv hr hc
      go_enter Tryd.func36, Tryd.ntmps36
      go_wp2_with fail
      refine (spec_size _ _).mono ?_
      rintro e w' ⟨rfl, rfl⟩
      rw [Hsc.out]
      go_wp2_with fail
      go_ret
      exact ⟨kit.ret_int Hv.out.symm, (Below.refl _ _).alloc (Nat.le_refl _) _⟩
    · have b0 : (c == 0) = false := beq_eq_false_iff_ne.2 h0
      have Hv := Lib.hid (show plc k n = n % c by rw [hv.out, if_neg h0])
      by_cases hneg : Int.tmod n c < 0
      · have Hr := Lib.hid ((hr.out (by omega)).1 hneg)
        clear hr hv hc
        go_enter Tryd.func36, Tryd.ntmps36
        go_wp2_with fail
        refine (spec_size _ _).mono ?_
        rintro e w' ⟨rfl, rfl⟩
        rw [Hsc.out]
        go_wp2_with fail
        go_ret
        exact ⟨kit.ret_int (Hr.out.trans Hv.out.symm), (Below.refl _ _).alloc (Nat.le_refl _) _⟩
      · have Hr := Lib.hid ((hr.out (by omega)).2 hneg)
        have hnd : decide (Int.tmod n c < 0) = false := decide_eq_false hneg
        clear hr hv hc
        go_enter Tryd.func36, Tryd.ntmps36
        go_wp2_with fail
        refine (spec_size _ _).mono ?_
        rintro e w' ⟨rfl, rfl⟩
        rw [Hsc.out]
        go_wp2_with fail
        go_ret
        exact ⟨kit.ret_int (Hr.out.trans Hv.out.symm), (Below.refl _ _).alloc (Nat.le_refl _) _⟩

end Go.Proofs.YtnffgafofkknoaaDoor.dev
