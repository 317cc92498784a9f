/-
  The walk of 'FnExactBitOk': it returns true, whatever the stack.
  Conditions: none.
-/
import Derived.Test.YtpijegkmghhbhaaKit
import Derived.WalkLawsBesides
namespace Go.Proofs.Ytpijegkmghhbhaa.fnExactBitOk
open Go.RowKit
set_option linter.unusedVariables false

def bok (m b n : Int) : Bool := decide (0 ≤ n ∧ n ≤ m ∧ b < 2 ^ n.toNat)

def pw (k : Nat) : Int := 2 ^ k
theorem pw_zero : pw 0 = 1 := rfl
theorem pw_succ (k : Nat) : pw (k + 1) = pw k * 2 := Int.pow_succ 2 k
theorem pw_pos (k : Nat) : 0 < pw k := Int.pow_pos (by decide)
theorem pw_le {k : Nat} (h : k ≤ 16) : pw k ≤ 65536 := by
  have t : ∀ j : Fin 17, pw j.val ≤ 65536 := by decide
  exact t ⟨k, by omega⟩
theorem div_zero {b : Int} {k : Nat} (hb : 0 ≤ b) : (b / pw k == 0) = decide (b < pw k) := by
  have hp := pw_pos k
  rw [Bool.eq_iff_iff, decide_eq_true_iff, beq_iff_eq]
  constructor
  · intro h
    have := Int.lt_ediv_add_one_mul_self b hp
    rw [h] at this
    omega
  · exact Int.ediv_eq_zero_of_lt hb
theorem bok_in {m b : Int} {k : Nat} (h : (k : Int) ≤ m) : bok m b k = decide (b < pw k) := by
  unfold bok pw
  simp [h]

theorem to_any (b n : Int) (w : World) : Calls Try.prog 11 #[.agg #[.int .u16 b, .int .i64 n]] w fun e w' => e = .returned (.agg #[.int .u16 b, .int .i64 n]) ∧ Below w.heap.size w w' := by
  go_enter Try.func11, Try.ntmps11
  go_wp2
  exact bodyPost_ret (v := .agg #[.int .u16 b, .int .i64 n]) (by simp [results, Try.results11, go_sem]) rfl ⟨rfl, (((Below.refl _ _).alloc (Nat.le_refl _) _).alloc (by simp) _).alloc (by simp; omega) _⟩

theorem impl_ok (b n : Int) (w : World) (hb : 0 ≤ b ∧ b ≤ 65535) : Calls Try.prog 12 #[.agg #[.int .u16 b, .int .i64 n]] w fun e w' => e = .returned (.bool (bok 16 b n)) ∧ Below w.heap.size w w' := by
  obtain ⟨b1, b2⟩ := hb
  go_enter Try.func12, Try.ntmps12
  go_wp2
  · have h0 : 0 ≤ n := by assumption
    have h1 : n ≤ 16 := by assumption
    obtain ⟨k, rfl⟩ : ∃ k : Nat, n = k := ⟨n.toNat, by omega⟩
    go_ret
    refine ⟨kit.ret_bool ?_, (Below.refl _ _).alloc (Nat.le_refl _) _⟩
    rw [bok_in h1, Int.toNat_natCast]
    exact div_zero b1
  all_goals
    go_ret
    exact ⟨kit.ret_bool (by simp only [bok, Bool.false_eq, decide_eq_false_iff_not]; omega), (Below.refl _ _).alloc (Nat.le_refl _) _⟩

set_option maxHeartbeats 1000000 in
theorem spec_ok (b n : Int) (w : World) (hb : 0 ≤ b ∧ b ≤ 65535) : Calls Try.prog 10 #[.agg #[.int .u16 b, .int .i64 n]] w fun e w' => e = .returned (.bool (bok 16 b n)) ∧ Below w.heap.size w w' := by
  obtain ⟨b1, b2⟩ := hb
  by_cases h0 : n < 0
  · go_enter Try.func10, Try.ntmps10
    go_wp2
    go_ret
    exact ⟨kit.ret_bool (by simp only [bok, Bool.false_eq, decide_eq_false_iff_not]; omega), (Below.refl _ _).alloc (Nat.le_refl _) _⟩
  by_cases h1 : 16 < n
  · go_enter Try.func10, Try.ntmps10
    go_wp2
    go_ret
    exact ⟨kit.ret_bool (by simp only [bok, Bool.false_eq, decide_eq_false_iff_not]; omega), (Below.refl _ _).alloc (Nat.le_refl _) _⟩
  · obtain ⟨m, hm⟩ : ∃ m : Nat, n = m := ⟨n.toNat, by omega⟩
    subst hm
    have hm16 : m ≤ 16 := by omega
    clear h0 h1
    go_enter Try.func10, Try.ntmps10
    go_wp2
    go_loop [3, 4] (fun r i => ∃ k : Nat, k ≤ m ∧ i = .int .i64 k ∧ r = .int .i64 (pw k)) (fun _ i => m - (intOf i).toNat)
    case atStart => exact ⟨0, Nat.zero_le _, rfl, rfl⟩
    case round =>
      obtain ⟨k, hk, rfl, rfl⟩ := hrel
      have hp := pw_le (Nat.le_trans hk hm16)
      have hp0 := pw_pos k
      go_wp2
      · go_round
        case rel => exact ⟨k + 1, by omega, by go_num, by rw [pw_succ]⟩
        case measure => simp [intOf]; omega
      · have hkm : k = m := by omega
        subst hkm
        go_ret
        exact ⟨kit.ret_bool (bok_in (m := 16) (b := b) (k := k) (by omega)).symm, (Below.refl _ _).alloc (Nat.le_refl _) _⟩

theorem walkI (b n : Int) (W : World) (hb : 0 ≤ b ∧ b ≤ 65535) : Calls Try.prog 4 #[.agg #[.int .u16 b, .int .i64 n]] W fun e w' => e = .returned (.bool true) ∧ Below W.heap.size W w' := by
  go_enter Try.func4, Try.ntmps4
  go_wp2_with fail
  refine (to_any _ _ _).mono ?_
  rintro e w1 ⟨rfl, h1⟩
  have k1 := kit.box_keep (kit.box_new W _ _) h1 (by simp)
  go_wp2_with fail
  refine (spec_ok _ _ _ hb).mono ?_
  rintro e w2 ⟨rfl, h2⟩
  have k2 := kit.box_keep k1 h2 (kit.box_lt k1)
  have c0 := kit.box_cell k2 0 rfl
  have c1 := kit.box_cell k2 1 rfl
  go_wp2_with fail
  refine (to_any _ _ _).mono ?_
  rintro e w3 ⟨rfl, h3⟩
  go_wp2_with fail
  refine (impl_ok _ _ _ hb).mono ?_
  rintro e w4 ⟨rfl, h4⟩
  go_wp2
  go_ret
  have e1 := h1.size
  have e2 := h2.size
  have e3 := h3.size
  have e0 : W.heap.size < (W.alloc (Obj.cells #[.int .u16 b, .int .i64 n] 25)).heap.size := by simp
  exact ⟨rfl, (((((Below.refl _ _).alloc (Nat.le_refl _) _).trans (h1.mono (by omega))).trans (h2.mono (by omega))).trans (h3.mono (by omega))).trans (h4.mono (by omega))⟩

theorem walk (W : World) (base : Nat) (v0 : Value) (o0 : Value.okWide Try.prog W .any base 25 v0) :
    Calls Try.prog 4 #[v0] W fun e w' => e = .returned (.bool true) ∧ Below W.heap.size W w' := by
  obtain ⟨cs, rfl, hsz, hc⟩ := kit.ok_cells Try.underlying25 o0
  have hc := hc [23, 3] (by kernel_rfl)
  rw [show Try.prog.cellsOf 25 = 2 by kernel_rfl] at hsz
  obtain ⟨x, y, rfl⟩ := kit.arr2 (by simpa using hsz)
  obtain ⟨_, e0, h0⟩ := hc 0 x rfl
  obtain rfl := Option.some.inj e0
  obtain ⟨_, e1, h1⟩ := hc 1 y rfl
  obtain rfl := Option.some.inj e1
  obtain ⟨b, rfl, b1, b2⟩ := kit.cell_int Try.underlying23 h0
  obtain ⟨n, rfl, _, _⟩ := kit.cell_int Try.underlying3 h1
  exact walkI b n W ⟨b1, b2⟩
end Go.Proofs.Ytpijegkmghhbhaa.fnExactBitOk
