/-
  The walk of 'FnExactForkOk': it returns true, whatever the fork.
  Conditions: none.
-/
import Derived.Test.YtpijegkmghhbhaaGFnExactBitOk
namespace Go.Proofs.Ytpijegkmghhbhaa.fnExactForkOk
open Go.RowKit Go.Proofs.Ytpijegkmghhbhaa.fnExactBitOk
set_option linter.unusedVariables false

theorem to_any (b n : Int) (w : World) : Calls Try.prog 14 #[.agg #[.int .u8 b, .int .i64 n]] w fun e w' => e = .returned (.agg #[.int .u8 b, .int .i64 n]) ∧ Below w.heap.size w w' := by
  go_enter Try.func14, Try.ntmps14
  go_wp2
  exact bodyPost_ret (v := .agg #[.int .u8 b, .int .i64 n]) (by simp [results, Try.results14, go_sem]) rfl ⟨rfl, (((Below.refl _ _).alloc (Nat.le_refl _) _).alloc (by simp) _).alloc (by simp; omega) _⟩

theorem impl_ok (b n : Int) (w : World) (hb : 0 ≤ b ∧ b ≤ 255) : Calls Try.prog 15 #[.agg #[.int .u8 b, .int .i64 n]] w fun e w' => e = .returned (.bool (bok 8 b n)) ∧ Below w.heap.size w w' := by
  obtain ⟨b1, b2⟩ := hb
  go_enter Try.func15, Try.ntmps15
  go_wp2
  · have h0 : 0 ≤ n := by assumption
    have h1 : n ≤ 8 := by assumption
    obtain ⟨k, rfl⟩ : ∃ k : Nat, n = k := ⟨n.toNat, by omega⟩
    go_ret
    refine ⟨kit.ret_bool ?_, (Below.refl _ _).alloc (Nat.le_refl _) _⟩
    rw [bok_in h1, Int.toNat_natCast]
    exact div_zero b1
  all_goals
    go_ret
    exact ⟨kit.ret_bool (by simp only [bok, Bool.false_eq, decide_eq_false_iff_not]; omega), (Below.refl _ _).alloc (Nat.le_refl _) _⟩


theorem fork_ok (b n : Int) (w : World) (hb : 0 ≤ b ∧ b ≤ 255) : Calls Try.prog 13 #[.agg #[.int .u8 b, .int .i64 n]] w fun e w' => e = .returned (.bool (bok 8 b n)) ∧ Below w.heap.size w w' := by
  obtain ⟨b1, b2⟩ := hb
  by_cases h8 : n ≤ 8
  · have hk : Hid (bok 8 b n = bok 16 b n) := Lib.hid (by simp only [bok, decide_eq_decide]; omega)
    go_enter Try.func13, Try.ntmps13
    go_wp2_with fail
    refine (spec_ok _ _ _ ⟨by omega, by omega⟩).mono ?_
    rintro e w1 ⟨rfl, h1⟩
    go_wp2_with fail
    go_ret
    exact ⟨kit.ret_bool hk.out.symm, ((Below.refl _ _).alloc (Nat.le_refl _) _).trans (h1.mono (by simp))⟩
  · go_enter Try.func13, Try.ntmps13
    go_wp2_with fail
    go_ret
    exact ⟨kit.ret_bool (by simp only [bok, Bool.false_eq, decide_eq_false_iff_not]; omega), (Below.refl _ _).alloc (Nat.le_refl _) _⟩

theorem walkI (b n : Int) (W : World) (hb : 0 ≤ b ∧ b ≤ 255) : Calls Try.prog 5 #[.agg #[.int .u8 b, .int .i64 n]] W fun e w' => e = .returned (.bool true) ∧ Below W.heap.size W w' := by
  go_enter Try.func5, Try.ntmps5
  go_wp2_with fail
  refine (to_any _ _ _).mono ?_
  rintro e w1 ⟨rfl, h1⟩
  have k1 := kit.box_keep (kit.box_new W _ _) h1 (by simp)
  go_wp2_with fail
  refine (fork_ok _ _ _ hb).mono ?_
  rintro e w2 ⟨rfl, h2⟩
  have k2 := kit.box_keep k1 h2 (kit.box_lt k1)
  have c0 := kit.box_cell k2 0 rfl
  have c1 := kit.box_cell k2 1 rfl
  go_wp2_with fail
  refine (to_any _ _ _).mono ?_
  rintro e w3 ⟨rfl, h3⟩
  go_wp2_with fail
  refine (impl_ok _ _ _ hb).mono ?_
  rintro e w4 ⟨rfl, h4⟩
  go_wp2
  go_ret
  have e1 := h1.size
  have e2 := h2.size
  have e3 := h3.size
  have e0 : W.heap.size < (W.alloc (Obj.cells #[.int .u8 b, .int .i64 n] 31)).heap.size := by simp
  exact ⟨rfl, (((((Below.refl _ _).alloc (Nat.le_refl _) _).trans (h1.mono (by omega))).trans (h2.mono (by omega))).trans (h3.mono (by omega))).trans (h4.mono (by omega))⟩

theorem walk (W : World) (base : Nat) (v0 : Value) (o0 : Value.okWide Try.prog W .any base 31 v0) :
    Calls Try.prog 5 #[v0] W fun e w' => e = .returned (.bool true) ∧ Below W.heap.size W w' := by
  obtain ⟨cs, rfl, hsz, hc⟩ := kit.ok_cells Try.underlying31 o0
  have hc := hc [5, 3] (by kernel_rfl)
  rw [show Try.prog.cellsOf 31 = 2 by kernel_rfl] at hsz
  obtain ⟨x, y, rfl⟩ := kit.arr2 (by simpa using hsz)
  obtain ⟨_, e0, h0⟩ := hc 0 x rfl
  obtain rfl := Option.some.inj e0
  obtain ⟨_, e1, h1⟩ := hc 1 y rfl
  obtain rfl := Option.some.inj e1
  obtain ⟨b, rfl, b1, b2⟩ := kit.cell_int Try.underlying5 h0
  obtain ⟨n, rfl, _, _⟩ := kit.cell_int Try.underlying3 h1
  exact walkI b n W ⟨b1, b2⟩
end Go.Proofs.Ytpijegkmghhbhaa.fnExactForkOk
