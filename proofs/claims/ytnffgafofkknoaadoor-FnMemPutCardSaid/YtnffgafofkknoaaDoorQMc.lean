/-
  Lemmas that a law of the seat uses, part 3: contracts of the functions that it reaches and plain laws.
  Conditions: none beyond those that each lemma states.
-/
import Derived.Test.YtnffgafofkknoaaDoorQMb
import Derived.Test.YtnffgafofkknoaaDoorQMa
import Derived.BigQuiet
import Derived.Deep.QuietTactic
import Derived.Deep.RegionWith
import Derived.Outline
/-! MemWhole -/
namespace Go.Proofs.YtnffgafofkknoaaDoor.part
open Go Go.RowKit Go.Proofs.YtnffgafofkknoaaDoor.dev
set_option linter.unusedVariables false
set_option linter.unusedSimpArgs false

def num : Value → Int | .int _ q => q | _ => 0
def least (c : Int) : Int := if 32767 < c then 32767 else IntKind.i16.wrap c
def mw (cs : Array Value) (k n : Int) : Int :=
  if k = 7 then least (num (cel cs (5 + ((plc k n).toNat * 2 + 1)))) else if k = 8 then least (num (cel cs (37 + ((plc k n).toNat * 3 + 2)))) else if k = 9 then num (cel cs (85 + (plc k n).toNat)) else if k = 11 then IntKind.i16.wrap n else 0

theorem least_min (c : Int) : IntKind.i16.wrap (min c 32767) = least c := by
  unfold least
  split
  · rw [Int.min_eq_right (by omega)]; rfl
  · rw [Int.min_eq_left (by omega)]
theorem plc_nat {k n c : Int} (hc : cnt k = c) (h : c ≠ 0) : ∃ j : Nat, plc k n = j ∧ (j : Int) < c := by
  have h1 := plc_in k n
  obtain ⟨j, e⟩ := Int.eq_ofNat_of_zero_le h1.1
  exact ⟨j, e, by rw [← e, ← hc]; exact h1.2 (by rw [hc]; exact h)⟩

set_option maxRecDepth 100000 in
theorem iw_T (cs : Array Value) (hsh : Shape cs) (n p : Int) (w : World) (hs : Sizes w) : Calls Tryd.prog 15 #[.agg cs, .agg #[.int .i64 7, .int .i64 n, .int .i64 p]] w fun e w' => e = .returned (.int .i16 (mw cs 7 n)) ∧ Below w.heap.size w w' := by
  obtain ⟨j, hj, hlt⟩ := plc_nat (k := 7) (n := n) (c := 16) rfl (by decide)
  obtain ⟨d, c, _, hc⟩ := hsh.T j (by omega)
  have Hv := Lib.hid (show least c = mw cs 7 n by unfold mw; rw [if_pos rfl, hj, Int.toNat_natCast, cel_is hc]; rfl)
  have Hj := Lib.hid hj
  have Hc := Lib.hid hc
  clear hj hc
  have Hsz := Lib.hid hsh.size
  have ka := heap_alloc2_old w (.cells cs 45) (.cells #[.int .i64 7, .int .i64 n, .int .i64 p] 47)
  have kd := heap_alloc2_new w (.cells cs 45) (.cells #[.int .i64 7, .int .i64 n, .int .i64 p] 47)
  have B0 := Lib.hid (((Below.refl w.heap.size w).alloc (Nat.le_refl _) (.cells cs 45)).alloc (by simp) (.cells #[.int .i64 7, .int .i64 n, .int .i64 p] 47))
  have Ka := Lib.hid ka
  have Kd := Lib.hid kd
  clear ka kd hsh
  have Hs := Lib.hid ((hs.alloc (.cells cs 45)).alloc (.cells #[.int .i64 7, .int .i64 n, .int .i64 p] 47))
  clear hs
  go_enter Tryd.func15, Tryd.ntmps15
  go_wp2_with fail
  refine (impl_place 7 n p _ Hs.out).mono ?_
  rintro e w1 ⟨rfl, h1⟩
  have k1 := kit.box_keep Ka.out h1 (kit.box_lt Ka.out)
  have k2 := kit.box_keep Kd.out h1 (kit.box_lt Kd.out)
  have B1 := Lib.hid (B0.out.trans (h1.mono B0.out.size))
  have d0 := kit.box_cell k2 0 rfl
  have d1 := kit.box_cell k2 1 rfl
  have d2 := kit.box_cell k2 2 rfl
  clear h1 k2 Ka Kd B0
  rw [Hj.out]
  have cc : w1.cell? ⟨w.heap.size, 5 + j * 2 + 1, none⟩ = some (.int .u16 c) := kit.box_cell k1 (5 + (j * 2 + 1)) Hc.out
  clear k1
  go_wp2_with fail
  all_goals
    go_ret
    exact ⟨kit.ret_int (by have := Hv.out; rw [← this]; unfold least; first | (rw [if_pos (by omega)]; rfl) | (rw [if_neg (by omega)])), B1.out⟩

set_option maxRecDepth 100000 in
theorem iw_C (cs : Array Value) (hsh : Shape cs) (n p : Int) (w : World) (hs : Sizes w) : Calls Tryd.prog 15 #[.agg cs, .agg #[.int .i64 8, .int .i64 n, .int .i64 p]] w fun e w' => e = .returned (.int .i16 (mw cs 8 n)) ∧ Below w.heap.size w w' := by
  obtain ⟨j, hj, hlt⟩ := plc_nat (k := 8) (n := n) (c := 16) rfl (by decide)
  obtain ⟨d, l, c, _, _, hc⟩ := hsh.C j (by omega)
  have Hv := Lib.hid (show least c = mw cs 8 n by unfold mw; rw [if_neg (by decide), if_pos rfl, hj, Int.toNat_natCast, cel_is hc]; rfl)
  have Hj := Lib.hid hj
  have Hc := Lib.hid hc
  clear hj hc
  have Hsz := Lib.hid hsh.size
  have ka := heap_alloc2_old w (.cells cs 45) (.cells #[.int .i64 8, .int .i64 n, .int .i64 p] 47)
  have kd := heap_alloc2_new w (.cells cs 45) (.cells #[.int .i64 8, .int .i64 n, .int .i64 p] 47)
  have B0 := Lib.hid (((Below.refl w.heap.size w).alloc (Nat.le_refl _) (.cells cs 45)).alloc (by simp) (.cells #[.int .i64 8, .int .i64 n, .int .i64 p] 47))
  have Ka := Lib.hid ka
  have Kd := Lib.hid kd
  clear ka kd hsh
  have Hs := Lib.hid ((hs.alloc (.cells cs 45)).alloc (.cells #[.int .i64 8, .int .i64 n, .int .i64 p] 47))
  clear hs
  go_enter Tryd.func15, Tryd.ntmps15
  go_wp2_with fail
  refine (impl_place 8 n p _ Hs.out).mono ?_
  rintro e w1 ⟨rfl, h1⟩
  have k1 := kit.box_keep Ka.out h1 (kit.box_lt Ka.out)
  have k2 := kit.box_keep Kd.out h1 (kit.box_lt Kd.out)
  have B1 := Lib.hid (B0.out.trans (h1.mono B0.out.size))
  have d0 := kit.box_cell k2 0 rfl
  have d1 := kit.box_cell k2 1 rfl
  have d2 := kit.box_cell k2 2 rfl
  clear h1 k2 Ka Kd B0
  rw [Hj.out]
  have cc : w1.cell? ⟨w.heap.size, 37 + j * 3 + 2, none⟩ = some (.int .u16 c) := kit.box_cell k1 (37 + (j * 3 + 2)) Hc.out
  clear k1
  go_wp2_with fail
  all_goals
    go_ret
    exact ⟨kit.ret_int (by have := Hv.out; rw [← this]; unfold least; first | (rw [if_pos (by omega)]; rfl) | (rw [if_neg (by omega)])), B1.out⟩

set_option maxRecDepth 100000 in
theorem iw_D (cs : Array Value) (hsh : Shape cs) (n p : Int) (w : World) (hs : Sizes w) : Calls Tryd.prog 15 #[.agg cs, .agg #[.int .i64 9, .int .i64 n, .int .i64 p]] w fun e w' => e = .returned (.int .i16 (mw cs 9 n)) ∧ Below w.heap.size w w' := by
  obtain ⟨j, hj, hlt⟩ := plc_nat (k := 9) (n := n) (c := 32) rfl (by decide)
  obtain ⟨c, hc⟩ := hsh.D j (by omega)
  have Hv := Lib.hid (show c = mw cs 9 n by unfold mw; rw [if_neg (by decide), if_neg (by decide), if_pos rfl, hj, Int.toNat_natCast, cel_is hc]; rfl)
  have Hj := Lib.hid hj
  have Hc := Lib.hid hc
  clear hj hc
  have Hsz := Lib.hid hsh.size
  have ka := heap_alloc2_old w (.cells cs 45) (.cells #[.int .i64 9, .int .i64 n, .int .i64 p] 47)
  have kd := heap_alloc2_new w (.cells cs 45) (.cells #[.int .i64 9, .int .i64 n, .int .i64 p] 47)
  have B0 := Lib.hid (((Below.refl w.heap.size w).alloc (Nat.le_refl _) (.cells cs 45)).alloc (by simp) (.cells #[.int .i64 9, .int .i64 n, .int .i64 p] 47))
  have Ka := Lib.hid ka
  have Kd := Lib.hid kd
  clear ka kd hsh
  have Hs := Lib.hid ((hs.alloc (.cells cs 45)).alloc (.cells #[.int .i64 9, .int .i64 n, .int .i64 p] 47))
  clear hs
  go_enter Tryd.func15, Tryd.ntmps15
  go_wp2_with fail
  refine (impl_place 9 n p _ Hs.out).mono ?_
  rintro e w1 ⟨rfl, h1⟩
  have k1 := kit.box_keep Ka.out h1 (kit.box_lt Ka.out)
  have k2 := kit.box_keep Kd.out h1 (kit.box_lt Kd.out)
  have B1 := Lib.hid (B0.out.trans (h1.mono B0.out.size))
  have d0 := kit.box_cell k2 0 rfl
  have d1 := kit.box_cell k2 1 rfl
  have d2 := kit.box_cell k2 2 rfl
  clear h1 k2 Ka Kd B0
  rw [Hj.out]
  have cc : w1.cell? ⟨w.heap.size, 85 + j, none⟩ = some (.int .i16 c) := kit.box_cell k1 (85 + j) Hc.out
  clear k1
  go_wp2_with fail
  go_ret
  exact ⟨kit.ret_int Hv.out, B1.out⟩

theorem w16 (n : Int) : IntKind.i16.wrap n = (n + 32768) % 65536 - 32768 := by
  simp [IntKind.wrap, IntKind.bits, IntKind.signed]
  omega
theorem least_any (c : Int) (w : World) : Calls Tryd.prog 37 #[.int .u16 c] w fun e w' => e = .returned (.int .i16 (least c)) ∧ w = w' := by
  by_cases h : 32767 < c
  · have Hv := Lib.hid (show 32767 = least c by unfold least; rw [if_pos h])
    go_enter Tryd.func37, Tryd.ntmps37
    go_wp2
    go_ret
    exact ⟨kit.ret_int Hv.out, rfl⟩
  · have Hv := Lib.hid (show IntKind.i16.wrap c = least c by unfold least; rw [if_neg h])
    have hd : decide (32767 < c) = false := decide_eq_false h
    go_enter Tryd.func37, Tryd.ntmps37
    go_wp2
    go_ret
    exact ⟨kit.ret_int Hv.out, rfl⟩
theorem wrap_any (n : Int) (w : World) : Calls Tryd.prog 38 #[.int .i64 n] w fun e w' => e = .returned (.int .i16 (IntKind.i16.wrap n)) ∧ w = w' := by
  have hm := Int.tmod_add_tdiv_mul n 65536
  have hb : -65536 < Int.tmod n 65536 ∧ Int.tmod n 65536 < 65536 := by
    have h6 : (Int.tmod n 65536).natAbs < (65536 : Int).natAbs := by rw [Int.natAbs_tmod]; exact Nat.mod_lt _ (by decide)
    omega
  by_cases h1 : Int.tmod n 65536 < -32768
  · have Hv := Lib.hid (show IntKind.i16.wrap (wrap64 (Int.tmod n 65536 + 65536)) = IntKind.i16.wrap n by rw [w64' _ (by omega), w16, w16]; omega)
    have h2 : ¬ 32767 < wrap64 (Int.tmod n 65536 + 65536) := by rw [w64' _ (by omega)]; omega
    have h3 : decide (32767 < wrap64 (Int.tmod n 65536 + 65536)) = false := decide_eq_false h2
    clear hm hb
    go_enter Tryd.func38, Tryd.ntmps38
    go_wp2
    go_ret
    exact ⟨kit.ret_int Hv.out, rfl⟩
  · have g1 : decide (Int.tmod n 65536 < -32768) = false := decide_eq_false h1
    by_cases h2 : 32767 < Int.tmod n 65536
    · have Hv := Lib.hid (show IntKind.i16.wrap (wrap64 (Int.tmod n 65536 - 65536)) = IntKind.i16.wrap n by rw [w64' _ (by omega), w16, w16]; omega)
      clear hm hb
      go_enter Tryd.func38, Tryd.ntmps38
      go_wp2
      go_ret
      exact ⟨kit.ret_int Hv.out, rfl⟩
    · have g2 : decide (32767 < Int.tmod n 65536) = false := decide_eq_false h2
      have Hv := Lib.hid (show Int.tmod n 65536 = IntKind.i16.wrap n by rw [w16]; omega)
      clear hm hb
      go_enter Tryd.func38, Tryd.ntmps38
      go_wp2
      go_ret
      exact ⟨kit.ret_int Hv.out, rfl⟩

set_option maxRecDepth 100000 in
theorem sw_T (cs : Array Value) (hsh : Shape cs) (n p : Int) (w : World) : Calls Tryd.prog 12 #[.agg cs, .agg #[.int .i64 7, .int .i64 n, .int .i64 p]] w fun e w' => e = .returned (.int .i16 (mw cs 7 n)) ∧ Below w.heap.size w w' := by
  obtain ⟨j, hj, hlt⟩ := plc_nat (k := 7) (n := n) (c := 16) rfl (by decide)
  obtain ⟨d, c, _, hc⟩ := hsh.T j (by omega)
  have Hv := Lib.hid (show least c = mw cs 7 n by unfold mw; rw [if_pos rfl, hj, Int.toNat_natCast, cel_is hc]; rfl)
  have Hj := Lib.hid hj
  have Hc := Lib.hid hc
  clear hj hc
  have Hsz := Lib.hid hsh.size
  have ka := heap_alloc2_old w (.cells cs 45) (.cells #[.int .i64 7, .int .i64 n, .int .i64 p] 47)
  have kd := heap_alloc2_new w (.cells cs 45) (.cells #[.int .i64 7, .int .i64 n, .int .i64 p] 47)
  have B0 := Lib.hid (((Below.refl w.heap.size w).alloc (Nat.le_refl _) (.cells cs 45)).alloc (by simp) (.cells #[.int .i64 7, .int .i64 n, .int .i64 p] 47))
  have Ka := Lib.hid ka
  have Kd := Lib.hid kd
  clear ka kd hsh
  go_enter Tryd.func12, Tryd.ntmps12
  go_wp2_with fail
  refine (spec_place 7 n p _).mono ?_
  rintro e w1 ⟨rfl, h1⟩
  have k1 := kit.box_keep Ka.out h1 (kit.box_lt Ka.out)
  have k2 := kit.box_keep Kd.out h1 (kit.box_lt Kd.out)
  have B1 := Lib.hid (B0.out.trans (h1.mono B0.out.size))
  have d0 := kit.box_cell k2 0 rfl
  have d1 := kit.box_cell k2 1 rfl
  have d2 := kit.box_cell k2 2 rfl
  clear h1 k2 Ka Kd B0
  rw [Hj.out]
  have cc : w1.cell? ⟨w.heap.size, 5 + j * 2 + 1, none⟩ = some (.int .u16 c) := kit.box_cell k1 (5 + (j * 2 + 1)) Hc.out
  clear k1
  go_wp2_with fail
  refine (least_any _ _).mono ?_
  rintro e w' ⟨rfl, rfl⟩
  go_wp2_with fail
  go_ret
  exact ⟨kit.ret_int Hv.out, B1.out⟩

set_option maxRecDepth 100000 in
theorem sw_C (cs : Array Value) (hsh : Shape cs) (n p : Int) (w : World) : Calls Tryd.prog 12 #[.agg cs, .agg #[.int .i64 8, .int .i64 n, .int .i64 p]] w fun e w' => e = .returned (.int .i16 (mw cs 8 n)) ∧ Below w.heap.size w w' := by
  obtain ⟨j, hj, hlt⟩ := plc_nat (k := 8) (n := n) (c := 16) rfl (by decide)
  obtain ⟨d, l, c, _, _, hc⟩ := hsh.C j (by omega)
  have Hv := Lib.hid (show least c = mw cs 8 n by unfold mw; rw [if_neg (by decide), if_pos rfl, hj, Int.toNat_natCast, cel_is hc]; rfl)
  have Hj := Lib.hid hj
  have Hc := Lib.hid hc
  clear hj hc
  have Hsz := Lib.hid hsh.size
  have ka := heap_alloc2_old w (.cells cs 45) (.cells #[.int .i64 8, .int .i64 n, .int .i64 p] 47)
  have kd := heap_alloc2_new w (.cells cs 45) (.cells #[.int .i64 8, .int .i64 n, .int .i64 p] 47)
  have B0 := Lib.hid (((Below.refl w.heap.size w).alloc (Nat.le_refl _) (.cells cs 45)).alloc (by simp) (.cells #[.int .i64 8, .int .i64 n, .int .i64 p] 47))
  have Ka := Lib.hid ka
  have Kd := Lib.hid kd
  clear ka kd hsh
  go_enter Tryd.func12, Tryd.ntmps12
  go_wp2_with fail
  refine (spec_place 8 n p _).mono ?_
  rintro e w1 ⟨rfl, h1⟩
  have k1 := kit.box_keep Ka.out h1 (kit.box_lt Ka.out)
  have k2 := kit.box_keep Kd.out h1 (kit.box_lt Kd.out)
  have B1 := Lib.hid (B0.out.trans (h1.mono B0.out.size))
  have d0 := kit.box_cell k2 0 rfl
  have d1 := kit.box_cell k2 1 rfl
  have d2 := kit.box_cell k2 2 rfl
  clear h1 k2 Ka Kd B0
  rw [Hj.out]
  have cc : w1.cell? ⟨w.heap.size, 37 + j * 3 + 2, none⟩ = some (.int .u16 c) := kit.box_cell k1 (37 + (j * 3 + 2)) Hc.out
  clear k1
  go_wp2_with fail
  refine (least_any _ _).mono ?_
  rintro e w' ⟨rfl, rfl⟩
  go_wp2_with fail
  go_ret
  exact ⟨kit.ret_int Hv.out, B1.out⟩

set_option maxRecDepth 100000 in
theorem sw_D (cs : Array Value) (hsh : Shape cs) (n p : Int) (w : World) : Calls Tryd.prog 12 #[.agg cs, .agg #[.int .i64 9, .int .i64 n, .int .i64 p]] w fun e w' => e = .returned (.int .i16 (mw cs 9 n)) ∧ Below w.heap.size w w' := by
  obtain ⟨j, hj, hlt⟩ := plc_nat (k := 9) (n := n) (c := 32) rfl (by decide)
  obtain ⟨c, hc⟩ := hsh.D j (by omega)
  have Hv := Lib.hid (show c = mw cs 9 n by unfold mw; rw [if_neg (by decide), if_neg (by decide), if_pos rfl, hj, Int.toNat_natCast, cel_is hc]; rfl)
  have Hj := Lib.hid hj
  have Hc := Lib.hid hc
  clear hj hc
  have Hsz := Lib.hid hsh.size
  have ka := heap_alloc2_old w (.cells cs 45) (.cells #[.int .i64 9, .int .i64 n, .int .i64 p] 47)
  have kd := heap_alloc2_new w (.cells cs 45) (.cells #[.int .i64 9, .int .i64 n, .int .i64 p] 47)
  have B0 := Lib.hid (((Below.refl w.heap.size w).alloc (Nat.le_refl _) (.cells cs 45)).alloc (by simp) (.cells #[.int .i64 9, .int .i64 n, .int .i64 p] 47))
  have Ka := Lib.hid ka
  have Kd := Lib.hid kd
  clear ka kd hsh
  go_enter Tryd.func12, Tryd.ntmps12
  go_wp2_with fail
  refine (spec_place 9 n p _).mono ?_
  rintro e w1 ⟨rfl, h1⟩
  have k1 := kit.box_keep Ka.out h1 (kit.box_lt Ka.out)
  have k2 := kit.box_keep Kd.out h1 (kit.box_lt Kd.out)
  have B1 := Lib.hid (B0.out.trans (h1.mono B0.out.size))
  have d0 := kit.box_cell k2 0 rfl
  have d1 := kit.box_cell k2 1 rfl
  have d2 := kit.box_cell k2 2 rfl
  clear h1 k2 Ka Kd B0
  rw [Hj.out]
  have cc : w1.cell? ⟨w.heap.size, 85 + j, none⟩ = some (.int .i16 c) := kit.box_cell k1 (85 + j) Hc.out
  clear k1
  go_wp2_with fail
  go_ret
  exact ⟨kit.ret_int Hv.out, B1.out⟩

set_option maxRecDepth 100000 in
theorem iw_O (cs : Array Value) (hsh : Shape cs) (k n p : Int) (h7 : k ≠ 7) (h8 : k ≠ 8) (h9 : k ≠ 9) (w : World) (hs : Sizes w) : Calls Tryd.prog 15 #[.agg cs, .agg #[.int .i64 k, .int .i64 n, .int .i64 p]] w fun e w' => e = .returned (.int .i16 (mw cs k n)) ∧ Below w.heap.size w w' := by
  have hk7 : (k == 7) = false := beq_eq_false_iff_ne.2 h7
  have hk8 : (k == 8) = false := beq_eq_false_iff_ne.2 h8
  have hk9 : (k == 9) = false := beq_eq_false_iff_ne.2 h9
  have Hp := Lib.hid (show mw cs k n = if k = 11 then IntKind.i16.wrap n else 0 by unfold mw; rw [if_neg h7, if_neg h8, if_neg h9])
  clear h7 h8 h9
  have Hsz := Lib.hid hsh.size
  have ka := heap_alloc2_old w (.cells cs 45) (.cells #[.int .i64 k, .int .i64 n, .int .i64 p] 47)
  have kd := heap_alloc2_new w (.cells cs 45) (.cells #[.int .i64 k, .int .i64 n, .int .i64 p] 47)
  have B0 := Lib.hid (((Below.refl w.heap.size w).alloc (Nat.le_refl _) (.cells cs 45)).alloc (by simp) (.cells #[.int .i64 k, .int .i64 n, .int .i64 p] 47))
  have Ka := Lib.hid ka
  have Kd := Lib.hid kd
  clear ka kd hsh
  have Hs := Lib.hid ((hs.alloc (.cells cs 45)).alloc (.cells #[.int .i64 k, .int .i64 n, .int .i64 p] 47))
  clear hs
  go_enter Tryd.func15, Tryd.ntmps15
  go_wp2_with fail
  refine (impl_place k n p _ Hs.out).mono ?_
  rintro e w1 ⟨rfl, h1⟩
  have k1 := kit.box_keep Ka.out h1 (kit.box_lt Ka.out)
  have k2 := kit.box_keep Kd.out h1 (kit.box_lt Kd.out)
  have B1 := Lib.hid (B0.out.trans (h1.mono B0.out.size))
  have d0 := kit.box_cell k2 0 rfl
  have d1 := kit.box_cell k2 1 rfl
  have d2 := kit.box_cell k2 2 rfl
  clear h1 k2 Ka Kd B0
  clear k1
  by_cases h11 : k = 11
  · subst h11
    have Hv := Lib.hid (show IntKind.i16.wrap n = mw cs 11 n by rw [Hp.out, if_pos rfl])
    clear Hp
    go_wp2_with fail
    go_ret
    exact ⟨kit.ret_int Hv.out, B1.out⟩
  · have Hv := Lib.hid (show 0 = mw cs k n by rw [Hp.out, if_neg h11])
    have hk11 : (k == 11) = false := beq_eq_false_iff_ne.2 h11
    clear Hp h11
    go_wp2_with fail
    go_ret
    exact ⟨kit.ret_int Hv.out, B1.out⟩

theorem iw_any (cs : Array Value) (hsh : Shape cs) (k n p : Int) (w : World) (hs : Sizes w) : Calls Tryd.prog 15 #[.agg cs, .agg #[.int .i64 k, .int .i64 n, .int .i64 p]] w fun e w' => e = .returned (.int .i16 (mw cs k n)) ∧ Below w.heap.size w w' := by
  by_cases h7 : k = 7
  · subst h7; exact iw_T cs hsh n p w hs
  by_cases h8 : k = 8
  · subst h8; exact iw_C cs hsh n p w hs
  by_cases h9 : k = 9
  · subst h9; exact iw_D cs hsh n p w hs
  exact iw_O cs hsh k n p h7 h8 h9 w hs

set_option maxRecDepth 100000 in
theorem sw_O (cs : Array Value) (hsh : Shape cs) (k n p : Int) (h7 : k ≠ 7) (h8 : k ≠ 8) (h9 : k ≠ 9) (w : World) : Calls Tryd.prog 12 #[.agg cs, .agg #[.int .i64 k, .int .i64 n, .int .i64 p]] w fun e w' => e = .returned (.int .i16 (mw cs k n)) ∧ Below w.heap.size w w' := by
  have hk7 : (k == 7) = false := beq_eq_false_iff_ne.2 h7
  have hk8 : (k == 8) = false := beq_eq_false_iff_ne.2 h8
  have hk9 : (k == 9) = false := beq_eq_false_iff_ne.2 h9
  have Hp := Lib.hid (show mw cs k n = if k = 11 then IntKind.i16.wrap n else 0 by unfold mw; rw [if_neg h7, if_neg h8, if_neg h9])
  clear h7 h8 h9
  have Hsz := Lib.hid hsh.size
  have ka := heap_alloc2_old w (.cells cs 45) (.cells #[.int .i64 k, .int .i64 n, .int .i64 p] 47)
  have kd := heap_alloc2_new w (.cells cs 45) (.cells #[.int .i64 k, .int .i64 n, .int .i64 p] 47)
  have B0 := Lib.hid (((Below.refl w.heap.size w).alloc (Nat.le_refl _) (.cells cs 45)).alloc (by simp) (.cells #[.int .i64 k, .int .i64 n, .int .i64 p] 47))
  have Ka := Lib.hid ka
  have Kd := Lib.hid kd
  clear ka kd hsh
  go_enter Tryd.func12, Tryd.ntmps12
  go_wp2_with fail
  refine (spec_place k n p _).mono ?_
  rintro e w1 ⟨rfl, h1⟩
  have k1 := kit.box_keep Ka.out h1 (kit.box_lt Ka.out)
  have k2 := kit.box_keep Kd.out h1 (kit.box_lt Kd.out)
  have B1 := Lib.hid (B0.out.trans (h1.mono B0.out.size))
  have d0 := kit.box_cell k2 0 rfl
  have d1 := kit.box_cell k2 1 rfl
  have d2 := kit.box_cell k2 2 rfl
  clear h1 k2 Ka Kd B0
  clear k1
  by_cases h11 : k = 11
  · subst h11
    have Hv := Lib.hid (show IntKind.i16.wrap n = mw cs 11 n by rw [Hp.out, if_pos rfl])
    clear Hp
    go_wp2_with fail
    refine (wrap_any _ _).mono ?_
    rintro e w' ⟨rfl, rfl⟩
    go_wp2_with fail
    go_ret
    exact ⟨kit.ret_int Hv.out, B1.out⟩
  · have Hv := Lib.hid (show 0 = mw cs k n by rw [Hp.out, if_neg h11])
    have hk11 : (k == 11) = false := beq_eq_false_iff_ne.2 h11
    clear Hp h11
    go_wp2_with fail
    go_ret
    exact ⟨kit.ret_int Hv.out, B1.out⟩

theorem sw_any (cs : Array Value) (hsh : Shape cs) (k n p : Int) (w : World) : Calls Tryd.prog 12 #[.agg cs, .agg #[.int .i64 k, .int .i64 n, .int .i64 p]] w fun e w' => e = .returned (.int .i16 (mw cs k n)) ∧ Below w.heap.size w w' := by
  by_cases h7 : k = 7
  · subst h7; exact sw_T cs hsh n p w
  by_cases h8 : k = 8
  · subst h8; exact sw_C cs hsh n p w
  by_cases h9 : k = 9
  · subst h9; exact sw_D cs hsh n p w
  exact sw_O cs hsh k n p h7 h8 h9 w

end Go.Proofs.YtnffgafofkknoaaDoor.part

/-! DevOk -/
namespace Go.Proofs.YtnffgafofkknoaaDoor.dev
open Go.RowKit
set_option linter.unusedVariables false
set_option linter.unusedSimpArgs false
set_option maxRecDepth 100000

def Words (w : World) : Prop := ∃ b off, w.cell? ⟨2, 0, none⟩ = some (.slice (some ⟨b, off, none⟩) 4 4)

theorem Words.below {w w' : World} (h : Words w) (hb : Below w.heap.size w w') : Words w' := by
  obtain ⟨b, off, hc⟩ := h
  exact ⟨b, off, cell_stays hc hb⟩
theorem Words.alloc {w : World} (h : Words w) (o : Obj) : Words (w.alloc o) := h.below ((Below.refl _ _).alloc (Nat.le_refl _) _)

def dok (k n p : Int) : Bool :=
  if k = 11 then decide (-32768 ≤ n ∧ n ≤ 32767 ∧ p = 0)
  else if k = 12 then decide (-999999999 ≤ n ∧ n ≤ 999999999 ∧ 1 ≤ p ∧ p ≤ 6 ∧ (p = 1 ∨ n.tmod 10 ≠ 0))
  else if k = 13 then decide (0 ≤ n ∧ n ≤ 3 ∧ p = 0)
  else decide (0 ≤ n ∧ n < size k ∧ p = 0)
theorem dok11 {n p : Int} : dok 11 n p = decide (-32768 ≤ n ∧ n ≤ 32767 ∧ p = 0) := rfl
theorem dok12 {n p : Int} : dok 12 n p = decide (-999999999 ≤ n ∧ n ≤ 999999999 ∧ 1 ≤ p ∧ p ≤ 6 ∧ (p = 1 ∨ n.tmod 10 ≠ 0)) := rfl
theorem dok13 {n p : Int} : dok 13 n p = decide (0 ≤ n ∧ n ≤ 3 ∧ p = 0) := rfl
theorem dokx {k n p : Int} (h1 : k ≠ 11) (h2 : k ≠ 12) (h3 : k ≠ 13) : dok k n p = decide (0 ≤ n ∧ n < size k ∧ p = 0) := by rw [dok, if_neg h1, if_neg h2, if_neg h3]

theorem to_dec {a b : Bool} (h : a = true ↔ b = true) : a = b := Bool.eq_iff_iff.2 h
theorem rem10 (n : Int) : -9223372036854775808 ≤ n.tmod 10 ∧ n.tmod 10 ≤ 9 := by
  have h : (n.tmod 10).natAbs ≤ 9 := by
    rw [Int.natAbs_tmod]
    have := Nat.mod_lt n.natAbs (show 0 < 10 by decide)
    simp only [Int.reduceAbs] at *
    omega
  omega

set_option maxHeartbeats 2000000 in
theorem impl_dok (k n p : Int) (w : World) (hs : Sizes w) (hw : Words w) : Calls Tryd.prog 80 #[.agg #[.int .i64 k, .int .i64 n, .int .i64 p]] w fun e w' => e = .returned (.bool (dok k n p)) ∧ Below w.heap.size w w' := by
  by_cases h11 : k = 11
  · subst h11
    clear hs hw
    have hd := Lib.hid (@dok11 n p)
    by_cases hi : -32768 ≤ n ∧ n ≤ 32767
    · have hb := inB_true hi
      go_enter Tryd.func80, Tryd.ntmps80
      go_wp2_with (go_at_call 79; refine (in_any _ _ _ _).mono ?_; rintro e w' ⟨rfl, rfl⟩)
      go_ret
      exact ⟨kit.ret_bool (to_dec (by rw [hd.out, decide_eq_true_iff, beq_iff_eq]; omega)), (Below.refl _ _).alloc (Nat.le_refl _) _⟩
    · have hb := inB_false hi
      go_enter Tryd.func80, Tryd.ntmps80
      go_wp2_with (go_at_call 79; refine (in_any _ _ _ _).mono ?_; rintro e w' ⟨rfl, rfl⟩)
      go_ret
      exact ⟨kit.ret_bool (by rw [hd.out]; symm; rw [decide_eq_false_iff_not]; omega), (Below.refl _ _).alloc (Nat.le_refl _) _⟩
  by_cases h12 : k = 12
  · subst h12
    clear hs hw h11
    have hd := Lib.hid (@dok12 n p)
    have hr := rem10 n
    obtain ⟨r1, r2⟩ := hr
    by_cases hi : (-999999999 ≤ n ∧ n ≤ 999999999)
    · have hb := inB_true hi
      by_cases hj : 1 ≤ p ∧ p ≤ 6
      · have hb2 := inB_true hj
        go_enter Tryd.func80, Tryd.ntmps80
        go_wp2_with (go_at_call 79; refine (in_any _ _ _ _).mono ?_; rintro e w' ⟨rfl, rfl⟩)
        all_goals
          go_ret
          refine ⟨kit.ret_bool (to_dec ?_), (Below.refl _ _).alloc (Nat.le_refl _) _⟩
          rw [hd.out, decide_eq_true_iff]
          simp only [Bool.or_eq_true, Bool.and_eq_true, beq_iff_eq, bne_iff_ne, decide_eq_true_iff, Bool.false_eq_true, true_iff, false_iff, ne_eq] at *; omega
      · have hb2 := inB_false hj
        go_enter Tryd.func80, Tryd.ntmps80
        go_wp2_with (go_at_call 79; refine (in_any _ _ _ _).mono ?_; rintro e w' ⟨rfl, rfl⟩)
        go_ret
        exact ⟨kit.ret_bool (by rw [hd.out]; symm; rw [decide_eq_false_iff_not]; omega), (Below.refl _ _).alloc (Nat.le_refl _) _⟩
    · have hb := inB_false hi
      go_enter Tryd.func80, Tryd.ntmps80
      go_wp2_with (go_at_call 79; refine (in_any _ _ _ _).mono ?_; rintro e w' ⟨rfl, rfl⟩)
      go_ret
      exact ⟨kit.ret_bool (by rw [hd.out]; symm; rw [decide_eq_false_iff_not]; omega), (Below.refl _ _).alloc (Nat.le_refl _) _⟩
  by_cases h13 : k = 13
  · subst h13
    obtain ⟨b, off, hc⟩ := hw
    have hlt := block_lt_of_cell hc
    clear hs h11 h12
    have hd := Lib.hid (@dok13 n p)
    by_cases hi : 0 ≤ n ∧ n ≤ 3
    · have hb := inB_true hi
      go_enter Tryd.func80, Tryd.ntmps80
      go_wp2_with (go_at_call 79; refine (in_any _ _ _ _).mono ?_; rintro e w' ⟨rfl, rfl⟩)
      go_ret
      exact ⟨kit.ret_bool (to_dec (by rw [hd.out, decide_eq_true_iff, beq_iff_eq]; omega)), (Below.refl _ _).alloc (Nat.le_refl _) _⟩
    · have hb := inB_false hi
      go_enter Tryd.func80, Tryd.ntmps80
      go_wp2_with (go_at_call 79; refine (in_any _ _ _ _).mono ?_; rintro e w' ⟨rfl, rfl⟩)
      go_ret
      exact ⟨kit.ret_bool (by rw [hd.out]; symm; rw [decide_eq_false_iff_not]; omega), (Below.refl _ _).alloc (Nat.le_refl _) _⟩
  · have hd := Lib.hid (@dokx k n p h11 h12 h13)
    have b11 : (k == 11) = false := beq_eq_false_iff_ne.2 h11
    have b12 : (k == 12) = false := beq_eq_false_iff_ne.2 h12
    have b13 : (k == 13) = false := beq_eq_false_iff_ne.2 h13
    clear h11 h12 h13 hw
    by_cases hn : 0 ≤ n
    · by_cases hz : n < size k
      · go_enter Tryd.func80, Tryd.ntmps80
        go_wp2_with fail
        go_quiet ((go_at_call 64; exact Calls.quiet_of_same ((impl_size _ _ ((hs.alloc _).drewN _)).mono fun _ _ h => ⟨h.1, h.2.symm⟩)))
        go_wp2
        go_ret
        exact ⟨kit.ret_bool (to_dec (by rw [hd.out, decide_eq_true_iff, beq_iff_eq]; omega)), (((Below.refl _ _).alloc (Nat.le_refl _) _)).trans (below_drewN _ _)⟩
      · have hz' : decide (n < size k) = false := decide_eq_false hz
        go_enter Tryd.func80, Tryd.ntmps80
        go_wp2_with fail
        go_quiet ((go_at_call 64; exact Calls.quiet_of_same ((impl_size _ _ ((hs.alloc _).drewN _)).mono fun _ _ h => ⟨h.1, h.2.symm⟩)))
        go_wp2
        go_ret
        exact ⟨kit.ret_bool (by rw [hd.out]; symm; rw [decide_eq_false_iff_not]; omega), (((Below.refl _ _).alloc (Nat.le_refl _) _)).trans (below_drewN _ _)⟩
    · have hn' : decide (0 ≤ n) = false := decide_eq_false hn
      go_enter Tryd.func80, Tryd.ntmps80
      go_wp2_with fail
      go_quiet (fail)
      go_wp2
      go_ret
      exact ⟨kit.ret_bool (by rw [hd.out]; symm; rw [decide_eq_false_iff_not]; omega), (((Below.refl _ _).alloc (Nat.le_refl _) _)).trans (below_drewN _ _)⟩

set_option maxHeartbeats 2000000 in
/-- The same of the reference. -/
theorem spec_dok (k n p : Int) (w : World) : Calls Tryd.prog 31 #[.agg #[.int .i64 k, .int .i64 n, .int .i64 p]] w fun e w' => e = .returned (.bool (dok k n p)) ∧ Below w.heap.size w w' := by
  have hr := rem10 n
  obtain ⟨r1, r2⟩ := hr
  by_cases h11 : k = 11
  · subst h11
    have hd := Lib.hid (@dok11 n p)
    go_enter Tryd.func31, Tryd.ntmps31
    go_wp2
    all_goals
      go_ret
      refine ⟨kit.ret_bool (to_dec ?_), (Below.refl _ _).alloc (Nat.le_refl _) _⟩
      rw [hd.out, decide_eq_true_iff]
      simp only [Bool.or_eq_true, Bool.and_eq_true, beq_iff_eq, bne_iff_ne, decide_eq_true_iff, Bool.false_eq_true, true_iff, false_iff, ne_eq] at *; omega
  by_cases h12 : k = 12
  · subst h12
    clear h11
    have hd := Lib.hid (@dok12 n p)
    go_enter Tryd.func31, Tryd.ntmps31
    go_wp2
    all_goals
      go_ret
      refine ⟨kit.ret_bool (to_dec ?_), (Below.refl _ _).alloc (Nat.le_refl _) _⟩
      rw [hd.out, decide_eq_true_iff]
      simp only [Bool.or_eq_true, Bool.and_eq_true, beq_iff_eq, bne_iff_ne, decide_eq_true_iff, Bool.false_eq_true, true_iff, false_iff, ne_eq] at *; omega
  by_cases h13 : k = 13
  · subst h13
    clear h11 h12
    have hd := Lib.hid (@dok13 n p)
    go_enter Tryd.func31, Tryd.ntmps31
    go_wp2
    all_goals
      go_ret
      refine ⟨kit.ret_bool (to_dec ?_), (Below.refl _ _).alloc (Nat.le_refl _) _⟩
      rw [hd.out, decide_eq_true_iff]
      simp only [Bool.or_eq_true, Bool.and_eq_true, beq_iff_eq, bne_iff_ne, decide_eq_true_iff, Bool.false_eq_true, true_iff, false_iff, ne_eq] at *; omega
  · have hd := Lib.hid (@dokx k n p h11 h12 h13)
    have b11 : (k == 11) = false := beq_eq_false_iff_ne.2 h11
    have b12 : (k == 12) = false := beq_eq_false_iff_ne.2 h12
    have b13 : (k == 13) = false := beq_eq_false_iff_ne.2 h13
    clear h11 h12 h13
    by_cases hn : 0 ≤ n
    · by_cases hz : n < size k
      · go_enter Tryd.func31, Tryd.ntmps31
        go_wp2_with fail
        go_quiet ((go_at_call 35; exact Calls.quiet_of_same ((spec_size _ _).mono fun _ _ h => ⟨h.1, h.2.symm⟩)))
        go_wp2
        go_ret
        exact ⟨kit.ret_bool (to_dec (by rw [hd.out, decide_eq_true_iff, beq_iff_eq]; omega)), (((Below.refl _ _).alloc (Nat.le_refl _) _)).trans (below_drewN _ _)⟩
      · have hz' : decide (n < size k) = false := decide_eq_false hz
        go_enter Tryd.func31, Tryd.ntmps31
        go_wp2_with fail
        go_quiet ((go_at_call 35; exact Calls.quiet_of_same ((spec_size _ _).mono fun _ _ h => ⟨h.1, h.2.symm⟩)))
        go_wp2
        go_ret
        exact ⟨kit.ret_bool (by rw [hd.out]; symm; rw [decide_eq_false_iff_not]; omega), (((Below.refl _ _).alloc (Nat.le_refl _) _)).trans (below_drewN _ _)⟩
    · have hn' : decide (0 ≤ n) = false := decide_eq_false hn
      go_enter Tryd.func31, Tryd.ntmps31
      go_wp2_with fail
      go_quiet (fail)
      go_wp2
      go_ret
      exact ⟨kit.ret_bool (by rw [hd.out]; symm; rw [decide_eq_false_iff_not]; omega), (((Below.refl _ _).alloc (Nat.le_refl _) _)).trans (below_drewN _ _)⟩

theorem to_any (k n p : Int) (w : World) : Calls Tryd.prog 14 #[.agg #[.int .i64 k, .int .i64 n, .int .i64 p]] w fun e w' => e = .returned (.agg #[.int .i64 k, .int .i64 n, .int .i64 p]) ∧ Below w.heap.size w w' := by
  go_enter Tryd.func14, Tryd.ntmps14
  go_wp2
  exact bodyPost_ret (v := .agg #[.int .i64 k, .int .i64 n, .int .i64 p]) (by simp [results, Tryd.results14, go_sem]) rfl ⟨rfl, (((Below.refl _ _).alloc (Nat.le_refl _) _).alloc (by simp) _).alloc (by simp; omega) _⟩

/-- A DevArg argument, opened. -/
theorem ok_arg {W : World} {base : Nat} {v0 : Value} (o0 : Value.okWide Tryd.prog W .any base 38 v0) : ∃ k n p : Int, v0 = .agg #[.int .i64 k, .int .i64 n, .int .i64 p] ∧ -9223372036854775808 ≤ k ∧ k ≤ 9223372036854775807 ∧ -9223372036854775808 ≤ n ∧ n ≤ 9223372036854775807 := by
  obtain ⟨cs, rfl, hsz, hc⟩ := kit.ok_cells Tryd.underlying38 o0
  have hc := hc [3, 3, 3] (by kernel_rfl)
  rw [show Tryd.prog.cellsOf 38 = 3 by kernel_rfl] at hsz
  obtain ⟨x, y, z, rfl⟩ := kit.arr3 (by simpa using hsz)
  obtain ⟨_, e0, h0⟩ := hc 0 x rfl
  obtain rfl := Option.some.inj e0
  obtain ⟨_, e1, h1⟩ := hc 1 y rfl
  obtain rfl := Option.some.inj e1
  obtain ⟨_, e2, h2⟩ := hc 2 z rfl
  obtain rfl := Option.some.inj e2
  obtain ⟨k, rfl, k1, k2⟩ := kit.cell_int Tryd.underlying3 h0
  obtain ⟨n, rfl, n1, n2⟩ := kit.cell_int Tryd.underlying3 h1
  obtain ⟨p, rfl, _, _⟩ := kit.cell_int Tryd.underlying3 h2
  exact ⟨k, n, p, rfl, k1, k2, n1, n2⟩
end Go.Proofs.YtnffgafofkknoaaDoor.dev

/-! KindIs -/
namespace Go.Proofs.YtnffgafofkknoaaDoor.dev
open Go.RowKit
set_option linter.unusedVariables false
set_option linter.unusedSimpArgs false

/-- The slice's cells hold the numbers. -/
def Row (w : World) (b off : Nat) (zs : List Int) : Prop := ∀ j, j < zs.length → w.cell? ⟨b, off + j, none⟩ = some (.int .i64 (zs.getD j 0))
theorem Row.below {w w' : World} {b off : Nat} {zs : List Int} (h : Row w b off zs) (hb : Below w.heap.size w w') : Row w' b off zs := fun j hj => cell_stays (h j hj) hb

theorem take_succ (zs : List Int) (k : Nat) (h : k < zs.length) : zs.take (k + 1) = zs.take k ++ [zs.getD k 0] := by
  rw [List.take_succ_eq_append_getElem h]
  simp [h]

def has (zs : List Int) (v : Int) : Bool := zs.contains v
/-- What 'slices.Index' returns: 0 or more just if the number is among them. -/
def Found (zs : List Int) (v : Int) (w : World) (e : Ending) (w' : World) : Prop := ∃ n : Int, e = .returned (.int .i64 n) ∧ decide (0 ≤ n) = has zs v ∧ w = w'

theorem index_any (b off : Nat) (zs : List Int) (v : Int) (w : World) (hl : zs.length ≤ 100) (hr : Row w b off zs) :
    Calls Tryd.prog 84 #[.slice (some ⟨b, off, none⟩) zs.length zs.length, .int .i64 v] w (Found zs v w) := by
  have Hr := Lib.hid hr
  clear hr
  go_enter Tryd.func84, Tryd.ntmps84
  go_wp2
  go_loop [8] (fun i => ∃ k : Nat, k ≤ zs.length ∧ i = .int .i64 k ∧ Hid ((zs.take k).contains v = false)) (fun i => zs.length - (intOf i).toNat)
  case atStart => exact ⟨0, Nat.zero_le _, rfl, Lib.hid rfl⟩
  case round =>
    obtain ⟨k, hk, rfl, hno⟩ := hrel
    by_cases hlt : k < zs.length
    · have hc := Hr.out k hlt
      have hs := Lib.hid (take_succ zs k hlt)
      have hg : Hid (zs.getD k 0 ∈ zs) := Lib.hid (by simp [hlt])
      generalize zs.getD k 0 = z at *
      by_cases he : v = z
      · have hb : (v == z) = true := beq_iff_eq.2 he
        have He := Lib.hid he
        clear he
        go_wp2
        go_ret
        refine ⟨k, rfl, ?_, rfl⟩
        rw [decide_eq_true (by omega : (0 : Int) ≤ k)]
        symm
        unfold has
        rw [List.contains_iff_mem, He.out]
        exact hg.out
      · have hb : (v == z) = false := beq_eq_false_iff_ne.2 he
        have He := Lib.hid he
        clear he
        go_wp2
        go_round
        case rel => exact ⟨k + 1, by omega, by go_num, Lib.hid (by rw [hs.out, List.contains_append, hno.out]; simpa using He.out)⟩
        case measure => simp [intOf]; omega
    · have hall := Lib.hid (List.take_of_length_le (l := zs) (i := k) (by omega))
      go_wp2
      go_ret
      refine ⟨-1, rfl, ?_, rfl⟩
      have h1 := hno.out
      rw [hall.out] at h1
      unfold has
      rw [h1]
      rfl

theorem contains_any (b off : Nat) (zs : List Int) (v : Int) (w : World) (hl : zs.length ≤ 100) (hr : Row w b off zs) :
    Calls Tryd.prog 81 #[.slice (some ⟨b, off, none⟩) zs.length zs.length, .int .i64 v] w fun e w' => e = .returned (.bool (has zs v)) ∧ w = w' := by
  have Hr := Lib.hid hr
  clear hr
  go_enter Tryd.func81, Tryd.ntmps81
  go_wp2_with fail
  refine (index_any _ _ _ _ _ hl Hr.out).mono ?_
  rintro e w' ⟨n, rfl, hn, rfl⟩
  have Hn := Lib.hid hn
  clear hn
  go_wp2
  go_ret
  exact ⟨kit.ret_bool Hn.out, rfl⟩

def kis (k n p : Int) (zs : List Int) : Bool := dok k n p && has zs k
theorem kindIs_any (k n p : Int) (b off : Nat) (zs : List Int) (w : World) (hl : zs.length ≤ 100) (hr : Row w b off zs) (hs : Sizes w) (hw : Words w) :
    Calls Tryd.prog 68 #[.agg #[.int .i64 k, .int .i64 n, .int .i64 p], .slice (some ⟨b, off, none⟩) zs.length zs.length] w fun e w' => e = .returned (.bool (kis k n p zs)) ∧ Below w.heap.size w w' := by
  have Hr := Lib.hid hr
  have Hs := Lib.hid hs
  have Hw := Lib.hid hw
  clear hr hs hw
  have hdk : ∃ d, dok k n p = d := ⟨_, rfl⟩
  obtain ⟨d, hdk⟩ := hdk
  go_enter Tryd.func68, Tryd.ntmps68
  go_wp2_with fail
  refine (impl_dok _ _ _ _ (Hs.out.alloc _) (Hw.out.alloc _)).mono ?_
  rintro e w1 ⟨rfl, h1⟩
  have k1 := kit.box_keep (kit.box_new w _ _) h1 (by simp)
  have c0 := kit.box_cell k1 0 rfl
  have Hr1 := Lib.hid ((Hr.out.below ((Below.refl _ _).alloc (Nat.le_refl _) _)).below h1)
  have Hd := Lib.hid hdk
  cases d with
  | false =>
    go_wp2_with fail
    go_ret
    exact ⟨kit.ret_bool (by rw [kis, Hd.out]; rfl), ((Below.refl _ _).alloc (Nat.le_refl _) _).trans (h1.mono (by simp))⟩
  | true =>
    go_wp2_with fail
    refine (contains_any _ _ _ _ _ hl Hr1.out).mono ?_
    rintro e w2 ⟨rfl, rfl⟩
    go_wp2_with fail
    go_ret
    exact ⟨kit.ret_bool (by rw [kis, Hd.out]; rfl), ((Below.refl _ _).alloc (Nat.le_refl _) _).trans (h1.mono (by simp))⟩
end Go.Proofs.YtnffgafofkknoaaDoor.dev

/-! DevIs -/
namespace Go.Proofs.YtnffgafofkknoaaDoor.dev
open Go.RowKit
set_option linter.unusedVariables false
set_option linter.unusedSimpArgs false

theorem size_pos {k : Int} (h : 0 < size k) : 1 ≤ k ∧ k ≤ 10 := by
  unfold size at h
  split at h
  · omega
  · split at h
    · omega
    · omega
theorem dok_kind {k n p : Int} (h : dok k n p = true) : 1 ≤ k ∧ k ≤ 13 := by
  unfold dok at h
  split at h
  · omega
  split at h
  · omega
  split at h
  · omega
  · rw [decide_eq_true_iff] at h
    have := size_pos (k := k) (by omega)
    omega
theorem ret_of {a b : Bool} {w w' : World} (h : a = b) (hb : Below w.heap.size w w') : Ending.returned (.bool a) = .returned (.bool b) ∧ Below w.heap.size w w' := ⟨by rw [h], hb⟩

end Go.Proofs.YtnffgafofkknoaaDoor.dev

/-! RealArg -/
namespace Go.Proofs.YtnffgafofkknoaaDoor.flo
open Go.RowKit Go.Proofs.YtnffgafofkknoaaDoor.dev
set_option linter.unusedVariables false
set_option linter.unusedSimpArgs false

def ten (k : Nat) : Int := 10 ^ k
theorem ten_zero : ten 0 = 1 := rfl
theorem ten_succ (k : Nat) : ten (k + 1) = ten k * 10 := Int.pow_succ 10 k
theorem ten_le {k : Nat} (h : k ≤ 6) : 1 ≤ ten k ∧ ten k ≤ 1000000 := by
  have t : ∀ j : Fin 7, 1 ≤ ten j.val ∧ ten j.val ≤ 1000000 := by decide
  exact t ⟨k, by omega⟩

/-- What both sides return. -/
def Arg (k n p : Int) (x : Nat) : Prop :=
  if dok k n p = true then (if k = 12 then Res .quo (floatOfInt .f64 n) (floatOfInt .f64 (ten p.toNat)) x else if k = 13 then WordIs n x else x = 0) else x = 0
theorem Arg.same {k n p : Int} {x y : Nat} (hx : Arg k n p x) (hy : Arg k n p y) : Same y x := by
  unfold Arg at hx hy
  split at hx
  · rename_i h; rw [if_pos h] at hy
    split at hx
    · rename_i h; rw [if_pos h] at hy; exact hx.same hy
    rename_i h; rw [if_neg h] at hy
    split at hx
    · rename_i h; rw [if_pos h] at hy; exact hx.same hy
    rename_i h; rw [if_neg h] at hy
    exact .inr (hy.trans hx.symm)
  · rename_i h; rw [if_neg h] at hy
    exact .inr (hy.trans hx.symm)

/-- The quotient, in every world, and what it is. -/
theorem quo_run (a b : Nat) : ∃ f : World → Nat, (∀ w, Res .quo a b (f w)) ∧ ((∀ w, (binOp .quo 33 (.float .f64 a) (.float .f64 b)).run Tryd.prog w = .ok (.float .f64 (f w)) w) ∨ ∀ w, (binOp .quo 33 (.float .f64 a) (.float .f64 b)).run Tryd.prog w = .ok (.float .f64 (f w)) w.drew) := by
  cases hb : floatBits .quo .f64 a b with
  | some r => exact ⟨fun _ => r, fun _ => by unfold Res; rw [hb], .inl fun w => run_float_arith (P := Tryd.prog) w .quo 33 .f64 _ _ _ hb⟩
  | none => exact ⟨nanAt a b, fun w => by unfold Res; rw [hb]; exact nanAt_nan _ _ _, .inr (run_nan (P := Tryd.prog) .quo 33 a b (by decide) hb)⟩

set_option maxHeartbeats 1000000 in
theorem spec_arg (k n p : Int) (w : World) : Calls Tryd.prog 50 #[.agg #[.int .i64 k, .int .i64 n, .int .i64 p]] w (Flt (Arg k n p) w) := by
  cases hd : dok k n p with
  | false =>
    have Ha : Hid (Arg k n p 0) := Lib.hid (by rw [Arg, hd]; rfl)
    have Hd := Lib.hid hd
    clear hd
    go_enter Tryd.func50, Tryd.ntmps50
    go_wp2_with fail
    refine (spec_dok _ _ _ _).mono ?_
    rintro e w1 ⟨rfl, h1⟩
    rw [Hd.out]
    go_wp2_with fail
    go_ret
    exact ⟨_, rfl, Ha.out, ((Below.refl _ _).alloc (Nat.le_refl _) _).trans (h1.mono (by simp))⟩
  | true =>
    by_cases h13 : k = 13
    · subst h13
      have hn : 0 ≤ n ∧ n ≤ 3 := by rw [dok13, decide_eq_true_iff] at hd; omega
      have Ha : Hid (∀ x, WordIs n x → Arg 13 n p x) := Lib.hid (fun x hx => by rw [Arg, if_pos hd, if_neg (by decide), if_pos rfl]; exact hx)
      have Hd := Lib.hid hd
      clear hd
      go_enter Tryd.func50, Tryd.ntmps50
      go_wp2_with fail
      refine (spec_dok _ _ _ _).mono ?_
      rintro e w1 ⟨rfl, h1⟩
      rw [Hd.out]
      have k1 := kit.box_keep (kit.box_new w _ _) h1 (by simp)
      have c0 := kit.box_cell k1 0 rfl
      have c1 := kit.box_cell k1 1 rfl
      go_wp2_with fail
      refine (l3Word_any _ _ hn).mono ?_
      rintro e w2 ⟨x, rfl, hx, h2⟩
      have Hx := Lib.hid hx
      clear hx
      go_wp2_with fail
      go_ret
      have e1 := h1.size
      exact ⟨x, rfl, Ha.out x Hx.out, (((Below.refl _ _).alloc (Nat.le_refl _) _).trans (h1.mono (by simp))).trans (h2.mono (by simp at e1; omega))⟩
    by_cases h12 : k = 12
    · subst h12
      have hp : 1 ≤ p ∧ p ≤ 6 := by rw [dok12, decide_eq_true_iff] at hd; omega
      obtain ⟨q, rfl⟩ : ∃ q : Nat, p = q := ⟨p.toNat, by omega⟩
      have hq : q ≤ 6 := by omega
      obtain ⟨f, hf, hrun⟩ := quo_run (floatOfInt .f64 n) (floatOfInt .f64 (ten q))
      have Ha : Hid (∀ w, Arg 12 n q (f w)) := Lib.hid (fun w => by rw [Arg, if_pos hd, if_pos rfl]; simpa using hf w)
      have Hd := Lib.hid hd
      clear hd hf hp h13
      rcases hrun with hrun | hrun
      all_goals
        go_enter Tryd.func50, Tryd.ntmps50
        go_wp2_with fail
        refine (spec_dok _ _ _ _).mono ?_
        rintro e w1 ⟨rfl, h1⟩
        rw [Hd.out]
        have k1 := kit.box_keep (kit.box_new w _ _) h1 (by simp)
        have c0 := kit.box_cell k1 0 rfl
        have c1 := kit.box_cell k1 1 rfl
        have c2 := kit.box_cell k1 2 rfl
        have B1 := Lib.hid (((Below.refl w.heap.size w).alloc (Nat.le_refl _) _).trans (h1.mono (by simp)))
        go_wp2_with fail
        go_loop [3, 4] (fun b i => ∃ j : Nat, j ≤ q ∧ i = .int .i64 j ∧ b = .int .i64 (ten j)) (fun _ i => q - (intOf i).toNat)
        case atStart => exact ⟨0, Nat.zero_le _, rfl, rfl⟩
        case round =>
          obtain ⟨j, hj, rfl, rfl⟩ := hrel
          obtain ⟨t1, t2⟩ := ten_le (Nat.le_trans hj hq)
          by_cases hlt : j < q
          · go_wp2
            go_round
            case rel => exact ⟨j + 1, by omega, by go_num, by rw [ten_succ]⟩
            case measure => simp [intOf]; omega
          · obtain rfl : j = q := by omega
            go_wp2
            go_ret
            exact ⟨_, rfl, Ha.out _, (by have B := B1.out; first | exact B | exact B.drew)⟩
    · have Ha : Hid (Arg k n p 0) := Lib.hid (by rw [Arg, if_pos hd, if_neg h12, if_neg h13])
      have b13 : (k == 13) = false := beq_eq_false_iff_ne.2 h13
      have b12 : (k != 12) = true := by simpa using h12
      have Hd := Lib.hid hd
      clear hd h12 h13
      go_enter Tryd.func50, Tryd.ntmps50
      go_wp2_with fail
      refine (spec_dok _ _ _ _).mono ?_
      rintro e w1 ⟨rfl, h1⟩
      rw [Hd.out]
      have k1 := kit.box_keep (kit.box_new w _ _) h1 (by simp)
      have c0 := kit.box_cell k1 0 rfl
      have c1 := kit.box_cell k1 1 rfl
      go_wp2_with fail
      go_ret
      exact ⟨_, rfl, Ha.out, ((Below.refl _ _).alloc (Nat.le_refl _) _).trans (h1.mono (by simp))⟩

/-- kindIs at one kind. -/
theorem row1 {w : World} {B : Nat} {t : TypeId} {z : Int} (h : w.heap[B]? = some (.cells #[.int .i64 z] t (0, 0))) : Row w B 0 [z] := by
  intro j hj
  rw [Nat.zero_add, cell_of_row w B j _ _ _ h]
  match j, hj with
  | 0, _ => rfl
theorem kis1 (k n p z : Int) : kis k n p [z] = (dok k n p && (k == z)) := by
  unfold kis has
  simp [Bool.beq_comm]
  rfl


set_option maxHeartbeats 2000000 in
theorem impl_word0 (p : Int) (w : World) (Hs : Hid (Sizes ((w.alloc (.cells #[.int .i64 13, .int .i64 0, .int .i64 p] 47)).alloc (.cells #[.int .i64 12] 3)))) (Hw : Hid (Words ((w.alloc (.cells #[.int .i64 13, .int .i64 0, .int .i64 p] 47)).alloc (.cells #[.int .i64 12] 3))))
    (Ha : Hid (∀ x, WordIs 0 x → Arg 13 0 p x)) (Hb : Hid (kis 13 0 p [12] = false)) (Hc : Hid (kis 13 0 p [13] = true)) (Hnan : Hid (isNan 9221120237041090561 = true)) :
    Calls Tryd.prog 51 #[.agg #[.int .i64 13, .int .i64 0, .int .i64 p]] w (Flt (Arg 13 0 p) w) := by
  go_enter Tryd.func51, Tryd.ntmps51
  go_wp2_with fail
  refine (kindIs_any 13 0 p _ 0 [12] _ (by decide) (row1 (heap_alloc2_new w _ _)) Hs.out Hw.out).mono ?_
  rintro e w1 ⟨rfl, h1⟩
  rw [Hb.out]
  have k1 := kit.box_keep (heap_alloc2_old w _ _) h1 (by simp; omega)
  have c0 := kit.box_cell k1 0 rfl
  have c1 := kit.box_cell k1 1 rfl
  have c2 := kit.box_cell k1 2 rfl
  have B1 := Lib.hid ((((Below.refl w.heap.size w).alloc (Nat.le_refl _) _).alloc (by simp) _).trans (h1.mono (by simp; omega)))
  have z1 := h1.size
  have z0 : w.heap.size < w1.heap.size := by simp at z1; omega
  have Hs1 := Lib.hid ((Hs.out.below h1).alloc (.cells #[.int .i64 13] 3))
  have Hw1 := Lib.hid ((Hw.out.below h1).alloc (.cells #[.int .i64 13] 3))
  clear z1
  go_wp2_with fail
  refine (kindIs_any 13 0 p _ 0 [13] _ (by decide) (row1 (kit.box_new w1 _ _)) Hs1.out Hw1.out).mono ?_
  rintro e w2 ⟨rfl, h2⟩
  rw [Hc.out]
  have k2 := kit.box_keep ((heap_alloc_old w1 (.cells #[.int .i64 13] 3) z0).trans k1) h2 (by simp; omega)
  have d1 := kit.box_cell k2 1 rfl
  have B2 := Lib.hid ((B1.out.alloc (by omega) (.cells #[.int .i64 13] 3)).trans (h2.mono (by simp; omega)))
  have z2 := h2.size
  have z3 : w.heap.size < w2.heap.size := by simp at z2; omega
  clear z2
  go_wp2_with fail
  clear h1 h2 k1 k2 c0 c1 c2 Hs Hw Hs1 Hw1 Hb Hc B1 z0
  go_region_with (first | (go_at_call 69; refine (nan_exact _).mono ?_; rintro e w' ⟨rfl, rfl⟩) | (go_at_call 70; refine (inf_any _ _).mono ?_; rintro e w' ⟨rfl, rfl⟩) | (go_at_call 71; refine (copysign_zero _).mono ?_; rintro e w' ⟨rfl, rfl⟩))
  all_goals
    go_wp2
    go_ret
    exact ⟨_, rfl, Ha.out _ Hnan.out, by first | exact (B2.out.alloc (by omega) _).drew | exact B2.out.drew.alloc (by simp; omega) _⟩

set_option maxHeartbeats 2000000 in
theorem impl_word1 (p : Int) (w : World) (Hs : Hid (Sizes ((w.alloc (.cells #[.int .i64 13, .int .i64 1, .int .i64 p] 47)).alloc (.cells #[.int .i64 12] 3)))) (Hw : Hid (Words ((w.alloc (.cells #[.int .i64 13, .int .i64 1, .int .i64 p] 47)).alloc (.cells #[.int .i64 12] 3))))
    (Ha : Hid (∀ x, WordIs 1 x → Arg 13 1 p x)) (Hb : Hid (kis 13 1 p [12] = false)) (Hc : Hid (kis 13 1 p [13] = true)) (Hnan : Hid (isNan 9221120237041090561 = true)) :
    Calls Tryd.prog 51 #[.agg #[.int .i64 13, .int .i64 1, .int .i64 p]] w (Flt (Arg 13 1 p) w) := by
  go_enter Tryd.func51, Tryd.ntmps51
  go_wp2_with fail
  refine (kindIs_any 13 1 p _ 0 [12] _ (by decide) (row1 (heap_alloc2_new w _ _)) Hs.out Hw.out).mono ?_
  rintro e w1 ⟨rfl, h1⟩
  rw [Hb.out]
  have k1 := kit.box_keep (heap_alloc2_old w _ _) h1 (by simp; omega)
  have c0 := kit.box_cell k1 0 rfl
  have c1 := kit.box_cell k1 1 rfl
  have c2 := kit.box_cell k1 2 rfl
  have B1 := Lib.hid ((((Below.refl w.heap.size w).alloc (Nat.le_refl _) _).alloc (by simp) _).trans (h1.mono (by simp; omega)))
  have z1 := h1.size
  have z0 : w.heap.size < w1.heap.size := by simp at z1; omega
  have Hs1 := Lib.hid ((Hs.out.below h1).alloc (.cells #[.int .i64 13] 3))
  have Hw1 := Lib.hid ((Hw.out.below h1).alloc (.cells #[.int .i64 13] 3))
  clear z1
  go_wp2_with fail
  refine (kindIs_any 13 1 p _ 0 [13] _ (by decide) (row1 (kit.box_new w1 _ _)) Hs1.out Hw1.out).mono ?_
  rintro e w2 ⟨rfl, h2⟩
  rw [Hc.out]
  have k2 := kit.box_keep ((heap_alloc_old w1 (.cells #[.int .i64 13] 3) z0).trans k1) h2 (by simp; omega)
  have d1 := kit.box_cell k2 1 rfl
  have B2 := Lib.hid ((B1.out.alloc (by omega) (.cells #[.int .i64 13] 3)).trans (h2.mono (by simp; omega)))
  have z2 := h2.size
  have z3 : w.heap.size < w2.heap.size := by simp at z2; omega
  clear z2
  go_wp2_with fail
  clear h1 h2 k1 k2 c0 c1 c2 Hs Hw Hs1 Hw1 Hb Hc B1 z0
  go_region_with (first | (go_at_call 69; refine (nan_exact _).mono ?_; rintro e w' ⟨rfl, rfl⟩) | (go_at_call 70; refine (inf_any _ _).mono ?_; rintro e w' ⟨rfl, rfl⟩) | (go_at_call 71; refine (copysign_zero _).mono ?_; rintro e w' ⟨rfl, rfl⟩))
  all_goals
    go_wp2
    go_ret
    exact ⟨_, rfl, Ha.out _ rfl, by first | exact (B2.out.alloc (by omega) _).drew | exact B2.out.drew.alloc (by simp; omega) _⟩

set_option maxHeartbeats 2000000 in
theorem impl_word2 (p : Int) (w : World) (Hs : Hid (Sizes ((w.alloc (.cells #[.int .i64 13, .int .i64 2, .int .i64 p] 47)).alloc (.cells #[.int .i64 12] 3)))) (Hw : Hid (Words ((w.alloc (.cells #[.int .i64 13, .int .i64 2, .int .i64 p] 47)).alloc (.cells #[.int .i64 12] 3))))
    (Ha : Hid (∀ x, WordIs 2 x → Arg 13 2 p x)) (Hb : Hid (kis 13 2 p [12] = false)) (Hc : Hid (kis 13 2 p [13] = true)) (Hnan : Hid (isNan 9221120237041090561 = true)) :
    Calls Tryd.prog 51 #[.agg #[.int .i64 13, .int .i64 2, .int .i64 p]] w (Flt (Arg 13 2 p) w) := by
  go_enter Tryd.func51, Tryd.ntmps51
  go_wp2_with fail
  refine (kindIs_any 13 2 p _ 0 [12] _ (by decide) (row1 (heap_alloc2_new w _ _)) Hs.out Hw.out).mono ?_
  rintro e w1 ⟨rfl, h1⟩
  rw [Hb.out]
  have k1 := kit.box_keep (heap_alloc2_old w _ _) h1 (by simp; omega)
  have c0 := kit.box_cell k1 0 rfl
  have c1 := kit.box_cell k1 1 rfl
  have c2 := kit.box_cell k1 2 rfl
  have B1 := Lib.hid ((((Below.refl w.heap.size w).alloc (Nat.le_refl _) _).alloc (by simp) _).trans (h1.mono (by simp; omega)))
  have z1 := h1.size
  have z0 : w.heap.size < w1.heap.size := by simp at z1; omega
  have Hs1 := Lib.hid ((Hs.out.below h1).alloc (.cells #[.int .i64 13] 3))
  have Hw1 := Lib.hid ((Hw.out.below h1).alloc (.cells #[.int .i64 13] 3))
  clear z1
  go_wp2_with fail
  refine (kindIs_any 13 2 p _ 0 [13] _ (by decide) (row1 (kit.box_new w1 _ _)) Hs1.out Hw1.out).mono ?_
  rintro e w2 ⟨rfl, h2⟩
  rw [Hc.out]
  have k2 := kit.box_keep ((heap_alloc_old w1 (.cells #[.int .i64 13] 3) z0).trans k1) h2 (by simp; omega)
  have d1 := kit.box_cell k2 1 rfl
  have B2 := Lib.hid ((B1.out.alloc (by omega) (.cells #[.int .i64 13] 3)).trans (h2.mono (by simp; omega)))
  have z2 := h2.size
  have z3 : w.heap.size < w2.heap.size := by simp at z2; omega
  clear z2
  go_wp2_with fail
  clear h1 h2 k1 k2 c0 c1 c2 Hs Hw Hs1 Hw1 Hb Hc B1 z0
  go_region_with (first | (go_at_call 69; refine (nan_exact _).mono ?_; rintro e w' ⟨rfl, rfl⟩) | (go_at_call 70; refine (inf_any _ _).mono ?_; rintro e w' ⟨rfl, rfl⟩) | (go_at_call 71; refine (copysign_zero _).mono ?_; rintro e w' ⟨rfl, rfl⟩))
  all_goals
    go_wp2
    go_ret
    exact ⟨_, rfl, Ha.out _ rfl, by first | exact (B2.out.alloc (by omega) _).drew | exact B2.out.drew.alloc (by simp; omega) _⟩

set_option maxHeartbeats 2000000 in
theorem impl_word3 (p : Int) (w : World) (Hs : Hid (Sizes ((w.alloc (.cells #[.int .i64 13, .int .i64 3, .int .i64 p] 47)).alloc (.cells #[.int .i64 12] 3)))) (Hw : Hid (Words ((w.alloc (.cells #[.int .i64 13, .int .i64 3, .int .i64 p] 47)).alloc (.cells #[.int .i64 12] 3))))
    (Ha : Hid (∀ x, WordIs 3 x → Arg 13 3 p x)) (Hb : Hid (kis 13 3 p [12] = false)) (Hc : Hid (kis 13 3 p [13] = true)) (Hnan : Hid (isNan 9221120237041090561 = true)) :
    Calls Tryd.prog 51 #[.agg #[.int .i64 13, .int .i64 3, .int .i64 p]] w (Flt (Arg 13 3 p) w) := by
  go_enter Tryd.func51, Tryd.ntmps51
  go_wp2_with fail
  refine (kindIs_any 13 3 p _ 0 [12] _ (by decide) (row1 (heap_alloc2_new w _ _)) Hs.out Hw.out).mono ?_
  rintro e w1 ⟨rfl, h1⟩
  rw [Hb.out]
  have k1 := kit.box_keep (heap_alloc2_old w _ _) h1 (by simp; omega)
  have c0 := kit.box_cell k1 0 rfl
  have c1 := kit.box_cell k1 1 rfl
  have c2 := kit.box_cell k1 2 rfl
  have B1 := Lib.hid ((((Below.refl w.heap.size w).alloc (Nat.le_refl _) _).alloc (by simp) _).trans (h1.mono (by simp; omega)))
  have z1 := h1.size
  have z0 : w.heap.size < w1.heap.size := by simp at z1; omega
  have Hs1 := Lib.hid ((Hs.out.below h1).alloc (.cells #[.int .i64 13] 3))
  have Hw1 := Lib.hid ((Hw.out.below h1).alloc (.cells #[.int .i64 13] 3))
  clear z1
  go_wp2_with fail
  refine (kindIs_any 13 3 p _ 0 [13] _ (by decide) (row1 (kit.box_new w1 _ _)) Hs1.out Hw1.out).mono ?_
  rintro e w2 ⟨rfl, h2⟩
  rw [Hc.out]
  have k2 := kit.box_keep ((heap_alloc_old w1 (.cells #[.int .i64 13] 3) z0).trans k1) h2 (by simp; omega)
  have d1 := kit.box_cell k2 1 rfl
  have B2 := Lib.hid ((B1.out.alloc (by omega) (.cells #[.int .i64 13] 3)).trans (h2.mono (by simp; omega)))
  have z2 := h2.size
  have z3 : w.heap.size < w2.heap.size := by simp at z2; omega
  clear z2
  go_wp2_with fail
  clear h1 h2 k1 k2 c0 c1 c2 Hs Hw Hs1 Hw1 Hb Hc B1 z0
  go_region_with (first | (go_at_call 69; refine (nan_exact _).mono ?_; rintro e w' ⟨rfl, rfl⟩) | (go_at_call 70; refine (inf_any _ _).mono ?_; rintro e w' ⟨rfl, rfl⟩) | (go_at_call 71; refine (copysign_zero _).mono ?_; rintro e w' ⟨rfl, rfl⟩))
  all_goals
    go_wp2
    go_ret
    exact ⟨_, rfl, Ha.out _ rfl, by first | exact (B2.out.alloc (by omega) _).drew | exact B2.out.drew.alloc (by simp; omega) _⟩

set_option maxHeartbeats 2000000 in
theorem impl_arg (k n p : Int) (w : World) (hs : Sizes w) (hw : Words w) : Calls Tryd.prog 51 #[.agg #[.int .i64 k, .int .i64 n, .int .i64 p]] w (Flt (Arg k n p) w) := by
  have Hs := Lib.hid ((hs.alloc (.cells #[.int .i64 k, .int .i64 n, .int .i64 p] 47)).alloc (.cells #[.int .i64 12] 3))
  have Hw := Lib.hid ((hw.alloc (.cells #[.int .i64 k, .int .i64 n, .int .i64 p] 47)).alloc (.cells #[.int .i64 12] 3))
  clear hs hw
  cases hb : kis k n p [12] with
  | true =>
    have hd : dok k n p = true ∧ k = 12 := by rw [kis1] at hb; simpa using hb
    obtain ⟨hd, rfl⟩ := hd
    have hp : 1 ≤ p ∧ p ≤ 6 := by rw [dok12, decide_eq_true_iff] at hd; omega
    obtain ⟨q, rfl⟩ : ∃ q : Nat, p = q := ⟨p.toNat, by omega⟩
    have hq : q ≤ 6 := by omega
    obtain ⟨f, hf, hrun⟩ := quo_run (floatOfInt .f64 n) (floatOfInt .f64 (ten q))
    have Ha : Hid (∀ w, Arg 12 n q (f w)) := Lib.hid (fun w => by rw [Arg, if_pos hd, if_pos rfl]; simpa using hf w)
    have Hb := Lib.hid hb
    clear hb hd hf hp
    rcases hrun with hrun | hrun
    all_goals
      go_enter Tryd.func51, Tryd.ntmps51
      go_wp2_with fail
      refine (kindIs_any 12 n q _ 0 [12] _ (by decide) (row1 (heap_alloc2_new w _ _)) Hs.out Hw.out).mono ?_
      rintro e w1 ⟨rfl, h1⟩
      rw [Hb.out]
      have k1 := kit.box_keep (heap_alloc2_old w _ _) h1 (by simp; omega)
      have c1 := kit.box_cell k1 1 rfl
      have c2 := kit.box_cell k1 2 rfl
      have B1 := Lib.hid ((((Below.refl w.heap.size w).alloc (Nat.le_refl _) _).alloc (by simp) _).trans (h1.mono (by simp; omega)))
      go_wp2_with fail
      go_loop [3, 10] (fun b i => ∃ j : Nat, j ≤ q ∧ i = .int .i64 j ∧ b = .int .i64 (ten j)) (fun _ i => q - (intOf i).toNat)
      case atStart => exact ⟨0, Nat.zero_le _, rfl, rfl⟩
      case round =>
        obtain ⟨j, hj, rfl, rfl⟩ := hrel
        obtain ⟨t1, t2⟩ := ten_le (Nat.le_trans hj hq)
        by_cases hlt : j < q
        · go_wp2
          go_round
          case rel => exact ⟨j + 1, by omega, by go_num, by rw [ten_succ]⟩
          case measure => simp [intOf]; omega
        · obtain rfl : j = q := by omega
          go_wp2
          go_ret
          exact ⟨_, rfl, Ha.out _, (by have B := B1.out; first | exact B | exact B.drew)⟩
  | false =>
    cases hc : kis k n p [13] with
    | true =>
      have hd : dok k n p = true ∧ k = 13 := by rw [kis1] at hc; simpa using hc
      obtain ⟨hd, rfl⟩ := hd
      have hn : 0 ≤ n ∧ n ≤ 3 := by rw [dok13, decide_eq_true_iff] at hd; omega
      have hn : n = 0 ∨ n = 1 ∨ n = 2 ∨ n = 3 := by omega
      have hnan : isNan 9221120237041090561 = true := by decide +kernel
      have Ha : Hid (∀ x, WordIs n x → Arg 13 n p x) := Lib.hid (fun x hx => by rw [Arg, if_pos hd, if_neg (by decide), if_pos rfl]; exact hx)
      have Hb := Lib.hid hb
      have Hc := Lib.hid hc
      have Hnan := Lib.hid hnan
      clear hb hc hd hnan
      rcases hn with rfl | rfl | rfl | rfl
      · exact impl_word0 p w Hs Hw Ha Hb Hc Hnan
      · exact impl_word1 p w Hs Hw Ha Hb Hc Hnan
      · exact impl_word2 p w Hs Hw Ha Hb Hc Hnan
      · exact impl_word3 p w Hs Hw Ha Hb Hc Hnan
    | false =>
      have Ha : Hid (Arg k n p 0) := Lib.hid (by
        rw [kis1] at hb hc
        unfold Arg
        split
        · rename_i hd
          rw [hd] at hb hc
          rw [if_neg (by simpa using hb), if_neg (by simpa using hc)]
        · rfl)
      have Hb := Lib.hid hb
      have Hc := Lib.hid hc
      clear hb hc
      go_enter Tryd.func51, Tryd.ntmps51
      go_wp2_with fail
      refine (kindIs_any k n p _ 0 [12] _ (by decide) (row1 (heap_alloc2_new w _ _)) Hs.out Hw.out).mono ?_
      rintro e w1 ⟨rfl, h1⟩
      rw [Hb.out]
      have k1 := kit.box_keep (heap_alloc2_old w _ _) h1 (by simp; omega)
      have c0 := kit.box_cell k1 0 rfl
      have c1 := kit.box_cell k1 1 rfl
      have c2 := kit.box_cell k1 2 rfl
      have B1 := Lib.hid ((((Below.refl w.heap.size w).alloc (Nat.le_refl _) _).alloc (by simp) _).trans (h1.mono (by simp; omega)))
      have z1 := h1.size
      have z0 : w.heap.size < w1.heap.size := by simp at z1; omega
      have Hs1 := Lib.hid ((Hs.out.below h1).alloc (.cells #[.int .i64 13] 3))
      have Hw1 := Lib.hid ((Hw.out.below h1).alloc (.cells #[.int .i64 13] 3))
      clear z1
      go_wp2_with fail
      refine (kindIs_any k n p _ 0 [13] _ (by decide) (row1 (kit.box_new w1 _ _)) Hs1.out Hw1.out).mono ?_
      rintro e w2 ⟨rfl, h2⟩
      rw [Hc.out]
      go_wp2_with fail
      go_ret
      exact ⟨_, rfl, Ha.out, (B1.out.alloc (by omega) (.cells #[.int .i64 13] 3)).trans (h2.mono (by simp; omega))⟩
end Go.Proofs.YtnffgafofkknoaaDoor.flo

/-! MemReal -/
namespace Go.Proofs.YtnffgafofkknoaaDoor.part
open Go Go.RowKit Go.Proofs.YtnffgafofkknoaaDoor.dev Go.Proofs.YtnffgafofkknoaaDoor.flo
set_option linter.unusedVariables false
set_option linter.unusedSimpArgs false

theorem plc_nat5 {k n c : Int} (hc : cnt k = c) (h : c ≠ 0) : ∃ j : Nat, plc k n = j ∧ (j : Int) < c := by
  have h1 := plc_in k n
  obtain ⟨j, e⟩ := Int.eq_ofNat_of_zero_le h1.1
  exact ⟨j, e, by rw [← e, ← hc]; exact h1.2 (by rw [hc]; exact h)⟩
def fnum : Value → Nat | .float _ q => q | _ => 0
/-- What 'MemReal' returns. -/
def Mr (cs : Array Value) (k n p : Int) (x : Nat) : Prop := if k = 10 then x = fnum (cel cs (117 + (plc k n).toNat)) else Arg k n p x
theorem Mr.same {cs : Array Value} {k n p : Int} {x y : Nat} (hx : Mr cs k n p x) (hy : Mr cs k n p y) : Same y x := by
  unfold Mr at hx hy
  split at hx
  · rename_i h
    rw [if_pos h] at hy
    rw [hx, hy]
    exact Same.refl _
  · rename_i h
    rw [if_neg h] at hy
    exact hx.same hy

set_option maxRecDepth 100000 in
theorem imr_1 (cs : Array Value) (hsh : Shape cs) (n p : Int) (w : World) (hs : Sizes w) (hw : Words w) : Calls Tryd.prog 24 #[.agg cs, .agg #[.int .i64 10, .int .i64 n, .int .i64 p]] w (Flt (Mr cs 10 n p) w) := by
  obtain ⟨j, hj, hlt⟩ := plc_nat5 (k := 10) (n := n) (c := 16) rfl (by decide)
  obtain ⟨x, hc⟩ := hsh.R j (by omega)
  have Hv := Lib.hid (show Mr cs 10 n p x by unfold Mr; rw [if_pos rfl, hj, Int.toNat_natCast, cel_is hc]; rfl)
  have Hj := Lib.hid hj
  have Hc := Lib.hid hc
  clear hj hc
  have ka := heap_alloc2_old w (.cells cs 45) (.cells #[.int .i64 10, .int .i64 n, .int .i64 p] 47)
  have B0 := Lib.hid (((Below.refl w.heap.size w).alloc (Nat.le_refl _) (.cells cs 45)).alloc (by simp) (.cells #[.int .i64 10, .int .i64 n, .int .i64 p] 47))
  have Ka := Lib.hid ka
  clear ka hsh
  have Hs := Lib.hid ((hs.alloc (.cells cs 45)).alloc (.cells #[.int .i64 10, .int .i64 n, .int .i64 p] 47))
  have Hw := Lib.hid ((hw.alloc (.cells cs 45)).alloc (.cells #[.int .i64 10, .int .i64 n, .int .i64 p] 47))
  clear hs hw
  go_enter Tryd.func24, Tryd.ntmps24
  go_wp2_with fail
  refine (impl_place 10 n p _ Hs.out).mono ?_
  rintro e w1 ⟨rfl, h1⟩
  have k1 := kit.box_keep Ka.out h1 (kit.box_lt Ka.out)
  have B1 := Lib.hid (B0.out.trans (h1.mono B0.out.size))
  rw [Hj.out]
  have cc : w1.cell? ⟨w.heap.size, 117 + j, none⟩ = some (.float .f64 x) := kit.box_cell k1 (117 + j) Hc.out
  clear h1 k1 Ka B0
  go_wp2_with fail
  go_ret
  exact ⟨x, rfl, Hv.out, B1.out⟩

set_option maxRecDepth 100000 in
theorem imr_0 (cs : Array Value) (hsh : Shape cs) (k n p : Int) (hk : k ≠ 10) (w : World) (hs : Sizes w) (hw : Words w) : Calls Tryd.prog 24 #[.agg cs, .agg #[.int .i64 k, .int .i64 n, .int .i64 p]] w (Flt (Mr cs k n p) w) := by
  have bk : (k == 10) = false := beq_eq_false_iff_ne.2 hk
  have Hp := Lib.hid (show ∀ x, Arg k n p x → Mr cs k n p x from fun x h => by unfold Mr; rw [if_neg hk]; exact h)
  clear hk
  have ka := heap_alloc2_old w (.cells cs 45) (.cells #[.int .i64 k, .int .i64 n, .int .i64 p] 47)
  have B0 := Lib.hid (((Below.refl w.heap.size w).alloc (Nat.le_refl _) (.cells cs 45)).alloc (by simp) (.cells #[.int .i64 k, .int .i64 n, .int .i64 p] 47))
  have Ka := Lib.hid ka
  clear ka hsh
  have Hs := Lib.hid ((hs.alloc (.cells cs 45)).alloc (.cells #[.int .i64 k, .int .i64 n, .int .i64 p] 47))
  have Hw := Lib.hid ((hw.alloc (.cells cs 45)).alloc (.cells #[.int .i64 k, .int .i64 n, .int .i64 p] 47))
  clear hs hw
  go_enter Tryd.func24, Tryd.ntmps24
  go_wp2_with fail
  refine (impl_arg k n p _ Hs.out Hw.out).mono ?_
  rintro e w1 ⟨x, rfl, hx, h1⟩
  have Hx := Lib.hid (Hp.out x hx)
  have B1 := Lib.hid (B0.out.trans (h1.mono B0.out.size))
  clear h1 Ka B0 hx Hp
  go_wp2_with fail
  go_ret
  exact ⟨x, rfl, Hx.out, B1.out⟩

theorem imr_any (cs : Array Value) (hsh : Shape cs) (k n p : Int) (w : World) (hs : Sizes w) (hw : Words w) : Calls Tryd.prog 24 #[.agg cs, .agg #[.int .i64 k, .int .i64 n, .int .i64 p]] w (Flt (Mr cs k n p) w) := by
  by_cases h : k = 10
  · subst h; exact imr_1 cs hsh n p w hs hw
  · exact imr_0 cs hsh k n p h w hs hw

set_option maxRecDepth 100000 in
theorem smr_1 (cs : Array Value) (hsh : Shape cs) (n p : Int) (w : World) : Calls Tryd.prog 23 #[.agg cs, .agg #[.int .i64 10, .int .i64 n, .int .i64 p]] w (Flt (Mr cs 10 n p) w) := by
  obtain ⟨j, hj, hlt⟩ := plc_nat5 (k := 10) (n := n) (c := 16) rfl (by decide)
  obtain ⟨x, hc⟩ := hsh.R j (by omega)
  have Hv := Lib.hid (show Mr cs 10 n p x by unfold Mr; rw [if_pos rfl, hj, Int.toNat_natCast, cel_is hc]; rfl)
  have Hj := Lib.hid hj
  have Hc := Lib.hid hc
  clear hj hc
  have ka := heap_alloc2_old w (.cells cs 45) (.cells #[.int .i64 10, .int .i64 n, .int .i64 p] 47)
  have B0 := Lib.hid (((Below.refl w.heap.size w).alloc (Nat.le_refl _) (.cells cs 45)).alloc (by simp) (.cells #[.int .i64 10, .int .i64 n, .int .i64 p] 47))
  have Ka := Lib.hid ka
  clear ka hsh
  go_enter Tryd.func23, Tryd.ntmps23
  go_wp2_with fail
  refine (spec_place 10 n p _).mono ?_
  rintro e w1 ⟨rfl, h1⟩
  have k1 := kit.box_keep Ka.out h1 (kit.box_lt Ka.out)
  have B1 := Lib.hid (B0.out.trans (h1.mono B0.out.size))
  rw [Hj.out]
  have cc : w1.cell? ⟨w.heap.size, 117 + j, none⟩ = some (.float .f64 x) := kit.box_cell k1 (117 + j) Hc.out
  clear h1 k1 Ka B0
  go_wp2_with fail
  go_ret
  exact ⟨x, rfl, Hv.out, B1.out⟩

set_option maxRecDepth 100000 in
theorem smr_0 (cs : Array Value) (hsh : Shape cs) (k n p : Int) (hk : k ≠ 10) (w : World) : Calls Tryd.prog 23 #[.agg cs, .agg #[.int .i64 k, .int .i64 n, .int .i64 p]] w (Flt (Mr cs k n p) w) := by
  have bk : (k == 10) = false := beq_eq_false_iff_ne.2 hk
  have Hp := Lib.hid (show ∀ x, Arg k n p x → Mr cs k n p x from fun x h => by unfold Mr; rw [if_neg hk]; exact h)
  clear hk
  have ka := heap_alloc2_old w (.cells cs 45) (.cells #[.int .i64 k, .int .i64 n, .int .i64 p] 47)
  have B0 := Lib.hid (((Below.refl w.heap.size w).alloc (Nat.le_refl _) (.cells cs 45)).alloc (by simp) (.cells #[.int .i64 k, .int .i64 n, .int .i64 p] 47))
  have Ka := Lib.hid ka
  clear ka hsh
  go_enter Tryd.func23, Tryd.ntmps23
  go_wp2_with fail
  refine (spec_arg k n p _).mono ?_
  rintro e w1 ⟨x, rfl, hx, h1⟩
  have Hx := Lib.hid (Hp.out x hx)
  have B1 := Lib.hid (B0.out.trans (h1.mono B0.out.size))
  clear h1 Ka B0 hx Hp
  go_wp2_with fail
  go_ret
  exact ⟨x, rfl, Hx.out, B1.out⟩

theorem smr_any (cs : Array Value) (hsh : Shape cs) (k n p : Int) (w : World) : Calls Tryd.prog 23 #[.agg cs, .agg #[.int .i64 k, .int .i64 n, .int .i64 p]] w (Flt (Mr cs k n p) w) := by
  by_cases h : k = 10
  · subst h; exact smr_1 cs hsh n p w
  · exact smr_0 cs hsh k n p h w

end Go.Proofs.YtnffgafofkknoaaDoor.part

/-! Put -/
namespace Go.Proofs.YtnffgafofkknoaaDoor.part
open Go Go.RowKit Go.Proofs.YtnffgafofkknoaaDoor.dev
set_option linter.unusedVariables false
set_option linter.unusedSimpArgs false

theorem plc_nat2 {k n c : Int} (hc : cnt k = c) (h : c ≠ 0) : ∃ j : Nat, plc k n = j ∧ (j : Int) < c := by
  have h1 := plc_in k n
  obtain ⟨j, e⟩ := Int.eq_ofNat_of_zero_le h1.1
  exact ⟨j, e, by rw [← e, ← hc]; exact h1.2 (by rw [hc]; exact h)⟩
/-- A memory with a whole number put. -/
def pw (cs : Array Value) (k n v : Int) : Array Value := if k = 9 then cs.setIfInBounds (85 + (plc k n).toNat) (.int .i16 v) else cs
/-- A memory with a real number put. -/
def pr (cs : Array Value) (k n : Int) (v : Nat) : Array Value := if k = 10 then cs.setIfInBounds (117 + (plc k n).toNat) (.float .f64 v) else cs
theorem pw_shape {cs : Array Value} (h : Shape cs) (k n v : Int) : Shape (pw cs k n v) := by
  unfold pw
  split
  · subst_vars
    obtain ⟨j, hj, hlt⟩ := plc_nat2 (k := 9) (n := n) (c := 32) rfl (by decide)
    rw [hj, Int.toNat_natCast]
    exact (h.tagged.put _ _ (show tv (.int .i16 v) = tags.getD (85 + j) 0 from (by decide : ∀ j, j < 32 → 5 = tags.getD (85 + j) 0) j (by omega))).shape
  · exact h
theorem pr_shape {cs : Array Value} (h : Shape cs) (k n : Int) (v : Nat) : Shape (pr cs k n v) := by
  unfold pr
  split
  · subst_vars
    obtain ⟨j, hj, hlt⟩ := plc_nat2 (k := 10) (n := n) (c := 16) rfl (by decide)
    rw [hj, Int.toNat_natCast]
    exact (h.tagged.put _ _ (show tv (.float .f64 v) = tags.getD (117 + j) 0 from (by decide : ∀ j, j < 16 → 6 = tags.getD (117 + j) 0) j (by omega))).shape
  · exact h
theorem pw_rg {cs : Array Value} (h : Rg cs) (k n v : Int) (hv : -32768 ≤ v ∧ v ≤ 32767) : Rg (pw cs k n v) := by
  unfold pw
  split
  · exact h.put _ _ (fun k a e => by cases e; exact hv)
  · exact h
theorem pr_rg {cs : Array Value} (h : Rg cs) (k n : Int) (v : Nat) : Rg (pr cs k n v) := by
  unfold pr
  split
  · exact h.put _ _ (fun k a e => by cases e)
  · exact h

set_option maxRecDepth 100000 in
theorem piw_1 (cs ce : Array Value) (hsh : Shape cs) (n p : Int) (v : Int) (he : pw cs 9 n v = ce) (hce : Shape ce) (w : World) (hs : Sizes w) : Calls Tryd.prog 22 #[.agg cs, .agg #[.int .i64 9, .int .i64 n, .int .i64 p], .int .i16 v] w fun e w' => e = .returned (.agg ce) ∧ Below w.heap.size w w' := by
  obtain ⟨z, hzs, hz⟩ := zero_run (P := Tryd.prog) (t := 45) (n := 136) (by kernel_rfl)
  have HZ := Lib.hid hzs
  have HSZ := Lib.hid hsh.size
  have HS := Lib.hid hce
  obtain ⟨j, hj, hlt⟩ := plc_nat2 (k := 9) (n := n) (c := 32) rfl (by decide)
  have HE := Lib.hid (show cs.setIfInBounds (85 + j) (.int .i16 v) = ce by rw [← he]; unfold pw; rw [if_pos rfl, hj, Int.toNat_natCast])
  have Hj := Lib.hid hj
  clear hj
  have Hs := Lib.hid hs
  clear hs
  clear hsh he hce hzs
  go_enter Tryd.func22, Tryd.ntmps22
  go_wp2_with fail
  refine (impl_place 9 n p _ (((Hs.out.alloc _).alloc _).alloc _)).mono ?_
  rintro e w1 ⟨rfl, h1⟩
  have hb1 := (Bs.start 45 47 cs #[.int .i64 9, .int .i64 n, .int .i64 p] z w (HZ.out.trans HSZ.out.symm)).below h1
  rw [Hj.out]
  clear h1
  go_wp2_with (first | (refine wl_sst rfl _ _ _ rfl hb1 (85 + j) (.int .i16 v) rfl rfl rfl (by kernel_rfl) (by rw [HSZ.out]; omega) ?_; intro w2 hb2; rw [HE.out] at hb2) | (refine wl_bld rfl _ _ rfl hb2.1 rfl (by kernel_rfl) 136 HS.out.size (by kernel_rfl) ?_) | (refine wl_bsto rfl _ _ _ rfl hb2.1 rfl rfl HS.out.one 136 HS.out.size (by kernel_rfl) ?_; intro w3 h2))
  refine bodyPost_ret (v := .agg ce) (results_cell_row Tryd.results22 _ _ (w.heap.size + 2) 45 ce (0, 0) _ rfl h2.1 Tryd.underlying45 rfl (by rw [HS.out.size]; kernel_rfl)) rfl ⟨rfl, h2.2⟩

set_option maxRecDepth 100000 in
theorem piw_0 (cs ce : Array Value) (hsh : Shape cs) (k n p : Int) (v : Int) (hk : k ≠ 9) (he : pw cs k n v = ce) (hce : Shape ce) (w : World) (hs : Sizes w) : Calls Tryd.prog 22 #[.agg cs, .agg #[.int .i64 k, .int .i64 n, .int .i64 p], .int .i16 v] w fun e w' => e = .returned (.agg ce) ∧ Below w.heap.size w w' := by
  obtain ⟨z, hzs, hz⟩ := zero_run (P := Tryd.prog) (t := 45) (n := 136) (by kernel_rfl)
  have HZ := Lib.hid hzs
  have HSZ := Lib.hid hsh.size
  have HS := Lib.hid hce
  obtain rfl : cs = ce := by rw [← he]; unfold pw; rw [if_neg hk]
  have bk : (k == 9) = false := beq_eq_false_iff_ne.2 hk
  clear hk
  have Hs := Lib.hid hs
  clear hs
  clear hsh he hce hzs
  go_enter Tryd.func22, Tryd.ntmps22
  go_upto_region 3 with (fail)
  refine wp_genS (Bs.start 45 47 cs #[.int .i64 k, .int .i64 n, .int .i64 p] z w (HZ.out.trans HSZ.out.symm)) ?_
  intro w0 hb
  go_wp2_with (first | (refine wl_bld rfl _ _ rfl hb.1 rfl (by kernel_rfl) 136 HS.out.size (by kernel_rfl) ?_) | (refine wl_bsto rfl _ _ _ rfl hb.1 rfl rfl HS.out.one 136 HS.out.size (by kernel_rfl) ?_; intro w3 h2))
  refine bodyPost_ret (v := .agg cs) (results_cell_row Tryd.results22 _ _ (w.heap.size + 2) 45 cs (0, 0) _ rfl h2.1 Tryd.underlying45 rfl (by rw [HS.out.size]; kernel_rfl)) rfl ⟨rfl, h2.2⟩

theorem piw_any (cs ce : Array Value) (hsh : Shape cs) (k n p : Int) (v : Int) (he : pw cs k n v = ce) (hce : Shape ce) (w : World) (hs : Sizes w) : Calls Tryd.prog 22 #[.agg cs, .agg #[.int .i64 k, .int .i64 n, .int .i64 p], .int .i16 v] w fun e w' => e = .returned (.agg ce) ∧ Below w.heap.size w w' := by
  by_cases h : k = 9
  · subst h; exact piw_1 cs ce hsh n p v he hce w hs
  · exact piw_0 cs ce hsh k n p v h he hce w hs

set_option maxRecDepth 100000 in
theorem psw_1 (cs ce : Array Value) (hsh : Shape cs) (n p : Int) (v : Int) (he : pw cs 9 n v = ce) (hce : Shape ce) (w : World) : Calls Tryd.prog 21 #[.agg cs, .agg #[.int .i64 9, .int .i64 n, .int .i64 p], .int .i16 v] w fun e w' => e = .returned (.agg ce) ∧ Below w.heap.size w w' := by
  obtain ⟨z, hzs, hz⟩ := zero_run (P := Tryd.prog) (t := 45) (n := 136) (by kernel_rfl)
  have HZ := Lib.hid hzs
  have HSZ := Lib.hid hsh.size
  have HS := Lib.hid hce
  obtain ⟨j, hj, hlt⟩ := plc_nat2 (k := 9) (n := n) (c := 32) rfl (by decide)
  have HE := Lib.hid (show cs.setIfInBounds (85 + j) (.int .i16 v) = ce by rw [← he]; unfold pw; rw [if_pos rfl, hj, Int.toNat_natCast])
  have Hj := Lib.hid hj
  clear hj
  clear hsh he hce hzs
  go_enter Tryd.func21, Tryd.ntmps21
  go_wp2_with fail
  refine (spec_place 9 n p _).mono ?_
  rintro e w1 ⟨rfl, h1⟩
  have hb1 := (Bs.start 45 47 cs #[.int .i64 9, .int .i64 n, .int .i64 p] z w (HZ.out.trans HSZ.out.symm)).below h1
  rw [Hj.out]
  clear h1
  go_wp2_with (first | (refine wl_sst rfl _ _ _ rfl hb1 (85 + j) (.int .i16 v) rfl rfl rfl (by kernel_rfl) (by rw [HSZ.out]; omega) ?_; intro w2 hb2; rw [HE.out] at hb2) | (refine wl_bld rfl _ _ rfl hb2.1 rfl (by kernel_rfl) 136 HS.out.size (by kernel_rfl) ?_) | (refine wl_bsto rfl _ _ _ rfl hb2.1 rfl rfl HS.out.one 136 HS.out.size (by kernel_rfl) ?_; intro w3 h2))
  refine bodyPost_ret (v := .agg ce) (results_cell_row Tryd.results21 _ _ (w.heap.size + 2) 45 ce (0, 0) _ rfl h2.1 Tryd.underlying45 rfl (by rw [HS.out.size]; kernel_rfl)) rfl ⟨rfl, h2.2⟩

set_option maxRecDepth 100000 in
theorem psw_0 (cs ce : Array Value) (hsh : Shape cs) (k n p : Int) (v : Int) (hk : k ≠ 9) (he : pw cs k n v = ce) (hce : Shape ce) (w : World) : Calls Tryd.prog 21 #[.agg cs, .agg #[.int .i64 k, .int .i64 n, .int .i64 p], .int .i16 v] w fun e w' => e = .returned (.agg ce) ∧ Below w.heap.size w w' := by
  obtain ⟨z, hzs, hz⟩ := zero_run (P := Tryd.prog) (t := 45) (n := 136) (by kernel_rfl)
  have HZ := Lib.hid hzs
  have HSZ := Lib.hid hsh.size
  have HS := Lib.hid hce
  obtain rfl : cs = ce := by rw [← he]; unfold pw; rw [if_neg hk]
  have bk : (k == 9) = false := beq_eq_false_iff_ne.2 hk
  clear hk
  clear hsh he hce hzs
  go_enter Tryd.func21, Tryd.ntmps21
  go_upto_region 3 with (fail)
  refine wp_genS (Bs.start 45 47 cs #[.int .i64 k, .int .i64 n, .int .i64 p] z w (HZ.out.trans HSZ.out.symm)) ?_
  intro w0 hb
  go_wp2_with (first | (refine wl_bld rfl _ _ rfl hb.1 rfl (by kernel_rfl) 136 HS.out.size (by kernel_rfl) ?_) | (refine wl_bsto rfl _ _ _ rfl hb.1 rfl rfl HS.out.one 136 HS.out.size (by kernel_rfl) ?_; intro w3 h2))
  refine bodyPost_ret (v := .agg cs) (results_cell_row Tryd.results21 _ _ (w.heap.size + 2) 45 cs (0, 0) _ rfl h2.1 Tryd.underlying45 rfl (by rw [HS.out.size]; kernel_rfl)) rfl ⟨rfl, h2.2⟩

theorem psw_any (cs ce : Array Value) (hsh : Shape cs) (k n p : Int) (v : Int) (he : pw cs k n v = ce) (hce : Shape ce) (w : World) : Calls Tryd.prog 21 #[.agg cs, .agg #[.int .i64 k, .int .i64 n, .int .i64 p], .int .i16 v] w fun e w' => e = .returned (.agg ce) ∧ Below w.heap.size w w' := by
  by_cases h : k = 9
  · subst h; exact psw_1 cs ce hsh n p v he hce w
  · exact psw_0 cs ce hsh k n p v h he hce w

set_option maxRecDepth 100000 in
theorem pir_1 (cs ce : Array Value) (hsh : Shape cs) (n p : Int) (v : Nat) (he : pr cs 10 n v = ce) (hce : Shape ce) (w : World) (hs : Sizes w) : Calls Tryd.prog 19 #[.agg cs, .agg #[.int .i64 10, .int .i64 n, .int .i64 p], .float .f64 v] w fun e w' => e = .returned (.agg ce) ∧ Below w.heap.size w w' := by
  obtain ⟨z, hzs, hz⟩ := zero_run (P := Tryd.prog) (t := 45) (n := 136) (by kernel_rfl)
  have HZ := Lib.hid hzs
  have HSZ := Lib.hid hsh.size
  have HS := Lib.hid hce
  obtain ⟨j, hj, hlt⟩ := plc_nat2 (k := 10) (n := n) (c := 16) rfl (by decide)
  have HE := Lib.hid (show cs.setIfInBounds (117 + j) (.float .f64 v) = ce by rw [← he]; unfold pr; rw [if_pos rfl, hj, Int.toNat_natCast])
  have Hj := Lib.hid hj
  clear hj
  have Hs := Lib.hid hs
  clear hs
  clear hsh he hce hzs
  go_enter Tryd.func19, Tryd.ntmps19
  go_wp2_with fail
  refine (impl_place 10 n p _ (((Hs.out.alloc _).alloc _).alloc _)).mono ?_
  rintro e w1 ⟨rfl, h1⟩
  have hb1 := (Bs.start 45 47 cs #[.int .i64 10, .int .i64 n, .int .i64 p] z w (HZ.out.trans HSZ.out.symm)).below h1
  rw [Hj.out]
  clear h1
  go_wp2_with (first | (refine wl_sst rfl _ _ _ rfl hb1 (117 + j) (.float .f64 v) rfl rfl rfl (by kernel_rfl) (by rw [HSZ.out]; omega) ?_; intro w2 hb2; rw [HE.out] at hb2) | (refine wl_bld rfl _ _ rfl hb2.1 rfl (by kernel_rfl) 136 HS.out.size (by kernel_rfl) ?_) | (refine wl_bsto rfl _ _ _ rfl hb2.1 rfl rfl HS.out.one 136 HS.out.size (by kernel_rfl) ?_; intro w3 h2))
  refine bodyPost_ret (v := .agg ce) (results_cell_row Tryd.results19 _ _ (w.heap.size + 2) 45 ce (0, 0) _ rfl h2.1 Tryd.underlying45 rfl (by rw [HS.out.size]; kernel_rfl)) rfl ⟨rfl, h2.2⟩

set_option maxRecDepth 100000 in
theorem pir_0 (cs ce : Array Value) (hsh : Shape cs) (k n p : Int) (v : Nat) (hk : k ≠ 10) (he : pr cs k n v = ce) (hce : Shape ce) (w : World) (hs : Sizes w) : Calls Tryd.prog 19 #[.agg cs, .agg #[.int .i64 k, .int .i64 n, .int .i64 p], .float .f64 v] w fun e w' => e = .returned (.agg ce) ∧ Below w.heap.size w w' := by
  obtain ⟨z, hzs, hz⟩ := zero_run (P := Tryd.prog) (t := 45) (n := 136) (by kernel_rfl)
  have HZ := Lib.hid hzs
  have HSZ := Lib.hid hsh.size
  have HS := Lib.hid hce
  obtain rfl : cs = ce := by rw [← he]; unfold pr; rw [if_neg hk]
  have bk : (k == 10) = false := beq_eq_false_iff_ne.2 hk
  clear hk
  have Hs := Lib.hid hs
  clear hs
  clear hsh he hce hzs
  go_enter Tryd.func19, Tryd.ntmps19
  go_upto_region 3 with (fail)
  refine wp_genS (Bs.start 45 47 cs #[.int .i64 k, .int .i64 n, .int .i64 p] z w (HZ.out.trans HSZ.out.symm)) ?_
  intro w0 hb
  go_wp2_with (first | (refine wl_bld rfl _ _ rfl hb.1 rfl (by kernel_rfl) 136 HS.out.size (by kernel_rfl) ?_) | (refine wl_bsto rfl _ _ _ rfl hb.1 rfl rfl HS.out.one 136 HS.out.size (by kernel_rfl) ?_; intro w3 h2))
  refine bodyPost_ret (v := .agg cs) (results_cell_row Tryd.results19 _ _ (w.heap.size + 2) 45 cs (0, 0) _ rfl h2.1 Tryd.underlying45 rfl (by rw [HS.out.size]; kernel_rfl)) rfl ⟨rfl, h2.2⟩

theorem pir_any (cs ce : Array Value) (hsh : Shape cs) (k n p : Int) (v : Nat) (he : pr cs k n v = ce) (hce : Shape ce) (w : World) (hs : Sizes w) : Calls Tryd.prog 19 #[.agg cs, .agg #[.int .i64 k, .int .i64 n, .int .i64 p], .float .f64 v] w fun e w' => e = .returned (.agg ce) ∧ Below w.heap.size w w' := by
  by_cases h : k = 10
  · subst h; exact pir_1 cs ce hsh n p v he hce w hs
  · exact pir_0 cs ce hsh k n p v h he hce w hs

set_option maxRecDepth 100000 in
theorem psr_1 (cs ce : Array Value) (hsh : Shape cs) (n p : Int) (v : Nat) (he : pr cs 10 n v = ce) (hce : Shape ce) (w : World) : Calls Tryd.prog 18 #[.agg cs, .agg #[.int .i64 10, .int .i64 n, .int .i64 p], .float .f64 v] w fun e w' => e = .returned (.agg ce) ∧ Below w.heap.size w w' := by
  obtain ⟨z, hzs, hz⟩ := zero_run (P := Tryd.prog) (t := 45) (n := 136) (by kernel_rfl)
  have HZ := Lib.hid hzs
  have HSZ := Lib.hid hsh.size
  have HS := Lib.hid hce
  obtain ⟨j, hj, hlt⟩ := plc_nat2 (k := 10) (n := n) (c := 16) rfl (by decide)
  have HE := Lib.hid (show cs.setIfInBounds (117 + j) (.float .f64 v) = ce by rw [← he]; unfold pr; rw [if_pos rfl, hj, Int.toNat_natCast])
  have Hj := Lib.hid hj
  clear hj
  clear hsh he hce hzs
  go_enter Tryd.func18, Tryd.ntmps18
  go_wp2_with fail
  refine (spec_place 10 n p _).mono ?_
  rintro e w1 ⟨rfl, h1⟩
  have hb1 := (Bs.start 45 47 cs #[.int .i64 10, .int .i64 n, .int .i64 p] z w (HZ.out.trans HSZ.out.symm)).below h1
  rw [Hj.out]
  clear h1
  go_wp2_with (first | (refine wl_sst rfl _ _ _ rfl hb1 (117 + j) (.float .f64 v) rfl rfl rfl (by kernel_rfl) (by rw [HSZ.out]; omega) ?_; intro w2 hb2; rw [HE.out] at hb2) | (refine wl_bld rfl _ _ rfl hb2.1 rfl (by kernel_rfl) 136 HS.out.size (by kernel_rfl) ?_) | (refine wl_bsto rfl _ _ _ rfl hb2.1 rfl rfl HS.out.one 136 HS.out.size (by kernel_rfl) ?_; intro w3 h2))
  refine bodyPost_ret (v := .agg ce) (results_cell_row Tryd.results18 _ _ (w.heap.size + 2) 45 ce (0, 0) _ rfl h2.1 Tryd.underlying45 rfl (by rw [HS.out.size]; kernel_rfl)) rfl ⟨rfl, h2.2⟩

set_option maxRecDepth 100000 in
theorem psr_0 (cs ce : Array Value) (hsh : Shape cs) (k n p : Int) (v : Nat) (hk : k ≠ 10) (he : pr cs k n v = ce) (hce : Shape ce) (w : World) : Calls Tryd.prog 18 #[.agg cs, .agg #[.int .i64 k, .int .i64 n, .int .i64 p], .float .f64 v] w fun e w' => e = .returned (.agg ce) ∧ Below w.heap.size w w' := by
  obtain ⟨z, hzs, hz⟩ := zero_run (P := Tryd.prog) (t := 45) (n := 136) (by kernel_rfl)
  have HZ := Lib.hid hzs
  have HSZ := Lib.hid hsh.size
  have HS := Lib.hid hce
  obtain rfl : cs = ce := by rw [← he]; unfold pr; rw [if_neg hk]
  have bk : (k == 10) = false := beq_eq_false_iff_ne.2 hk
  clear hk
  clear hsh he hce hzs
  go_enter Tryd.func18, Tryd.ntmps18
  go_upto_region 3 with (fail)
  refine wp_genS (Bs.start 45 47 cs #[.int .i64 k, .int .i64 n, .int .i64 p] z w (HZ.out.trans HSZ.out.symm)) ?_
  intro w0 hb
  go_wp2_with (first | (refine wl_bld rfl _ _ rfl hb.1 rfl (by kernel_rfl) 136 HS.out.size (by kernel_rfl) ?_) | (refine wl_bsto rfl _ _ _ rfl hb.1 rfl rfl HS.out.one 136 HS.out.size (by kernel_rfl) ?_; intro w3 h2))
  refine bodyPost_ret (v := .agg cs) (results_cell_row Tryd.results18 _ _ (w.heap.size + 2) 45 cs (0, 0) _ rfl h2.1 Tryd.underlying45 rfl (by rw [HS.out.size]; kernel_rfl)) rfl ⟨rfl, h2.2⟩

theorem psr_any (cs ce : Array Value) (hsh : Shape cs) (k n p : Int) (v : Nat) (he : pr cs k n v = ce) (hce : Shape ce) (w : World) : Calls Tryd.prog 18 #[.agg cs, .agg #[.int .i64 k, .int .i64 n, .int .i64 p], .float .f64 v] w fun e w' => e = .returned (.agg ce) ∧ Below w.heap.size w w' := by
  by_cases h : k = 10
  · subst h; exact psr_1 cs ce hsh n p v he hce w
  · exact psr_0 cs ce hsh k n p v h he hce w

end Go.Proofs.YtnffgafofkknoaaDoor.part

/-! PutBit -/
namespace Go.Proofs.YtnffgafofkknoaaDoor.part
open Go Go.RowKit Go.Proofs.YtnffgafofkknoaaDoor.dev Go.Proofs.YtnffgafofkknoaaDoor.bitm
set_option linter.unusedVariables false
set_option linter.unusedSimpArgs false

theorem plc_nat3 {k n c : Int} (hc : cnt k = c) (h : c ≠ 0) : ∃ j : Nat, plc k n = j ∧ (j : Int) < c := by
  have h1 := plc_in k n
  obtain ⟨j, e⟩ := Int.eq_ofNat_of_zero_le h1.1
  exact ⟨j, e, by rw [← e, ← hc]; exact h1.2 (by rw [hc]; exact h)⟩
theorem plc_nat4 (k n : Int) : ∃ j : Nat, plc k n = j ∧ j < 64 := by
  have h1 := plc_in k n
  have h2 := cnt_le k
  obtain ⟨j, e⟩ := Int.eq_ofNat_of_zero_le h1.1
  refine ⟨j, e, ?_⟩
  by_cases h : cnt k = 0
  · unfold plc at e
    rw [if_pos h] at e
    omega
  · have := h1.2 h
    omega
set_option maxRecDepth 100000 in
theorem ok_bool {W : World} {base : Nat} {v : Value} (h : Value.okWide Tryd.prog W .any base 4 v) : ∃ b, v = .bool b := by
  simp only [Value.okWide, Tryd.underlying4, Cell.okWide] at h
  cases v <;> simp_all [Cell.ok]
theorem un_small3 {k : IntKind} (hk : un k) {x : Int} (h : k.min ≤ x ∧ x ≤ k.max) : small x := by
  rcases hk with rfl | rfl | rfl
  all_goals
    have h1 : (0 : Int) ≤ x := h.1
    have h2 := h.2
    simp only [IntKind.max, IntKind.bits, IntKind.signed] at h2
    unfold small
    omega
theorem un_lt3 {k : IntKind} (hk : un k) {x : Int} (h : k.min ≤ x ∧ x ≤ k.max) : 0 ≤ x ∧ x < 2 ^ k.bits := by
  rcases hk with rfl | rfl | rfl
  all_goals
    have h1 : (0 : Int) ≤ x := h.1
    have h2 := h.2
    simp only [IntKind.max, IntKind.bits, IntKind.signed] at h2 ⊢
    omega
theorem un_rg3 {k : IntKind} (hk : un k) {x : Int} (h : 0 ≤ x ∧ x < 2 ^ k.bits) : k.min ≤ x ∧ x ≤ k.max := by
  rcases hk with rfl | rfl | rfl
  all_goals
    have h2 := h.2
    simp only [IntKind.max, IntKind.min, IntKind.bits, IntKind.signed] at h2 ⊢
    simp only [Bool.false_eq_true, if_false]
    omega
/-- A memory with a bit put. -/
def pb (cs : Array Value) (k n : Int) (b : Bool) : Array Value :=
  if k = 2 then cs.setIfInBounds 1 (.int .u32 (turned (numb (cel cs 1)) (plc k n).toNat b)) else
  if k = 3 then cs.setIfInBounds 2 (.int .u64 (turned (numb (cel cs 2)) (plc k n).toNat b)) else
  if k = 4 then cs.setIfInBounds 3 (.int .u16 (turned (numb (cel cs 3)) (plc k n).toNat b)) else
  if k = 5 then cs.setIfInBounds 4 (.int .u32 (turned (numb (cel cs 4)) (plc k n).toNat b)) else cs
set_option maxRecDepth 100000 in
theorem pb_shape {cs : Array Value} (h : Shape cs) (hr : Rg cs) (k n : Int) (b : Bool) : Shape (pb cs k n b) := by
  unfold pb
  split
  · exact (h.tagged.put _ _ rfl).shape
  split
  · exact (h.tagged.put _ _ rfl).shape
  split
  · exact (h.tagged.put _ _ rfl).shape
  split
  · exact (h.tagged.put _ _ rfl).shape
  · exact h
theorem wrap_pow {k : IntKind} (hk : un k) (j : Nat) (b : Bool) (hj : j < k.bits) : k.wrap (IntKind.u64.wrap ((b.toNat : Int) * 2 ^ j)) = (b.toNat : Int) * 2 ^ j ∧ IntKind.u64.wrap ((b.toNat : Int) * 2 ^ j) = (b.toNat : Int) * 2 ^ j := by
  have h64 : k.bits ≤ 64 := by rcases hk with rfl | rfl | rfl <;> decide
  have hlt : 2 ^ j < 2 ^ k.bits := Nat.pow_lt_pow_right (by decide) hj
  have hl2 : 2 ^ k.bits ≤ 2 ^ 64 := Nat.pow_le_pow_right (by decide) h64
  have e : ((b.toNat : Int) * 2 ^ j) = ((b.toNat * 2 ^ j : Nat) : Int) := by rw [← pow_cast, Int.natCast_mul]
  have hb : b.toNat * 2 ^ j < 2 ^ k.bits := by
    cases b
    · rw [Bool.toNat_false, Nat.zero_mul]; exact Nat.two_pow_pos _
    · rw [Bool.toNat_true, Nat.one_mul]; exact hlt
  have h1 : IntKind.u64.wrap ((b.toNat : Int) * 2 ^ j) = (b.toNat : Int) * 2 ^ j := by
    rw [e]
    exact wrap_un (by unfold un; simp) _ (Nat.lt_of_lt_of_le hb hl2)
  refine ⟨?_, h1⟩
  rw [h1, e]
  exact wrap_un hk _ hb

set_option maxRecDepth 100000 in
theorem ip_Y (cs ce : Array Value) (hsh : Shape cs) (hrg : Rg cs) (n p : Int) (v : Bool) (he : pb cs 2 n v = ce) (hce : Shape ce) (w : World) (hs : Sizes w) : Calls Tryd.prog 27 #[.agg cs, .agg #[.int .i64 2, .int .i64 n, .int .i64 p], .bool v] w fun e w' => e = .returned (.agg ce) ∧ Below w.heap.size w w' := by
  obtain ⟨z, hzs, hz⟩ := zero_run (P := Tryd.prog) (t := 45) (n := 136) (by kernel_rfl)
  have HZ := Lib.hid hzs
  have HSZ := Lib.hid hsh.size
  have HS := Lib.hid hce
  obtain ⟨j, hj, hlt⟩ := plc_nat3 (k := 2) (n := n) (c := size 2) rfl (by decide)
  have hlt : (j : Int) < 32 := hlt
  obtain ⟨x, hc⟩ := hsh.Y
  have hu : un .u32 := by unfold un; simp
  have hr := un_lt3 hu (hrg 1 _ _ hc)
  have hm := un_small3 hu (hrg 1 _ _ hc)
  have hin := turned_in 32 x j v hr.1 hr.2 (by omega)
  have HE := Lib.hid (show cs.setIfInBounds 1 (.int .u32 (turned x j v)) = ce by rw [← he]; unfold pb; rw [if_pos rfl]; rw [hj, Int.toNat_natCast, cel_is hc]; rfl)
  have HM := Lib.hid (mask_put hu x j v hr.1 hr.2 (by show j < 32; omega))
  have HP := Lib.hid (wrap_pow hu j v (by show j < 32; omega))
  have H1 := Lib.hid (wrap_pow hu j true (by show j < 32; omega))
  have HX := Lib.hid (show IntKind.u64.wrap x = x by unfold small at hm; rw [IntKind.wrap_u64]; omega)
  have HW := Lib.hid (show IntKind.u32.wrap (turned x j v) = turned x j v by
    obtain ⟨y, e⟩ := Int.eq_ofNat_of_zero_le hin.1
    have h2 := hin.2
    rw [e, ← pow_cast] at h2
    rw [e]
    exact wrap_un hu y (by exact_mod_cast h2))
  have HT := Lib.hid (show small (turned x j v) by have := hin; unfold small; omega)
  have HR := Lib.hid hm
  have Hj := Lib.hid hj
  have Hc := Lib.hid hc
  have hj64 : j < 64 := by omega
  have hx0 : 0 ≤ x := hr.1
  clear hj hc hr hm hu hin
  have Hs := Lib.hid hs
  clear hs
  clear hsh he hce hzs hrg
  go_enter Tryd.func27, Tryd.ntmps27
  go_wp2_with fail
  refine (impl_place 2 n p _ (((Hs.out.alloc _).alloc _).alloc _)).mono ?_
  rintro e w1 ⟨rfl, h1⟩
  have hb1 := (Bs.start 45 47 cs #[.int .i64 2, .int .i64 n, .int .i64 p] z w (HZ.out.trans HSZ.out.symm)).below h1
  rw [Hj.out]
  clear h1
  have d0 := kit.box_cell hb1.2 0 rfl
  have cc : w1.cell? ⟨w.heap.size, 1, none⟩ = some (.int .u32 x) := kit.box_cell hb1.1.2.2.2.1 1 Hc.out
  go_wp2_with fail
  go_quiet ((go_at_call 53; exact Calls.quiet_of_same ((bit_any _ _).mono fun _ _ ⟨a, b⟩ => ⟨a, b.symm⟩)))
  have hbq := hb1.below (dev.below_drewN w1 nq)
  clear hb1
  have HV := Lib.hid (show bits .or .u32 (bits .andNot .u32 x (IntKind.u32.wrap (IntKind.u64.wrap (2 ^ j)))) (IntKind.u32.wrap (IntKind.u64.wrap ((v.toNat : Int) * 2 ^ j))) = turned x j v by
    have e1 := H1.out
    simp only [show ((true.toNat : Nat) : Int) = 1 from rfl, Int.one_mul] at e1
    rw [e1.1, HP.out.1]
    exact HM.out)
  go_wp2_with (first | (refine wl_sst rfl _ _ _ rfl hbq 1 (.int .u32 (turned x j v)) rfl (by show Value.int .u32 (bits .or .u32 (bits .andNot .u32 x (IntKind.u32.wrap (IntKind.u64.wrap (2 ^ j)))) (IntKind.u32.wrap (IntKind.u64.wrap ((v.toNat : Int) * 2 ^ j)))) = _; rw [HV.out]) rfl (by kernel_rfl) (by rw [HSZ.out]; decide) ?_; intro w2 hb2; rw [HE.out] at hb2) | (refine wl_bld rfl _ _ rfl hb2.1 rfl (by kernel_rfl) 136 HS.out.size (by kernel_rfl) ?_) | (refine wl_bsto rfl _ _ _ rfl hb2.1 rfl rfl HS.out.one 136 HS.out.size (by kernel_rfl) ?_; intro w3 h2))
  refine bodyPost_ret (v := .agg ce) (results_cell_row Tryd.results27 _ _ (w.heap.size + 2) 45 ce (0, 0) _ rfl h2.1 Tryd.underlying45 rfl (by rw [HS.out.size]; kernel_rfl)) rfl ⟨rfl, h2.2⟩

set_option maxRecDepth 100000 in
theorem ip_M (cs ce : Array Value) (hsh : Shape cs) (hrg : Rg cs) (n p : Int) (v : Bool) (he : pb cs 3 n v = ce) (hce : Shape ce) (w : World) (hs : Sizes w) : Calls Tryd.prog 27 #[.agg cs, .agg #[.int .i64 3, .int .i64 n, .int .i64 p], .bool v] w fun e w' => e = .returned (.agg ce) ∧ Below w.heap.size w w' := by
  obtain ⟨z, hzs, hz⟩ := zero_run (P := Tryd.prog) (t := 45) (n := 136) (by kernel_rfl)
  have HZ := Lib.hid hzs
  have HSZ := Lib.hid hsh.size
  have HS := Lib.hid hce
  obtain ⟨j, hj, hlt⟩ := plc_nat3 (k := 3) (n := n) (c := size 3) rfl (by decide)
  have hlt : (j : Int) < 64 := hlt
  obtain ⟨x, hc⟩ := hsh.M
  have hu : un .u64 := by unfold un; simp
  have hr := un_lt3 hu (hrg 2 _ _ hc)
  have hm := un_small3 hu (hrg 2 _ _ hc)
  have hin := turned_in 64 x j v hr.1 hr.2 (by omega)
  have HE := Lib.hid (show cs.setIfInBounds 2 (.int .u64 (turned x j v)) = ce by rw [← he]; unfold pb; rw [if_neg (by decide)]; rw [if_pos rfl]; rw [hj, Int.toNat_natCast, cel_is hc]; rfl)
  have HM := Lib.hid (mask_put hu x j v hr.1 hr.2 (by show j < 64; omega))
  have HP := Lib.hid (wrap_pow hu j v (by show j < 64; omega))
  have H1 := Lib.hid (wrap_pow hu j true (by show j < 64; omega))
  have HX := Lib.hid (show IntKind.u64.wrap x = x by unfold small at hm; rw [IntKind.wrap_u64]; omega)
  have HW := Lib.hid (show IntKind.u64.wrap (turned x j v) = turned x j v by
    obtain ⟨y, e⟩ := Int.eq_ofNat_of_zero_le hin.1
    have h2 := hin.2
    rw [e, ← pow_cast] at h2
    rw [e]
    exact wrap_un hu y (by exact_mod_cast h2))
  have HT := Lib.hid (show small (turned x j v) by have := hin; unfold small; omega)
  have HR := Lib.hid hm
  have Hj := Lib.hid hj
  have Hc := Lib.hid hc
  have hj64 : j < 64 := by omega
  have hx0 : 0 ≤ x := hr.1
  clear hj hc hr hm hu hin
  have Hs := Lib.hid hs
  clear hs
  clear hsh he hce hzs hrg
  go_enter Tryd.func27, Tryd.ntmps27
  go_wp2_with fail
  refine (impl_place 3 n p _ (((Hs.out.alloc _).alloc _).alloc _)).mono ?_
  rintro e w1 ⟨rfl, h1⟩
  have hb1 := (Bs.start 45 47 cs #[.int .i64 3, .int .i64 n, .int .i64 p] z w (HZ.out.trans HSZ.out.symm)).below h1
  rw [Hj.out]
  clear h1
  have d0 := kit.box_cell hb1.2 0 rfl
  have cc : w1.cell? ⟨w.heap.size, 2, none⟩ = some (.int .u64 x) := kit.box_cell hb1.1.2.2.2.1 2 Hc.out
  go_wp2_with fail
  go_quiet ((go_at_call 53; exact Calls.quiet_of_same ((bit_any _ _).mono fun _ _ ⟨a, b⟩ => ⟨a, b.symm⟩)))
  have hbq := hb1.below (dev.below_drewN w1 nq)
  clear hb1
  have HV := Lib.hid (show bits .or .u64 (bits .andNot .u64 x (IntKind.u64.wrap (2 ^ j))) (IntKind.u64.wrap ((v.toNat : Int) * 2 ^ j)) = turned x j v by
    have e1 := H1.out
    simp only [show ((true.toNat : Nat) : Int) = 1 from rfl, Int.one_mul] at e1
    rw [e1.2, HP.out.2]
    exact HM.out)
  go_wp2_with (first | (refine wl_sst rfl _ _ _ rfl hbq 2 (.int .u64 (turned x j v)) rfl (by show Value.int .u64 (bits .or .u64 (bits .andNot .u64 x (IntKind.u64.wrap (2 ^ j))) (IntKind.u64.wrap ((v.toNat : Int) * 2 ^ j))) = _; rw [HV.out]) rfl (by kernel_rfl) (by rw [HSZ.out]; decide) ?_; intro w2 hb2; rw [HE.out] at hb2) | (refine wl_bld rfl _ _ rfl hb2.1 rfl (by kernel_rfl) 136 HS.out.size (by kernel_rfl) ?_) | (refine wl_bsto rfl _ _ _ rfl hb2.1 rfl rfl HS.out.one 136 HS.out.size (by kernel_rfl) ?_; intro w3 h2))
  refine bodyPost_ret (v := .agg ce) (results_cell_row Tryd.results27 _ _ (w.heap.size + 2) 45 ce (0, 0) _ rfl h2.1 Tryd.underlying45 rfl (by rw [HS.out.size]; kernel_rfl)) rfl ⟨rfl, h2.2⟩

set_option maxRecDepth 100000 in
theorem ip_S (cs ce : Array Value) (hsh : Shape cs) (hrg : Rg cs) (n p : Int) (v : Bool) (he : pb cs 4 n v = ce) (hce : Shape ce) (w : World) (hs : Sizes w) : Calls Tryd.prog 27 #[.agg cs, .agg #[.int .i64 4, .int .i64 n, .int .i64 p], .bool v] w fun e w' => e = .returned (.agg ce) ∧ Below w.heap.size w w' := by
  obtain ⟨z, hzs, hz⟩ := zero_run (P := Tryd.prog) (t := 45) (n := 136) (by kernel_rfl)
  have HZ := Lib.hid hzs
  have HSZ := Lib.hid hsh.size
  have HS := Lib.hid hce
  obtain ⟨j, hj, hlt⟩ := plc_nat3 (k := 4) (n := n) (c := size 4) rfl (by decide)
  have hlt : (j : Int) < 16 := hlt
  obtain ⟨x, hc⟩ := hsh.S
  have hu : un .u16 := by unfold un; simp
  have hr := un_lt3 hu (hrg 3 _ _ hc)
  have hm := un_small3 hu (hrg 3 _ _ hc)
  have hin := turned_in 16 x j v hr.1 hr.2 (by omega)
  have HE := Lib.hid (show cs.setIfInBounds 3 (.int .u16 (turned x j v)) = ce by rw [← he]; unfold pb; rw [if_neg (by decide)]; rw [if_neg (by decide)]; rw [if_pos rfl]; rw [hj, Int.toNat_natCast, cel_is hc]; rfl)
  have HM := Lib.hid (mask_put hu x j v hr.1 hr.2 (by show j < 16; omega))
  have HP := Lib.hid (wrap_pow hu j v (by show j < 16; omega))
  have H1 := Lib.hid (wrap_pow hu j true (by show j < 16; omega))
  have HX := Lib.hid (show IntKind.u64.wrap x = x by unfold small at hm; rw [IntKind.wrap_u64]; omega)
  have HW := Lib.hid (show IntKind.u16.wrap (turned x j v) = turned x j v by
    obtain ⟨y, e⟩ := Int.eq_ofNat_of_zero_le hin.1
    have h2 := hin.2
    rw [e, ← pow_cast] at h2
    rw [e]
    exact wrap_un hu y (by exact_mod_cast h2))
  have HT := Lib.hid (show small (turned x j v) by have := hin; unfold small; omega)
  have HR := Lib.hid hm
  have Hj := Lib.hid hj
  have Hc := Lib.hid hc
  have hj64 : j < 64 := by omega
  have hx0 : 0 ≤ x := hr.1
  clear hj hc hr hm hu hin
  have Hs := Lib.hid hs
  clear hs
  clear hsh he hce hzs hrg
  go_enter Tryd.func27, Tryd.ntmps27
  go_wp2_with fail
  refine (impl_place 4 n p _ (((Hs.out.alloc _).alloc _).alloc _)).mono ?_
  rintro e w1 ⟨rfl, h1⟩
  have hb1 := (Bs.start 45 47 cs #[.int .i64 4, .int .i64 n, .int .i64 p] z w (HZ.out.trans HSZ.out.symm)).below h1
  rw [Hj.out]
  clear h1
  have d0 := kit.box_cell hb1.2 0 rfl
  have cc : w1.cell? ⟨w.heap.size, 3, none⟩ = some (.int .u16 x) := kit.box_cell hb1.1.2.2.2.1 3 Hc.out
  go_wp2_with fail
  go_quiet ((go_at_call 53; exact Calls.quiet_of_same ((bit_any _ _).mono fun _ _ ⟨a, b⟩ => ⟨a, b.symm⟩)))
  have hbq := hb1.below (dev.below_drewN w1 nq)
  clear hb1
  have HV := Lib.hid (show bits .or .u16 (bits .andNot .u16 x (IntKind.u16.wrap (IntKind.u64.wrap (2 ^ j)))) (IntKind.u16.wrap (IntKind.u64.wrap ((v.toNat : Int) * 2 ^ j))) = turned x j v by
    have e1 := H1.out
    simp only [show ((true.toNat : Nat) : Int) = 1 from rfl, Int.one_mul] at e1
    rw [e1.1, HP.out.1]
    exact HM.out)
  go_wp2_with (first | (refine wl_sst rfl _ _ _ rfl hbq 3 (.int .u16 (turned x j v)) rfl (by show Value.int .u16 (bits .or .u16 (bits .andNot .u16 x (IntKind.u16.wrap (IntKind.u64.wrap (2 ^ j)))) (IntKind.u16.wrap (IntKind.u64.wrap ((v.toNat : Int) * 2 ^ j)))) = _; rw [HV.out]) rfl (by kernel_rfl) (by rw [HSZ.out]; decide) ?_; intro w2 hb2; rw [HE.out] at hb2) | (refine wl_bld rfl _ _ rfl hb2.1 rfl (by kernel_rfl) 136 HS.out.size (by kernel_rfl) ?_) | (refine wl_bsto rfl _ _ _ rfl hb2.1 rfl rfl HS.out.one 136 HS.out.size (by kernel_rfl) ?_; intro w3 h2))
  refine bodyPost_ret (v := .agg ce) (results_cell_row Tryd.results27 _ _ (w.heap.size + 2) 45 ce (0, 0) _ rfl h2.1 Tryd.underlying45 rfl (by rw [HS.out.size]; kernel_rfl)) rfl ⟨rfl, h2.2⟩

set_option maxRecDepth 100000 in
theorem ip_E (cs ce : Array Value) (hsh : Shape cs) (hrg : Rg cs) (n p : Int) (v : Bool) (he : pb cs 5 n v = ce) (hce : Shape ce) (w : World) (hs : Sizes w) : Calls Tryd.prog 27 #[.agg cs, .agg #[.int .i64 5, .int .i64 n, .int .i64 p], .bool v] w fun e w' => e = .returned (.agg ce) ∧ Below w.heap.size w w' := by
  obtain ⟨z, hzs, hz⟩ := zero_run (P := Tryd.prog) (t := 45) (n := 136) (by kernel_rfl)
  have HZ := Lib.hid hzs
  have HSZ := Lib.hid hsh.size
  have HS := Lib.hid hce
  obtain ⟨j, hj, hlt⟩ := plc_nat3 (k := 5) (n := n) (c := size 5) rfl (by decide)
  have hlt : (j : Int) < 32 := hlt
  obtain ⟨x, hc⟩ := hsh.E
  have hu : un .u32 := by unfold un; simp
  have hr := un_lt3 hu (hrg 4 _ _ hc)
  have hm := un_small3 hu (hrg 4 _ _ hc)
  have hin := turned_in 32 x j v hr.1 hr.2 (by omega)
  have HE := Lib.hid (show cs.setIfInBounds 4 (.int .u32 (turned x j v)) = ce by rw [← he]; unfold pb; rw [if_neg (by decide)]; rw [if_neg (by decide)]; rw [if_neg (by decide)]; rw [if_pos rfl]; rw [hj, Int.toNat_natCast, cel_is hc]; rfl)
  have HM := Lib.hid (mask_put hu x j v hr.1 hr.2 (by show j < 32; omega))
  have HP := Lib.hid (wrap_pow hu j v (by show j < 32; omega))
  have H1 := Lib.hid (wrap_pow hu j true (by show j < 32; omega))
  have HX := Lib.hid (show IntKind.u64.wrap x = x by unfold small at hm; rw [IntKind.wrap_u64]; omega)
  have HW := Lib.hid (show IntKind.u32.wrap (turned x j v) = turned x j v by
    obtain ⟨y, e⟩ := Int.eq_ofNat_of_zero_le hin.1
    have h2 := hin.2
    rw [e, ← pow_cast] at h2
    rw [e]
    exact wrap_un hu y (by exact_mod_cast h2))
  have HT := Lib.hid (show small (turned x j v) by have := hin; unfold small; omega)
  have HR := Lib.hid hm
  have Hj := Lib.hid hj
  have Hc := Lib.hid hc
  have hj64 : j < 64 := by omega
  have hx0 : 0 ≤ x := hr.1
  clear hj hc hr hm hu hin
  have Hs := Lib.hid hs
  clear hs
  clear hsh he hce hzs hrg
  go_enter Tryd.func27, Tryd.ntmps27
  go_wp2_with fail
  refine (impl_place 5 n p _ (((Hs.out.alloc _).alloc _).alloc _)).mono ?_
  rintro e w1 ⟨rfl, h1⟩
  have hb1 := (Bs.start 45 47 cs #[.int .i64 5, .int .i64 n, .int .i64 p] z w (HZ.out.trans HSZ.out.symm)).below h1
  rw [Hj.out]
  clear h1
  have d0 := kit.box_cell hb1.2 0 rfl
  have cc : w1.cell? ⟨w.heap.size, 4, none⟩ = some (.int .u32 x) := kit.box_cell hb1.1.2.2.2.1 4 Hc.out
  go_wp2_with fail
  go_quiet ((go_at_call 53; exact Calls.quiet_of_same ((bit_any _ _).mono fun _ _ ⟨a, b⟩ => ⟨a, b.symm⟩)))
  have hbq := hb1.below (dev.below_drewN w1 nq)
  clear hb1
  have HV := Lib.hid (show bits .or .u32 (bits .andNot .u32 x (IntKind.u32.wrap (IntKind.u64.wrap (2 ^ j)))) (IntKind.u32.wrap (IntKind.u64.wrap ((v.toNat : Int) * 2 ^ j))) = turned x j v by
    have e1 := H1.out
    simp only [show ((true.toNat : Nat) : Int) = 1 from rfl, Int.one_mul] at e1
    rw [e1.1, HP.out.1]
    exact HM.out)
  go_wp2_with (first | (refine wl_sst rfl _ _ _ rfl hbq 4 (.int .u32 (turned x j v)) rfl (by show Value.int .u32 (bits .or .u32 (bits .andNot .u32 x (IntKind.u32.wrap (IntKind.u64.wrap (2 ^ j)))) (IntKind.u32.wrap (IntKind.u64.wrap ((v.toNat : Int) * 2 ^ j)))) = _; rw [HV.out]) rfl (by kernel_rfl) (by rw [HSZ.out]; decide) ?_; intro w2 hb2; rw [HE.out] at hb2) | (refine wl_bld rfl _ _ rfl hb2.1 rfl (by kernel_rfl) 136 HS.out.size (by kernel_rfl) ?_) | (refine wl_bsto rfl _ _ _ rfl hb2.1 rfl rfl HS.out.one 136 HS.out.size (by kernel_rfl) ?_; intro w3 h2))
  refine bodyPost_ret (v := .agg ce) (results_cell_row Tryd.results27 _ _ (w.heap.size + 2) 45 ce (0, 0) _ rfl h2.1 Tryd.underlying45 rfl (by rw [HS.out.size]; kernel_rfl)) rfl ⟨rfl, h2.2⟩

set_option maxRecDepth 100000 in
theorem ip_O (cs ce : Array Value) (hsh : Shape cs) (hrg : Rg cs) (k n p : Int) (v : Bool) (h2 : k ≠ 2) (h3 : k ≠ 3) (h4 : k ≠ 4) (h5 : k ≠ 5) (he : pb cs k n v = ce) (hce : Shape ce) (w : World) (hs : Sizes w) : Calls Tryd.prog 27 #[.agg cs, .agg #[.int .i64 k, .int .i64 n, .int .i64 p], .bool v] w fun e w' => e = .returned (.agg ce) ∧ Below w.heap.size w w' := by
  obtain ⟨z, hzs, hz⟩ := zero_run (P := Tryd.prog) (t := 45) (n := 136) (by kernel_rfl)
  have HZ := Lib.hid hzs
  have HSZ := Lib.hid hsh.size
  have HS := Lib.hid hce
  obtain rfl : cs = ce := by rw [← he]; unfold pb; rw [if_neg h2, if_neg h3, if_neg h4, if_neg h5]
  obtain ⟨j, hj, hj64⟩ := plc_nat4 k n
  have Hj := Lib.hid hj
  have b2 : (k == 2) = false := beq_eq_false_iff_ne.2 h2
  have b3 : (k == 3) = false := beq_eq_false_iff_ne.2 h3
  have b4 : (k == 4) = false := beq_eq_false_iff_ne.2 h4
  have b5 : (k == 5) = false := beq_eq_false_iff_ne.2 h5
  clear hj h2 h3 h4 h5
  have Hs := Lib.hid hs
  clear hs
  clear hsh he hce hzs hrg
  go_enter Tryd.func27, Tryd.ntmps27
  go_wp2_with fail
  refine (impl_place k n p _ (((Hs.out.alloc _).alloc _).alloc _)).mono ?_
  rintro e w1 ⟨rfl, h1⟩
  have hb1 := (Bs.start 45 47 cs #[.int .i64 k, .int .i64 n, .int .i64 p] z w (HZ.out.trans HSZ.out.symm)).below h1
  rw [Hj.out]
  clear h1
  have d0 := kit.box_cell hb1.2 0 rfl
  go_wp2_with fail
  go_quiet ((go_at_call 53; exact Calls.quiet_of_same ((bit_any _ _).mono fun _ _ ⟨a, b⟩ => ⟨a, b.symm⟩)))
  have hbq := hb1.below (dev.below_drewN w1 nq)
  clear hb1
  go_wp2_with (first | (refine wl_bld rfl _ _ rfl hbq.1 rfl (by kernel_rfl) 136 HS.out.size (by kernel_rfl) ?_) | (refine wl_bsto rfl _ _ _ rfl hbq.1 rfl rfl HS.out.one 136 HS.out.size (by kernel_rfl) ?_; intro w3 h2))
  refine bodyPost_ret (v := .agg cs) (results_cell_row Tryd.results27 _ _ (w.heap.size + 2) 45 cs (0, 0) _ rfl h2.1 Tryd.underlying45 rfl (by rw [HS.out.size]; kernel_rfl)) rfl ⟨rfl, h2.2⟩

theorem ip_any (cs ce : Array Value) (hsh : Shape cs) (hrg : Rg cs) (k n p : Int) (v : Bool) (he : pb cs k n v = ce) (hce : Shape ce) (w : World) (hs : Sizes w) : Calls Tryd.prog 27 #[.agg cs, .agg #[.int .i64 k, .int .i64 n, .int .i64 p], .bool v] w fun e w' => e = .returned (.agg ce) ∧ Below w.heap.size w w' := by
  by_cases h2 : k = 2
  · subst h2; exact ip_Y cs ce hsh hrg n p v he hce w hs
  by_cases h3 : k = 3
  · subst h3; exact ip_M cs ce hsh hrg n p v he hce w hs
  by_cases h4 : k = 4
  · subst h4; exact ip_S cs ce hsh hrg n p v he hce w hs
  by_cases h5 : k = 5
  · subst h5; exact ip_E cs ce hsh hrg n p v he hce w hs
  exact ip_O cs ce hsh hrg k n p v h2 h3 h4 h5 he hce w hs

set_option maxRecDepth 100000 in
theorem sp_Y (cs ce : Array Value) (hsh : Shape cs) (hrg : Rg cs) (n p : Int) (v : Bool) (he : pb cs 2 n v = ce) (hce : Shape ce) (w : World) : Calls Tryd.prog 26 #[.agg cs, .agg #[.int .i64 2, .int .i64 n, .int .i64 p], .bool v] w fun e w' => e = .returned (.agg ce) ∧ Below w.heap.size w w' := by
  obtain ⟨z, hzs, hz⟩ := zero_run (P := Tryd.prog) (t := 45) (n := 136) (by kernel_rfl)
  have HZ := Lib.hid hzs
  have HSZ := Lib.hid hsh.size
  have HS := Lib.hid hce
  obtain ⟨j, hj, hlt⟩ := plc_nat3 (k := 2) (n := n) (c := size 2) rfl (by decide)
  have hlt : (j : Int) < 32 := hlt
  obtain ⟨x, hc⟩ := hsh.Y
  have hu : un .u32 := by unfold un; simp
  have hr := un_lt3 hu (hrg 1 _ _ hc)
  have hm := un_small3 hu (hrg 1 _ _ hc)
  have hin := turned_in 32 x j v hr.1 hr.2 (by omega)
  have HE := Lib.hid (show cs.setIfInBounds 1 (.int .u32 (turned x j v)) = ce by rw [← he]; unfold pb; rw [if_pos rfl]; rw [hj, Int.toNat_natCast, cel_is hc]; rfl)
  have HM := Lib.hid (mask_put hu x j v hr.1 hr.2 (by show j < 32; omega))
  have HP := Lib.hid (wrap_pow hu j v (by show j < 32; omega))
  have H1 := Lib.hid (wrap_pow hu j true (by show j < 32; omega))
  have HX := Lib.hid (show IntKind.u64.wrap x = x by unfold small at hm; rw [IntKind.wrap_u64]; omega)
  have HW := Lib.hid (show IntKind.u32.wrap (turned x j v) = turned x j v by
    obtain ⟨y, e⟩ := Int.eq_ofNat_of_zero_le hin.1
    have h2 := hin.2
    rw [e, ← pow_cast] at h2
    rw [e]
    exact wrap_un hu y (by exact_mod_cast h2))
  have HT := Lib.hid (show small (turned x j v) by have := hin; unfold small; omega)
  have HR := Lib.hid hm
  have Hj := Lib.hid hj
  have Hc := Lib.hid hc
  have hj64 : j < 64 := by omega
  have hx0 : 0 ≤ x := hr.1
  clear hj hc hr hm hu hin
  clear hsh he hce hzs hrg
  go_enter Tryd.func26, Tryd.ntmps26
  go_wp2_with fail
  refine (spec_place 2 n p _).mono ?_
  rintro e w1 ⟨rfl, h1⟩
  have hb1 := (Bs.start 45 47 cs #[.int .i64 2, .int .i64 n, .int .i64 p] z w (HZ.out.trans HSZ.out.symm)).below h1
  rw [Hj.out]
  clear h1
  have d0 := kit.box_cell hb1.2 0 rfl
  have cc : w1.cell? ⟨w.heap.size, 1, none⟩ = some (.int .u32 x) := kit.box_cell hb1.1.2.2.2.1 1 Hc.out
  go_wp2_with fail
  rw [HX.out]
  refine (l5Turned_any x j v HR.out HT.out hj64 _).mono ?_
  rintro e w' ⟨rfl, rfl⟩
  go_wp2_with (first | (refine wl_sst rfl _ _ _ rfl hb1 1 (.int .u32 (turned x j v)) rfl (by show Value.int .u32 (IntKind.u32.wrap (turned x j v)) = _; rw [HW.out]) rfl (by kernel_rfl) (by rw [HSZ.out]; decide) ?_; intro w2 hb2; rw [HE.out] at hb2) | (refine wl_bld rfl _ _ rfl hb2.1 rfl (by kernel_rfl) 136 HS.out.size (by kernel_rfl) ?_) | (refine wl_bsto rfl _ _ _ rfl hb2.1 rfl rfl HS.out.one 136 HS.out.size (by kernel_rfl) ?_; intro w3 h2))
  refine bodyPost_ret (v := .agg ce) (results_cell_row Tryd.results26 _ _ (w.heap.size + 2) 45 ce (0, 0) _ rfl h2.1 Tryd.underlying45 rfl (by rw [HS.out.size]; kernel_rfl)) rfl ⟨rfl, h2.2⟩

set_option maxRecDepth 100000 in
theorem sp_M (cs ce : Array Value) (hsh : Shape cs) (hrg : Rg cs) (n p : Int) (v : Bool) (he : pb cs 3 n v = ce) (hce : Shape ce) (w : World) : Calls Tryd.prog 26 #[.agg cs, .agg #[.int .i64 3, .int .i64 n, .int .i64 p], .bool v] w fun e w' => e = .returned (.agg ce) ∧ Below w.heap.size w w' := by
  obtain ⟨z, hzs, hz⟩ := zero_run (P := Tryd.prog) (t := 45) (n := 136) (by kernel_rfl)
  have HZ := Lib.hid hzs
  have HSZ := Lib.hid hsh.size
  have HS := Lib.hid hce
  obtain ⟨j, hj, hlt⟩ := plc_nat3 (k := 3) (n := n) (c := size 3) rfl (by decide)
  have hlt : (j : Int) < 64 := hlt
  obtain ⟨x, hc⟩ := hsh.M
  have hu : un .u64 := by unfold un; simp
  have hr := un_lt3 hu (hrg 2 _ _ hc)
  have hm := un_small3 hu (hrg 2 _ _ hc)
  have hin := turned_in 64 x j v hr.1 hr.2 (by omega)
  have HE := Lib.hid (show cs.setIfInBounds 2 (.int .u64 (turned x j v)) = ce by rw [← he]; unfold pb; rw [if_neg (by decide)]; rw [if_pos rfl]; rw [hj, Int.toNat_natCast, cel_is hc]; rfl)
  have HM := Lib.hid (mask_put hu x j v hr.1 hr.2 (by show j < 64; omega))
  have HP := Lib.hid (wrap_pow hu j v (by show j < 64; omega))
  have H1 := Lib.hid (wrap_pow hu j true (by show j < 64; omega))
  have HX := Lib.hid (show IntKind.u64.wrap x = x by unfold small at hm; rw [IntKind.wrap_u64]; omega)
  have HW := Lib.hid (show IntKind.u64.wrap (turned x j v) = turned x j v by
    obtain ⟨y, e⟩ := Int.eq_ofNat_of_zero_le hin.1
    have h2 := hin.2
    rw [e, ← pow_cast] at h2
    rw [e]
    exact wrap_un hu y (by exact_mod_cast h2))
  have HT := Lib.hid (show small (turned x j v) by have := hin; unfold small; omega)
  have HR := Lib.hid hm
  have Hj := Lib.hid hj
  have Hc := Lib.hid hc
  have hj64 : j < 64 := by omega
  have hx0 : 0 ≤ x := hr.1
  clear hj hc hr hm hu hin
  clear hsh he hce hzs hrg
  go_enter Tryd.func26, Tryd.ntmps26
  go_wp2_with fail
  refine (spec_place 3 n p _).mono ?_
  rintro e w1 ⟨rfl, h1⟩
  have hb1 := (Bs.start 45 47 cs #[.int .i64 3, .int .i64 n, .int .i64 p] z w (HZ.out.trans HSZ.out.symm)).below h1
  rw [Hj.out]
  clear h1
  have d0 := kit.box_cell hb1.2 0 rfl
  have cc : w1.cell? ⟨w.heap.size, 2, none⟩ = some (.int .u64 x) := kit.box_cell hb1.1.2.2.2.1 2 Hc.out
  go_wp2_with fail
  refine (l5Turned_any x j v HR.out HT.out hj64 _).mono ?_
  rintro e w' ⟨rfl, rfl⟩
  go_wp2_with (first | (refine wl_sst rfl _ _ _ rfl hb1 2 (.int .u64 (turned x j v)) rfl (by rfl) rfl (by kernel_rfl) (by rw [HSZ.out]; decide) ?_; intro w2 hb2; rw [HE.out] at hb2) | (refine wl_bld rfl _ _ rfl hb2.1 rfl (by kernel_rfl) 136 HS.out.size (by kernel_rfl) ?_) | (refine wl_bsto rfl _ _ _ rfl hb2.1 rfl rfl HS.out.one 136 HS.out.size (by kernel_rfl) ?_; intro w3 h2))
  refine bodyPost_ret (v := .agg ce) (results_cell_row Tryd.results26 _ _ (w.heap.size + 2) 45 ce (0, 0) _ rfl h2.1 Tryd.underlying45 rfl (by rw [HS.out.size]; kernel_rfl)) rfl ⟨rfl, h2.2⟩

set_option maxRecDepth 100000 in
theorem sp_S (cs ce : Array Value) (hsh : Shape cs) (hrg : Rg cs) (n p : Int) (v : Bool) (he : pb cs 4 n v = ce) (hce : Shape ce) (w : World) : Calls Tryd.prog 26 #[.agg cs, .agg #[.int .i64 4, .int .i64 n, .int .i64 p], .bool v] w fun e w' => e = .returned (.agg ce) ∧ Below w.heap.size w w' := by
  obtain ⟨z, hzs, hz⟩ := zero_run (P := Tryd.prog) (t := 45) (n := 136) (by kernel_rfl)
  have HZ := Lib.hid hzs
  have HSZ := Lib.hid hsh.size
  have HS := Lib.hid hce
  obtain ⟨j, hj, hlt⟩ := plc_nat3 (k := 4) (n := n) (c := size 4) rfl (by decide)
  have hlt : (j : Int) < 16 := hlt
  obtain ⟨x, hc⟩ := hsh.S
  have hu : un .u16 := by unfold un; simp
  have hr := un_lt3 hu (hrg 3 _ _ hc)
  have hm := un_small3 hu (hrg 3 _ _ hc)
  have hin := turned_in 16 x j v hr.1 hr.2 (by omega)
  have HE := Lib.hid (show cs.setIfInBounds 3 (.int .u16 (turned x j v)) = ce by rw [← he]; unfold pb; rw [if_neg (by decide)]; rw [if_neg (by decide)]; rw [if_pos rfl]; rw [hj, Int.toNat_natCast, cel_is hc]; rfl)
  have HM := Lib.hid (mask_put hu x j v hr.1 hr.2 (by show j < 16; omega))
  have HP := Lib.hid (wrap_pow hu j v (by show j < 16; omega))
  have H1 := Lib.hid (wrap_pow hu j true (by show j < 16; omega))
  have HX := Lib.hid (show IntKind.u64.wrap x = x by unfold small at hm; rw [IntKind.wrap_u64]; omega)
  have HW := Lib.hid (show IntKind.u16.wrap (turned x j v) = turned x j v by
    obtain ⟨y, e⟩ := Int.eq_ofNat_of_zero_le hin.1
    have h2 := hin.2
    rw [e, ← pow_cast] at h2
    rw [e]
    exact wrap_un hu y (by exact_mod_cast h2))
  have HT := Lib.hid (show small (turned x j v) by have := hin; unfold small; omega)
  have HR := Lib.hid hm
  have Hj := Lib.hid hj
  have Hc := Lib.hid hc
  have hj64 : j < 64 := by omega
  have hx0 : 0 ≤ x := hr.1
  clear hj hc hr hm hu hin
  clear hsh he hce hzs hrg
  go_enter Tryd.func26, Tryd.ntmps26
  go_wp2_with fail
  refine (spec_place 4 n p _).mono ?_
  rintro e w1 ⟨rfl, h1⟩
  have hb1 := (Bs.start 45 47 cs #[.int .i64 4, .int .i64 n, .int .i64 p] z w (HZ.out.trans HSZ.out.symm)).below h1
  rw [Hj.out]
  clear h1
  have d0 := kit.box_cell hb1.2 0 rfl
  have cc : w1.cell? ⟨w.heap.size, 3, none⟩ = some (.int .u16 x) := kit.box_cell hb1.1.2.2.2.1 3 Hc.out
  go_wp2_with fail
  rw [HX.out]
  refine (l5Turned_any x j v HR.out HT.out hj64 _).mono ?_
  rintro e w' ⟨rfl, rfl⟩
  go_wp2_with (first | (refine wl_sst rfl _ _ _ rfl hb1 3 (.int .u16 (turned x j v)) rfl (by show Value.int .u16 (IntKind.u16.wrap (turned x j v)) = _; rw [HW.out]) rfl (by kernel_rfl) (by rw [HSZ.out]; decide) ?_; intro w2 hb2; rw [HE.out] at hb2) | (refine wl_bld rfl _ _ rfl hb2.1 rfl (by kernel_rfl) 136 HS.out.size (by kernel_rfl) ?_) | (refine wl_bsto rfl _ _ _ rfl hb2.1 rfl rfl HS.out.one 136 HS.out.size (by kernel_rfl) ?_; intro w3 h2))
  refine bodyPost_ret (v := .agg ce) (results_cell_row Tryd.results26 _ _ (w.heap.size + 2) 45 ce (0, 0) _ rfl h2.1 Tryd.underlying45 rfl (by rw [HS.out.size]; kernel_rfl)) rfl ⟨rfl, h2.2⟩

set_option maxRecDepth 100000 in
theorem sp_E (cs ce : Array Value) (hsh : Shape cs) (hrg : Rg cs) (n p : Int) (v : Bool) (he : pb cs 5 n v = ce) (hce : Shape ce) (w : World) : Calls Tryd.prog 26 #[.agg cs, .agg #[.int .i64 5, .int .i64 n, .int .i64 p], .bool v] w fun e w' => e = .returned (.agg ce) ∧ Below w.heap.size w w' := by
  obtain ⟨z, hzs, hz⟩ := zero_run (P := Tryd.prog) (t := 45) (n := 136) (by kernel_rfl)
  have HZ := Lib.hid hzs
  have HSZ := Lib.hid hsh.size
  have HS := Lib.hid hce
  obtain ⟨j, hj, hlt⟩ := plc_nat3 (k := 5) (n := n) (c := size 5) rfl (by decide)
  have hlt : (j : Int) < 32 := hlt
  obtain ⟨x, hc⟩ := hsh.E
  have hu : un .u32 := by unfold un; simp
  have hr := un_lt3 hu (hrg 4 _ _ hc)
  have hm := un_small3 hu (hrg 4 _ _ hc)
  have hin := turned_in 32 x j v hr.1 hr.2 (by omega)
  have HE := Lib.hid (show cs.setIfInBounds 4 (.int .u32 (turned x j v)) = ce by rw [← he]; unfold pb; rw [if_neg (by decide)]; rw [if_neg (by decide)]; rw [if_neg (by decide)]; rw [if_pos rfl]; rw [hj, Int.toNat_natCast, cel_is hc]; rfl)
  have HM := Lib.hid (mask_put hu x j v hr.1 hr.2 (by show j < 32; omega))
  have HP := Lib.hid (wrap_pow hu j v (by show j < 32; omega))
  have H1 := Lib.hid (wrap_pow hu j true (by show j < 32; omega))
  have HX := Lib.hid (show IntKind.u64.wrap x = x by unfold small at hm; rw [IntKind.wrap_u64]; omega)
  have HW := Lib.hid (show IntKind.u32.wrap (turned x j v) = turned x j v by
    obtain ⟨y, e⟩ := Int.eq_ofNat_of_zero_le hin.1
    have h2 := hin.2
    rw [e, ← pow_cast] at h2
    rw [e]
    exact wrap_un hu y (by exact_mod_cast h2))
  have HT := Lib.hid (show small (turned x j v) by have := hin; unfold small; omega)
  have HR := Lib.hid hm
  have Hj := Lib.hid hj
  have Hc := Lib.hid hc
  have hj64 : j < 64 := by omega
  have hx0 : 0 ≤ x := hr.1
  clear hj hc hr hm hu hin
  clear hsh he hce hzs hrg
  go_enter Tryd.func26, Tryd.ntmps26
  go_wp2_with fail
  refine (spec_place 5 n p _).mono ?_
  rintro e w1 ⟨rfl, h1⟩
  have hb1 := (Bs.start 45 47 cs #[.int .i64 5, .int .i64 n, .int .i64 p] z w (HZ.out.trans HSZ.out.symm)).below h1
  rw [Hj.out]
  clear h1
  have d0 := kit.box_cell hb1.2 0 rfl
  have cc : w1.cell? ⟨w.heap.size, 4, none⟩ = some (.int .u32 x) := kit.box_cell hb1.1.2.2.2.1 4 Hc.out
  go_wp2_with fail
  rw [HX.out]
  refine (l5Turned_any x j v HR.out HT.out hj64 _).mono ?_
  rintro e w' ⟨rfl, rfl⟩
  go_wp2_with (first | (refine wl_sst rfl _ _ _ rfl hb1 4 (.int .u32 (turned x j v)) rfl (by show Value.int .u32 (IntKind.u32.wrap (turned x j v)) = _; rw [HW.out]) rfl (by kernel_rfl) (by rw [HSZ.out]; decide) ?_; intro w2 hb2; rw [HE.out] at hb2) | (refine wl_bld rfl _ _ rfl hb2.1 rfl (by kernel_rfl) 136 HS.out.size (by kernel_rfl) ?_) | (refine wl_bsto rfl _ _ _ rfl hb2.1 rfl rfl HS.out.one 136 HS.out.size (by kernel_rfl) ?_; intro w3 h2))
  refine bodyPost_ret (v := .agg ce) (results_cell_row Tryd.results26 _ _ (w.heap.size + 2) 45 ce (0, 0) _ rfl h2.1 Tryd.underlying45 rfl (by rw [HS.out.size]; kernel_rfl)) rfl ⟨rfl, h2.2⟩

set_option maxRecDepth 100000 in
theorem sp_O (cs ce : Array Value) (hsh : Shape cs) (hrg : Rg cs) (k n p : Int) (v : Bool) (h2 : k ≠ 2) (h3 : k ≠ 3) (h4 : k ≠ 4) (h5 : k ≠ 5) (he : pb cs k n v = ce) (hce : Shape ce) (w : World) : Calls Tryd.prog 26 #[.agg cs, .agg #[.int .i64 k, .int .i64 n, .int .i64 p], .bool v] w fun e w' => e = .returned (.agg ce) ∧ Below w.heap.size w w' := by
  obtain ⟨z, hzs, hz⟩ := zero_run (P := Tryd.prog) (t := 45) (n := 136) (by kernel_rfl)
  have HZ := Lib.hid hzs
  have HSZ := Lib.hid hsh.size
  have HS := Lib.hid hce
  obtain rfl : cs = ce := by rw [← he]; unfold pb; rw [if_neg h2, if_neg h3, if_neg h4, if_neg h5]
  obtain ⟨j, hj, hj64⟩ := plc_nat4 k n
  have Hj := Lib.hid hj
  have b2 : (k == 2) = false := beq_eq_false_iff_ne.2 h2
  have b3 : (k == 3) = false := beq_eq_false_iff_ne.2 h3
  have b4 : (k == 4) = false := beq_eq_false_iff_ne.2 h4
  have b5 : (k == 5) = false := beq_eq_false_iff_ne.2 h5
  clear hj h2 h3 h4 h5
  clear hsh he hce hzs hrg
  go_enter Tryd.func26, Tryd.ntmps26
  go_wp2_with fail
  refine (spec_place k n p _).mono ?_
  rintro e w1 ⟨rfl, h1⟩
  have hb1 := (Bs.start 45 47 cs #[.int .i64 k, .int .i64 n, .int .i64 p] z w (HZ.out.trans HSZ.out.symm)).below h1
  rw [Hj.out]
  clear h1
  have d0 := kit.box_cell hb1.2 0 rfl
  go_wp2_with (first | (refine wl_bld rfl _ _ rfl hb1.1 rfl (by kernel_rfl) 136 HS.out.size (by kernel_rfl) ?_) | (refine wl_bsto rfl _ _ _ rfl hb1.1 rfl rfl HS.out.one 136 HS.out.size (by kernel_rfl) ?_; intro w3 h2))
  refine bodyPost_ret (v := .agg cs) (results_cell_row Tryd.results26 _ _ (w.heap.size + 2) 45 cs (0, 0) _ rfl h2.1 Tryd.underlying45 rfl (by rw [HS.out.size]; kernel_rfl)) rfl ⟨rfl, h2.2⟩

theorem sp_any (cs ce : Array Value) (hsh : Shape cs) (hrg : Rg cs) (k n p : Int) (v : Bool) (he : pb cs k n v = ce) (hce : Shape ce) (w : World) : Calls Tryd.prog 26 #[.agg cs, .agg #[.int .i64 k, .int .i64 n, .int .i64 p], .bool v] w fun e w' => e = .returned (.agg ce) ∧ Below w.heap.size w w' := by
  by_cases h2 : k = 2
  · subst h2; exact sp_Y cs ce hsh hrg n p v he hce w
  by_cases h3 : k = 3
  · subst h3; exact sp_M cs ce hsh hrg n p v he hce w
  by_cases h4 : k = 4
  · subst h4; exact sp_S cs ce hsh hrg n p v he hce w
  by_cases h5 : k = 5
  · subst h5; exact sp_E cs ce hsh hrg n p v he hce w
  exact sp_O cs ce hsh hrg k n p v h2 h3 h4 h5 he hce w

end Go.Proofs.YtnffgafofkknoaaDoor.part

/-! MemLaws -/
namespace Go.Proofs.YtnffgafofkknoaaDoor.part
open Go Go.RowKit Go.Proofs.YtnffgafofkknoaaDoor.dev Go.Proofs.YtnffgafofkknoaaDoor.bitm Go.Proofs.YtnffgafofkknoaaDoor.flo
set_option linter.unusedVariables false
set_option linter.unusedSimpArgs false

theorem cel_ne {cs : Array Value} {i j : Nat} {v : Value} (h : i ≠ j) : cel (cs.setIfInBounds i v) j = cel cs j := by
  unfold cel
  rw [Array.getD_eq_getD_getElem?, Array.getElem?_setIfInBounds_ne h, ← Array.getD_eq_getD_getElem?]
theorem cel_eq {cs : Array Value} {i : Nat} {v : Value} (h : i < cs.size) : cel (cs.setIfInBounds i v) i = v := by
  unfold cel
  rw [Array.getD_eq_getD_getElem?, Array.getElem?_setIfInBounds_self_of_lt h]; rfl
theorem set_back {cs : Array Value} {i : Nat} {v u : Value} (h : cs[i]? = some u) : (cs.setIfInBounds i v).setIfInBounds i u = cs := by
  apply Array.ext_getElem?
  intro j
  by_cases e : i = j
  · subst e
    have hi := (Array.getElem?_eq_some_iff.1 h).1
    rw [Array.getElem?_setIfInBounds_self_of_lt (by simpa using hi), h]
  · rw [Array.getElem?_setIfInBounds_ne e, Array.getElem?_setIfInBounds_ne e]
/-- The place of the word of a kind that a bit is put into. -/
def wordAt (k : Int) : Nat := if k = 2 then 1 else if k = 3 then 2 else if k = 4 then 3 else 4
theorem pb_else {cs : Array Value} {k n : Int} {b : Bool} (h : k < 2 ∨ 5 < k) : pb cs k n b = cs := by
  unfold pb
  rw [if_neg (by omega), if_neg (by omega), if_neg (by omega), if_neg (by omega)]
theorem pb_word {cs : Array Value} (hs : Shape cs) (hr : Rg cs) {k n : Int} (h : 2 ≤ k ∧ k ≤ 5) : ∃ (q : IntKind) (x : Int), cs[wordAt k]? = some (.int q x) ∧ 0 ≤ x ∧ ∀ b, pb cs k n b = cs.setIfInBounds (wordAt k) (.int q (turned x (plc k n).toNat b)) := by
  have hk : k = 2 ∨ k = 3 ∨ k = 4 ∨ k = 5 := by omega
  rcases hk with rfl | rfl | rfl | rfl
  · obtain ⟨x, hx⟩ := hs.Y
    exact ⟨_, x, hx, (hr _ _ _ hx).1, fun b => by unfold pb; rw [if_pos rfl, cel_is hx]; rfl⟩
  · obtain ⟨x, hx⟩ := hs.M
    exact ⟨_, x, hx, (hr _ _ _ hx).1, fun b => by unfold pb; rw [if_neg (by decide), if_pos rfl, cel_is hx]; rfl⟩
  · obtain ⟨x, hx⟩ := hs.S
    exact ⟨_, x, hx, (hr _ _ _ hx).1, fun b => by unfold pb; rw [if_neg (by decide), if_neg (by decide), if_pos rfl, cel_is hx]; rfl⟩
  · obtain ⟨x, hx⟩ := hs.E
    exact ⟨_, x, hx, (hr _ _ _ hx).1, fun b => by unfold pb; rw [if_neg (by decide), if_neg (by decide), if_neg (by decide), if_pos rfl, cel_is hx]; rfl⟩
theorem mb_word (cs : Array Value) {k n : Int} (h : 2 ≤ k ∧ k ≤ 5) : mb cs k n = bitAt (numb (cel cs (wordAt k))) (plc k n).toNat := by
  have hk : k = 2 ∨ k = 3 ∨ k = 4 ∨ k = 5 := by omega
  rcases hk with rfl | rfl | rfl | rfl <;> rfl
theorem wordAt_lt {k : Int} : 1 ≤ wordAt k ∧ wordAt k ≤ 4 := by
  unfold wordAt
  repeat' split
  all_goals omega
theorem wordAt_inj {k l : Int} (h : 2 ≤ k ∧ k ≤ 5) (h2 : 2 ≤ l ∧ l ≤ 5) (e : wordAt k = wordAt l) : k = l := by
  have hk : k = 2 ∨ k = 3 ∨ k = 4 ∨ k = 5 := by omega
  have hl : l = 2 ∨ l = 3 ∨ l = 4 ∨ l = 5 := by omega
  rcases hk with rfl | rfl | rfl | rfl <;> rcases hl with rfl | rfl | rfl | rfl <;> first | rfl | (exfalso; revert e; decide)
/-- The bit that was put is read. -/
theorem mb_put {cs : Array Value} (hs : Shape cs) (hr : Rg cs) {k n : Int} (h : 2 ≤ k ∧ k ≤ 5) (b : Bool) : mb (pb cs k n b) k n = b := by
  obtain ⟨q, x, hx, h0, hp⟩ := pb_word (n := n) hs hr h
  rw [mb_word _ h, hp b, cel_eq ((Array.getElem?_eq_some_iff.1 hx).1)]
  exact bitAt_turned x _ b h0
/-- Putting back what was read. -/
theorem pb_back {cs : Array Value} (hs : Shape cs) (hr : Rg cs) {k n : Int} (h : 2 ≤ k ∧ k ≤ 5) (b : Bool) (hs2 : Shape (pb cs k n b)) (hr2 : Rg (pb cs k n b)) : pb (pb cs k n b) k n (mb cs k n) = cs := by
  obtain ⟨q, x, hx, h0, hp⟩ := pb_word (n := n) hs hr h
  obtain ⟨q2, x2, hx2, h02, hp2⟩ := pb_word (n := n) hs2 hr2 h
  rw [hp2, mb_word _ h, cel_is hx]
  rw [hp b, Array.getElem?_setIfInBounds_self_of_lt ((Array.getElem?_eq_some_iff.1 hx).1)] at hx2
  have e := Option.some.inj hx2
  injection e with e1 e2
  rw [← e1, ← e2, hp b, show numb (.int q x) = x from rfl, turned_back x _ b h0]
  exact set_back hx
theorem mw_put {cs : Array Value} (hs : Shape cs) (hr : Rg cs) {k n : Int} (h : 2 ≤ k ∧ k ≤ 5) (b : Bool) (k2 n2 : Int) : mw (pb cs k n b) k2 n2 = mw cs k2 n2 := by
  obtain ⟨q, x, hx, h0, hp⟩ := pb_word (n := n) hs hr h
  have hw := wordAt_lt (k := k)
  unfold mw
  rw [hp b, cel_ne (by omega), cel_ne (by omega), cel_ne (by omega)]
theorem plc_ok {k n p : Int} (h : 1 ≤ k ∧ k ≤ 5) (hd : dok k n p = true) : (plc k n).toNat = n.toNat ∧ 0 ≤ n ∧ p = 0 := by
  rw [dokx (by omega) (by omega) (by omega), decide_eq_true_iff] at hd
  obtain ⟨h1, h2, h3⟩ := hd
  have hc : cnt k = size k := by unfold cnt; rw [if_neg (by omega)]
  refine ⟨?_, h1, h3⟩
  unfold plc
  rw [hc, if_neg (by omega), Int.emod_eq_of_lt h1 h2]
/-- Any other bit stays. -/
theorem mb_else {cs : Array Value} (hs : Shape cs) (hr : Rg cs) {k n p k2 n2 p2 : Int} (h : 2 ≤ k ∧ k ≤ 5) (b : Bool) (hd : dok k n p = true) (hd2 : dok k2 n2 p2 = true) (hne : ¬ (k2 = k ∧ n2 = n ∧ p2 = p)) : mb (pb cs k n b) k2 n2 = mb cs k2 n2 := by
  obtain ⟨q, x, hx, h0, hp⟩ := pb_word (n := n) hs hr h
  have hw := wordAt_lt (k := k)
  by_cases h2 : 2 ≤ k2 ∧ k2 ≤ 5
  · rw [mb_word _ h2, mb_word _ h2, hp b]
    by_cases e : k2 = k
    · subst e
      rw [cel_eq ((Array.getElem?_eq_some_iff.1 hx).1), cel_is hx]
      have a1 := plc_ok (by omega) hd
      have a2 := plc_ok (by omega) hd2
      exact bitAt_other x _ _ b h0 (by rw [a1.1, a2.1]; intro e; exact hne ⟨rfl, by omega, by omega⟩)
    · rw [cel_ne (fun x => e (wordAt_inj h2 h x.symm))]
  · unfold mb
    rw [hp b]
    rw [if_neg (show ¬ k2 = 2 by omega), if_neg (show ¬ k2 = 3 by omega), if_neg (show ¬ k2 = 4 by omega), if_neg (show ¬ k2 = 5 by omega), if_neg (show ¬ k2 = 2 by omega), if_neg (show ¬ k2 = 3 by omega), if_neg (show ¬ k2 = 4 by omega), if_neg (show ¬ k2 = 5 by omega)]
    unfold given
    rw [cel_ne (by omega), cel_ne (by omega), cel_ne (by omega), cel_ne (by omega), cel_ne (by omega), cel_ne (by omega)]
/-- A whole number put and put back. -/
theorem mw_pw {cs : Array Value} (hs : Shape cs) (n v : Int) : mw (pw cs 9 n v) 9 n = v ∧ pw (pw cs 9 n v) 9 n (mw cs 9 n) = cs := by
  obtain ⟨j, hj, hlt⟩ := plc_nat2 (k := 9) (n := n) (c := 32) rfl (by decide)
  obtain ⟨x, hx⟩ := hs.D j (by omega)
  have hlen := (Array.getElem?_eq_some_iff.1 hx).1
  unfold pw mw
  rw [if_pos rfl, if_neg (by decide), if_neg (by decide), if_pos rfl, hj, Int.toNat_natCast, cel_eq hlen]
  refine ⟨rfl, ?_⟩
  rw [if_pos rfl, if_neg (by decide), if_neg (by decide), if_pos rfl, cel_is hx]
  exact set_back hx
theorem mr_pr {cs : Array Value} (hs : Shape cs) (n p : Int) (v x : Nat) (h : Mr (pr cs 10 n v) 10 n p x) : x = v := by
  obtain ⟨j, hj, hlt⟩ := plc_nat2 (k := 10) (n := n) (c := 16) rfl (by decide)
  obtain ⟨y, hy⟩ := hs.R j (by omega)
  have hlen := (Array.getElem?_eq_some_iff.1 hy).1
  unfold Mr pr at h
  rw [if_pos rfl, if_pos rfl, hj, Int.toNat_natCast, cel_eq hlen] at h
  exact h
theorem pr_back {cs : Array Value} (hs : Shape cs) (n p : Int) (v x : Nat) (h : Mr cs 10 n p x) : pr (pr cs 10 n v) 10 n x = cs := by
  obtain ⟨j, hj, hlt⟩ := plc_nat2 (k := 10) (n := n) (c := 16) rfl (by decide)
  obtain ⟨y, hy⟩ := hs.R j (by omega)
  unfold Mr at h
  rw [if_pos rfl, hj, Int.toNat_natCast, cel_is hy] at h
  unfold pr
  rw [if_pos rfl, if_pos rfl, hj, Int.toNat_natCast, h]
  exact set_back hy
/-- Round the area. -/
theorem plc_round {k n q : Int} (h : cnt k ≠ 0) : plc k (n + cnt k * q) = plc k n := by
  unfold plc
  rw [if_neg h, if_neg h, Int.add_mul_emod_self_left]
theorem mb_plc {cs : Array Value} {k n m : Int} (h : plc k n = plc k m) : mb cs k n = mb cs k m := by unfold mb; rw [h]
theorem mw_plc {cs : Array Value} {k n m : Int} (h : plc k n = plc k m) (h11 : k ≠ 11) : mw cs k n = mw cs k m := by unfold mw; rw [h, if_neg h11, if_neg h11]
end Go.Proofs.YtnffgafofkknoaaDoor.part

/-! Hx -/
namespace Go.Proofs.YtnffgafofkknoaaDoor.part
open Go Go.RowKit Go.Proofs.YtnffgafofkknoaaDoor.dev
set_option linter.unusedVariables false
set_option linter.unusedSimpArgs false
set_option maxRecDepth 100000

def Hx (W : World) (bs : List (Nat × Array Value)) (w : World) : Prop := Below W.heap.size W w ∧ ∀ p ∈ bs, W.heap.size ≤ p.1 ∧ ∃ t, w.heap[p.1]? = some (.cells p.2 t (0, 0))
theorem Hx.below {W w w1 : World} {bs : List (Nat × Array Value)} (h : Hx W bs w) (hb : Below w.heap.size w w1) : Hx W bs w1 :=
  ⟨h.1.trans (hb.mono h.1.size), fun p hp => by obtain ⟨a, t, e⟩ := h.2 p hp; exact ⟨a, t, kit.box_keep e hb (kit.box_lt e)⟩⟩
theorem Hx.alloc {W w : World} {bs : List (Nat × Array Value)} (h : Hx W bs w) (o : Obj) : Hx W bs (w.alloc o) := h.below ((Below.refl _ _).alloc (Nat.le_refl _) _)
theorem Hx.drew {W w : World} {bs : List (Nat × Array Value)} (h : Hx W bs w) : Hx W bs { w with drawn := w.drawn + 1 } := h.below ⟨rfl, rfl, rfl, Nat.le_refl _, fun _ _ => rfl⟩
theorem Hx.nil {W w : World} (h : Below W.heap.size W w) : Hx W [] w := ⟨h, fun p hp => by cases hp⟩
theorem Hx.box {W w : World} {bs : List (Nat × Array Value)} (h : Hx W bs w) (cs : Array Value) (t : TypeId) : Hx W ((w.heap.size, cs) :: bs) (w.alloc (.cells cs t)) := by
  have h2 := h.alloc (.cells cs t)
  refine ⟨h2.1, fun p hp => ?_⟩
  rcases List.mem_cons.1 hp with rfl | hp
  · exact ⟨h.1.size, t, heap_alloc_new _ _⟩
  · exact h2.2 p hp
theorem Hx.cell {W w : World} {bs : List (Nat × Array Value)} (h : Hx W bs w) {g : Nat} {cs : Array Value} (hm : (g, cs) ∈ bs) (i : Nat) {v : Value} (hv : cs[i]? = some v) : w.cell? ⟨g, i, none⟩ = some v := by
  obtain ⟨_, t, e⟩ := h.2 _ hm
  exact kit.box_cell e i hv

section
variable {P : Program} {ops : Array Oper} {rest : List Oper} {o : Oper} {a : Act} {w W : World} {K : Act → World → Prop} {Q : Exit → Act → World → Prop} {g : Nat} {cs : Array Value} {bs : List (Nat × Array Value)}
theorem ow_hx (ty : TypeId) (x : Operand) (ho : o.op = .load ty x) (hst : Hx W bs w) (hm : (g, cs) ∈ bs) (hx : a.eval x = .pointer (some ⟨g, 0, none⟩)) (hu : aggB P ty = true) (n : Nat) (hn : cs.size = n) (hi : (P.info? ty).map (·.size) = some n)
    (h : K (a.put o.dst (.agg cs)) w) : o.wp P a w K Q := by
  obtain ⟨_, t, e⟩ := hst.2 _ hm
  exact ow_hld ty x ho e hx hu n hn hi h
theorem ow_hxf (ty : TypeId) (x : Operand) (ho : o.op = .load ty x) (hst : Hx W bs w) (hm : (g, cs) ∈ bs) (off : Nat) (v : Value) (hv : cs[off]? = some v) (hx : a.eval x = .pointer (some ⟨g, off, none⟩)) (hu : scalarB P ty = true)
    (h : K (a.put o.dst v) w) : o.wp P a w K Q := by
  have hc := hst.cell hm off hv
  have e : (loadVar ty ⟨g, off, none⟩).run P w = .ok v w := by simp [loadVar, Sem.run_bind, scalar_run hu w, hc]
  unfold Oper.wp execOp
  simp only [ho, hx, Instr.loadAt, Instr.sureAddr, Sem.run_bind, Sem.run_pure, Result.andThen_ok, e]
  exact h
theorem wl_hx (hgd : o.guard = none) (ty : TypeId) (x : Operand) (ho : o.op = .load ty x) (hst : Hx W bs w) (hm : (g, cs) ∈ bs) (hx : a.eval x = .pointer (some ⟨g, 0, none⟩)) (hu : aggB P ty = true) (n : Nat) (hn : cs.size = n) (hi : (P.info? ty).map (·.size) = some n)
    (h : wpList P ops Q rest (a.put o.dst (.agg cs)) w) : wpList P ops Q (o :: rest) a w :=
  wpList_plain hgd fun _ hK => ow_hx ty x ho hst hm hx hu n hn hi (hK _ _ h)
theorem wl_fill (hgd : o.guard = none) (ty : TypeId) (x y : Operand) (ho : o.op = .store ty x y) (hst : Hx W bs w) (t : TypeId) (old : Array Value) (hg : w.heap[g]? = some (.cells old t (0, 0))) (hW : W.heap.size ≤ g) (hne : ∀ p ∈ bs, p.1 ≠ g) (hx : a.eval x = .pointer (some ⟨g, 0, none⟩)) (hy : a.eval y = .agg cs) (h1 : ∀ v ∈ cs, v.oneCell' = true) (n : Nat) (hn : cs.size = n) (hold : old.size = n) (hi : (P.info? ty).map (·.size) = some n)
    (h : ∀ w1, Hx W ((g, cs) :: bs) w1 → (∀ k, k ≠ g → w1.heap[k]? = w.heap[k]?) → wpList P ops Q rest (a.put o.dst undef) w1) : wpList P ops Q (o :: rest) a w := by
  refine wl_pst hgd ty x y ho hg 0 n cs hx hy h1 hn hi (by omega) fun w1 cs1 a1 a2 _ a4 a5 a6 a7 => h w1 ?_ a6
  have e : cs1 = cs := by
    apply Array.ext (by omega)
    intro i k1 k2
    have := a4 i (by omega)
    rw [Nat.zero_add, Array.getElem?_eq_getElem k1, Array.getElem?_eq_getElem k2] at this
    exact Option.some.inj this
  subst e
  refine ⟨hst.1.trans (a7.mono hW), fun p hp => ?_⟩
  rcases List.mem_cons.1 hp with rfl | hp
  · exact ⟨hW, t, a1⟩
  · obtain ⟨b1, t2, b2⟩ := hst.2 p hp
    exact ⟨b1, t2, (a6 p.1 (hne p hp)).trans b2⟩
theorem wp_genH {c : Code} (h : Hx W bs w) (k : ∀ w1, Hx W bs w1 → c.wp P Q a w1) : c.wp P Q a w := k w h
end
theorem Hx.far {W w : World} {bs : List (Nat × Array Value)} (h : Hx W bs w) {g : Nat} (hg : w.heap.size ≤ g) : ∀ p ∈ bs, p.1 ≠ g := fun p hp e => by
  obtain ⟨_, t, b⟩ := h.2 p hp
  have := kit.box_lt b
  omega
theorem dev_one (k n p : Int) : ∀ v ∈ #[Value.int .i64 k, .int .i64 n, .int .i64 p], v.oneCell' = true := by
  intro v hv
  simp at hv
  rcases hv with rfl | rfl | rfl <;> rfl
theorem code_of {W : World} {A : Option Addr} {l : List Int} {c : Nat} (h : draws.Code_ W A l c) {w : World} (hb : Below W.heap.size W w) : draws.Code_ w A l c :=
  ⟨h.1.below hb, h.2⟩
end Go.Proofs.YtnffgafofkknoaaDoor.part

/-! WrSame -/
namespace Go.Proofs.YtnffgafofkknoaaDoor.flo
open Go.RowKit
set_option linter.unusedVariables false
set_option linter.unusedSimpArgs false

theorem wr_nan (x y : Nat) (w : World) (hx : isNan x = true) (hy : isNan y = true) : Calls Tryd.prog 34 #[.float .f64 x, .float .f64 y] w fun e w' => e = .returned (.bool true) ∧ w = w' := by
  have ox := order_nan_left (y := x) hx
  have oy := order_nan_left (y := y) hy
  clear hx hy
  go_enter Tryd.func34, Tryd.ntmps34
  go_wp2
  go_ret
  exact ⟨rfl, rfl⟩

theorem wr_num (x : Nat) (w : World) (hx : isNan x = false) : Calls Tryd.prog 34 #[.float .f64 x, .float .f64 x] w fun e w' => e = .returned (.bool true) ∧ w = w' := by
  have ox := order_self hx
  obtain ⟨c, hc⟩ := order_num (y := 0) hx (by decide +kernel)
  clear hx
  cases c with
  | eq =>
    obtain ⟨q, hq⟩ := one_by_zero hc
    have rq := fun (w : World) => run_float_arith (P := Tryd.prog) w .quo 33 .f64 _ _ _ hq
    clear hq
    go_enter Tryd.func34, Tryd.ntmps34
    go_wp2
    go_ret
    exact ⟨rfl, rfl⟩
  | lt =>
    go_enter Tryd.func34, Tryd.ntmps34
    go_wp2
    go_ret
    exact ⟨rfl, rfl⟩
  | gt =>
    go_enter Tryd.func34, Tryd.ntmps34
    go_wp2
    go_ret
    exact ⟨rfl, rfl⟩

theorem wr_any (x y : Nat) (w : World) (h : Same x y) : Calls Tryd.prog 34 #[.float .f64 x, .float .f64 y] w fun e w' => e = .returned (.bool true) ∧ w = w' := by
  rcases h with ⟨hx, hy⟩ | rfl
  · exact wr_nan x y w hx hy
  · cases hx : isNan x with
    | true => exact wr_nan x x w hx hx
    | false => exact wr_num x w hx
end Go.Proofs.YtnffgafofkknoaaDoor.flo

/-! MemLawsB -/
namespace Go.Proofs.YtnffgafofkknoaaDoor.part
open Go Go.RowKit Go.Proofs.YtnffgafofkknoaaDoor.dev Go.Proofs.YtnffgafofkknoaaDoor.bitm
set_option linter.unusedVariables false
set_option linter.unusedSimpArgs false
set_option maxRecDepth 100000

theorem pb_rg {cs : Array Value} (hs : Shape cs) (hr : Rg cs) (k n : Int) (b : Bool) : Rg (pb cs k n b) := by
  unfold pb
  split
  · rename_i e
    subst e
    obtain ⟨x, hx⟩ := hs.Y
    obtain ⟨j, hj, hlt⟩ := plc_nat3 (k := 2) (n := n) (c := size 2) rfl (by decide)
    have hlt : (j : Int) < 32 := hlt
    have hu : un .u32 := by unfold un; simp
    have h0 := un_lt3 hu (hr _ _ _ hx)
    rw [cel_is hx, hj, Int.toNat_natCast]
    exact hr.put _ _ (fun q a e => by cases e; exact un_rg3 hu (turned_in 32 x j b h0.1 h0.2 (by omega)))
  split
  · rename_i e
    subst e
    obtain ⟨x, hx⟩ := hs.M
    obtain ⟨j, hj, hlt⟩ := plc_nat3 (k := 3) (n := n) (c := size 3) rfl (by decide)
    have hlt : (j : Int) < 64 := hlt
    have hu : un .u64 := by unfold un; simp
    have h0 := un_lt3 hu (hr _ _ _ hx)
    rw [cel_is hx, hj, Int.toNat_natCast]
    exact hr.put _ _ (fun q a e => by cases e; exact un_rg3 hu (turned_in 64 x j b h0.1 h0.2 (by omega)))
  split
  · rename_i e
    subst e
    obtain ⟨x, hx⟩ := hs.S
    obtain ⟨j, hj, hlt⟩ := plc_nat3 (k := 4) (n := n) (c := size 4) rfl (by decide)
    have hlt : (j : Int) < 16 := hlt
    have hu : un .u16 := by unfold un; simp
    have h0 := un_lt3 hu (hr _ _ _ hx)
    rw [cel_is hx, hj, Int.toNat_natCast]
    exact hr.put _ _ (fun q a e => by cases e; exact un_rg3 hu (turned_in 16 x j b h0.1 h0.2 (by omega)))
  split
  · rename_i e
    subst e
    obtain ⟨x, hx⟩ := hs.E
    obtain ⟨j, hj, hlt⟩ := plc_nat3 (k := 5) (n := n) (c := size 5) rfl (by decide)
    have hlt : (j : Int) < 32 := hlt
    have hu : un .u32 := by unfold un; simp
    have h0 := un_lt3 hu (hr _ _ _ hx)
    rw [cel_is hx, hj, Int.toNat_natCast]
    exact hr.put _ _ (fun q a e => by cases e; exact un_rg3 hu (turned_in 32 x j b h0.1 h0.2 (by omega)))
  · exact hr
theorem dev_eq (k n p l m q : Int) (w : World) : (Op.equalIn 10000 47 (.agg #[.int .i64 k, .int .i64 n, .int .i64 p]) (.agg #[.int .i64 l, .int .i64 m, .int .i64 q])).run Tryd.prog w = .ok ((k == l) && ((n == m) && ((p == q) && true))) w := by
  rw [run_equalIn_struct w _ _ _ _ (by kernel_rfl) (by kernel_rfl)]
  refine ef_cons (by rfl) (psc (by kernel_rfl) rfl) (psc (by kernel_rfl) rfl) (run_equalIn_int w _ _ _ _ _ _ Tryd.underlying3) ?_
  refine ef_cons (by rfl) (psc (by kernel_rfl) rfl) (psc (by kernel_rfl) rfl) (run_equalIn_int w _ _ _ _ _ _ Tryd.underlying3) ?_
  refine ef_cons (by rfl) (psc (by kernel_rfl) rfl) (psc (by kernel_rfl) rfl) (run_equalIn_int w _ _ _ _ _ _ Tryd.underlying3) ?_
  exact ef_nil
theorem dev_neq {k n p l m q : Int} {b : Bool} (h : b = !decide (k = l ∧ n = m ∧ p = q)) (w : World) : (binOp .neq 47 (.agg #[.int .i64 k, .int .i64 n, .int .i64 p]) (.agg #[.int .i64 l, .int .i64 m, .int .i64 q])).run Tryd.prog w = .ok (.bool b) w := by
  have e : b = !((k == l) && ((n == m) && ((p == q) && true))) := by
    rw [h]
    by_cases h1 : k = l <;> by_cases h2 : n = m <;> by_cases h3 : p = q <;> simp [h1, h2, h3]
  rw [e, run_neq_struct, dev_eq]
  rfl
end Go.Proofs.YtnffgafofkknoaaDoor.part
