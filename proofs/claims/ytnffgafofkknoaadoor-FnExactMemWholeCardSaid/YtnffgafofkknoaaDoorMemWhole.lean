/-
  'MemWhole' of both sides: what they return.
  Conditions: the cells have the kinds of a memory; the variable 'devSizes' holds its numbers.
-/
import Derived.Test.YtnffgafofkknoaaDoorBox
import Derived.Test.YtnffgafofkknoaaDoorPlace
namespace Go.Proofs.YtnffgafofkknoaaDoor.part
open Go Go.RowKit Go.Proofs.YtnffgafofkknoaaDoor.dev
set_option linter.unusedVariables false
set_option linter.unusedSimpArgs false

def num : Value → Int | .int _ q => q | _ => 0
def least (c : Int) : Int := if 32767 < c then 32767 else IntKind.i16.wrap c
def mw (cs : Array Value) (k n : Int) : Int :=
  if k = 7 then least (num (cel cs (5 + ((plc k n).toNat * 2 + 1)))) else if k = 8 then least (num (cel cs (37 + ((plc k n).toNat * 3 + 2)))) else if k = 9 then num (cel cs (85 + (plc k n).toNat)) else if k = 11 then IntKind.i16.wrap n else 0

theorem least_min (c : Int) : IntKind.i16.wrap (min c 32767) = least c := by
  unfold least
  split
  · rw [Int.min_eq_right (by omega)]; rfl
  · rw [Int.min_eq_left (by omega)]
theorem plc_nat {k n c : Int} (hc : cnt k = c) (h : c ≠ 0) : ∃ j : Nat, plc k n = j ∧ (j : Int) < c := by
  have h1 := plc_in k n
  obtain ⟨j, e⟩ := Int.eq_ofNat_of_zero_le h1.1
  exact ⟨j, e, by rw [← e, ← hc]; exact h1.2 (by rw [hc]; exact h)⟩

set_option maxRecDepth 100000 in
theorem iw_T (cs : Array Value) (hsh : Shape cs) (n p : Int) (w : World) (hs : Sizes w) : Calls Tryd.prog 15 #[.agg cs, .agg #[.int .i64 7, .int .i64 n, .int .i64 p]] w fun e w' => e = .returned (.int .i16 (mw cs 7 n)) ∧ Below w.heap.size w w' := by
  obtain ⟨j, hj, hlt⟩ := plc_nat (k := 7) (n := n) (c := 16) rfl (by decide)
  obtain ⟨d, c, _, hc⟩ := hsh.T j (by omega)
  have Hv := Lib.hid (show least c = mw cs 7 n by unfold mw; rw [if_pos rfl, hj, Int.toNat_natCast, cel_is hc]; rfl)
  have Hj := Lib.hid hj
  have Hc := Lib.hid hc
  clear hj hc
  have Hsz := Lib.hid hsh.size
  have ka := heap_alloc2_old w (.cells cs 45) (.cells #[.int .i64 7, .int .i64 n, .int .i64 p] 47)
  have kd := heap_alloc2_new w (.cells cs 45) (.cells #[.int .i64 7, .int .i64 n, .int .i64 p] 47)
  have B0 := Lib.hid (((Below.refl w.heap.size w).alloc (Nat.le_refl _) (.cells cs 45)).alloc (by simp) (.cells #[.int .i64 7, .int .i64 n, .int .i64 p] 47))
  have Ka := Lib.hid ka
  have Kd := Lib.hid kd
  clear ka kd hsh
  have Hs := Lib.hid ((hs.alloc (.cells cs 45)).alloc (.cells #[.int .i64 7, .int .i64 n, .int .i64 p] 47))
  clear hs
  go_enter Tryd.func15, Tryd.ntmps15
  go_wp2_with fail
  refine (impl_place 7 n p _ Hs.out).mono ?_
  rintro e w1 ⟨rfl, h1⟩
  have k1 := kit.box_keep Ka.out h1 (kit.box_lt Ka.out)
  have k2 := kit.box_keep Kd.out h1 (kit.box_lt Kd.out)
  have B1 := Lib.hid (B0.out.trans (h1.mono B0.out.size))
  have d0 := kit.box_cell k2 0 rfl
  have d1 := kit.box_cell k2 1 rfl
  have d2 := kit.box_cell k2 2 rfl
  clear h1 k2 Ka Kd B0
  rw [Hj.out]
  have cc : w1.cell? ⟨w.heap.size, 5 + j * 2 + 1, none⟩ = some (.int .u16 c) := kit.box_cell k1 (5 + (j * 2 + 1)) Hc.out
  clear k1
  go_wp2_with fail
  all_goals
    go_ret
    exact ⟨kit.ret_int (by have := Hv.out; rw [← this]; unfold least; first | (rw [if_pos (by omega)]; rfl) | (rw [if_neg (by omega)])), B1.out⟩

set_option maxRecDepth 100000 in
theorem iw_C (cs : Array Value) (hsh : Shape cs) (n p : Int) (w : World) (hs : Sizes w) : Calls Tryd.prog 15 #[.agg cs, .agg #[.int .i64 8, .int .i64 n, .int .i64 p]] w fun e w' => e = .returned (.int .i16 (mw cs 8 n)) ∧ Below w.heap.size w w' := by
  obtain ⟨j, hj, hlt⟩ := plc_nat (k := 8) (n := n) (c := 16) rfl (by decide)
  obtain ⟨d, l, c, _, _, hc⟩ := hsh.C j (by omega)
  have Hv := Lib.hid (show least c = mw cs 8 n by unfold mw; rw [if_neg (by decide), if_pos rfl, hj, Int.toNat_natCast, cel_is hc]; rfl)
  have Hj := Lib.hid hj
  have Hc := Lib.hid hc
  clear hj hc
  have Hsz := Lib.hid hsh.size
  have ka := heap_alloc2_old w (.cells cs 45) (.cells #[.int .i64 8, .int .i64 n, .int .i64 p] 47)
  have kd := heap_alloc2_new w (.cells cs 45) (.cells #[.int .i64 8, .int .i64 n, .int .i64 p] 47)
  have B0 := Lib.hid (((Below.refl w.heap.size w).alloc (Nat.le_refl _) (.cells cs 45)).alloc (by simp) (.cells #[.int .i64 8, .int .i64 n, .int .i64 p] 47))
  have Ka := Lib.hid ka
  have Kd := Lib.hid kd
  clear ka kd hsh
  have Hs := Lib.hid ((hs.alloc (.cells cs 45)).alloc (.cells #[.int .i64 8, .int .i64 n, .int .i64 p] 47))
  clear hs
  go_enter Tryd.func15, Tryd.ntmps15
  go_wp2_with fail
  refine (impl_place 8 n p _ Hs.out).mono ?_
  rintro e w1 ⟨rfl, h1⟩
  have k1 := kit.box_keep Ka.out h1 (kit.box_lt Ka.out)
  have k2 := kit.box_keep Kd.out h1 (kit.box_lt Kd.out)
  have B1 := Lib.hid (B0.out.trans (h1.mono B0.out.size))
  have d0 := kit.box_cell k2 0 rfl
  have d1 := kit.box_cell k2 1 rfl
  have d2 := kit.box_cell k2 2 rfl
  clear h1 k2 Ka Kd B0
  rw [Hj.out]
  have cc : w1.cell? ⟨w.heap.size, 37 + j * 3 + 2, none⟩ = some (.int .u16 c) := kit.box_cell k1 (37 + (j * 3 + 2)) Hc.out
  clear k1
  go_wp2_with fail
  all_goals
    go_ret
    exact ⟨kit.ret_int (by have := Hv.out; rw [← this]; unfold least; first | (rw [if_pos (by omega)]; rfl) | (rw [if_neg (by omega)])), B1.out⟩

set_option maxRecDepth 100000 in
theorem iw_D (cs : Array Value) (hsh : Shape cs) (n p : Int) (w : World) (hs : Sizes w) : Calls Tryd.prog 15 #[.agg cs, .agg #[.int .i64 9, .int .i64 n, .int .i64 p]] w fun e w' => e = .returned (.int .i16 (mw cs 9 n)) ∧ Below w.heap.size w w' := by
  obtain ⟨j, hj, hlt⟩ := plc_nat (k := 9) (n := n) (c := 32) rfl (by decide)
  obtain ⟨c, hc⟩ := hsh.D j (by omega)
  have Hv := Lib.hid (show c = mw cs 9 n by unfold mw; rw [if_neg (by decide), if_neg (by decide), if_pos rfl, hj, Int.toNat_natCast, cel_is hc]; rfl)
  have Hj := Lib.hid hj
  have Hc := Lib.hid hc
  clear hj hc
  have Hsz := Lib.hid hsh.size
  have ka := heap_alloc2_old w (.cells cs 45) (.cells #[.int .i64 9, .int .i64 n, .int .i64 p] 47)
  have kd := heap_alloc2_new w (.cells cs 45) (.cells #[.int .i64 9, .int .i64 n, .int .i64 p] 47)
  have B0 := Lib.hid (((Below.refl w.heap.size w).alloc (Nat.le_refl _) (.cells cs 45)).alloc (by simp) (.cells #[.int .i64 9, .int .i64 n, .int .i64 p] 47))
  have Ka := Lib.hid ka
  have Kd := Lib.hid kd
  clear ka kd hsh
  have Hs := Lib.hid ((hs.alloc (.cells cs 45)).alloc (.cells #[.int .i64 9, .int .i64 n, .int .i64 p] 47))
  clear hs
  go_enter Tryd.func15, Tryd.ntmps15
  go_wp2_with fail
  refine (impl_place 9 n p _ Hs.out).mono ?_
  rintro e w1 ⟨rfl, h1⟩
  have k1 := kit.box_keep Ka.out h1 (kit.box_lt Ka.out)
  have k2 := kit.box_keep Kd.out h1 (kit.box_lt Kd.out)
  have B1 := Lib.hid (B0.out.trans (h1.mono B0.out.size))
  have d0 := kit.box_cell k2 0 rfl
  have d1 := kit.box_cell k2 1 rfl
  have d2 := kit.box_cell k2 2 rfl
  clear h1 k2 Ka Kd B0
  rw [Hj.out]
  have cc : w1.cell? ⟨w.heap.size, 85 + j, none⟩ = some (.int .i16 c) := kit.box_cell k1 (85 + j) Hc.out
  clear k1
  go_wp2_with fail
  go_ret
  exact ⟨kit.ret_int Hv.out, B1.out⟩

theorem w16 (n : Int) : IntKind.i16.wrap n = (n + 32768) % 65536 - 32768 := by
  simp [IntKind.wrap, IntKind.bits, IntKind.signed]
  omega
theorem least_any (c : Int) (w : World) : Calls Tryd.prog 37 #[.int .u16 c] w fun e w' => e = .returned (.int .i16 (least c)) ∧ w = w' := by
  by_cases h : 32767 < c
  · have Hv := Lib.hid (show 32767 = least c by unfold least; rw [if_pos h])
    go_enter Tryd.func37, Tryd.ntmps37
    go_wp2
    go_ret
    exact ⟨kit.ret_int Hv.out, rfl⟩
  · have Hv := Lib.hid (show IntKind.i16.wrap c = least c by unfold least; rw [if_neg h])
    have hd : decide (32767 < c) = false := decide_eq_false h
    go_enter Tryd.func37, Tryd.ntmps37
    go_wp2
    go_ret
    exact ⟨kit.ret_int Hv.out, rfl⟩
theorem wrap_any (n : Int) (w : World) : Calls Tryd.prog 38 #[.int .i64 n] w fun e w' => e = .returned (.int .i16 (IntKind.i16.wrap n)) ∧ w = w' := by
  have hm := Int.tmod_add_tdiv_mul n 65536
  have hb : -65536 < Int.tmod n 65536 ∧ Int.tmod n 65536 < 65536 := by
    have h6 : (Int.tmod n 65536).natAbs < (65536 : Int).natAbs := by rw [Int.natAbs_tmod]; exact Nat.mod_lt _ (by decide)
    omega
  by_cases h1 : Int.tmod n 65536 < -32768
  · have Hv := Lib.hid (show IntKind.i16.wrap (wrap64 (Int.tmod n 65536 + 65536)) = IntKind.i16.wrap n by rw [w64' _ (by omega), w16, w16]; omega)
    have h2 : ¬ 32767 < wrap64 (Int.tmod n 65536 + 65536) := by rw [w64' _ (by omega)]; omega
    have h3 : decide (32767 < wrap64 (Int.tmod n 65536 + 65536)) = false := decide_eq_false h2
    clear hm hb
    go_enter Tryd.func38, Tryd.ntmps38
    go_wp2
    go_ret
    exact ⟨kit.ret_int Hv.out, rfl⟩
  · have g1 : decide (Int.tmod n 65536 < -32768) = false := decide_eq_false h1
    by_cases h2 : 32767 < Int.tmod n 65536
    · have Hv := Lib.hid (show IntKind.i16.wrap (wrap64 (Int.tmod n 65536 - 65536)) = IntKind.i16.wrap n by rw [w64' _ (by omega), w16, w16]; omega)
      clear hm hb
      go_enter Tryd.func38, Tryd.ntmps38
      go_wp2
      go_ret
      exact ⟨kit.ret_int Hv.out, rfl⟩
    · have g2 : decide (32767 < Int.tmod n 65536) = false := decide_eq_false h2
      have Hv := Lib.hid (show Int.tmod n 65536 = IntKind.i16.wrap n by rw [w16]; omega)
      clear hm hb
      go_enter Tryd.func38, Tryd.ntmps38
      go_wp2
      go_ret
      exact ⟨kit.ret_int Hv.out, rfl⟩

set_option maxRecDepth 100000 in
theorem sw_T (cs : Array Value) (hsh : Shape cs) (n p : Int) (w : World) : Calls Tryd.prog 12 #[.agg cs, .agg #[.int .i64 7, .int .i64 n, .int .i64 p]] w fun e w' => e = .returned (.int .i16 (mw cs 7 n)) ∧ Below w.heap.size w w' := by
  obtain ⟨j, hj, hlt⟩ := plc_nat (k := 7) (n := n) (c := 16) rfl (by decide)
  obtain ⟨d, c, _, hc⟩ := hsh.T j (by omega)
  have Hv := Lib.hid (show least c = mw cs 7 n by unfold mw; rw [if_pos rfl, hj, Int.toNat_natCast, cel_is hc]; rfl)
  have Hj := Lib.hid hj
  have Hc := Lib.hid hc
  clear hj hc
  have Hsz := Lib.hid hsh.size
  have ka := heap_alloc2_old w (.cells cs 45) (.cells #[.int .i64 7, .int .i64 n, .int .i64 p] 47)
  have kd := heap_alloc2_new w (.cells cs 45) (.cells #[.int .i64 7, .int .i64 n, .int .i64 p] 47)
  have B0 := Lib.hid (((Below.refl w.heap.size w).alloc (Nat.le_refl _) (.cells cs 45)).alloc (by simp) (.cells #[.int .i64 7, .int .i64 n, .int .i64 p] 47))
  have Ka := Lib.hid ka
  have Kd := Lib.hid kd
  clear ka kd hsh
  go_enter Tryd.func12, Tryd.ntmps12
  go_wp2_with fail
  refine (spec_place 7 n p _).mono ?_
  rintro e w1 ⟨rfl, h1⟩
  have k1 := kit.box_keep Ka.out h1 (kit.box_lt Ka.out)
  have k2 := kit.box_keep Kd.out h1 (kit.box_lt Kd.out)
  have B1 := Lib.hid (B0.out.trans (h1.mono B0.out.size))
  have d0 := kit.box_cell k2 0 rfl
  have d1 := kit.box_cell k2 1 rfl
  have d2 := kit.box_cell k2 2 rfl
  clear h1 k2 Ka Kd B0
  rw [Hj.out]
  have cc : w1.cell? ⟨w.heap.size, 5 + j * 2 + 1, none⟩ = some (.int .u16 c) := kit.box_cell k1 (5 + (j * 2 + 1)) Hc.out
  clear k1
  go_wp2_with fail
  refine (least_any _ _).mono ?_
  rintro e w' ⟨rfl, rfl⟩
  go_wp2_with fail
  go_ret
  exact ⟨kit.ret_int Hv.out, B1.out⟩

set_option maxRecDepth 100000 in
theorem sw_C (cs : Array Value) (hsh : Shape cs) (n p : Int) (w : World) : Calls Tryd.prog 12 #[.agg cs, .agg #[.int .i64 8, .int .i64 n, .int .i64 p]] w fun e w' => e = .returned (.int .i16 (mw cs 8 n)) ∧ Below w.heap.size w w' := by
  obtain ⟨j, hj, hlt⟩ := plc_nat (k := 8) (n := n) (c := 16) rfl (by decide)
  obtain ⟨d, l, c, _, _, hc⟩ := hsh.C j (by omega)
  have Hv := Lib.hid (show least c = mw cs 8 n by unfold mw; rw [if_neg (by decide), if_pos rfl, hj, Int.toNat_natCast, cel_is hc]; rfl)
  have Hj := Lib.hid hj
  have Hc := Lib.hid hc
  clear hj hc
  have Hsz := Lib.hid hsh.size
  have ka := heap_alloc2_old w (.cells cs 45) (.cells #[.int .i64 8, .int .i64 n, .int .i64 p] 47)
  have kd := heap_alloc2_new w (.cells cs 45) (.cells #[.int .i64 8, .int .i64 n, .int .i64 p] 47)
  have B0 := Lib.hid (((Below.refl w.heap.size w).alloc (Nat.le_refl _) (.cells cs 45)).alloc (by simp) (.cells #[.int .i64 8, .int .i64 n, .int .i64 p] 47))
  have Ka := Lib.hid ka
  have Kd := Lib.hid kd
  clear ka kd hsh
  go_enter Tryd.func12, Tryd.ntmps12
  go_wp2_with fail
  refine (spec_place 8 n p _).mono ?_
  rintro e w1 ⟨rfl, h1⟩
  have k1 := kit.box_keep Ka.out h1 (kit.box_lt Ka.out)
  have k2 := kit.box_keep Kd.out h1 (kit.box_lt Kd.out)
  have B1 := Lib.hid (B0.out.trans (h1.mono B0.out.size))
  have d0 := kit.box_cell k2 0 rfl
  have d1 := kit.box_cell k2 1 rfl
  have d2 := kit.box_cell k2 2 rfl
  clear h1 k2 Ka Kd B0
  rw [Hj.out]
  have cc : w1.cell? ⟨w.heap.size, 37 + j * 3 + 2, none⟩ = some (.int .u16 c) := kit.box_cell k1 (37 + (j * 3 + 2)) Hc.out
  clear k1
  go_wp2_with fail
  refine (least_any _ _).mono ?_
  rintro e w' ⟨rfl, rfl⟩
  go_wp2_with fail
  go_ret
  exact ⟨kit.ret_int Hv.out, B1.out⟩

set_option maxRecDepth 100000 in
theorem sw_D (cs : Array Value) (hsh : Shape cs) (n p : Int) (w : World) : Calls Tryd.prog 12 #[.agg cs, .agg #[.int .i64 9, .int .i64 n, .int .i64 p]] w fun e w' => e = .returned (.int .i16 (mw cs 9 n)) ∧ Below w.heap.size w w' := by
  obtain ⟨j, hj, hlt⟩ := plc_nat (k := 9) (n := n) (c := 32) rfl (by decide)
  obtain ⟨c, hc⟩ := hsh.D j (by omega)
  have Hv := Lib.hid (show c = mw cs 9 n by unfold mw; rw [if_neg (by decide), if_neg (by decide), if_pos rfl, hj, Int.toNat_natCast, cel_is hc]; rfl)
  have Hj := Lib.hid hj
  have Hc := Lib.hid hc
  clear hj hc
  have Hsz := Lib.hid hsh.size
  have ka := heap_alloc2_old w (.cells cs 45) (.cells #[.int .i64 9, .int .i64 n, .int .i64 p] 47)
  have kd := heap_alloc2_new w (.cells cs 45) (.cells #[.int .i64 9, .int .i64 n, .int .i64 p] 47)
  have B0 := Lib.hid (((Below.refl w.heap.size w).alloc (Nat.le_refl _) (.cells cs 45)).alloc (by simp) (.cells #[.int .i64 9, .int .i64 n, .int .i64 p] 47))
  have Ka := Lib.hid ka
  have Kd := Lib.hid kd
  clear ka kd hsh
  go_enter Tryd.func12, Tryd.ntmps12
  go_wp2_with fail
  refine (spec_place 9 n p _).mono ?_
  rintro e w1 ⟨rfl, h1⟩
  have k1 := kit.box_keep Ka.out h1 (kit.box_lt Ka.out)
  have k2 := kit.box_keep Kd.out h1 (kit.box_lt Kd.out)
  have B1 := Lib.hid (B0.out.trans (h1.mono B0.out.size))
  have d0 := kit.box_cell k2 0 rfl
  have d1 := kit.box_cell k2 1 rfl
  have d2 := kit.box_cell k2 2 rfl
  clear h1 k2 Ka Kd B0
  rw [Hj.out]
  have cc : w1.cell? ⟨w.heap.size, 85 + j, none⟩ = some (.int .i16 c) := kit.box_cell k1 (85 + j) Hc.out
  clear k1
  go_wp2_with fail
  go_ret
  exact ⟨kit.ret_int Hv.out, B1.out⟩

set_option maxRecDepth 100000 in
theorem iw_O (cs : Array Value) (hsh : Shape cs) (k n p : Int) (h7 : k ≠ 7) (h8 : k ≠ 8) (h9 : k ≠ 9) (w : World) (hs : Sizes w) : Calls Tryd.prog 15 #[.agg cs, .agg #[.int .i64 k, .int .i64 n, .int .i64 p]] w fun e w' => e = .returned (.int .i16 (mw cs k n)) ∧ Below w.heap.size w w' := by
  have hk7 : (k == 7) = false := beq_eq_false_iff_ne.2 h7
  have hk8 : (k == 8) = false := beq_eq_false_iff_ne.2 h8
  have hk9 : (k == 9) = false := beq_eq_false_iff_ne.2 h9
  have Hp := Lib.hid (show mw cs k n = if k = 11 then IntKind.i16.wrap n else 0 by unfold mw; rw [if_neg h7, if_neg h8, if_neg h9])
  clear h7 h8 h9
  have Hsz := Lib.hid hsh.size
  have ka := heap_alloc2_old w (.cells cs 45) (.cells #[.int .i64 k, .int .i64 n, .int .i64 p] 47)
  have kd := heap_alloc2_new w (.cells cs 45) (.cells #[.int .i64 k, .int .i64 n, .int .i64 p] 47)
  have B0 := Lib.hid (((Below.refl w.heap.size w).alloc (Nat.le_refl _) (.cells cs 45)).alloc (by simp) (.cells #[.int .i64 k, .int .i64 n, .int .i64 p] 47))
  have Ka := Lib.hid ka
  have Kd := Lib.hid kd
  clear ka kd hsh
  have Hs := Lib.hid ((hs.alloc (.cells cs 45)).alloc (.cells #[.int .i64 k, .int .i64 n, .int .i64 p] 47))
  clear hs
  go_enter Tryd.func15, Tryd.ntmps15
  go_wp2_with fail
  refine (impl_place k n p _ Hs.out).mono ?_
  rintro e w1 ⟨rfl, h1⟩
  have k1 := kit.box_keep Ka.out h1 (kit.box_lt Ka.out)
  have k2 := kit.box_keep Kd.out h1 (kit.box_lt Kd.out)
  have B1 := Lib.hid (B0.out.trans (h1.mono B0.out.size))
  have d0 := kit.box_cell k2 0 rfl
  have d1 := kit.box_cell k2 1 rfl
  have d2 := kit.box_cell k2 2 rfl
  clear h1 k2 Ka Kd B0
  clear k1
  by_cases h11 : k = 11
  · subst h11
    have Hv := Lib.hid (show IntKind.i16.wrap n = mw cs 11 n by rw [Hp.out, if_pos rfl])
    clear Hp
    go_wp2_with fail
    go_ret
    exact ⟨kit.ret_int Hv.out, B1.out⟩
  · have Hv := Lib.hid (show 0 = mw cs k n by rw [Hp.out, if_neg h11])
    have hk11 : (k == 11) = false := beq_eq_false_iff_ne.2 h11
    clear Hp h11
    go_wp2_with fail
    go_ret
    exact ⟨kit.ret_int Hv.out, B1.out⟩

theorem iw_any (cs : Array Value) (hsh : Shape cs) (k n p : Int) (w : World) (hs : Sizes w) : Calls Tryd.prog 15 #[.agg cs, .agg #[.int .i64 k, .int .i64 n, .int .i64 p]] w fun e w' => e = .returned (.int .i16 (mw cs k n)) ∧ Below w.heap.size w w' := by
  by_cases h7 : k = 7
  · subst h7; exact iw_T cs hsh n p w hs
  by_cases h8 : k = 8
  · subst h8; exact iw_C cs hsh n p w hs
  by_cases h9 : k = 9
  · subst h9; exact iw_D cs hsh n p w hs
  exact iw_O cs hsh k n p h7 h8 h9 w hs

set_option maxRecDepth 100000 in
theorem sw_O (cs : Array Value) (hsh : Shape cs) (k n p : Int) (h7 : k ≠ 7) (h8 : k ≠ 8) (h9 : k ≠ 9) (w : World) : Calls Tryd.prog 12 #[.agg cs, .agg #[.int .i64 k, .int .i64 n, .int .i64 p]] w fun e w' => e = .returned (.int .i16 (mw cs k n)) ∧ Below w.heap.size w w' := by
  have hk7 : (k == 7) = false := beq_eq_false_iff_ne.2 h7
  have hk8 : (k == 8) = false := beq_eq_false_iff_ne.2 h8
  have hk9 : (k == 9) = false := beq_eq_false_iff_ne.2 h9
  have Hp := Lib.hid (show mw cs k n = if k = 11 then IntKind.i16.wrap n else 0 by unfold mw; rw [if_neg h7, if_neg h8, if_neg h9])
  clear h7 h8 h9
  have Hsz := Lib.hid hsh.size
  have ka := heap_alloc2_old w (.cells cs 45) (.cells #[.int .i64 k, .int .i64 n, .int .i64 p] 47)
  have kd := heap_alloc2_new w (.cells cs 45) (.cells #[.int .i64 k, .int .i64 n, .int .i64 p] 47)
  have B0 := Lib.hid (((Below.refl w.heap.size w).alloc (Nat.le_refl _) (.cells cs 45)).alloc (by simp) (.cells #[.int .i64 k, .int .i64 n, .int .i64 p] 47))
  have Ka := Lib.hid ka
  have Kd := Lib.hid kd
  clear ka kd hsh
  go_enter Tryd.func12, Tryd.ntmps12
  go_wp2_with fail
  refine (spec_place k n p _).mono ?_
  rintro e w1 ⟨rfl, h1⟩
  have k1 := kit.box_keep Ka.out h1 (kit.box_lt Ka.out)
  have k2 := kit.box_keep Kd.out h1 (kit.box_lt Kd.out)
  have B1 := Lib.hid (B0.out.trans (h1.mono B0.out.size))
  have d0 := kit.box_cell k2 0 rfl
  have d1 := kit.box_cell k2 1 rfl
  have d2 := kit.box_cell k2 2 rfl
  clear h1 k2 Ka Kd B0
  clear k1
  by_cases h11 : k = 11
  · subst h11
    have Hv := Lib.hid (show IntKind.i16.wrap n = mw cs 11 n by rw [Hp.out, if_pos rfl])
    clear Hp
    go_wp2_with fail
    refine (wrap_any _ _).mono ?_
    rintro e w' ⟨rfl, rfl⟩
    go_wp2_with fail
    go_ret
    exact ⟨kit.ret_int Hv.out, B1.out⟩
  · have Hv := Lib.hid (show 0 = mw cs k n by rw [Hp.out, if_neg h11])
    have hk11 : (k == 11) = false := beq_eq_false_iff_ne.2 h11
    clear Hp h11
    go_wp2_with fail
    go_ret
    exact ⟨kit.ret_int Hv.out, B1.out⟩

theorem sw_any (cs : Array Value) (hsh : Shape cs) (k n p : Int) (w : World) : Calls Tryd.prog 12 #[.agg cs, .agg #[.int .i64 k, .int .i64 n, .int .i64 p]] w fun e w' => e = .returned (.int .i16 (mw cs k n)) ∧ Below w.heap.size w w' := by
  by_cases h7 : k = 7
  · subst h7; exact sw_T cs hsh n p w
  by_cases h8 : k = 8
  · subst h8; exact sw_C cs hsh n p w
  by_cases h9 : k = 9
  · subst h9; exact sw_D cs hsh n p w
  exact sw_O cs hsh k n p h7 h8 h9 w

end Go.Proofs.YtnffgafofkknoaaDoor.part
