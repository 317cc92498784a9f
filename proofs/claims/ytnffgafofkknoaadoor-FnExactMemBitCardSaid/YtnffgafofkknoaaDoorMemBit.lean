/-
  'MemBit' of both sides: what they return.
  Conditions: the cells have the kinds of a memory, the numbers lie in their kinds' ranges; the variable 'devSizes' holds its numbers.
-/
import Derived.Test.YtnffgafofkknoaaDoorBitWalk
import Derived.Test.YtnffgafofkknoaaDoorRange
import Derived.Test.YtnffgafofkknoaaDoorPlace
import Derived.Test.YtnffgafofkknoaaDoorStore
namespace Go.Proofs.YtnffgafofkknoaaDoor.part
open Go Go.RowKit Go.Proofs.YtnffgafofkknoaaDoor.dev Go.Proofs.YtnffgafofkknoaaDoor.bitm
set_option linter.unusedVariables false
set_option linter.unusedSimpArgs false

theorem plc_nat' {k n c : Int} (hc : cnt k = c) (h : c ≠ 0) : ∃ j : Nat, plc k n = j ∧ (j : Int) < c := by
  have h1 := plc_in k n
  obtain ⟨j, e⟩ := Int.eq_ofNat_of_zero_le h1.1
  exact ⟨j, e, by rw [← e, ← hc]; exact h1.2 (by rw [hc]; exact h)⟩
def mb (cs : Array Value) (k n : Int) : Bool :=
  if k = 1 then bitAt (numb (cel cs 0)) (plc k n).toNat else if k = 2 then bitAt (numb (cel cs 1)) (plc k n).toNat else if k = 3 then bitAt (numb (cel cs 2)) (plc k n).toNat else
  if k = 4 then bitAt (numb (cel cs 3)) (plc k n).toNat else if k = 5 then bitAt (numb (cel cs 4)) (plc k n).toNat else if k = 6 then given cs (plc k n) else
  if k = 7 then tru (cel cs (5 + (plc k n).toNat * 2)) else if k = 8 then tru (cel cs (37 + (plc k n).toNat * 3)) else false
theorem un_small {k : IntKind} (hk : un k) {x : Int} (h : k.min ≤ x ∧ x ≤ k.max) : small x := by
  rcases hk with rfl | rfl | rfl
  all_goals
    have h1 : (0 : Int) ≤ x := h.1
    have h2 := h.2
    simp only [IntKind.max, IntKind.bits, IntKind.signed] at h2
    unfold small
    omega
theorem un_lt {k : IntKind} (hk : un k) {x : Int} (h : k.min ≤ x ∧ x ≤ k.max) : x < 2 ^ k.bits := by
  rcases hk with rfl | rfl | rfl
  all_goals
    have h2 := h.2
    simp only [IntKind.max, IntKind.bits, IntKind.signed] at h2 ⊢
    omega
theorem un_nonneg {k : IntKind} (hk : un k) {x : Int} (h : k.min ≤ x ∧ x ≤ k.max) : 0 ≤ x := by
  rcases hk with rfl | rfl | rfl <;> exact h.1
theorem idx8 {j : Nat} (h : (j : Int) < 8) : j = 0 ∨ j = 1 ∨ j = 2 ∨ j = 3 ∨ j = 4 ∨ j = 5 ∨ j = 6 ∨ j = 7 := by omega

set_option maxRecDepth 100000 in
theorem ib_X (cs : Array Value) (hsh : Shape cs) (hrg : Rg cs) (n p : Int) (w : World) (hs : Sizes w) : Calls Tryd.prog 17 #[.agg cs, .agg #[.int .i64 1, .int .i64 n, .int .i64 p]] w fun e w' => e = .returned (.bool (mb cs 1 n)) ∧ Below w.heap.size w w' := by
  obtain ⟨j, hj, hlt⟩ := plc_nat' (k := 1) (n := n) (c := size 1) rfl (by decide)
  have hlt : (j : Int) < 32 := hlt
  obtain ⟨x, hc⟩ := hsh.X
  have hr := hrg 0 _ _ hc
  have hu : un .u32 := by unfold un; simp
  have Hv := Lib.hid (show bitAt x j = mb cs 1 n by unfold mb; rw [if_pos rfl]; rw [hj, Int.toNat_natCast, cel_is hc]; rfl)
  have Hm := Lib.hid (un_small hu hr)
  have Hb := Lib.hid (shr_bit hu x j (un_nonneg hu hr) (un_lt hu hr))
  have Hq := Lib.hid (show IntKind.u64.wrap x = x by have := un_small hu hr; unfold small at this; rw [IntKind.wrap_u64]; omega)
  have hq0 : 0 ≤ x := un_nonneg hu hr
  have Hj := Lib.hid hj
  have Hc := Lib.hid hc
  clear hj hc hr hu
  have Hsz := Lib.hid hsh.size
  have ka := heap_alloc2_old w (.cells cs 45) (.cells #[.int .i64 1, .int .i64 n, .int .i64 p] 47)
  have kd := heap_alloc2_new w (.cells cs 45) (.cells #[.int .i64 1, .int .i64 n, .int .i64 p] 47)
  have B0 := Lib.hid (((Below.refl w.heap.size w).alloc (Nat.le_refl _) (.cells cs 45)).alloc (by simp) (.cells #[.int .i64 1, .int .i64 n, .int .i64 p] 47))
  have Ka := Lib.hid ka
  have Kd := Lib.hid kd
  clear ka kd hsh hrg
  have Hs := Lib.hid ((hs.alloc (.cells cs 45)).alloc (.cells #[.int .i64 1, .int .i64 n, .int .i64 p] 47))
  clear hs
  go_enter Tryd.func17, Tryd.ntmps17
  go_wp2_with fail
  refine (impl_place 1 n p _ Hs.out).mono ?_
  rintro e w1 ⟨rfl, h1⟩
  have k1 := kit.box_keep Ka.out h1 (kit.box_lt Ka.out)
  have k2 := kit.box_keep Kd.out h1 (kit.box_lt Kd.out)
  have B1 := Lib.hid (B0.out.trans (h1.mono B0.out.size))
  have d0 := kit.box_cell k2 0 rfl
  have d1 := kit.box_cell k2 1 rfl
  have d2 := kit.box_cell k2 2 rfl
  clear h1 k2 Ka Kd B0
  rw [Hj.out]
  have cc : w1.cell? ⟨w.heap.size, 0, none⟩ = some (.int .u32 x) := kit.box_cell k1 0 Hc.out
  clear k1
  go_wp2_with fail
  go_ret
  exact ⟨kit.ret_bool (by first | (rw [Int.toNat_natCast]; exact Hb.out.trans Hv.out) | exact Hb.out.trans Hv.out), B1.out⟩

set_option maxRecDepth 100000 in
theorem ib_Y (cs : Array Value) (hsh : Shape cs) (hrg : Rg cs) (n p : Int) (w : World) (hs : Sizes w) : Calls Tryd.prog 17 #[.agg cs, .agg #[.int .i64 2, .int .i64 n, .int .i64 p]] w fun e w' => e = .returned (.bool (mb cs 2 n)) ∧ Below w.heap.size w w' := by
  obtain ⟨j, hj, hlt⟩ := plc_nat' (k := 2) (n := n) (c := size 2) rfl (by decide)
  have hlt : (j : Int) < 32 := hlt
  obtain ⟨x, hc⟩ := hsh.Y
  have hr := hrg 1 _ _ hc
  have hu : un .u32 := by unfold un; simp
  have Hv := Lib.hid (show bitAt x j = mb cs 2 n by unfold mb; rw [if_neg (by decide)]; rw [if_pos rfl]; rw [hj, Int.toNat_natCast, cel_is hc]; rfl)
  have Hm := Lib.hid (un_small hu hr)
  have Hb := Lib.hid (shr_bit hu x j (un_nonneg hu hr) (un_lt hu hr))
  have Hq := Lib.hid (show IntKind.u64.wrap x = x by have := un_small hu hr; unfold small at this; rw [IntKind.wrap_u64]; omega)
  have hq0 : 0 ≤ x := un_nonneg hu hr
  have Hj := Lib.hid hj
  have Hc := Lib.hid hc
  clear hj hc hr hu
  have Hsz := Lib.hid hsh.size
  have ka := heap_alloc2_old w (.cells cs 45) (.cells #[.int .i64 2, .int .i64 n, .int .i64 p] 47)
  have kd := heap_alloc2_new w (.cells cs 45) (.cells #[.int .i64 2, .int .i64 n, .int .i64 p] 47)
  have B0 := Lib.hid (((Below.refl w.heap.size w).alloc (Nat.le_refl _) (.cells cs 45)).alloc (by simp) (.cells #[.int .i64 2, .int .i64 n, .int .i64 p] 47))
  have Ka := Lib.hid ka
  have Kd := Lib.hid kd
  clear ka kd hsh hrg
  have Hs := Lib.hid ((hs.alloc (.cells cs 45)).alloc (.cells #[.int .i64 2, .int .i64 n, .int .i64 p] 47))
  clear hs
  go_enter Tryd.func17, Tryd.ntmps17
  go_wp2_with fail
  refine (impl_place 2 n p _ Hs.out).mono ?_
  rintro e w1 ⟨rfl, h1⟩
  have k1 := kit.box_keep Ka.out h1 (kit.box_lt Ka.out)
  have k2 := kit.box_keep Kd.out h1 (kit.box_lt Kd.out)
  have B1 := Lib.hid (B0.out.trans (h1.mono B0.out.size))
  have d0 := kit.box_cell k2 0 rfl
  have d1 := kit.box_cell k2 1 rfl
  have d2 := kit.box_cell k2 2 rfl
  clear h1 k2 Ka Kd B0
  rw [Hj.out]
  have cc : w1.cell? ⟨w.heap.size, 1, none⟩ = some (.int .u32 x) := kit.box_cell k1 1 Hc.out
  clear k1
  go_wp2_with fail
  go_ret
  exact ⟨kit.ret_bool (by first | (rw [Int.toNat_natCast]; exact Hb.out.trans Hv.out) | exact Hb.out.trans Hv.out), B1.out⟩

set_option maxRecDepth 100000 in
theorem ib_M (cs : Array Value) (hsh : Shape cs) (hrg : Rg cs) (n p : Int) (w : World) (hs : Sizes w) : Calls Tryd.prog 17 #[.agg cs, .agg #[.int .i64 3, .int .i64 n, .int .i64 p]] w fun e w' => e = .returned (.bool (mb cs 3 n)) ∧ Below w.heap.size w w' := by
  obtain ⟨j, hj, hlt⟩ := plc_nat' (k := 3) (n := n) (c := size 3) rfl (by decide)
  have hlt : (j : Int) < 64 := hlt
  obtain ⟨x, hc⟩ := hsh.M
  have hr := hrg 2 _ _ hc
  have hu : un .u64 := by unfold un; simp
  have Hv := Lib.hid (show bitAt x j = mb cs 3 n by unfold mb; rw [if_neg (by decide)]; rw [if_neg (by decide)]; rw [if_pos rfl]; rw [hj, Int.toNat_natCast, cel_is hc]; rfl)
  have Hm := Lib.hid (un_small hu hr)
  have Hb := Lib.hid (shr_bit hu x j (un_nonneg hu hr) (un_lt hu hr))
  have Hq := Lib.hid (show IntKind.u64.wrap x = x by have := un_small hu hr; unfold small at this; rw [IntKind.wrap_u64]; omega)
  have hq0 : 0 ≤ x := un_nonneg hu hr
  have Hj := Lib.hid hj
  have Hc := Lib.hid hc
  clear hj hc hr hu
  have Hsz := Lib.hid hsh.size
  have ka := heap_alloc2_old w (.cells cs 45) (.cells #[.int .i64 3, .int .i64 n, .int .i64 p] 47)
  have kd := heap_alloc2_new w (.cells cs 45) (.cells #[.int .i64 3, .int .i64 n, .int .i64 p] 47)
  have B0 := Lib.hid (((Below.refl w.heap.size w).alloc (Nat.le_refl _) (.cells cs 45)).alloc (by simp) (.cells #[.int .i64 3, .int .i64 n, .int .i64 p] 47))
  have Ka := Lib.hid ka
  have Kd := Lib.hid kd
  clear ka kd hsh hrg
  have Hs := Lib.hid ((hs.alloc (.cells cs 45)).alloc (.cells #[.int .i64 3, .int .i64 n, .int .i64 p] 47))
  clear hs
  go_enter Tryd.func17, Tryd.ntmps17
  go_wp2_with fail
  refine (impl_place 3 n p _ Hs.out).mono ?_
  rintro e w1 ⟨rfl, h1⟩
  have k1 := kit.box_keep Ka.out h1 (kit.box_lt Ka.out)
  have k2 := kit.box_keep Kd.out h1 (kit.box_lt Kd.out)
  have B1 := Lib.hid (B0.out.trans (h1.mono B0.out.size))
  have d0 := kit.box_cell k2 0 rfl
  have d1 := kit.box_cell k2 1 rfl
  have d2 := kit.box_cell k2 2 rfl
  clear h1 k2 Ka Kd B0
  rw [Hj.out]
  have cc : w1.cell? ⟨w.heap.size, 2, none⟩ = some (.int .u64 x) := kit.box_cell k1 2 Hc.out
  clear k1
  go_wp2_with fail
  go_ret
  exact ⟨kit.ret_bool (by first | (rw [Int.toNat_natCast]; exact Hb.out.trans Hv.out) | exact Hb.out.trans Hv.out), B1.out⟩

set_option maxRecDepth 100000 in
theorem ib_S (cs : Array Value) (hsh : Shape cs) (hrg : Rg cs) (n p : Int) (w : World) (hs : Sizes w) : Calls Tryd.prog 17 #[.agg cs, .agg #[.int .i64 4, .int .i64 n, .int .i64 p]] w fun e w' => e = .returned (.bool (mb cs 4 n)) ∧ Below w.heap.size w w' := by
  obtain ⟨j, hj, hlt⟩ := plc_nat' (k := 4) (n := n) (c := size 4) rfl (by decide)
  have hlt : (j : Int) < 16 := hlt
  obtain ⟨x, hc⟩ := hsh.S
  have hr := hrg 3 _ _ hc
  have hu : un .u16 := by unfold un; simp
  have Hv := Lib.hid (show bitAt x j = mb cs 4 n by unfold mb; rw [if_neg (by decide)]; rw [if_neg (by decide)]; rw [if_neg (by decide)]; rw [if_pos rfl]; rw [hj, Int.toNat_natCast, cel_is hc]; rfl)
  have Hm := Lib.hid (un_small hu hr)
  have Hb := Lib.hid (shr_bit hu x j (un_nonneg hu hr) (un_lt hu hr))
  have Hq := Lib.hid (show IntKind.u64.wrap x = x by have := un_small hu hr; unfold small at this; rw [IntKind.wrap_u64]; omega)
  have hq0 : 0 ≤ x := un_nonneg hu hr
  have Hj := Lib.hid hj
  have Hc := Lib.hid hc
  clear hj hc hr hu
  have Hsz := Lib.hid hsh.size
  have ka := heap_alloc2_old w (.cells cs 45) (.cells #[.int .i64 4, .int .i64 n, .int .i64 p] 47)
  have kd := heap_alloc2_new w (.cells cs 45) (.cells #[.int .i64 4, .int .i64 n, .int .i64 p] 47)
  have B0 := Lib.hid (((Below.refl w.heap.size w).alloc (Nat.le_refl _) (.cells cs 45)).alloc (by simp) (.cells #[.int .i64 4, .int .i64 n, .int .i64 p] 47))
  have Ka := Lib.hid ka
  have Kd := Lib.hid kd
  clear ka kd hsh hrg
  have Hs := Lib.hid ((hs.alloc (.cells cs 45)).alloc (.cells #[.int .i64 4, .int .i64 n, .int .i64 p] 47))
  clear hs
  go_enter Tryd.func17, Tryd.ntmps17
  go_wp2_with fail
  refine (impl_place 4 n p _ Hs.out).mono ?_
  rintro e w1 ⟨rfl, h1⟩
  have k1 := kit.box_keep Ka.out h1 (kit.box_lt Ka.out)
  have k2 := kit.box_keep Kd.out h1 (kit.box_lt Kd.out)
  have B1 := Lib.hid (B0.out.trans (h1.mono B0.out.size))
  have d0 := kit.box_cell k2 0 rfl
  have d1 := kit.box_cell k2 1 rfl
  have d2 := kit.box_cell k2 2 rfl
  clear h1 k2 Ka Kd B0
  rw [Hj.out]
  have cc : w1.cell? ⟨w.heap.size, 3, none⟩ = some (.int .u16 x) := kit.box_cell k1 3 Hc.out
  clear k1
  go_wp2_with fail
  go_ret
  exact ⟨kit.ret_bool (by first | (rw [Int.toNat_natCast]; exact Hb.out.trans Hv.out) | exact Hb.out.trans Hv.out), B1.out⟩

set_option maxRecDepth 100000 in
theorem ib_E (cs : Array Value) (hsh : Shape cs) (hrg : Rg cs) (n p : Int) (w : World) (hs : Sizes w) : Calls Tryd.prog 17 #[.agg cs, .agg #[.int .i64 5, .int .i64 n, .int .i64 p]] w fun e w' => e = .returned (.bool (mb cs 5 n)) ∧ Below w.heap.size w w' := by
  obtain ⟨j, hj, hlt⟩ := plc_nat' (k := 5) (n := n) (c := size 5) rfl (by decide)
  have hlt : (j : Int) < 32 := hlt
  obtain ⟨x, hc⟩ := hsh.E
  have hr := hrg 4 _ _ hc
  have hu : un .u32 := by unfold un; simp
  have Hv := Lib.hid (show bitAt x j = mb cs 5 n by unfold mb; rw [if_neg (by decide)]; rw [if_neg (by decide)]; rw [if_neg (by decide)]; rw [if_neg (by decide)]; rw [if_pos rfl]; rw [hj, Int.toNat_natCast, cel_is hc]; rfl)
  have Hm := Lib.hid (un_small hu hr)
  have Hb := Lib.hid (shr_bit hu x j (un_nonneg hu hr) (un_lt hu hr))
  have Hq := Lib.hid (show IntKind.u64.wrap x = x by have := un_small hu hr; unfold small at this; rw [IntKind.wrap_u64]; omega)
  have hq0 : 0 ≤ x := un_nonneg hu hr
  have Hj := Lib.hid hj
  have Hc := Lib.hid hc
  clear hj hc hr hu
  have Hsz := Lib.hid hsh.size
  have ka := heap_alloc2_old w (.cells cs 45) (.cells #[.int .i64 5, .int .i64 n, .int .i64 p] 47)
  have kd := heap_alloc2_new w (.cells cs 45) (.cells #[.int .i64 5, .int .i64 n, .int .i64 p] 47)
  have B0 := Lib.hid (((Below.refl w.heap.size w).alloc (Nat.le_refl _) (.cells cs 45)).alloc (by simp) (.cells #[.int .i64 5, .int .i64 n, .int .i64 p] 47))
  have Ka := Lib.hid ka
  have Kd := Lib.hid kd
  clear ka kd hsh hrg
  have Hs := Lib.hid ((hs.alloc (.cells cs 45)).alloc (.cells #[.int .i64 5, .int .i64 n, .int .i64 p] 47))
  clear hs
  go_enter Tryd.func17, Tryd.ntmps17
  go_wp2_with fail
  refine (impl_place 5 n p _ Hs.out).mono ?_
  rintro e w1 ⟨rfl, h1⟩
  have k1 := kit.box_keep Ka.out h1 (kit.box_lt Ka.out)
  have k2 := kit.box_keep Kd.out h1 (kit.box_lt Kd.out)
  have B1 := Lib.hid (B0.out.trans (h1.mono B0.out.size))
  have d0 := kit.box_cell k2 0 rfl
  have d1 := kit.box_cell k2 1 rfl
  have d2 := kit.box_cell k2 2 rfl
  clear h1 k2 Ka Kd B0
  rw [Hj.out]
  have cc : w1.cell? ⟨w.heap.size, 4, none⟩ = some (.int .u32 x) := kit.box_cell k1 4 Hc.out
  clear k1
  go_wp2_with fail
  go_ret
  exact ⟨kit.ret_bool (by first | (rw [Int.toNat_natCast]; exact Hb.out.trans Hv.out) | exact Hb.out.trans Hv.out), B1.out⟩

set_option maxRecDepth 100000 in
theorem ib_T (cs : Array Value) (hsh : Shape cs) (hrg : Rg cs) (n p : Int) (w : World) (hs : Sizes w) : Calls Tryd.prog 17 #[.agg cs, .agg #[.int .i64 7, .int .i64 n, .int .i64 p]] w fun e w' => e = .returned (.bool (mb cs 7 n)) ∧ Below w.heap.size w w' := by
  obtain ⟨j, hj, hlt⟩ := plc_nat' (k := 7) (n := n) (c := 16) rfl (by decide)
  obtain ⟨x, c, hc, _⟩ := hsh.T j (by omega)
  have Hv := Lib.hid (show x = mb cs 7 n by unfold mb; rw [if_neg (by decide)]; rw [if_neg (by decide)]; rw [if_neg (by decide)]; rw [if_neg (by decide)]; rw [if_neg (by decide)]; rw [if_neg (by decide)]; rw [if_pos rfl]; rw [hj, Int.toNat_natCast, cel_is hc]; rfl)
  have Hj := Lib.hid hj
  have Hc := Lib.hid hc
  clear hj hc
  have Hsz := Lib.hid hsh.size
  have ka := heap_alloc2_old w (.cells cs 45) (.cells #[.int .i64 7, .int .i64 n, .int .i64 p] 47)
  have kd := heap_alloc2_new w (.cells cs 45) (.cells #[.int .i64 7, .int .i64 n, .int .i64 p] 47)
  have B0 := Lib.hid (((Below.refl w.heap.size w).alloc (Nat.le_refl _) (.cells cs 45)).alloc (by simp) (.cells #[.int .i64 7, .int .i64 n, .int .i64 p] 47))
  have Ka := Lib.hid ka
  have Kd := Lib.hid kd
  clear ka kd hsh hrg
  have Hs := Lib.hid ((hs.alloc (.cells cs 45)).alloc (.cells #[.int .i64 7, .int .i64 n, .int .i64 p] 47))
  clear hs
  go_enter Tryd.func17, Tryd.ntmps17
  go_wp2_with fail
  refine (impl_place 7 n p _ Hs.out).mono ?_
  rintro e w1 ⟨rfl, h1⟩
  have k1 := kit.box_keep Ka.out h1 (kit.box_lt Ka.out)
  have k2 := kit.box_keep Kd.out h1 (kit.box_lt Kd.out)
  have B1 := Lib.hid (B0.out.trans (h1.mono B0.out.size))
  have d0 := kit.box_cell k2 0 rfl
  have d1 := kit.box_cell k2 1 rfl
  have d2 := kit.box_cell k2 2 rfl
  clear h1 k2 Ka Kd B0
  rw [Hj.out]
  have cc : w1.cell? ⟨w.heap.size, 5 + j * 2, none⟩ = some (.bool x) := kit.box_cell k1 (5 + j * 2) Hc.out
  clear k1
  go_wp2_with fail
  go_ret
  exact ⟨kit.ret_bool Hv.out, B1.out⟩

set_option maxRecDepth 100000 in
theorem ib_C (cs : Array Value) (hsh : Shape cs) (hrg : Rg cs) (n p : Int) (w : World) (hs : Sizes w) : Calls Tryd.prog 17 #[.agg cs, .agg #[.int .i64 8, .int .i64 n, .int .i64 p]] w fun e w' => e = .returned (.bool (mb cs 8 n)) ∧ Below w.heap.size w w' := by
  obtain ⟨j, hj, hlt⟩ := plc_nat' (k := 8) (n := n) (c := 16) rfl (by decide)
  obtain ⟨x, l, c, hc, _, _⟩ := hsh.C j (by omega)
  have Hv := Lib.hid (show x = mb cs 8 n by unfold mb; rw [if_neg (by decide)]; rw [if_neg (by decide)]; rw [if_neg (by decide)]; rw [if_neg (by decide)]; rw [if_neg (by decide)]; rw [if_neg (by decide)]; rw [if_neg (by decide)]; rw [if_pos rfl]; rw [hj, Int.toNat_natCast, cel_is hc]; rfl)
  have Hj := Lib.hid hj
  have Hc := Lib.hid hc
  clear hj hc
  have Hsz := Lib.hid hsh.size
  have ka := heap_alloc2_old w (.cells cs 45) (.cells #[.int .i64 8, .int .i64 n, .int .i64 p] 47)
  have kd := heap_alloc2_new w (.cells cs 45) (.cells #[.int .i64 8, .int .i64 n, .int .i64 p] 47)
  have B0 := Lib.hid (((Below.refl w.heap.size w).alloc (Nat.le_refl _) (.cells cs 45)).alloc (by simp) (.cells #[.int .i64 8, .int .i64 n, .int .i64 p] 47))
  have Ka := Lib.hid ka
  have Kd := Lib.hid kd
  clear ka kd hsh hrg
  have Hs := Lib.hid ((hs.alloc (.cells cs 45)).alloc (.cells #[.int .i64 8, .int .i64 n, .int .i64 p] 47))
  clear hs
  go_enter Tryd.func17, Tryd.ntmps17
  go_wp2_with fail
  refine (impl_place 8 n p _ Hs.out).mono ?_
  rintro e w1 ⟨rfl, h1⟩
  have k1 := kit.box_keep Ka.out h1 (kit.box_lt Ka.out)
  have k2 := kit.box_keep Kd.out h1 (kit.box_lt Kd.out)
  have B1 := Lib.hid (B0.out.trans (h1.mono B0.out.size))
  have d0 := kit.box_cell k2 0 rfl
  have d1 := kit.box_cell k2 1 rfl
  have d2 := kit.box_cell k2 2 rfl
  clear h1 k2 Ka Kd B0
  rw [Hj.out]
  have cc : w1.cell? ⟨w.heap.size, 37 + j * 3, none⟩ = some (.bool x) := kit.box_cell k1 (37 + j * 3) Hc.out
  clear k1
  go_wp2_with fail
  go_ret
  exact ⟨kit.ret_bool Hv.out, B1.out⟩

set_option maxHeartbeats 4000000 in
set_option maxRecDepth 100000 in
theorem ib_G (cs : Array Value) (hsh : Shape cs) (hrg : Rg cs) (n p : Int) (w : World) (hs : Sizes w) : Calls Tryd.prog 17 #[.agg cs, .agg #[.int .i64 6, .int .i64 n, .int .i64 p]] w fun e w' => e = .returned (.bool (mb cs 6 n)) ∧ Below w.heap.size w w' := by
  obtain ⟨j, hj, hlt⟩ := plc_nat' (k := 6) (n := n) (c := 8) rfl (by decide)
  obtain ⟨t, h133⟩ := hsh.Time
  obtain ⟨ra, h134⟩ := hsh.Ran
  obtain ⟨fa, h135⟩ := hsh.Fault
  have ht := (hrg 133 _ _ h133).1
  have ht : 0 ≤ t := ht
  have g1 := cel_is h133
  have g2 := cel_is h134
  have g3 := cel_is h135
  have Hv := Lib.hid (show given cs j = mb cs 6 n by unfold mb; rw [if_neg (by decide)]; rw [if_neg (by decide)]; rw [if_neg (by decide)]; rw [if_neg (by decide)]; rw [if_neg (by decide)]; rw [if_pos rfl]; rw [hj])
  have HG := Lib.hid (show given cs j = if (j : Int) = 0 then true else if (j : Int) = 2 then !ra else if (j : Int) = 3 then fa else if (j : Int) = 4 then decide (500 ≤ t % 1000) else false by unfold given; rw [g1, g2, g3]; rfl)
  have Hj := Lib.hid hj
  have Hc1 := Lib.hid h133
  have Hc2 := Lib.hid h134
  have Hc3 := Lib.hid h135
  clear hj h133 h134 h135 g1 g2 g3
  have Hsz := Lib.hid hsh.size
  have ka := heap_alloc2_old w (.cells cs 45) (.cells #[.int .i64 6, .int .i64 n, .int .i64 p] 47)
  have kd := heap_alloc2_new w (.cells cs 45) (.cells #[.int .i64 6, .int .i64 n, .int .i64 p] 47)
  have B0 := Lib.hid (((Below.refl w.heap.size w).alloc (Nat.le_refl _) (.cells cs 45)).alloc (by simp) (.cells #[.int .i64 6, .int .i64 n, .int .i64 p] 47))
  have Ka := Lib.hid ka
  have Kd := Lib.hid kd
  clear ka kd hsh hrg
  have Hs := Lib.hid ((hs.alloc (.cells cs 45)).alloc (.cells #[.int .i64 6, .int .i64 n, .int .i64 p] 47))
  clear hs
  go_enter Tryd.func17, Tryd.ntmps17
  go_wp2_with fail
  refine (impl_place 6 n p _ Hs.out).mono ?_
  rintro e w1 ⟨rfl, h1⟩
  have k1 := kit.box_keep Ka.out h1 (kit.box_lt Ka.out)
  have k2 := kit.box_keep Kd.out h1 (kit.box_lt Kd.out)
  have B1 := Lib.hid (B0.out.trans (h1.mono B0.out.size))
  have d0 := kit.box_cell k2 0 rfl
  have d1 := kit.box_cell k2 1 rfl
  have d2 := kit.box_cell k2 2 rfl
  clear h1 k2 Ka Kd B0
  rw [Hj.out]
  have c1 := kit.box_cell k1 133 Hc1.out
  have c2 := kit.box_cell k1 134 Hc2.out
  have c3 := kit.box_cell k1 135 Hc3.out
  clear k1 Hc1 Hc2 Hc3
  rcases idx8 hlt with rfl | rfl | rfl | rfl | rfl | rfl | rfl | rfl
  all_goals
    clear hlt
    go_wp2_with fail
    go_ret
    exact ⟨kit.ret_bool (by rw [← Hv.out, HG.out]; rfl), B1.out.alloc B1.out.size _⟩

set_option maxRecDepth 100000 in
theorem ib_O (cs : Array Value) (hsh : Shape cs) (hrg : Rg cs) (k n p : Int) (h1 : k ≠ 1) (h2 : k ≠ 2) (h3 : k ≠ 3) (h4 : k ≠ 4) (h5 : k ≠ 5) (h6 : k ≠ 6) (h7 : k ≠ 7) (h8 : k ≠ 8) (w : World) (hs : Sizes w) : Calls Tryd.prog 17 #[.agg cs, .agg #[.int .i64 k, .int .i64 n, .int .i64 p]] w fun e w' => e = .returned (.bool (mb cs k n)) ∧ Below w.heap.size w w' := by
  have hk1 : (k == 1) = false := beq_eq_false_iff_ne.2 h1
  have hk2 : (k == 2) = false := beq_eq_false_iff_ne.2 h2
  have hk3 : (k == 3) = false := beq_eq_false_iff_ne.2 h3
  have hk4 : (k == 4) = false := beq_eq_false_iff_ne.2 h4
  have hk5 : (k == 5) = false := beq_eq_false_iff_ne.2 h5
  have hk6 : (k == 6) = false := beq_eq_false_iff_ne.2 h6
  have hk7 : (k == 7) = false := beq_eq_false_iff_ne.2 h7
  have hk8 : (k == 8) = false := beq_eq_false_iff_ne.2 h8
  have Hv := Lib.hid (show false = mb cs k n by unfold mb; rw [if_neg h1, if_neg h2, if_neg h3, if_neg h4, if_neg h5, if_neg h6, if_neg h7, if_neg h8])
  clear h1 h2 h3 h4 h5 h6 h7 h8
  have Hsz := Lib.hid hsh.size
  have ka := heap_alloc2_old w (.cells cs 45) (.cells #[.int .i64 k, .int .i64 n, .int .i64 p] 47)
  have kd := heap_alloc2_new w (.cells cs 45) (.cells #[.int .i64 k, .int .i64 n, .int .i64 p] 47)
  have B0 := Lib.hid (((Below.refl w.heap.size w).alloc (Nat.le_refl _) (.cells cs 45)).alloc (by simp) (.cells #[.int .i64 k, .int .i64 n, .int .i64 p] 47))
  have Ka := Lib.hid ka
  have Kd := Lib.hid kd
  clear ka kd hsh hrg
  have Hs := Lib.hid ((hs.alloc (.cells cs 45)).alloc (.cells #[.int .i64 k, .int .i64 n, .int .i64 p] 47))
  clear hs
  go_enter Tryd.func17, Tryd.ntmps17
  go_wp2_with fail
  refine (impl_place k n p _ Hs.out).mono ?_
  rintro e w1 ⟨rfl, h1⟩
  have k1 := kit.box_keep Ka.out h1 (kit.box_lt Ka.out)
  have k2 := kit.box_keep Kd.out h1 (kit.box_lt Kd.out)
  have B1 := Lib.hid (B0.out.trans (h1.mono B0.out.size))
  have d0 := kit.box_cell k2 0 rfl
  have d1 := kit.box_cell k2 1 rfl
  have d2 := kit.box_cell k2 2 rfl
  clear h1 k2 Ka Kd B0
  clear k1
  go_wp2_with fail
  go_ret
  exact ⟨kit.ret_bool Hv.out, B1.out⟩

theorem ib_any (cs : Array Value) (hsh : Shape cs) (hrg : Rg cs) (k n p : Int) (w : World) (hs : Sizes w) : Calls Tryd.prog 17 #[.agg cs, .agg #[.int .i64 k, .int .i64 n, .int .i64 p]] w fun e w' => e = .returned (.bool (mb cs k n)) ∧ Below w.heap.size w w' := by
  by_cases h1 : k = 1
  · subst h1; exact ib_X cs hsh hrg n p w hs
  by_cases h2 : k = 2
  · subst h2; exact ib_Y cs hsh hrg n p w hs
  by_cases h3 : k = 3
  · subst h3; exact ib_M cs hsh hrg n p w hs
  by_cases h4 : k = 4
  · subst h4; exact ib_S cs hsh hrg n p w hs
  by_cases h5 : k = 5
  · subst h5; exact ib_E cs hsh hrg n p w hs
  by_cases h6 : k = 6
  · subst h6; exact ib_G cs hsh hrg n p w hs
  by_cases h7 : k = 7
  · subst h7; exact ib_T cs hsh hrg n p w hs
  by_cases h8 : k = 8
  · subst h8; exact ib_C cs hsh hrg n p w hs
  exact ib_O cs hsh hrg k n p h1 h2 h3 h4 h5 h6 h7 h8 w hs

set_option maxRecDepth 100000 in
theorem sb_X (cs : Array Value) (hsh : Shape cs) (hrg : Rg cs) (n p : Int) (w : World) : Calls Tryd.prog 16 #[.agg cs, .agg #[.int .i64 1, .int .i64 n, .int .i64 p]] w fun e w' => e = .returned (.bool (mb cs 1 n)) ∧ Below w.heap.size w w' := by
  obtain ⟨j, hj, hlt⟩ := plc_nat' (k := 1) (n := n) (c := size 1) rfl (by decide)
  have hlt : (j : Int) < 32 := hlt
  obtain ⟨x, hc⟩ := hsh.X
  have hr := hrg 0 _ _ hc
  have hu : un .u32 := by unfold un; simp
  have Hv := Lib.hid (show bitAt x j = mb cs 1 n by unfold mb; rw [if_pos rfl]; rw [hj, Int.toNat_natCast, cel_is hc]; rfl)
  have Hm := Lib.hid (un_small hu hr)
  have Hb := Lib.hid (shr_bit hu x j (un_nonneg hu hr) (un_lt hu hr))
  have Hq := Lib.hid (show IntKind.u64.wrap x = x by have := un_small hu hr; unfold small at this; rw [IntKind.wrap_u64]; omega)
  have hq0 : 0 ≤ x := un_nonneg hu hr
  have Hj := Lib.hid hj
  have Hc := Lib.hid hc
  clear hj hc hr hu
  have Hsz := Lib.hid hsh.size
  have ka := heap_alloc2_old w (.cells cs 45) (.cells #[.int .i64 1, .int .i64 n, .int .i64 p] 47)
  have kd := heap_alloc2_new w (.cells cs 45) (.cells #[.int .i64 1, .int .i64 n, .int .i64 p] 47)
  have B0 := Lib.hid (((Below.refl w.heap.size w).alloc (Nat.le_refl _) (.cells cs 45)).alloc (by simp) (.cells #[.int .i64 1, .int .i64 n, .int .i64 p] 47))
  have Ka := Lib.hid ka
  have Kd := Lib.hid kd
  clear ka kd hsh hrg
  go_enter Tryd.func16, Tryd.ntmps16
  go_wp2_with fail
  refine (spec_place 1 n p _).mono ?_
  rintro e w1 ⟨rfl, h1⟩
  have k1 := kit.box_keep Ka.out h1 (kit.box_lt Ka.out)
  have k2 := kit.box_keep Kd.out h1 (kit.box_lt Kd.out)
  have B1 := Lib.hid (B0.out.trans (h1.mono B0.out.size))
  have d0 := kit.box_cell k2 0 rfl
  have d1 := kit.box_cell k2 1 rfl
  have d2 := kit.box_cell k2 2 rfl
  clear h1 k2 Ka Kd B0
  rw [Hj.out]
  have cc : w1.cell? ⟨w.heap.size, 0, none⟩ = some (.int .u32 x) := kit.box_cell k1 0 Hc.out
  clear k1
  clear hq0
  go_wp2_with fail
  first | rw [Hq.out] | skip
  refine (l5Bit_any x j Hm.out (by omega) _).mono ?_
  rintro e w' ⟨rfl, rfl⟩
  go_wp2_with fail
  go_ret
  exact ⟨kit.ret_bool Hv.out, B1.out⟩

set_option maxRecDepth 100000 in
theorem sb_Y (cs : Array Value) (hsh : Shape cs) (hrg : Rg cs) (n p : Int) (w : World) : Calls Tryd.prog 16 #[.agg cs, .agg #[.int .i64 2, .int .i64 n, .int .i64 p]] w fun e w' => e = .returned (.bool (mb cs 2 n)) ∧ Below w.heap.size w w' := by
  obtain ⟨j, hj, hlt⟩ := plc_nat' (k := 2) (n := n) (c := size 2) rfl (by decide)
  have hlt : (j : Int) < 32 := hlt
  obtain ⟨x, hc⟩ := hsh.Y
  have hr := hrg 1 _ _ hc
  have hu : un .u32 := by unfold un; simp
  have Hv := Lib.hid (show bitAt x j = mb cs 2 n by unfold mb; rw [if_neg (by decide)]; rw [if_pos rfl]; rw [hj, Int.toNat_natCast, cel_is hc]; rfl)
  have Hm := Lib.hid (un_small hu hr)
  have Hb := Lib.hid (shr_bit hu x j (un_nonneg hu hr) (un_lt hu hr))
  have Hq := Lib.hid (show IntKind.u64.wrap x = x by have := un_small hu hr; unfold small at this; rw [IntKind.wrap_u64]; omega)
  have hq0 : 0 ≤ x := un_nonneg hu hr
  have Hj := Lib.hid hj
  have Hc := Lib.hid hc
  clear hj hc hr hu
  have Hsz := Lib.hid hsh.size
  have ka := heap_alloc2_old w (.cells cs 45) (.cells #[.int .i64 2, .int .i64 n, .int .i64 p] 47)
  have kd := heap_alloc2_new w (.cells cs 45) (.cells #[.int .i64 2, .int .i64 n, .int .i64 p] 47)
  have B0 := Lib.hid (((Below.refl w.heap.size w).alloc (Nat.le_refl _) (.cells cs 45)).alloc (by simp) (.cells #[.int .i64 2, .int .i64 n, .int .i64 p] 47))
  have Ka := Lib.hid ka
  have Kd := Lib.hid kd
  clear ka kd hsh hrg
  go_enter Tryd.func16, Tryd.ntmps16
  go_wp2_with fail
  refine (spec_place 2 n p _).mono ?_
  rintro e w1 ⟨rfl, h1⟩
  have k1 := kit.box_keep Ka.out h1 (kit.box_lt Ka.out)
  have k2 := kit.box_keep Kd.out h1 (kit.box_lt Kd.out)
  have B1 := Lib.hid (B0.out.trans (h1.mono B0.out.size))
  have d0 := kit.box_cell k2 0 rfl
  have d1 := kit.box_cell k2 1 rfl
  have d2 := kit.box_cell k2 2 rfl
  clear h1 k2 Ka Kd B0
  rw [Hj.out]
  have cc : w1.cell? ⟨w.heap.size, 1, none⟩ = some (.int .u32 x) := kit.box_cell k1 1 Hc.out
  clear k1
  clear hq0
  go_wp2_with fail
  first | rw [Hq.out] | skip
  refine (l5Bit_any x j Hm.out (by omega) _).mono ?_
  rintro e w' ⟨rfl, rfl⟩
  go_wp2_with fail
  go_ret
  exact ⟨kit.ret_bool Hv.out, B1.out⟩

set_option maxRecDepth 100000 in
theorem sb_M (cs : Array Value) (hsh : Shape cs) (hrg : Rg cs) (n p : Int) (w : World) : Calls Tryd.prog 16 #[.agg cs, .agg #[.int .i64 3, .int .i64 n, .int .i64 p]] w fun e w' => e = .returned (.bool (mb cs 3 n)) ∧ Below w.heap.size w w' := by
  obtain ⟨j, hj, hlt⟩ := plc_nat' (k := 3) (n := n) (c := size 3) rfl (by decide)
  have hlt : (j : Int) < 64 := hlt
  obtain ⟨x, hc⟩ := hsh.M
  have hr := hrg 2 _ _ hc
  have hu : un .u64 := by unfold un; simp
  have Hv := Lib.hid (show bitAt x j = mb cs 3 n by unfold mb; rw [if_neg (by decide)]; rw [if_neg (by decide)]; rw [if_pos rfl]; rw [hj, Int.toNat_natCast, cel_is hc]; rfl)
  have Hm := Lib.hid (un_small hu hr)
  have Hb := Lib.hid (shr_bit hu x j (un_nonneg hu hr) (un_lt hu hr))
  have Hq := Lib.hid (show IntKind.u64.wrap x = x by have := un_small hu hr; unfold small at this; rw [IntKind.wrap_u64]; omega)
  have hq0 : 0 ≤ x := un_nonneg hu hr
  have Hj := Lib.hid hj
  have Hc := Lib.hid hc
  clear hj hc hr hu
  have Hsz := Lib.hid hsh.size
  have ka := heap_alloc2_old w (.cells cs 45) (.cells #[.int .i64 3, .int .i64 n, .int .i64 p] 47)
  have kd := heap_alloc2_new w (.cells cs 45) (.cells #[.int .i64 3, .int .i64 n, .int .i64 p] 47)
  have B0 := Lib.hid (((Below.refl w.heap.size w).alloc (Nat.le_refl _) (.cells cs 45)).alloc (by simp) (.cells #[.int .i64 3, .int .i64 n, .int .i64 p] 47))
  have Ka := Lib.hid ka
  have Kd := Lib.hid kd
  clear ka kd hsh hrg
  go_enter Tryd.func16, Tryd.ntmps16
  go_wp2_with fail
  refine (spec_place 3 n p _).mono ?_
  rintro e w1 ⟨rfl, h1⟩
  have k1 := kit.box_keep Ka.out h1 (kit.box_lt Ka.out)
  have k2 := kit.box_keep Kd.out h1 (kit.box_lt Kd.out)
  have B1 := Lib.hid (B0.out.trans (h1.mono B0.out.size))
  have d0 := kit.box_cell k2 0 rfl
  have d1 := kit.box_cell k2 1 rfl
  have d2 := kit.box_cell k2 2 rfl
  clear h1 k2 Ka Kd B0
  rw [Hj.out]
  have cc : w1.cell? ⟨w.heap.size, 2, none⟩ = some (.int .u64 x) := kit.box_cell k1 2 Hc.out
  clear k1
  clear hq0
  go_wp2_with fail
  refine (l5Bit_any x j Hm.out (by omega) _).mono ?_
  rintro e w' ⟨rfl, rfl⟩
  go_wp2_with fail
  go_ret
  exact ⟨kit.ret_bool Hv.out, B1.out⟩

set_option maxRecDepth 100000 in
theorem sb_S (cs : Array Value) (hsh : Shape cs) (hrg : Rg cs) (n p : Int) (w : World) : Calls Tryd.prog 16 #[.agg cs, .agg #[.int .i64 4, .int .i64 n, .int .i64 p]] w fun e w' => e = .returned (.bool (mb cs 4 n)) ∧ Below w.heap.size w w' := by
  obtain ⟨j, hj, hlt⟩ := plc_nat' (k := 4) (n := n) (c := size 4) rfl (by decide)
  have hlt : (j : Int) < 16 := hlt
  obtain ⟨x, hc⟩ := hsh.S
  have hr := hrg 3 _ _ hc
  have hu : un .u16 := by unfold un; simp
  have Hv := Lib.hid (show bitAt x j = mb cs 4 n by unfold mb; rw [if_neg (by decide)]; rw [if_neg (by decide)]; rw [if_neg (by decide)]; rw [if_pos rfl]; rw [hj, Int.toNat_natCast, cel_is hc]; rfl)
  have Hm := Lib.hid (un_small hu hr)
  have Hb := Lib.hid (shr_bit hu x j (un_nonneg hu hr) (un_lt hu hr))
  have Hq := Lib.hid (show IntKind.u64.wrap x = x by have := un_small hu hr; unfold small at this; rw [IntKind.wrap_u64]; omega)
  have hq0 : 0 ≤ x := un_nonneg hu hr
  have Hj := Lib.hid hj
  have Hc := Lib.hid hc
  clear hj hc hr hu
  have Hsz := Lib.hid hsh.size
  have ka := heap_alloc2_old w (.cells cs 45) (.cells #[.int .i64 4, .int .i64 n, .int .i64 p] 47)
  have kd := heap_alloc2_new w (.cells cs 45) (.cells #[.int .i64 4, .int .i64 n, .int .i64 p] 47)
  have B0 := Lib.hid (((Below.refl w.heap.size w).alloc (Nat.le_refl _) (.cells cs 45)).alloc (by simp) (.cells #[.int .i64 4, .int .i64 n, .int .i64 p] 47))
  have Ka := Lib.hid ka
  have Kd := Lib.hid kd
  clear ka kd hsh hrg
  go_enter Tryd.func16, Tryd.ntmps16
  go_wp2_with fail
  refine (spec_place 4 n p _).mono ?_
  rintro e w1 ⟨rfl, h1⟩
  have k1 := kit.box_keep Ka.out h1 (kit.box_lt Ka.out)
  have k2 := kit.box_keep Kd.out h1 (kit.box_lt Kd.out)
  have B1 := Lib.hid (B0.out.trans (h1.mono B0.out.size))
  have d0 := kit.box_cell k2 0 rfl
  have d1 := kit.box_cell k2 1 rfl
  have d2 := kit.box_cell k2 2 rfl
  clear h1 k2 Ka Kd B0
  rw [Hj.out]
  have cc : w1.cell? ⟨w.heap.size, 3, none⟩ = some (.int .u16 x) := kit.box_cell k1 3 Hc.out
  clear k1
  clear hq0
  go_wp2_with fail
  first | rw [Hq.out] | skip
  refine (l5Bit_any x j Hm.out (by omega) _).mono ?_
  rintro e w' ⟨rfl, rfl⟩
  go_wp2_with fail
  go_ret
  exact ⟨kit.ret_bool Hv.out, B1.out⟩

set_option maxRecDepth 100000 in
theorem sb_E (cs : Array Value) (hsh : Shape cs) (hrg : Rg cs) (n p : Int) (w : World) : Calls Tryd.prog 16 #[.agg cs, .agg #[.int .i64 5, .int .i64 n, .int .i64 p]] w fun e w' => e = .returned (.bool (mb cs 5 n)) ∧ Below w.heap.size w w' := by
  obtain ⟨j, hj, hlt⟩ := plc_nat' (k := 5) (n := n) (c := size 5) rfl (by decide)
  have hlt : (j : Int) < 32 := hlt
  obtain ⟨x, hc⟩ := hsh.E
  have hr := hrg 4 _ _ hc
  have hu : un .u32 := by unfold un; simp
  have Hv := Lib.hid (show bitAt x j = mb cs 5 n by unfold mb; rw [if_neg (by decide)]; rw [if_neg (by decide)]; rw [if_neg (by decide)]; rw [if_neg (by decide)]; rw [if_pos rfl]; rw [hj, Int.toNat_natCast, cel_is hc]; rfl)
  have Hm := Lib.hid (un_small hu hr)
  have Hb := Lib.hid (shr_bit hu x j (un_nonneg hu hr) (un_lt hu hr))
  have Hq := Lib.hid (show IntKind.u64.wrap x = x by have := un_small hu hr; unfold small at this; rw [IntKind.wrap_u64]; omega)
  have hq0 : 0 ≤ x := un_nonneg hu hr
  have Hj := Lib.hid hj
  have Hc := Lib.hid hc
  clear hj hc hr hu
  have Hsz := Lib.hid hsh.size
  have ka := heap_alloc2_old w (.cells cs 45) (.cells #[.int .i64 5, .int .i64 n, .int .i64 p] 47)
  have kd := heap_alloc2_new w (.cells cs 45) (.cells #[.int .i64 5, .int .i64 n, .int .i64 p] 47)
  have B0 := Lib.hid (((Below.refl w.heap.size w).alloc (Nat.le_refl _) (.cells cs 45)).alloc (by simp) (.cells #[.int .i64 5, .int .i64 n, .int .i64 p] 47))
  have Ka := Lib.hid ka
  have Kd := Lib.hid kd
  clear ka kd hsh hrg
  go_enter Tryd.func16, Tryd.ntmps16
  go_wp2_with fail
  refine (spec_place 5 n p _).mono ?_
  rintro e w1 ⟨rfl, h1⟩
  have k1 := kit.box_keep Ka.out h1 (kit.box_lt Ka.out)
  have k2 := kit.box_keep Kd.out h1 (kit.box_lt Kd.out)
  have B1 := Lib.hid (B0.out.trans (h1.mono B0.out.size))
  have d0 := kit.box_cell k2 0 rfl
  have d1 := kit.box_cell k2 1 rfl
  have d2 := kit.box_cell k2 2 rfl
  clear h1 k2 Ka Kd B0
  rw [Hj.out]
  have cc : w1.cell? ⟨w.heap.size, 4, none⟩ = some (.int .u32 x) := kit.box_cell k1 4 Hc.out
  clear k1
  clear hq0
  go_wp2_with fail
  first | rw [Hq.out] | skip
  refine (l5Bit_any x j Hm.out (by omega) _).mono ?_
  rintro e w' ⟨rfl, rfl⟩
  go_wp2_with fail
  go_ret
  exact ⟨kit.ret_bool Hv.out, B1.out⟩

set_option maxRecDepth 100000 in
theorem sb_T (cs : Array Value) (hsh : Shape cs) (hrg : Rg cs) (n p : Int) (w : World) : Calls Tryd.prog 16 #[.agg cs, .agg #[.int .i64 7, .int .i64 n, .int .i64 p]] w fun e w' => e = .returned (.bool (mb cs 7 n)) ∧ Below w.heap.size w w' := by
  obtain ⟨j, hj, hlt⟩ := plc_nat' (k := 7) (n := n) (c := 16) rfl (by decide)
  obtain ⟨x, c, hc, _⟩ := hsh.T j (by omega)
  have Hv := Lib.hid (show x = mb cs 7 n by unfold mb; rw [if_neg (by decide)]; rw [if_neg (by decide)]; rw [if_neg (by decide)]; rw [if_neg (by decide)]; rw [if_neg (by decide)]; rw [if_neg (by decide)]; rw [if_pos rfl]; rw [hj, Int.toNat_natCast, cel_is hc]; rfl)
  have Hj := Lib.hid hj
  have Hc := Lib.hid hc
  clear hj hc
  have Hsz := Lib.hid hsh.size
  have ka := heap_alloc2_old w (.cells cs 45) (.cells #[.int .i64 7, .int .i64 n, .int .i64 p] 47)
  have kd := heap_alloc2_new w (.cells cs 45) (.cells #[.int .i64 7, .int .i64 n, .int .i64 p] 47)
  have B0 := Lib.hid (((Below.refl w.heap.size w).alloc (Nat.le_refl _) (.cells cs 45)).alloc (by simp) (.cells #[.int .i64 7, .int .i64 n, .int .i64 p] 47))
  have Ka := Lib.hid ka
  have Kd := Lib.hid kd
  clear ka kd hsh hrg
  go_enter Tryd.func16, Tryd.ntmps16
  go_wp2_with fail
  refine (spec_place 7 n p _).mono ?_
  rintro e w1 ⟨rfl, h1⟩
  have k1 := kit.box_keep Ka.out h1 (kit.box_lt Ka.out)
  have k2 := kit.box_keep Kd.out h1 (kit.box_lt Kd.out)
  have B1 := Lib.hid (B0.out.trans (h1.mono B0.out.size))
  have d0 := kit.box_cell k2 0 rfl
  have d1 := kit.box_cell k2 1 rfl
  have d2 := kit.box_cell k2 2 rfl
  clear h1 k2 Ka Kd B0
  rw [Hj.out]
  have cc : w1.cell? ⟨w.heap.size, 5 + j * 2, none⟩ = some (.bool x) := kit.box_cell k1 (5 + j * 2) Hc.out
  clear k1
  go_wp2_with fail
  go_ret
  exact ⟨kit.ret_bool Hv.out, B1.out⟩

set_option maxRecDepth 100000 in
theorem sb_C (cs : Array Value) (hsh : Shape cs) (hrg : Rg cs) (n p : Int) (w : World) : Calls Tryd.prog 16 #[.agg cs, .agg #[.int .i64 8, .int .i64 n, .int .i64 p]] w fun e w' => e = .returned (.bool (mb cs 8 n)) ∧ Below w.heap.size w w' := by
  obtain ⟨j, hj, hlt⟩ := plc_nat' (k := 8) (n := n) (c := 16) rfl (by decide)
  obtain ⟨x, l, c, hc, _, _⟩ := hsh.C j (by omega)
  have Hv := Lib.hid (show x = mb cs 8 n by unfold mb; rw [if_neg (by decide)]; rw [if_neg (by decide)]; rw [if_neg (by decide)]; rw [if_neg (by decide)]; rw [if_neg (by decide)]; rw [if_neg (by decide)]; rw [if_neg (by decide)]; rw [if_pos rfl]; rw [hj, Int.toNat_natCast, cel_is hc]; rfl)
  have Hj := Lib.hid hj
  have Hc := Lib.hid hc
  clear hj hc
  have Hsz := Lib.hid hsh.size
  have ka := heap_alloc2_old w (.cells cs 45) (.cells #[.int .i64 8, .int .i64 n, .int .i64 p] 47)
  have kd := heap_alloc2_new w (.cells cs 45) (.cells #[.int .i64 8, .int .i64 n, .int .i64 p] 47)
  have B0 := Lib.hid (((Below.refl w.heap.size w).alloc (Nat.le_refl _) (.cells cs 45)).alloc (by simp) (.cells #[.int .i64 8, .int .i64 n, .int .i64 p] 47))
  have Ka := Lib.hid ka
  have Kd := Lib.hid kd
  clear ka kd hsh hrg
  go_enter Tryd.func16, Tryd.ntmps16
  go_wp2_with fail
  refine (spec_place 8 n p _).mono ?_
  rintro e w1 ⟨rfl, h1⟩
  have k1 := kit.box_keep Ka.out h1 (kit.box_lt Ka.out)
  have k2 := kit.box_keep Kd.out h1 (kit.box_lt Kd.out)
  have B1 := Lib.hid (B0.out.trans (h1.mono B0.out.size))
  have d0 := kit.box_cell k2 0 rfl
  have d1 := kit.box_cell k2 1 rfl
  have d2 := kit.box_cell k2 2 rfl
  clear h1 k2 Ka Kd B0
  rw [Hj.out]
  have cc : w1.cell? ⟨w.heap.size, 37 + j * 3, none⟩ = some (.bool x) := kit.box_cell k1 (37 + j * 3) Hc.out
  clear k1
  go_wp2_with fail
  go_ret
  exact ⟨kit.ret_bool Hv.out, B1.out⟩

set_option maxRecDepth 100000 in
theorem sb_G (cs : Array Value) (hsh : Shape cs) (hrg : Rg cs) (n p : Int) (w : World) : Calls Tryd.prog 16 #[.agg cs, .agg #[.int .i64 6, .int .i64 n, .int .i64 p]] w fun e w' => e = .returned (.bool (mb cs 6 n)) ∧ Below w.heap.size w w' := by
  obtain ⟨j, hj, hlt⟩ := plc_nat' (k := 6) (n := n) (c := 8) rfl (by decide)
  obtain ⟨t, h133⟩ := hsh.Time
  obtain ⟨ra, h134⟩ := hsh.Ran
  obtain ⟨fa, h135⟩ := hsh.Fault
  have ht := (hrg 133 _ _ h133).1
  have ht : 0 ≤ t := ht
  have g1 := cel_is h133
  have g2 := cel_is h134
  have g3 := cel_is h135
  have Hv := Lib.hid (show given cs j = mb cs 6 n by unfold mb; rw [if_neg (by decide)]; rw [if_neg (by decide)]; rw [if_neg (by decide)]; rw [if_neg (by decide)]; rw [if_neg (by decide)]; rw [if_pos rfl]; rw [hj])
  have HG := Lib.hid (show given cs j = if (j : Int) = 0 then true else if (j : Int) = 2 then !ra else if (j : Int) = 3 then fa else if (j : Int) = 4 then decide (500 ≤ t % 1000) else false by unfold given; rw [g1, g2, g3]; rfl)
  have Hj := Lib.hid hj
  have Hc1 := Lib.hid h133
  have Hc2 := Lib.hid h134
  have Hc3 := Lib.hid h135
  clear hj h133 h134 h135 g1 g2 g3
  have Hsz := Lib.hid hsh.size
  have ka := heap_alloc2_old w (.cells cs 45) (.cells #[.int .i64 6, .int .i64 n, .int .i64 p] 47)
  have kd := heap_alloc2_new w (.cells cs 45) (.cells #[.int .i64 6, .int .i64 n, .int .i64 p] 47)
  have B0 := Lib.hid (((Below.refl w.heap.size w).alloc (Nat.le_refl _) (.cells cs 45)).alloc (by simp) (.cells #[.int .i64 6, .int .i64 n, .int .i64 p] 47))
  have Ka := Lib.hid ka
  have Kd := Lib.hid kd
  clear ka kd hsh hrg
  go_enter Tryd.func16, Tryd.ntmps16
  go_wp2_with fail
  refine (spec_place 6 n p _).mono ?_
  rintro e w1 ⟨rfl, h1⟩
  have k1 := kit.box_keep Ka.out h1 (kit.box_lt Ka.out)
  have k2 := kit.box_keep Kd.out h1 (kit.box_lt Kd.out)
  have B1 := Lib.hid (B0.out.trans (h1.mono B0.out.size))
  have d0 := kit.box_cell k2 0 rfl
  have d1 := kit.box_cell k2 1 rfl
  have d2 := kit.box_cell k2 2 rfl
  clear h1 k2 Ka Kd B0
  rw [Hj.out]
  have Ht := Lib.hid ht
  clear ht hlt
  go_wp2_with (refine wl_hld rfl _ _ rfl k1 rfl (by kernel_rfl) 136 Hsz.out (by kernel_rfl) ?_)
  refine (l5Given_any cs t ra fa Hc1.out Hc2.out Hc3.out Ht.out j _).mono ?_
  rintro e w2 ⟨rfl, h2⟩
  have B2 := Lib.hid (B1.out.trans (h2.mono B1.out.size))
  clear h2
  go_wp2_with fail
  go_ret
  exact ⟨kit.ret_bool Hv.out, B2.out⟩

set_option maxRecDepth 100000 in
theorem sb_O (cs : Array Value) (hsh : Shape cs) (hrg : Rg cs) (k n p : Int) (h1 : k ≠ 1) (h2 : k ≠ 2) (h3 : k ≠ 3) (h4 : k ≠ 4) (h5 : k ≠ 5) (h6 : k ≠ 6) (h7 : k ≠ 7) (h8 : k ≠ 8) (w : World) : Calls Tryd.prog 16 #[.agg cs, .agg #[.int .i64 k, .int .i64 n, .int .i64 p]] w fun e w' => e = .returned (.bool (mb cs k n)) ∧ Below w.heap.size w w' := by
  have hk1 : (k == 1) = false := beq_eq_false_iff_ne.2 h1
  have hk2 : (k == 2) = false := beq_eq_false_iff_ne.2 h2
  have hk3 : (k == 3) = false := beq_eq_false_iff_ne.2 h3
  have hk4 : (k == 4) = false := beq_eq_false_iff_ne.2 h4
  have hk5 : (k == 5) = false := beq_eq_false_iff_ne.2 h5
  have hk6 : (k == 6) = false := beq_eq_false_iff_ne.2 h6
  have hk7 : (k == 7) = false := beq_eq_false_iff_ne.2 h7
  have hk8 : (k == 8) = false := beq_eq_false_iff_ne.2 h8
  have Hv := Lib.hid (show false = mb cs k n by unfold mb; rw [if_neg h1, if_neg h2, if_neg h3, if_neg h4, if_neg h5, if_neg h6, if_neg h7, if_neg h8])
  clear h1 h2 h3 h4 h5 h6 h7 h8
  have Hsz := Lib.hid hsh.size
  have ka := heap_alloc2_old w (.cells cs 45) (.cells #[.int .i64 k, .int .i64 n, .int .i64 p] 47)
  have kd := heap_alloc2_new w (.cells cs 45) (.cells #[.int .i64 k, .int .i64 n, .int .i64 p] 47)
  have B0 := Lib.hid (((Below.refl w.heap.size w).alloc (Nat.le_refl _) (.cells cs 45)).alloc (by simp) (.cells #[.int .i64 k, .int .i64 n, .int .i64 p] 47))
  have Ka := Lib.hid ka
  have Kd := Lib.hid kd
  clear ka kd hsh hrg
  go_enter Tryd.func16, Tryd.ntmps16
  go_wp2_with fail
  refine (spec_place k n p _).mono ?_
  rintro e w1 ⟨rfl, h1⟩
  have k1 := kit.box_keep Ka.out h1 (kit.box_lt Ka.out)
  have k2 := kit.box_keep Kd.out h1 (kit.box_lt Kd.out)
  have B1 := Lib.hid (B0.out.trans (h1.mono B0.out.size))
  have d0 := kit.box_cell k2 0 rfl
  have d1 := kit.box_cell k2 1 rfl
  have d2 := kit.box_cell k2 2 rfl
  clear h1 k2 Ka Kd B0
  clear k1
  go_wp2_with fail
  go_ret
  exact ⟨kit.ret_bool Hv.out, B1.out⟩

theorem sb_any (cs : Array Value) (hsh : Shape cs) (hrg : Rg cs) (k n p : Int) (w : World) : Calls Tryd.prog 16 #[.agg cs, .agg #[.int .i64 k, .int .i64 n, .int .i64 p]] w fun e w' => e = .returned (.bool (mb cs k n)) ∧ Below w.heap.size w w' := by
  by_cases h1 : k = 1
  · subst h1; exact sb_X cs hsh hrg n p w
  by_cases h2 : k = 2
  · subst h2; exact sb_Y cs hsh hrg n p w
  by_cases h3 : k = 3
  · subst h3; exact sb_M cs hsh hrg n p w
  by_cases h4 : k = 4
  · subst h4; exact sb_S cs hsh hrg n p w
  by_cases h5 : k = 5
  · subst h5; exact sb_E cs hsh hrg n p w
  by_cases h6 : k = 6
  · subst h6; exact sb_G cs hsh hrg n p w
  by_cases h7 : k = 7
  · subst h7; exact sb_T cs hsh hrg n p w
  by_cases h8 : k = 8
  · subst h8; exact sb_C cs hsh hrg n p w
  exact sb_O cs hsh hrg k n p h1 h2 h3 h4 h5 h6 h7 h8 w

end Go.Proofs.YtnffgafofkknoaaDoor.part
