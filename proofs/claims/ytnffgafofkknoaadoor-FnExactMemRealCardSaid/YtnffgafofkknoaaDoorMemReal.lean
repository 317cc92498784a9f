/-
  'MemReal' of both sides: what they return.
  Conditions: the cells have the kinds of a memory; the variables 'devSizes', 'devWords' hold what they are laid with.
-/
import Derived.Test.YtnffgafofkknoaaDoorRealArg
import Derived.Test.YtnffgafofkknoaaDoorRange
import Derived.Test.YtnffgafofkknoaaDoorPlace
import Derived.Test.YtnffgafofkknoaaDoorStore
namespace Go.Proofs.YtnffgafofkknoaaDoor.part
open Go Go.RowKit Go.Proofs.YtnffgafofkknoaaDoor.dev Go.Proofs.YtnffgafofkknoaaDoor.flo
set_option linter.unusedVariables false
set_option linter.unusedSimpArgs false

theorem plc_nat5 {k n c : Int} (hc : cnt k = c) (h : c ≠ 0) : ∃ j : Nat, plc k n = j ∧ (j : Int) < c := by
  have h1 := plc_in k n
  obtain ⟨j, e⟩ := Int.eq_ofNat_of_zero_le h1.1
  exact ⟨j, e, by rw [← e, ← hc]; exact h1.2 (by rw [hc]; exact h)⟩
def fnum : Value → Nat | .float _ q => q | _ => 0
/-- What 'MemReal' returns. -/
def Mr (cs : Array Value) (k n p : Int) (x : Nat) : Prop := if k = 10 then x = fnum (cel cs (117 + (plc k n).toNat)) else Arg k n p x
theorem Mr.same {cs : Array Value} {k n p : Int} {x y : Nat} (hx : Mr cs k n p x) (hy : Mr cs k n p y) : Same y x := by
  unfold Mr at hx hy
  split at hx
  · rename_i h
    rw [if_pos h] at hy
    rw [hx, hy]
    exact Same.refl _
  · rename_i h
    rw [if_neg h] at hy
    exact hx.same hy

set_option maxRecDepth 100000 in
theorem imr_1 (cs : Array Value) (hsh : Shape cs) (n p : Int) (w : World) (hs : Sizes w) (hw : Words w) : Calls Tryd.prog 24 #[.agg cs, .agg #[.int .i64 10, .int .i64 n, .int .i64 p]] w (Flt (Mr cs 10 n p) w) := by
  obtain ⟨j, hj, hlt⟩ := plc_nat5 (k := 10) (n := n) (c := 16) rfl (by decide)
  obtain ⟨x, hc⟩ := hsh.R j (by omega)
  have Hv := Lib.hid (show Mr cs 10 n p x by unfold Mr; rw [if_pos rfl, hj, Int.toNat_natCast, cel_is hc]; rfl)
  have Hj := Lib.hid hj
  have Hc := Lib.hid hc
  clear hj hc
  have ka := heap_alloc2_old w (.cells cs 45) (.cells #[.int .i64 10, .int .i64 n, .int .i64 p] 47)
  have B0 := Lib.hid (((Below.refl w.heap.size w).alloc (Nat.le_refl _) (.cells cs 45)).alloc (by simp) (.cells #[.int .i64 10, .int .i64 n, .int .i64 p] 47))
  have Ka := Lib.hid ka
  clear ka hsh
  have Hs := Lib.hid ((hs.alloc (.cells cs 45)).alloc (.cells #[.int .i64 10, .int .i64 n, .int .i64 p] 47))
  have Hw := Lib.hid ((hw.alloc (.cells cs 45)).alloc (.cells #[.int .i64 10, .int .i64 n, .int .i64 p] 47))
  clear hs hw
  go_enter Tryd.func24, Tryd.ntmps24
  go_wp2_with fail
  refine (impl_place 10 n p _ Hs.out).mono ?_
  rintro e w1 ⟨rfl, h1⟩
  have k1 := kit.box_keep Ka.out h1 (kit.box_lt Ka.out)
  have B1 := Lib.hid (B0.out.trans (h1.mono B0.out.size))
  rw [Hj.out]
  have cc : w1.cell? ⟨w.heap.size, 117 + j, none⟩ = some (.float .f64 x) := kit.box_cell k1 (117 + j) Hc.out
  clear h1 k1 Ka B0
  go_wp2_with fail
  go_ret
  exact ⟨x, rfl, Hv.out, B1.out⟩

set_option maxRecDepth 100000 in
theorem imr_0 (cs : Array Value) (hsh : Shape cs) (k n p : Int) (hk : k ≠ 10) (w : World) (hs : Sizes w) (hw : Words w) : Calls Tryd.prog 24 #[.agg cs, .agg #[.int .i64 k, .int .i64 n, .int .i64 p]] w (Flt (Mr cs k n p) w) := by
  have bk : (k == 10) = false := beq_eq_false_iff_ne.2 hk
  have Hp := Lib.hid (show ∀ x, Arg k n p x → Mr cs k n p x from fun x h => by unfold Mr; rw [if_neg hk]; exact h)
  clear hk
  have ka := heap_alloc2_old w (.cells cs 45) (.cells #[.int .i64 k, .int .i64 n, .int .i64 p] 47)
  have B0 := Lib.hid (((Below.refl w.heap.size w).alloc (Nat.le_refl _) (.cells cs 45)).alloc (by simp) (.cells #[.int .i64 k, .int .i64 n, .int .i64 p] 47))
  have Ka := Lib.hid ka
  clear ka hsh
  have Hs := Lib.hid ((hs.alloc (.cells cs 45)).alloc (.cells #[.int .i64 k, .int .i64 n, .int .i64 p] 47))
  have Hw := Lib.hid ((hw.alloc (.cells cs 45)).alloc (.cells #[.int .i64 k, .int .i64 n, .int .i64 p] 47))
  clear hs hw
  go_enter Tryd.func24, Tryd.ntmps24
  go_wp2_with fail
  refine (impl_arg k n p _ Hs.out Hw.out).mono ?_
  rintro e w1 ⟨x, rfl, hx, h1⟩
  have Hx := Lib.hid (Hp.out x hx)
  have B1 := Lib.hid (B0.out.trans (h1.mono B0.out.size))
  clear h1 Ka B0 hx Hp
  go_wp2_with fail
  go_ret
  exact ⟨x, rfl, Hx.out, B1.out⟩

theorem imr_any (cs : Array Value) (hsh : Shape cs) (k n p : Int) (w : World) (hs : Sizes w) (hw : Words w) : Calls Tryd.prog 24 #[.agg cs, .agg #[.int .i64 k, .int .i64 n, .int .i64 p]] w (Flt (Mr cs k n p) w) := by
  by_cases h : k = 10
  · subst h; exact imr_1 cs hsh n p w hs hw
  · exact imr_0 cs hsh k n p h w hs hw

set_option maxRecDepth 100000 in
theorem smr_1 (cs : Array Value) (hsh : Shape cs) (n p : Int) (w : World) : Calls Tryd.prog 23 #[.agg cs, .agg #[.int .i64 10, .int .i64 n, .int .i64 p]] w (Flt (Mr cs 10 n p) w) := by
  obtain ⟨j, hj, hlt⟩ := plc_nat5 (k := 10) (n := n) (c := 16) rfl (by decide)
  obtain ⟨x, hc⟩ := hsh.R j (by omega)
  have Hv := Lib.hid (show Mr cs 10 n p x by unfold Mr; rw [if_pos rfl, hj, Int.toNat_natCast, cel_is hc]; rfl)
  have Hj := Lib.hid hj
  have Hc := Lib.hid hc
  clear hj hc
  have ka := heap_alloc2_old w (.cells cs 45) (.cells #[.int .i64 10, .int .i64 n, .int .i64 p] 47)
  have B0 := Lib.hid (((Below.refl w.heap.size w).alloc (Nat.le_refl _) (.cells cs 45)).alloc (by simp) (.cells #[.int .i64 10, .int .i64 n, .int .i64 p] 47))
  have Ka := Lib.hid ka
  clear ka hsh
  go_enter Tryd.func23, Tryd.ntmps23
  go_wp2_with fail
  refine (spec_place 10 n p _).mono ?_
  rintro e w1 ⟨rfl, h1⟩
  have k1 := kit.box_keep Ka.out h1 (kit.box_lt Ka.out)
  have B1 := Lib.hid (B0.out.trans (h1.mono B0.out.size))
  rw [Hj.out]
  have cc : w1.cell? ⟨w.heap.size, 117 + j, none⟩ = some (.float .f64 x) := kit.box_cell k1 (117 + j) Hc.out
  clear h1 k1 Ka B0
  go_wp2_with fail
  go_ret
  exact ⟨x, rfl, Hv.out, B1.out⟩

set_option maxRecDepth 100000 in
theorem smr_0 (cs : Array Value) (hsh : Shape cs) (k n p : Int) (hk : k ≠ 10) (w : World) : Calls Tryd.prog 23 #[.agg cs, .agg #[.int .i64 k, .int .i64 n, .int .i64 p]] w (Flt (Mr cs k n p) w) := by
  have bk : (k == 10) = false := beq_eq_false_iff_ne.2 hk
  have Hp := Lib.hid (show ∀ x, Arg k n p x → Mr cs k n p x from fun x h => by unfold Mr; rw [if_neg hk]; exact h)
  clear hk
  have ka := heap_alloc2_old w (.cells cs 45) (.cells #[.int .i64 k, .int .i64 n, .int .i64 p] 47)
  have B0 := Lib.hid (((Below.refl w.heap.size w).alloc (Nat.le_refl _) (.cells cs 45)).alloc (by simp) (.cells #[.int .i64 k, .int .i64 n, .int .i64 p] 47))
  have Ka := Lib.hid ka
  clear ka hsh
  go_enter Tryd.func23, Tryd.ntmps23
  go_wp2_with fail
  refine (spec_arg k n p _).mono ?_
  rintro e w1 ⟨x, rfl, hx, h1⟩
  have Hx := Lib.hid (Hp.out x hx)
  have B1 := Lib.hid (B0.out.trans (h1.mono B0.out.size))
  clear h1 Ka B0 hx Hp
  go_wp2_with fail
  go_ret
  exact ⟨x, rfl, Hx.out, B1.out⟩

theorem smr_any (cs : Array Value) (hsh : Shape cs) (k n p : Int) (w : World) : Calls Tryd.prog 23 #[.agg cs, .agg #[.int .i64 k, .int .i64 n, .int .i64 p]] w (Flt (Mr cs k n p) w) := by
  by_cases h : k = 10
  · subst h; exact smr_1 cs hsh n p w
  · exact smr_0 cs hsh k n p h w

end Go.Proofs.YtnffgafofkknoaaDoor.part
