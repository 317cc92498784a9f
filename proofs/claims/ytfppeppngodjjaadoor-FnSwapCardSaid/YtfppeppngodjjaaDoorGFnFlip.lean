/-
  The walks of 'FnFlip' and 'FnSwap': they return true.
  Conditions: the listed variables hold their numbers.
-/
import Derived.Test.YtfppeppngodjjaaDoorCmpOf
namespace Go.Proofs.YtfppeppngodjjaaDoor.draws
open Go.RowKit Go.Proofs.YtfppeppngodjjaaDoorW.PrintWords
set_option linter.unusedVariables false
set_option linter.unusedSimpArgs false

theorem int_swap (a b : Int) : compare b a = (compare a b).swap := by
  have h3 : a < b ∨ a = b ∨ b < a := by omega
  rcases h3 with h | h | h
  · have h1 : ¬ b < a := by omega
    have h2 : ¬ b = a := by omega
    simp [compare, compareOfLessAndEq, h, h1, h2]
  · subst h
    simp [compare, compareOfLessAndEq]
  · have h1 : ¬ a < b := by omega
    have h2 : ¬ a = b := by omega
    simp [compare, compareOfLessAndEq, h, h1, h2]

theorem order_swap (x y : Nat) : FloatKind.f64.format.order y x = (FloatKind.f64.format.order x y).map Ordering.swap := by
  show (Ieee.double.read y).order (Ieee.double.read x) = ((Ieee.double.read x).order (Ieee.double.read y)).map Ordering.swap
  generalize Ieee.double.read x = a
  generalize Ieee.double.read y = b
  cases a <;> cases b <;> simp only [Ieee.Datum.order, Option.map_none, Option.map_some]
  all_goals first
    | rfl
    | (rename_i s m i t n j; rw [Int.min_comm, int_swap])
    | (rename_i s t; cases s <;> cases t <;> rfl)
    | (rename_i s _ _ t; cases s <;> cases t <;> rfl)
    | (rename_i s; cases s <;> rfl)
    | (split <;> rfl)
end Go.Proofs.YtfppeppngodjjaaDoor.draws

namespace Go.Proofs.YtfppeppngodjjaaDoor.fnFlip
open Go.RowKit Go.Proofs.YtfppeppngodjjaaDoorW.PrintWords Go.Proofs.YtfppeppngodjjaaDoor.draws
set_option linter.unusedVariables false
set_option linter.unusedSimpArgs false

set_option maxRecDepth 100000 in
theorem walk (W : World) (base : Nat) (v0 : Value) (o0 : Value.okWide Tryd.prog W .any base 22 v0) (b0 : kit.Bytes W v0) (hL : laidMetH Tryd.prog Rows.fnFlipRow.laid W) :
    Calls Tryd.prog 3 #[v0] W fun e w' => e = .returned (.bool true) ∧ Below W.heap.size W w' := by
  have hs : cmp.Seven 0 cmp.flips W := kit.laid_ints (zs := cmp.flips) (k := .i64) (n := "loop.example/stile/impl.cmpFlips") hL (by kernel_rfl) (List.Mem.head _) (by kernel_rfl) (by kernel_rfl) Tryd.underlying48 Tryd.underlying3 (by kernel_rfl) (by decide)
  have Hs := Lib.hid hs
  clear o0 hL hs
  obtain ⟨A, len, cap, zs, rfl, h, y⟩ := b0
  obtain ⟨l, rfl, hr, hm, hw, hc⟩ := ReadsInt.ofRowC h
  have HR := Lib.hid hr
  have HC := Lib.hid hc
  have HW := Lib.hid hw
  clear h y hr hw hc
  by_cases hl : (l.length : Int) > 1048576
  · clear HR HC HW Hs
    go_enter Tryd.func3, Tryd.ntmps3
    go_wp2
    go_ret
    exact ⟨rfl, Below.refl _ _⟩
  have HL : Hid (l.length ≤ 1048576) := Lib.hid (by omega)
  go_enter Tryd.func3, Tryd.ntmps3
  go_wp2_with fail
  refine (drawWhole HR.out HC.out HL.out HW.out).mono ?_
  rintro e w1 ⟨o, a, b, rfl, _, h1⟩
  have H1 := Lib.hid h1
  clear h1
  go_wp2_with fail
  refine (drawReal (HR.out.below H1.out) HC.out HL.out HW.out).mono ?_
  rintro e w2 ⟨o2, x, y, rfl, h2⟩
  have H2 := Lib.hid (below_step H1.out h2)
  clear h2 H1 HR HC HW HL hl
  obtain ⟨cw, hcw⟩ : ∃ cw, compare a b = cw := ⟨_, rfl⟩
  obtain ⟨oo, hoo⟩ : ∃ oo, FloatKind.f64.format.order x y = oo := ⟨_, rfl⟩
  have Hcw := Lib.hid hcw
  have Hoo := Lib.hid hoo
  clear hcw hoo
  have hxy : (∃ c, oo = some c ∧ FloatKind.f64.format.order x x = some .eq ∧ FloatKind.f64.format.order y y = some .eq) ∨ (oo = none ∧ FloatKind.f64.format.order x x = none) ∨ (oo = none ∧ FloatKind.f64.format.order x x = some .eq ∧ FloatKind.f64.format.order y y = none) := by
    cases hx : flo.isNan x with
    | true => exact .inr (.inl ⟨by rw [← Hoo.out]; exact flo.order_nan_left hx, flo.order_nan_left hx⟩)
    | false =>
      cases hy : flo.isNan y with
      | true => exact .inr (.inr ⟨by rw [← Hoo.out]; exact flo.order_nan_right hy, flo.order_self hx, flo.order_nan_left hy⟩)
      | false =>
        obtain ⟨c, hc⟩ := flo.order_num hx hy
        exact .inl ⟨c, by rw [← Hoo.out]; exact hc, flo.order_self hx, flo.order_self hy⟩
  have Hxy := Lib.hid hxy
  clear hxy
  go_wp2_with fail
  go_loopg [9] 6 (fun kq v9 w' => v9 = .int .i64 (7 - (kq : Int)) ∧ Hid (kq ≤ 6) ∧ Hid (Below W.heap.size W w'))
  case atStart => exact ⟨rfl, Lib.hid (by decide), H2⟩
  case round =>
    obtain ⟨rfl, hk, HB⟩ := hrel
    cases gk with
    | zero =>
      go_wp2_with fail
      go_ret
      exact ⟨rfl, HB.out⟩
    | succ k1 =>
      obtain ⟨p, hp⟩ : ∃ p : Int, p = 7 - ((k1 + 1 : Nat) : Int) := ⟨_, rfl⟩
      have hp6 : 1 ≤ p ∧ p ≤ 6 := by have := hk.out; omega
      have hple : p ≤ 6 := hp6.2
      have Hp := Lib.hid hp
      rw [← hp]
      have Hp6 := Lib.hid hp6
      clear hp hp6
      go_wp2_with fail
      refine (cmp.impl_flip _ _ (cmp.seven_below Hs.out HB.out)).mono ?_
      rintro e w' ⟨rfl, rfl⟩
      go_wp2_with fail
      refine (cmp.spec_flip _ _).mono ?_
      rintro e w3 ⟨rfl, h3⟩
      have HB3 := Lib.hid (below_step HB.out h3)
      clear h3
      obtain ⟨c, hc⟩ : ∃ c, ro p (some cw) = c := ⟨_, rfl⟩
      have Hc := Lib.hid hc
      have Hc2 := Lib.hid (show ro (cmp.pick cmp.flips p) (some cw) = !c by rw [flips_ro Hp6.out, hc])
      clear hc
      go_wp2_with fail
      refine (wholeCmp p a b Hp6.out _ (c := c) (by rw [Hcw.out]; exact Hc.out)).mono ?_
      rintro e w' ⟨rfl, rfl⟩
      go_wp2_with fail
      refine (cmp.impl_flip _ _ (cmp.seven_below Hs.out HB3.out)).mono ?_
      rintro e w' ⟨rfl, rfl⟩
      go_wp2_with fail
      refine (wholeCmp _ a b (flips_in Hp6.out) _ (c := !c) (by rw [Hcw.out]; exact Hc2.out)).mono ?_
      rintro e w' ⟨rfl, rfl⟩
      clear Hc Hc2
      rcases Hxy.out with ⟨co, ho, hxx, hyy⟩ | ⟨ho, hxx⟩ | ⟨ho, hxx, hyy⟩
      · obtain ⟨d, hd⟩ : ∃ d, ro p (some co) = d := ⟨_, rfl⟩
        have Hd := Lib.hid hd
        have Hd2 := Lib.hid (show ro (cmp.pick cmp.flips p) (some co) = !d by rw [flips_ro Hp6.out, hd])
        have Ho := Lib.hid ho
        clear hd ho
        cases c
        all_goals
          go_wp2_with fail
          refine (realCmp p x y Hp6.out _ (by rw [Hoo.out, Ho.out]) Hd.out).mono ?_
          rintro e w' ⟨rfl, rfl⟩
          go_wp2_with fail
          refine (cmp.impl_flip _ _ (cmp.seven_below Hs.out HB3.out)).mono ?_
          rintro e w' ⟨rfl, rfl⟩
          go_wp2_with fail
          refine (realCmp _ x y (flips_in Hp6.out) _ (by rw [Hoo.out, Ho.out]) Hd2.out).mono ?_
          rintro e w' ⟨rfl, rfl⟩
          clear Hd Hd2
          cases d
          all_goals
            go_wp2_with fail
            go_roundg k1
            case measure => have := hk.out; omega
            case rel => exact ⟨by have := Hp.out; have := hk.out; rw [w64 _ (by omega)]; congr 1; omega, Lib.hid (by have := hk.out; omega), HB3⟩
      all_goals
        have Ho := Lib.hid ho
        clear ho
        obtain ⟨d, hd⟩ : ∃ d, (p == 4) = d := ⟨_, rfl⟩
        have Hd := Lib.hid (show ro p none = d by exact hd)
        cases c
        all_goals
          go_wp2_with fail
          refine (realCmp p x y Hp6.out _ (by rw [Hoo.out, Ho.out]) Hd.out).mono ?_
          rintro e w' ⟨rfl, rfl⟩
          cases d
          all_goals
            go_wp2_with fail
            go_roundg k1
            case measure => have := hk.out; omega
            case rel => exact ⟨by have := Hp.out; have := hk.out; rw [w64 _ (by omega)]; congr 1; omega, Lib.hid (by have := hk.out; omega), HB3⟩
end Go.Proofs.YtfppeppngodjjaaDoor.fnFlip
