/-
  The walk of 'FnSwap': it returns true.
  Conditions: the listed variable holds its numbers.
-/
import Derived.Test.YtfppeppngodjjaaDoorGFnFlip
namespace Go.Proofs.YtfppeppngodjjaaDoor.fnSwap
open Go.RowKit Go.Proofs.YtfppeppngodjjaaDoorW.PrintWords Go.Proofs.YtfppeppngodjjaaDoor.draws
set_option linter.unusedVariables false
set_option linter.unusedSimpArgs false

set_option maxRecDepth 100000 in
theorem walk (W : World) (base : Nat) (v0 : Value) (o0 : Value.okWide Tryd.prog W .any base 22 v0) (b0 : kit.Bytes W v0) (hL : laidMetH Tryd.prog Rows.fnSwapRow.laid W) :
    Calls Tryd.prog 4 #[v0] W fun e w' => e = .returned (.bool true) ∧ Below W.heap.size W w' := by
  have hs : cmp.Seven 1 cmp.swaps W := kit.laid_ints (zs := cmp.swaps) (k := .i64) (n := "loop.example/stile/impl.cmpSwaps") hL (by kernel_rfl) (List.Mem.head _) (by kernel_rfl) (by kernel_rfl) Tryd.underlying48 Tryd.underlying3 (by kernel_rfl) (by decide)
  have Hs := Lib.hid hs
  clear o0 hL hs
  obtain ⟨A, len, cap, zs, rfl, h, y⟩ := b0
  obtain ⟨l, rfl, hr, hm, hw, hc⟩ := ReadsInt.ofRowC h
  have HR := Lib.hid hr
  have HC := Lib.hid hc
  have HW := Lib.hid hw
  clear h y hr hw hc
  by_cases hl : (l.length : Int) > 1048576
  · clear HR HC HW Hs
    go_enter Tryd.func4, Tryd.ntmps4
    go_wp2
    go_ret
    exact ⟨rfl, Below.refl _ _⟩
  have HL : Hid (l.length ≤ 1048576) := Lib.hid (by omega)
  go_enter Tryd.func4, Tryd.ntmps4
  go_wp2_with fail
  refine (drawWhole HR.out HC.out HL.out HW.out).mono ?_
  rintro e w1 ⟨o, a, b, rfl, _, h1⟩
  have H1 := Lib.hid h1
  clear h1
  go_wp2_with fail
  refine (drawReal (HR.out.below H1.out) HC.out HL.out HW.out).mono ?_
  rintro e w2 ⟨o2, x, y, rfl, h2⟩
  have H2 := Lib.hid (below_step H1.out h2)
  clear h2 H1 HR HC HW HL hl
  obtain ⟨cw, hcw⟩ : ∃ cw, compare a b = cw := ⟨_, rfl⟩
  obtain ⟨oo, hoo⟩ : ∃ oo, FloatKind.f64.format.order x y = oo := ⟨_, rfl⟩
  have Hcw := Lib.hid hcw
  have Hoo := Lib.hid hoo
  clear hcw hoo
  have Hyx := Lib.hid (show FloatKind.f64.format.order y x = oo.map Ordering.swap by rw [order_swap, Hoo.out])
  go_wp2_with fail
  go_loopg [9] 6 (fun kq v9 w' => v9 = .int .i64 (7 - (kq : Int)) ∧ Hid (kq ≤ 6) ∧ Hid (Below W.heap.size W w'))
  case atStart => exact ⟨rfl, Lib.hid (by decide), H2⟩
  case round =>
    obtain ⟨rfl, hk, HB⟩ := hrel
    cases gk with
    | zero =>
      go_wp2_with fail
      go_ret
      exact ⟨rfl, HB.out⟩
    | succ k1 =>
      obtain ⟨p, hp⟩ : ∃ p : Int, p = 7 - ((k1 + 1 : Nat) : Int) := ⟨_, rfl⟩
      have hp6 : 1 ≤ p ∧ p ≤ 6 := by have := hk.out; omega
      have hple : p ≤ 6 := hp6.2
      have Hp := Lib.hid hp
      rw [← hp]
      have Hp6 := Lib.hid hp6
      clear hp hp6
      go_wp2_with fail
      refine (cmp.impl_swap _ _ (cmp.seven_below Hs.out HB.out)).mono ?_
      rintro e w' ⟨rfl, rfl⟩
      go_wp2_with fail
      refine (cmp.spec_swap _ _).mono ?_
      rintro e w' ⟨rfl, rfl⟩
      obtain ⟨q, hq⟩ : ∃ q : Int, cmp.pick cmp.swaps p = q := ⟨_, rfl⟩
      have Hq6 := Lib.hid (show 1 ≤ q ∧ q ≤ 6 by rw [← hq]; exact swaps_in Hp6.out)
      have Hq := Lib.hid (show cmp.pick cmp.swaps q = p by rw [← hq]; exact swaps_twice Hp6.out)
      obtain ⟨c, hc⟩ : ∃ c, ro p (some cw) = c := ⟨_, rfl⟩
      obtain ⟨d, hd⟩ : ∃ d, ro p oo = d := ⟨_, rfl⟩
      have Hc := Lib.hid hc
      have Hd := Lib.hid hd
      have Hc2 := Lib.hid (show ro q (some cw.swap) = c by rw [← hq, ← hc]; exact swaps_ro Hp6.out (some cw))
      have Hd2 := Lib.hid (show ro q (oo.map Ordering.swap) = d by rw [← hq, ← hd]; exact swaps_ro Hp6.out oo)
      rw [hq]
      clear hc hd hq
      go_wp2_with fail
      refine (cmp.impl_swap _ _ (cmp.seven_below Hs.out HB.out)).mono ?_
      rintro e w' ⟨rfl, rfl⟩
      rw [Hq.out]
      go_wp2_with fail
      refine (wholeCmp p a b Hp6.out _ (c := c) (by rw [Hcw.out]; exact Hc.out)).mono ?_
      rintro e w' ⟨rfl, rfl⟩
      go_wp2_with fail
      refine (wholeCmp q b a Hq6.out _ (c := c) (by rw [int_swap a b, Hcw.out]; exact Hc2.out)).mono ?_
      rintro e w' ⟨rfl, rfl⟩
      cases c
      all_goals
        go_wp2_with fail
        refine (realCmp p x y Hp6.out _ Hoo.out (c := d) Hd.out).mono ?_
        rintro e w' ⟨rfl, rfl⟩
        go_wp2_with fail
        refine (realCmp q y x Hq6.out _ Hyx.out (c := d) Hd2.out).mono ?_
        rintro e w' ⟨rfl, rfl⟩
        cases d
        all_goals
          go_wp2_with fail
          go_roundg k1
          case measure => have := hk.out; omega
          case rel => exact ⟨by have := Hp.out; have := hk.out; rw [w64 _ (by omega)]; congr 1; omega, Lib.hid (by have := hk.out; omega), HB⟩
end Go.Proofs.YtfppeppngodjjaaDoor.fnSwap
