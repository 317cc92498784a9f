/-
  The walk of 'FnExactMemReal': it returns true, whatever the memory and the operand.
  Conditions: the listed variable holds its numbers.
-/
import Derived.Test.YtnffgafofkknoaaDoorMemReal
import Derived.Test.YtnffgafofkknoaaDoorSameFloat
import Derived.Test.YtnffgafofkknoaaDoorToMem
import Derived.Test.YtnffgafofkknoaaDoorToDev
import Derived.Test.YtnffgafofkknoaaDoorOrders
namespace Go.Proofs.YtnffgafofkknoaaDoor.fnExactMemReal
open Go Go.RowKit Go.Proofs.YtnffgafofkknoaaDoor.part Go.Proofs.YtnffgafofkknoaaDoor.dev
set_option linter.unusedVariables false
set_option linter.unusedSimpArgs false

/-- The boxes of the two arguments; the listed variable. -/
def G (cs : Array Value) (k n p : Int) (W w : World) : Prop :=
  w.heap[W.heap.size]? = some (.cells cs 36 (0, 0)) ∧ w.heap[W.heap.size + 1]? = some (.cells #[.int .i64 k, .int .i64 n, .int .i64 p] 38 (0, 0)) ∧ Below W.heap.size W w ∧ (Sizes w ∧ Words w)
theorem G.below {cs : Array Value} {k n p : Int} {W w w1 : World} (h : G cs k n p W w) (hb : Below w.heap.size w w1) : G cs k n p W w1 := by
  obtain ⟨a, b, d, e⟩ := h
  exact ⟨kit.box_keep a hb (kit.box_lt a), kit.box_keep b hb (kit.box_lt b), d.trans (hb.mono d.size), e.1.below hb, e.2.below hb⟩

def I1 (cs : Array Value) (k n p : Int) (r : Nat) (W : World) (listed : Array Bool) (a : Act) (w : World) : Prop :=
  ∃ v5 v7 v8 v9 v10 v11, a = { tmps := #[.agg cs, .agg #[.int .i64 k, .int .i64 n, .int .i64 p], .pointer (some ⟨W.heap.size, 0, none⟩), .pointer (some ⟨W.heap.size + 1, 0, none⟩), .bool false, v5, undef, v7, v8, v9, v10, v11, undef, undef, undef, undef, undef, undef, undef, undef, undef], defers := [] } ∧
    listed.size = 6 ∧ (listed.getD 0 false = true → v7 = .agg cs) ∧ (listed.getD 1 false = true → v8 = .agg cs) ∧ (listed.getD 2 false = true → v9 = .agg #[.int .i64 k, .int .i64 n, .int .i64 p]) ∧ (listed.getD 3 false = true → v10 = .agg #[.int .i64 k, .int .i64 n, .int .i64 p]) ∧
    (listed.getD 4 false = true → ∃ x, v11 = .float .f64 x ∧ Mr cs k n p x) ∧ (listed.getD 5 false = true → ∃ x, v5 = .float .f64 x ∧ Mr cs k n p x) ∧ G cs k n p W w

def I2 (cs : Array Value) (k n p : Int) (r : Nat) (W : World) (listed : Array Bool) (a : Act) (w : World) : Prop :=
  ∃ v6 v12 v13 v14 v15 v16 v7 v8 v9 v10 v11, a = { tmps := #[.agg cs, .agg #[.int .i64 k, .int .i64 n, .int .i64 p], .pointer (some ⟨W.heap.size, 0, none⟩), .pointer (some ⟨W.heap.size + 1, 0, none⟩), .bool false, .float .f64 r, v6, v7, v8, v9, v10, v11, v12, v13, v14, v15, v16, undef, undef, undef, undef], defers := [] } ∧
    listed.size = 6 ∧ (listed.getD 0 false = true → v12 = .agg cs) ∧ (listed.getD 1 false = true → v13 = .agg cs) ∧ (listed.getD 2 false = true → v14 = .agg #[.int .i64 k, .int .i64 n, .int .i64 p]) ∧ (listed.getD 3 false = true → v15 = .agg #[.int .i64 k, .int .i64 n, .int .i64 p]) ∧
    (listed.getD 4 false = true → ∃ x, v16 = .float .f64 x ∧ Mr cs k n p x) ∧ (listed.getD 5 false = true → ∃ x, v6 = .float .f64 x ∧ Mr cs k n p x) ∧ G cs k n p W w

set_option maxRecDepth 100000 in
theorem ok_arg {W : World} {base : Nat} {v0 : Value} (o0 : Value.okWide Tryd.prog W .any base 38 v0) : ∃ k n p : Int, v0 = .agg #[.int .i64 k, .int .i64 n, .int .i64 p] ∧ -9223372036854775808 ≤ k ∧ k ≤ 9223372036854775807 ∧ -9223372036854775808 ≤ n ∧ n ≤ 9223372036854775807 := by
  obtain ⟨cs, rfl, hsz, hc⟩ := kit.ok_cells Tryd.underlying38 o0
  have hc := hc [3, 3, 3] (by kernel_rfl)
  rw [show Tryd.prog.cellsOf 38 = 3 by kernel_rfl] at hsz
  obtain ⟨x, y, z, rfl⟩ := kit.arr3 (by simpa using hsz)
  obtain ⟨_, e0, h0⟩ := hc 0 x rfl
  obtain rfl := Option.some.inj e0
  obtain ⟨_, e1, h1⟩ := hc 1 y rfl
  obtain rfl := Option.some.inj e1
  obtain ⟨_, e2, h2⟩ := hc 2 z rfl
  obtain rfl := Option.some.inj e2
  obtain ⟨k, rfl, k1, k2⟩ := kit.cell_int Tryd.underlying3 h0
  obtain ⟨n, rfl, n1, n2⟩ := kit.cell_int Tryd.underlying3 h1
  obtain ⟨p, rfl, _, _⟩ := kit.cell_int Tryd.underlying3 h2
  exact ⟨k, n, p, rfl, k1, k2, n1, n2⟩

set_option maxRecDepth 100000 in
set_option maxHeartbeats 4000000 in
theorem walkI (cs : Array Value) (hsh : Shape cs) (k n p : Int) (W : World) (hs : Sizes W) (hw : Words W) :
    Calls Tryd.prog 7 #[.agg cs, .agg #[.int .i64 k, .int .i64 n, .int .i64 p]] W fun e w' => e = .returned (.bool true) ∧ Below W.heap.size W w' := by
  have HG := Lib.hid (show G cs k n p W ((W.alloc (.cells cs 36)).alloc (.cells #[.int .i64 k, .int .i64 n, .int .i64 p] 38)) from
    ⟨heap_alloc2_old _ _ _, heap_alloc2_new _ _ _, ((Below.refl _ _).alloc (Nat.le_refl _) _).alloc (by simp) _, ⟨(hs.alloc _).alloc _, (hw.alloc _).alloc _⟩⟩)
  have HS := Lib.hid hsh
  have hone : ∀ x ∈ #[Value.int .i64 k, .int .i64 n, .int .i64 p], x.oneCell' = true := by intro x hx; simp at hx; rcases hx with rfl | rfl | rfl <;> rfl
  have HO := Lib.hid hone
  clear hs hw hsh hone
  go_enter Tryd.func7, Tryd.ntmps7
  go_wp2_with fail
  refine wp_region_any (by kernel_rfl) ?_
  refine wpAny_inv (I1 cs k n p 0 W) ?hsz ?hg ?step ?fin 6 _ _ _ (by decide) ?init
  case hsz => rintro l a w ⟨_, _, _, _, _, _, _, h, _⟩; exact h
  case hg =>
    intro i o ho
    match i, ho with
    | 0, ho => cases ho; rfl
    | 1, ho => cases ho; rfl
    | 2, ho => cases ho; rfl
    | 3, ho => cases ho; rfl
    | 4, ho => cases ho; rfl
    | 5, ho => cases ho; rfl
    | i + 6, ho => simp at ho
  case init => exact ⟨_, _, _, _, _, _, rfl, rfl, by simp, by simp, by simp, by simp, by simp, by simp, HG.out.below ⟨rfl, rfl, rfl, Nat.le_refl _, fun _ _ => rfl⟩⟩
  case step =>
    rintro l a w i o ⟨v5, v7, v8, v9, v10, v11, rfl, hsz, g0, g1, g2, g3, g4, g5, hG⟩ ho h0 hd K hK
    match i, ho, h0, hK with
    | 0, ho, h0, hK =>
      cases ho
      refine ow_hld _ _ rfl hG.1 rfl (by kernel_rfl) 136 HS.out.size (by kernel_rfl) (hK _ _ ⟨_, _, _, _, _, _, rfl, by simpa using hsz, fun _ => rfl, fun h => g1 (set_other (by decide) h), fun h => g2 (set_other (by decide) h), fun h => g3 (set_other (by decide) h), fun h => g4 (set_other (by decide) h), fun h => g5 (set_other (by decide) h), hG⟩)
    | 2, ho, h0, hK =>
      cases ho
      refine ow_hld _ _ rfl hG.2.1 rfl (by kernel_rfl) 3 rfl (by kernel_rfl) (hK _ _ ⟨_, _, _, _, _, _, rfl, by simpa using hsz, fun h => g0 (set_other (by decide) h), fun h => g1 (set_other (by decide) h), fun _ => rfl, fun h => g3 (set_other (by decide) h), fun h => g4 (set_other (by decide) h), fun h => g5 (set_other (by decide) h), hG⟩)
    | 1, ho, h0, hK =>
      cases ho
      have e0 := g0 (hd ⟨0, .data⟩ (by simp) rfl)
      subst e0
      clear hd
      go_simp
      go_wp2_with fail
      refine (toMem cs HS.out.size HS.out.one _).mono ?_
      rintro e w1 ⟨rfl, h1⟩
      exact hK _ _ ⟨_, _, _, _, _, _, rfl, by simpa using hsz, fun _ => rfl, fun _ => rfl, fun h => g2 (set_other (by decide) h), fun h => g3 (set_other (by decide) h), fun h => g4 (set_other (by decide) h), fun h => g5 (set_other (by decide) h), hG.below h1⟩
    | 3, ho, h0, hK =>
      cases ho
      have e2 := g2 (hd ⟨2, .data⟩ (by simp) rfl)
      subst e2
      clear hd
      go_simp
      go_wp2_with fail
      refine (toDev _ rfl HO.out _).mono ?_
      rintro e w1 ⟨rfl, h1⟩
      exact hK _ _ ⟨_, _, _, _, _, _, rfl, by simpa using hsz, fun h => g0 (set_other (by decide) h), fun h => g1 (set_other (by decide) h), fun _ => rfl, fun _ => rfl, fun h => g4 (set_other (by decide) h), fun h => g5 (set_other (by decide) h), hG.below h1⟩
    | 4, ho, h0, hK =>
      cases ho
      have e1 := g1 (hd ⟨1, .data⟩ (by simp) rfl)
      subst e1
      have e3 := g3 (hd ⟨3, .data⟩ (by simp) rfl)
      subst e3
      clear hd
      go_simp
      go_wp2_with fail
      refine (smr_any cs HS.out k n p _).mono ?_
      rintro e w1 ⟨x, rfl, hx, h1⟩
      exact hK _ _ ⟨_, _, _, _, _, _, rfl, by simpa using hsz, fun h => g0 (set_other (by decide) h), fun _ => rfl, fun h => g2 (set_other (by decide) h), fun _ => rfl, fun _ => ⟨x, rfl, hx⟩, fun h => g5 (set_other (by decide) h), hG.below h1⟩
    | 5, ho, h0, hK =>
      cases ho
      obtain ⟨x, e4, hx⟩ := g4 (hd ⟨4, .data⟩ (by simp) rfl)
      subst e4
      clear hd
      go_simp
      exact hK _ _ ⟨_, _, _, _, _, _, rfl, by simpa using hsz, fun h => g0 (set_other (by decide) h), fun h => g1 (set_other (by decide) h), fun h => g2 (set_other (by decide) h), fun h => g3 (set_other (by decide) h), fun _ => ⟨x, rfl, hx⟩, fun _ => ⟨x, rfl, hx⟩, hG⟩
    | i + 6, ho, h0, hK => simp at ho
  case fin =>
    rintro l a w ⟨v5, v7, v8, v9, v10, v11, rfl, hsz, g0, g1, g2, g3, g4, g5, hG⟩ hr
    obtain ⟨x5, e5, hx5⟩ := g5 (all_listed (by kernel_rfl) hsz hr 5 (by decide))
    subst e5
    have HX := Lib.hid hx5
    clear g0 g1 g2 g3 g4 g5 hr hsz hx5
    have HG2 := Lib.hid hG
    clear hG HG
    go_wp2_with fail
    refine wp_region_any (by kernel_rfl) ?_
    refine wpAny_inv (I2 cs k n p x5 W) ?hsz ?hg ?step ?fin 6 _ _ _ (by decide) ?init
    case hsz => rintro l a w ⟨_, _, _, _, _, _, _, _, _, _, _, _, h, _⟩; exact h
    case hg =>
      intro i o ho
      match i, ho with
      | 0, ho => cases ho; rfl
      | 1, ho => cases ho; rfl
      | 2, ho => cases ho; rfl
      | 3, ho => cases ho; rfl
      | 4, ho => cases ho; rfl
      | 5, ho => cases ho; rfl
      | i + 6, ho => simp at ho
    case init => exact ⟨_, _, _, _, _, _, _, _, _, _, _, rfl, rfl, by simp, by simp, by simp, by simp, by simp, by simp, HG2.out.below ⟨rfl, rfl, rfl, Nat.le_refl _, fun _ _ => rfl⟩⟩
    case step =>
      rintro l a w i o ⟨v6, v12, v13, v14, v15, v16, v7, v8, v9, v10, v11, rfl, hsz, g0, g1, g2, g3, g4, g5, hG⟩ ho h0 hd K hK
      match i, ho, h0, hK with
      | 0, ho, h0, hK =>
        cases ho
        refine ow_hld _ _ rfl hG.1 rfl (by kernel_rfl) 136 HS.out.size (by kernel_rfl) (hK _ _ ⟨_, _, _, _, _, _, _, _, _, _, _, rfl, by simpa using hsz, fun _ => rfl, fun h => g1 (set_other (by decide) h), fun h => g2 (set_other (by decide) h), fun h => g3 (set_other (by decide) h), fun h => g4 (set_other (by decide) h), fun h => g5 (set_other (by decide) h), hG⟩)
      | 2, ho, h0, hK =>
        cases ho
        refine ow_hld _ _ rfl hG.2.1 rfl (by kernel_rfl) 3 rfl (by kernel_rfl) (hK _ _ ⟨_, _, _, _, _, _, _, _, _, _, _, rfl, by simpa using hsz, fun h => g0 (set_other (by decide) h), fun h => g1 (set_other (by decide) h), fun _ => rfl, fun h => g3 (set_other (by decide) h), fun h => g4 (set_other (by decide) h), fun h => g5 (set_other (by decide) h), hG⟩)
      | 1, ho, h0, hK =>
        cases ho
        have e0 := g0 (hd ⟨0, .data⟩ (by simp) rfl)
        subst e0
        clear hd
        go_simp
        go_wp2_with fail
        refine (toMem cs HS.out.size HS.out.one _).mono ?_
        rintro e w1 ⟨rfl, h1⟩
        exact hK _ _ ⟨_, _, _, _, _, _, _, _, _, _, _, rfl, by simpa using hsz, fun _ => rfl, fun _ => rfl, fun h => g2 (set_other (by decide) h), fun h => g3 (set_other (by decide) h), fun h => g4 (set_other (by decide) h), fun h => g5 (set_other (by decide) h), hG.below h1⟩
      | 3, ho, h0, hK =>
        cases ho
        have e2 := g2 (hd ⟨2, .data⟩ (by simp) rfl)
        subst e2
        clear hd
        go_simp
        go_wp2_with fail
        refine (toDev _ rfl HO.out _).mono ?_
        rintro e w1 ⟨rfl, h1⟩
        exact hK _ _ ⟨_, _, _, _, _, _, _, _, _, _, _, rfl, by simpa using hsz, fun h => g0 (set_other (by decide) h), fun h => g1 (set_other (by decide) h), fun _ => rfl, fun _ => rfl, fun h => g4 (set_other (by decide) h), fun h => g5 (set_other (by decide) h), hG.below h1⟩
      | 4, ho, h0, hK =>
        cases ho
        have e1 := g1 (hd ⟨1, .data⟩ (by simp) rfl)
        subst e1
        have e3 := g3 (hd ⟨3, .data⟩ (by simp) rfl)
        subst e3
        clear hd
        go_simp
        go_wp2_with fail
        refine (imr_any cs HS.out k n p _ hG.2.2.2.1 hG.2.2.2.2).mono ?_
        rintro e w1 ⟨x, rfl, hx, h1⟩
        exact hK _ _ ⟨_, _, _, _, _, _, _, _, _, _, _, rfl, by simpa using hsz, fun h => g0 (set_other (by decide) h), fun _ => rfl, fun h => g2 (set_other (by decide) h), fun _ => rfl, fun _ => ⟨x, rfl, hx⟩, fun h => g5 (set_other (by decide) h), hG.below h1⟩
      | 5, ho, h0, hK =>
        cases ho
        obtain ⟨x, e4, hx⟩ := g4 (hd ⟨4, .data⟩ (by simp) rfl)
        subst e4
        clear hd
        go_simp
        exact hK _ _ ⟨_, _, _, _, _, _, _, _, _, _, _, rfl, by simpa using hsz, fun h => g0 (set_other (by decide) h), fun h => g1 (set_other (by decide) h), fun h => g2 (set_other (by decide) h), fun h => g3 (set_other (by decide) h), fun _ => ⟨x, rfl, hx⟩, fun _ => ⟨x, rfl, hx⟩, hG⟩
      | i + 6, ho, h0, hK => simp at ho
    case fin =>
      rintro l a w ⟨v6, v12, v13, v14, v15, v16, v7, v8, v9, v10, v11, rfl, hsz, g0, g1, g2, g3, g4, g5, hG⟩ hr
      obtain ⟨y5, e5, hy5⟩ := g5 (all_listed (by kernel_rfl) hsz hr 5 (by decide))
      subst e5
      have HY := Lib.hid hy5
      clear g0 g1 g2 g3 g4 g5 hr hsz hy5
      have HG3 := Lib.hid hG
      clear hG HG2
      go_wp2_with fail
      refine (flo.same_any _ _ _ (HX.out.same HY.out)).mono ?_
      rintro e w5 ⟨rfl, rfl⟩
      go_wp2_with fail
      go_ret
      exact ⟨rfl, HG3.out.2.2.1⟩

set_option maxRecDepth 100000 in
theorem walk (W : World) (base : Nat) (v0 v1 : Value) (o0 : Value.okWide Tryd.prog W .any base 36 v0) (o1 : Value.okWide Tryd.prog W .any base 38 v1) (hL : laidMetH Tryd.prog Rows.fnExactMemRealRow.laid W) :
    Calls Tryd.prog 7 #[v0, v1] W fun e w' => e = .returned (.bool true) ∧ Below W.heap.size W w' := by
  have hs : Sizes W := kit.laid_ints (zs := sizes) (k := .i64) (n := "loop.example/stile/impl.devSizes") hL (by kernel_rfl) (by repeat (first | exact List.Mem.head _ | apply List.Mem.tail)) (by kernel_rfl) (by kernel_rfl) Tryd.underlying110 Tryd.underlying3 (by kernel_rfl) (by decide)
  obtain ⟨cs, rfl, hsh⟩ := shape_of o0
  obtain ⟨k, n, p, rfl, _, _, _, _⟩ := ok_arg o1
  have hw : Words W := by
    obtain ⟨b, off, hc, _⟩ := kit.laid_strs (g := 2) (L := [[110, 97, 110], [105, 110, 102], [45, 105, 110, 102], [45, 48, 46, 48]]) (n := "loop.example/stile/impl.devWords") hL (by kernel_rfl) (by repeat (first | exact List.Mem.head _ | apply List.Mem.tail)) (by kernel_rfl) (by kernel_rfl) Tryd.underlying118 Tryd.underlying9 (by kernel_rfl) (by decide)
    exact ⟨b, off, hc⟩
  exact walkI cs hsh k n p W hs hw
end Go.Proofs.YtnffgafofkknoaaDoor.fnExactMemReal
