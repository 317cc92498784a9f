/-
  The walk of 'FnExactRealArg': it returns true, whatever the operand.
  Conditions: the listed variables hold what they are laid with.
-/
import Derived.Test.YtanamdlnlmihfaaDoorRealArg
import Derived.Test.YtanamdlnlmihfaaDoorSameFloat
namespace Go.Proofs.YtanamdlnlmihfaaDoor.fnExactRealArg
open Go.RowKit Go.Proofs.YtanamdlnlmihfaaDoor.dev Go.Proofs.YtanamdlnlmihfaaDoor.flo
set_option linter.unusedVariables false
theorem walkI (k n p : Int) (W : World) (hs : Sizes W) (hw : Words W) : Calls Tryd.prog 9 #[.agg #[.int .i64 k, .int .i64 n, .int .i64 p]] W fun e w' => e = .returned (.bool true) ∧ Below W.heap.size W w' := by
  have Hs := Lib.hid hs
  have Hw := Lib.hid hw
  clear hs hw
  go_enter Tryd.func9, Tryd.ntmps9
  go_wp2_with fail
  refine (dev.to_any _ _ _ _).mono ?_
  rintro e w1 ⟨rfl, h1⟩
  have k1 := kit.box_keep (kit.box_new W _ _) h1 (by simp)
  go_wp2_with fail
  refine (spec_arg _ _ _ _).mono ?_
  rintro e w2 ⟨x, rfl, hx, h2⟩
  have Hx := Lib.hid hx
  clear hx
  have k2 := kit.box_keep k1 h2 (kit.box_lt k1)
  have c0 := kit.box_cell k2 0 rfl
  have c1 := kit.box_cell k2 1 rfl
  have c2 := kit.box_cell k2 2 rfl
  go_wp2_with fail
  refine (dev.to_any _ _ _ _).mono ?_
  rintro e w3 ⟨rfl, h3⟩
  have Hs3 := Lib.hid (((((Hs.out).alloc _).below h1).below h2).below h3)
  have Hw3 := Lib.hid (((((Hw.out).alloc _).below h1).below h2).below h3)
  go_wp2_with fail
  refine (impl_arg _ _ _ _ Hs3.out Hw3.out).mono ?_
  rintro e w4 ⟨y, rfl, hy, h4⟩
  have Hy := Lib.hid hy
  clear hy
  go_wp2_with fail
  refine (same_any _ _ _ (Hx.out.same Hy.out)).mono ?_
  rintro e w5 ⟨rfl, rfl⟩
  go_wp2_with fail
  go_ret
  have e1 := h1.size
  have e2 := h2.size
  have e3 := h3.size
  have e0 : W.heap.size < (W.alloc (Obj.cells #[.int .i64 k, .int .i64 n, .int .i64 p] 23)).heap.size := by simp
  exact ⟨rfl, (((((Below.refl _ _).alloc (Nat.le_refl _) _).trans (h1.mono (by omega))).trans (h2.mono (by omega))).trans (h3.mono (by omega))).trans (h4.mono (by omega))⟩

theorem walk (W : World) (base : Nat) (v0 : Value) (o0 : Value.okWide Tryd.prog W .any base 23 v0) (hL : laidMetH Tryd.prog Rows.fnExactRealArgRow.laid W) :
    Calls Tryd.prog 9 #[v0] W fun e w' => e = .returned (.bool true) ∧ Below W.heap.size W w' := by
  obtain ⟨k, n, p, rfl, _, _, _, _⟩ := dev.ok_arg o0
  have hs : Sizes W := kit.laid_ints (zs := sizes) (k := .i64) (n := "loop.example/stile/impl.devSizes") hL (by kernel_rfl) (by repeat (first | exact List.Mem.head _ | apply List.Mem.tail)) (by kernel_rfl) (by kernel_rfl) Tryd.underlying65 Tryd.underlying3 (by kernel_rfl) (by decide)
  have hw : Words W := by
    obtain ⟨b, off, hc, _⟩ := kit.laid_strs (g := 0) (L := [[110, 97, 110], [105, 110, 102], [45, 105, 110, 102], [45, 48, 46, 48]]) (n := "loop.example/stile/impl.devWords") hL (by kernel_rfl) (by repeat (first | exact List.Mem.head _ | apply List.Mem.tail)) (by kernel_rfl) (by kernel_rfl) Tryd.underlying48 Tryd.underlying9 (by kernel_rfl) (by decide)
    exact ⟨b, off, hc⟩
  exact walkI k n p W hs hw
end Go.Proofs.YtanamdlnlmihfaaDoor.fnExactRealArg
