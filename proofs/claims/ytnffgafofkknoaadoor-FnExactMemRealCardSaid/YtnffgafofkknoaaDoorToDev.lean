/-
  'toDevArg': it returns the cells that it was given.
  Conditions: as many cells as the type has, none of them an aggregate.
-/
import Derived.Test.YtnffgafofkknoaaDoorPart
import Derived.Deep.LoopGhost
namespace Go.Proofs.YtnffgafofkknoaaDoor.part
open Go Go.RowKit
set_option linter.unusedVariables false
set_option linter.unusedSimpArgs false

set_option maxRecDepth 100000 in
theorem toDev (cs : Array Value) (hc : cs.size = 3) (h1 : ∀ x ∈ cs, x.oneCell' = true) (w : World) :
    Calls Tryd.prog 14 #[.agg cs] w fun e w' => e = .returned (.agg cs) ∧ Below w.heap.size w w' := by
  obtain ⟨z, hzs, hz⟩ := zero_run (P := Tryd.prog) (t := 47) (n := 3) (by kernel_rfl)
  have H1 := Lib.hid h1
  have HC := Lib.hid hc
  have HZ := Lib.hid hzs
  clear h1 hc hzs
  go_enter Tryd.func14, Tryd.ntmps14
  go_wp2_with (first | (with_reducible refine wl_gen (St.start 38 47 cs z z w (HZ.out.trans HC.out.symm) (HZ.out.trans HC.out.symm)) ?_; intro w0 h0) | (refine wl_ld1 (cs := cs) (W := w) rfl _ _ rfl (by assumption) _ rfl (by have := HC.out; omega) (by decide +kernel) ?_) | (refine wl_stv (cs := cs) (W := w) rfl _ _ _ rfl (by assumption) H1.out 1 _ rfl rfl (cel_cells H1.out (by have := HC.out; omega)) (by kernel_rfl) (by have := HC.out; omega) ?_; intro w1 h1) | (refine wl_ldo (cs := cs) (W := w) rfl _ _ rfl (by assumption) rfl (by have := HC.out; omega) (by kernel_rfl) (by kernel_rfl) ?_) | (refine wl_sto (cs := cs) (W := w) rfl _ _ _ rfl (by assumption) H1.out rfl rfl (by rw [HC.out]; kernel_rfl) ?_; intro w2 h2))
  refine bodyPost_ret (v := .agg cs) (results_cell_row Tryd.results14 _ _ (w.heap.size + 1) 47 cs (0, 0) _ rfl h2.1 Tryd.underlying47 rfl (by rw [HC.out]; kernel_rfl)) rfl ⟨rfl, h2.2⟩

end Go.Proofs.YtnffgafofkknoaaDoor.part
