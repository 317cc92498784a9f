/-
  'toActSample' and 'toFloat64A4': each returns the cells that it was given.
  Conditions: as many cells as the type has, none of them an aggregate.
-/
import Derived.Test.YtnffgafofkknoaaToMem
import Derived.Deep.LoopGhost
namespace Go.Proofs.Ytnffgafofkknoaa.part
open Go Go.RowKit
set_option linter.unusedVariables false
set_option linter.unusedSimpArgs false

set_option maxRecDepth 100000 in
theorem toFour (cs : Array Value) (hc : cs.size = 4) (h1 : ∀ x ∈ cs, x.oneCell' = true) (w : World) :
    Calls Try.prog 25 #[.agg cs] w fun e w' => e = .returned (.agg cs) ∧ Below w.heap.size w w' := by
  obtain ⟨z, hzs, hz⟩ := zero_run (P := Try.prog) (t := 48) (n := 4) (by kernel_rfl)
  have H1 := Lib.hid h1
  have HC := Lib.hid hc
  have HZ := Lib.hid hzs
  clear h1 hc hzs
  go_enter Try.func25, Try.ntmps25
  go_wp2_with (first | (with_reducible refine wl_gen (St.start 48 48 cs z z w (HZ.out.trans HC.out.symm) (HZ.out.trans HC.out.symm)) ?_; intro w0 h0) | (refine wl_ld1 (cs := cs) (W := w) rfl _ _ rfl (by assumption) _ rfl (by have := HC.out; omega) (by decide +kernel) ?_) | (refine wl_stv (cs := cs) (W := w) rfl _ _ _ rfl (by assumption) H1.out 1 _ rfl rfl (cel_cells H1.out (by have := HC.out; omega)) (by kernel_rfl) (by have := HC.out; omega) ?_; intro w1 h1) | (refine wl_ldo (cs := cs) (W := w) rfl _ _ rfl (by assumption) rfl (by have := HC.out; omega) (by kernel_rfl) (by kernel_rfl) ?_) | (refine wl_sto (cs := cs) (W := w) rfl _ _ _ rfl (by assumption) H1.out rfl rfl (by rw [HC.out]; kernel_rfl) ?_; intro w2 h2))
  go_loopg [4] 4 (fun kq v4 w' => ∃ i : Nat, v4 = .int .i64 i ∧ Hid (i + kq = 4) ∧ St 48 48 cs w w' (i))
  case atStart => exact ⟨0, rfl, Lib.hid (by decide), St.start _ _ cs z z w (HZ.out.trans HC.out.symm) (HZ.out.trans HC.out.symm)⟩
  case round =>
    obtain ⟨i, rfl, hk, hst⟩ := hrel
    cases gk with
    | zero =>
      have hi : i = 4 := by have := hk.out; omega
      subst hi
      go_wp2_with (first | (with_reducible refine wl_gen (St.start 48 48 cs z z w (HZ.out.trans HC.out.symm) (HZ.out.trans HC.out.symm)) ?_; intro w0 h0) | (refine wl_ld1 (cs := cs) (W := w) rfl _ _ rfl (by assumption) _ rfl (by have := HC.out; omega) (by decide +kernel) ?_) | (refine wl_stv (cs := cs) (W := w) rfl _ _ _ rfl (by assumption) H1.out 1 _ rfl rfl (cel_cells H1.out (by have := HC.out; omega)) (by kernel_rfl) (by have := HC.out; omega) ?_; intro w1 h1) | (refine wl_ldo (cs := cs) (W := w) rfl _ _ rfl (by assumption) rfl (by have := HC.out; omega) (by kernel_rfl) (by kernel_rfl) ?_) | (refine wl_sto (cs := cs) (W := w) rfl _ _ _ rfl (by assumption) H1.out rfl rfl (by rw [HC.out]; kernel_rfl) ?_; intro w2 h2))
      refine bodyPost_ret (v := .agg cs) (results_cell_row Try.results25 _ _ (w.heap.size + 1) 48 cs (0, 0) _ rfl h2.1 Try.underlying48 rfl (by rw [HC.out]; kernel_rfl)) rfl ⟨rfl, h2.2⟩
    | succ k1 =>
      have hlt : i < 4 := by have := hk.out; omega
      go_wp2_with (first | (with_reducible refine wl_gen (St.start 48 48 cs z z w (HZ.out.trans HC.out.symm) (HZ.out.trans HC.out.symm)) ?_; intro w0 h0) | (refine wl_ld1 (cs := cs) (W := w) rfl _ _ rfl (by assumption) _ rfl (by have := HC.out; omega) (by decide +kernel) ?_) | (refine wl_stv (cs := cs) (W := w) rfl _ _ _ rfl (by assumption) H1.out 1 _ rfl rfl (cel_cells H1.out (by have := HC.out; omega)) (by kernel_rfl) (by have := HC.out; omega) ?_; intro w1 h1) | (refine wl_ldo (cs := cs) (W := w) rfl _ _ rfl (by assumption) rfl (by have := HC.out; omega) (by kernel_rfl) (by kernel_rfl) ?_) | (refine wl_sto (cs := cs) (W := w) rfl _ _ _ rfl (by assumption) H1.out rfl rfl (by rw [HC.out]; kernel_rfl) ?_; intro w2 h2))
      go_roundg k1
      case measure => have := hk.out; omega
      case rel => exact ⟨i + 1, by first | rfl | (push_cast; rfl), Lib.hid (by have := hk.out; omega), by assumption⟩

set_option maxRecDepth 100000 in
theorem toSample (cs : Array Value) (hc : cs.size = 6) (h1 : ∀ x ∈ cs, x.oneCell' = true) (w : World) :
    Calls Try.prog 13 #[.agg cs] w fun e w' => e = .returned (.agg cs) ∧ Below w.heap.size w w' := by
  obtain ⟨z, hzs, hz⟩ := zero_run (P := Try.prog) (t := 52) (n := 6) (by kernel_rfl)
  have hx : ∀ off n, off + n ≤ 6 → (cut cs off n).size = n ∧ ∀ x ∈ cut cs off n, x.oneCell' = true := fun off n h => ⟨by unfold cut; simp; omega, fun x hx => h1 x (cut_mem hx)⟩
  have HX := Lib.hid hx
  have H1 := Lib.hid h1
  have HC := Lib.hid hc
  have HZ := Lib.hid hzs
  clear h1 hc hzs hx
  go_enter Try.func13, Try.ntmps13
  go_wp2_with (first | (with_reducible refine wl_gen (St.start 50 52 cs z z w (HZ.out.trans HC.out.symm) (HZ.out.trans HC.out.symm)) ?_; intro w0 h0) | (refine wl_ld1 (cs := cs) (W := w) rfl _ _ rfl (by assumption) _ rfl (by have := HC.out; omega) (by decide +kernel) ?_) | (refine wl_stv (cs := cs) (W := w) rfl _ _ _ rfl (by assumption) H1.out 1 _ rfl rfl (cel_cells H1.out (by have := HC.out; omega)) (by kernel_rfl) (by have := HC.out; omega) ?_; intro w1 h1) | (refine wl_ldp (cs := cs) (W := w) rfl 48 _ rfl (by assumption) _ 4 rfl (by kernel_rfl) (by kernel_rfl) (by have := HC.out; omega) ?_) | (refine wl_stv (cs := cs) (W := w) rfl 48 _ _ rfl (by assumption) H1.out 4 _ rfl rfl rfl (by kernel_rfl) (by have := HC.out; omega) ?_; intro w1 h1) | (refine wl_ldo (cs := cs) (W := w) rfl _ _ rfl (by assumption) rfl (by have := HC.out; omega) (by kernel_rfl) (by kernel_rfl) ?_) | (refine wl_sto (cs := cs) (W := w) rfl _ _ _ rfl (by assumption) H1.out rfl rfl (by rw [HC.out]; kernel_rfl) ?_; intro w2 h2))
  refine (toFour _ (HX.out 2 4 (by decide)).1 (HX.out 2 4 (by decide)).2 _).mono ?_
  rintro e w3 ⟨rfl, hb3⟩
  have hst3 := h1.below hb3
  clear h1 hb3
  go_wp2_with (first | (with_reducible refine wl_gen (St.start 50 52 cs z z w (HZ.out.trans HC.out.symm) (HZ.out.trans HC.out.symm)) ?_; intro w0 h0) | (refine wl_ld1 (cs := cs) (W := w) rfl _ _ rfl (by assumption) _ rfl (by have := HC.out; omega) (by decide +kernel) ?_) | (refine wl_stv (cs := cs) (W := w) rfl _ _ _ rfl (by assumption) H1.out 1 _ rfl rfl (cel_cells H1.out (by have := HC.out; omega)) (by kernel_rfl) (by have := HC.out; omega) ?_; intro w1 h1) | (refine wl_ldp (cs := cs) (W := w) rfl 48 _ rfl (by assumption) _ 4 rfl (by kernel_rfl) (by kernel_rfl) (by have := HC.out; omega) ?_) | (refine wl_stv (cs := cs) (W := w) rfl 48 _ _ rfl (by assumption) H1.out 4 _ rfl rfl rfl (by kernel_rfl) (by have := HC.out; omega) ?_; intro w1 h1) | (refine wl_ldo (cs := cs) (W := w) rfl _ _ rfl (by assumption) rfl (by have := HC.out; omega) (by kernel_rfl) (by kernel_rfl) ?_) | (refine wl_sto (cs := cs) (W := w) rfl _ _ _ rfl (by assumption) H1.out rfl rfl (by rw [HC.out]; kernel_rfl) ?_; intro w2 h2))
  refine bodyPost_ret (v := .agg cs) (results_cell_row Try.results13 _ _ (w.heap.size + 1) 52 cs (0, 0) _ rfl h2.1 Try.underlying52 rfl (by rw [HC.out]; kernel_rfl)) rfl ⟨rfl, h2.2⟩

end Go.Proofs.Ytnffgafofkknoaa.part
