/-
  'toMem' and what it calls: each returns the cells that it was given.
  Conditions: as many cells as the type has, none of them an aggregate.
-/
import Derived.Test.YtcjlkekekalgdaaPart
import Derived.Deep.LoopGhost
namespace Go.Proofs.Ytcjlkekekalgdaa.part
open Go Go.RowKit
set_option linter.unusedVariables false
set_option linter.unusedSimpArgs false

set_option maxRecDepth 100000 in
theorem toTimer (cs : Array Value) (hc : cs.size = 2) (h1 : ∀ x ∈ cs, x.oneCell' = true) (w : World) :
    Calls Try.prog 14 #[.agg cs] w fun e w' => e = .returned (.agg cs) ∧ Below w.heap.size w w' := by
  obtain ⟨z, hzs, hz⟩ := zero_run (P := Try.prog) (t := 38) (n := 2) (by kernel_rfl)
  have H1 := Lib.hid h1
  have HC := Lib.hid hc
  have HZ := Lib.hid hzs
  clear h1 hc hzs
  go_enter Try.func14, Try.ntmps14
  go_wp2_with (first | (with_reducible refine wl_gen (St.start 26 38 cs z z w (HZ.out.trans HC.out.symm) (HZ.out.trans HC.out.symm)) ?_; intro w0 h0) | (refine wl_ld1 (cs := cs) (W := w) rfl _ _ rfl (by assumption) _ rfl (by have := HC.out; omega) (by decide +kernel) ?_) | (refine wl_stv (cs := cs) (W := w) rfl _ _ _ rfl (by assumption) H1.out 1 _ rfl rfl (cel_cells H1.out (by have := HC.out; omega)) (by kernel_rfl) (by have := HC.out; omega) ?_; intro w1 h1) | (refine wl_ldo (cs := cs) (W := w) rfl _ _ rfl (by assumption) rfl (by have := HC.out; omega) (by kernel_rfl) (by kernel_rfl) ?_) | (refine wl_sto (cs := cs) (W := w) rfl _ _ _ rfl (by assumption) H1.out rfl rfl (by rw [HC.out]; kernel_rfl) ?_; intro w2 h2))
  refine bodyPost_ret (v := .agg cs) (results_cell_row Try.results14 _ _ (w.heap.size + 1) 38 cs (0, 0) _ rfl h2.1 Try.underlying38 rfl (by rw [HC.out]; kernel_rfl)) rfl ⟨rfl, h2.2⟩

set_option maxRecDepth 100000 in
theorem toCounter (cs : Array Value) (hc : cs.size = 3) (h1 : ∀ x ∈ cs, x.oneCell' = true) (w : World) :
    Calls Try.prog 15 #[.agg cs] w fun e w' => e = .returned (.agg cs) ∧ Below w.heap.size w w' := by
  obtain ⟨z, hzs, hz⟩ := zero_run (P := Try.prog) (t := 40) (n := 3) (by kernel_rfl)
  have H1 := Lib.hid h1
  have HC := Lib.hid hc
  have HZ := Lib.hid hzs
  clear h1 hc hzs
  go_enter Try.func15, Try.ntmps15
  go_wp2_with (first | (with_reducible refine wl_gen (St.start 29 40 cs z z w (HZ.out.trans HC.out.symm) (HZ.out.trans HC.out.symm)) ?_; intro w0 h0) | (refine wl_ld1 (cs := cs) (W := w) rfl _ _ rfl (by assumption) _ rfl (by have := HC.out; omega) (by decide +kernel) ?_) | (refine wl_stv (cs := cs) (W := w) rfl _ _ _ rfl (by assumption) H1.out 1 _ rfl rfl (cel_cells H1.out (by have := HC.out; omega)) (by kernel_rfl) (by have := HC.out; omega) ?_; intro w1 h1) | (refine wl_ldo (cs := cs) (W := w) rfl _ _ rfl (by assumption) rfl (by have := HC.out; omega) (by kernel_rfl) (by kernel_rfl) ?_) | (refine wl_sto (cs := cs) (W := w) rfl _ _ _ rfl (by assumption) H1.out rfl rfl (by rw [HC.out]; kernel_rfl) ?_; intro w2 h2))
  refine bodyPost_ret (v := .agg cs) (results_cell_row Try.results15 _ _ (w.heap.size + 1) 40 cs (0, 0) _ rfl h2.1 Try.underlying40 rfl (by rw [HC.out]; kernel_rfl)) rfl ⟨rfl, h2.2⟩

theorem wrap_i (n : Int) (h : -9223372036854775808 ≤ n ∧ n ≤ 9223372036854775807) : wrap64 n = n := by unfold wrap64; omega
theorem cut_mem {cs : Array Value} {off n : Nat} {x : Value} (h : x ∈ cut cs off n) : x ∈ cs := by
  unfold cut at h
  obtain ⟨j, hj, e⟩ := Array.mem_iff_getElem.1 h
  rw [← e, Array.getElem_extract]
  exact Array.getElem_mem _

set_option maxRecDepth 100000 in
theorem toReals (cs : Array Value) (hc : cs.size = 16) (h1 : ∀ x ∈ cs, x.oneCell' = true) (w : World) :
    Calls Try.prog 11 #[.agg cs] w fun e w' => e = .returned (.agg cs) ∧ Below w.heap.size w w' := by
  obtain ⟨z, hzs, hz⟩ := zero_run (P := Try.prog) (t := 34) (n := 16) (by kernel_rfl)
  have H1 := Lib.hid h1
  have HC := Lib.hid hc
  have HZ := Lib.hid hzs
  clear h1 hc hzs
  go_enter Try.func11, Try.ntmps11
  go_wp2_with (first | (with_reducible refine wl_gen (St.start 34 34 cs z z w (HZ.out.trans HC.out.symm) (HZ.out.trans HC.out.symm)) ?_; intro w0 h0) | (refine wl_ld1 (cs := cs) (W := w) rfl _ _ rfl (by assumption) _ rfl (by have := HC.out; omega) (by decide +kernel) ?_) | (refine wl_stv (cs := cs) (W := w) rfl _ _ _ rfl (by assumption) H1.out 1 _ rfl rfl (cel_cells H1.out (by have := HC.out; omega)) (by kernel_rfl) (by have := HC.out; omega) ?_; intro w1 h1) | (refine wl_ldo (cs := cs) (W := w) rfl _ _ rfl (by assumption) rfl (by have := HC.out; omega) (by kernel_rfl) (by kernel_rfl) ?_) | (refine wl_sto (cs := cs) (W := w) rfl _ _ _ rfl (by assumption) H1.out rfl rfl (by rw [HC.out]; kernel_rfl) ?_; intro w2 h2))
  go_loopg [4] 16 (fun kq v4 w' => ∃ i : Nat, v4 = .int .i64 i ∧ Hid (i + kq = 16) ∧ St 34 34 cs w w' (i))
  case atStart => exact ⟨0, rfl, Lib.hid (by decide), St.start _ _ cs z z w (HZ.out.trans HC.out.symm) (HZ.out.trans HC.out.symm)⟩
  case round =>
    obtain ⟨i, rfl, hk, hst⟩ := hrel
    cases gk with
    | zero =>
      have hi : i = 16 := by have := hk.out; omega
      subst hi
      go_wp2_with (first | (with_reducible refine wl_gen (St.start 34 34 cs z z w (HZ.out.trans HC.out.symm) (HZ.out.trans HC.out.symm)) ?_; intro w0 h0) | (refine wl_ld1 (cs := cs) (W := w) rfl _ _ rfl (by assumption) _ rfl (by have := HC.out; omega) (by decide +kernel) ?_) | (refine wl_stv (cs := cs) (W := w) rfl _ _ _ rfl (by assumption) H1.out 1 _ rfl rfl (cel_cells H1.out (by have := HC.out; omega)) (by kernel_rfl) (by have := HC.out; omega) ?_; intro w1 h1) | (refine wl_ldo (cs := cs) (W := w) rfl _ _ rfl (by assumption) rfl (by have := HC.out; omega) (by kernel_rfl) (by kernel_rfl) ?_) | (refine wl_sto (cs := cs) (W := w) rfl _ _ _ rfl (by assumption) H1.out rfl rfl (by rw [HC.out]; kernel_rfl) ?_; intro w2 h2))
      refine bodyPost_ret (v := .agg cs) (results_cell_row Try.results11 _ _ (w.heap.size + 1) 34 cs (0, 0) _ rfl h2.1 Try.underlying34 rfl (by rw [HC.out]; kernel_rfl)) rfl ⟨rfl, h2.2⟩
    | succ k1 =>
      have hlt : i < 16 := by have := hk.out; omega
      go_wp2_with (first | (with_reducible refine wl_gen (St.start 34 34 cs z z w (HZ.out.trans HC.out.symm) (HZ.out.trans HC.out.symm)) ?_; intro w0 h0) | (refine wl_ld1 (cs := cs) (W := w) rfl _ _ rfl (by assumption) _ rfl (by have := HC.out; omega) (by decide +kernel) ?_) | (refine wl_stv (cs := cs) (W := w) rfl _ _ _ rfl (by assumption) H1.out 1 _ rfl rfl (cel_cells H1.out (by have := HC.out; omega)) (by kernel_rfl) (by have := HC.out; omega) ?_; intro w1 h1) | (refine wl_ldo (cs := cs) (W := w) rfl _ _ rfl (by assumption) rfl (by have := HC.out; omega) (by kernel_rfl) (by kernel_rfl) ?_) | (refine wl_sto (cs := cs) (W := w) rfl _ _ _ rfl (by assumption) H1.out rfl rfl (by rw [HC.out]; kernel_rfl) ?_; intro w2 h2))
      go_roundg k1
      case measure => have := hk.out; omega
      case rel => exact ⟨i + 1, by first | rfl | (push_cast; rfl), Lib.hid (by have := hk.out; omega), by assumption⟩

set_option maxRecDepth 100000 in
theorem toWholes (cs : Array Value) (hc : cs.size = 32) (h1 : ∀ x ∈ cs, x.oneCell' = true) (w : World) :
    Calls Try.prog 10 #[.agg cs] w fun e w' => e = .returned (.agg cs) ∧ Below w.heap.size w w' := by
  obtain ⟨z, hzs, hz⟩ := zero_run (P := Try.prog) (t := 32) (n := 32) (by kernel_rfl)
  have H1 := Lib.hid h1
  have HC := Lib.hid hc
  have HZ := Lib.hid hzs
  clear h1 hc hzs
  go_enter Try.func10, Try.ntmps10
  go_wp2_with (first | (with_reducible refine wl_gen (St.start 32 32 cs z z w (HZ.out.trans HC.out.symm) (HZ.out.trans HC.out.symm)) ?_; intro w0 h0) | (refine wl_ld1 (cs := cs) (W := w) rfl _ _ rfl (by assumption) _ rfl (by have := HC.out; omega) (by decide +kernel) ?_) | (refine wl_stv (cs := cs) (W := w) rfl _ _ _ rfl (by assumption) H1.out 1 _ rfl rfl (cel_cells H1.out (by have := HC.out; omega)) (by kernel_rfl) (by have := HC.out; omega) ?_; intro w1 h1) | (refine wl_ldo (cs := cs) (W := w) rfl _ _ rfl (by assumption) rfl (by have := HC.out; omega) (by kernel_rfl) (by kernel_rfl) ?_) | (refine wl_sto (cs := cs) (W := w) rfl _ _ _ rfl (by assumption) H1.out rfl rfl (by rw [HC.out]; kernel_rfl) ?_; intro w2 h2))
  go_loopg [4] 32 (fun kq v4 w' => ∃ i : Nat, v4 = .int .i64 i ∧ Hid (i + kq = 32) ∧ St 32 32 cs w w' (i))
  case atStart => exact ⟨0, rfl, Lib.hid (by decide), St.start _ _ cs z z w (HZ.out.trans HC.out.symm) (HZ.out.trans HC.out.symm)⟩
  case round =>
    obtain ⟨i, rfl, hk, hst⟩ := hrel
    cases gk with
    | zero =>
      have hi : i = 32 := by have := hk.out; omega
      subst hi
      go_wp2_with (first | (with_reducible refine wl_gen (St.start 32 32 cs z z w (HZ.out.trans HC.out.symm) (HZ.out.trans HC.out.symm)) ?_; intro w0 h0) | (refine wl_ld1 (cs := cs) (W := w) rfl _ _ rfl (by assumption) _ rfl (by have := HC.out; omega) (by decide +kernel) ?_) | (refine wl_stv (cs := cs) (W := w) rfl _ _ _ rfl (by assumption) H1.out 1 _ rfl rfl (cel_cells H1.out (by have := HC.out; omega)) (by kernel_rfl) (by have := HC.out; omega) ?_; intro w1 h1) | (refine wl_ldo (cs := cs) (W := w) rfl _ _ rfl (by assumption) rfl (by have := HC.out; omega) (by kernel_rfl) (by kernel_rfl) ?_) | (refine wl_sto (cs := cs) (W := w) rfl _ _ _ rfl (by assumption) H1.out rfl rfl (by rw [HC.out]; kernel_rfl) ?_; intro w2 h2))
      refine bodyPost_ret (v := .agg cs) (results_cell_row Try.results10 _ _ (w.heap.size + 1) 32 cs (0, 0) _ rfl h2.1 Try.underlying32 rfl (by rw [HC.out]; kernel_rfl)) rfl ⟨rfl, h2.2⟩
    | succ k1 =>
      have hlt : i < 32 := by have := hk.out; omega
      go_wp2_with (first | (with_reducible refine wl_gen (St.start 32 32 cs z z w (HZ.out.trans HC.out.symm) (HZ.out.trans HC.out.symm)) ?_; intro w0 h0) | (refine wl_ld1 (cs := cs) (W := w) rfl _ _ rfl (by assumption) _ rfl (by have := HC.out; omega) (by decide +kernel) ?_) | (refine wl_stv (cs := cs) (W := w) rfl _ _ _ rfl (by assumption) H1.out 1 _ rfl rfl (cel_cells H1.out (by have := HC.out; omega)) (by kernel_rfl) (by have := HC.out; omega) ?_; intro w1 h1) | (refine wl_ldo (cs := cs) (W := w) rfl _ _ rfl (by assumption) rfl (by have := HC.out; omega) (by kernel_rfl) (by kernel_rfl) ?_) | (refine wl_sto (cs := cs) (W := w) rfl _ _ _ rfl (by assumption) H1.out rfl rfl (by rw [HC.out]; kernel_rfl) ?_; intro w2 h2))
      go_roundg k1
      case measure => have := hk.out; omega
      case rel => exact ⟨i + 1, by first | rfl | (push_cast; rfl), Lib.hid (by have := hk.out; omega), by assumption⟩

set_option maxRecDepth 100000 in
theorem toTimers (cs : Array Value) (hc : cs.size = 32) (h1 : ∀ x ∈ cs, x.oneCell' = true) (w : World) :
    Calls Try.prog 8 #[.agg cs] w fun e w' => e = .returned (.agg cs) ∧ Below w.heap.size w w' := by
  obtain ⟨z, hzs, hz⟩ := zero_run (P := Try.prog) (t := 39) (n := 32) (by kernel_rfl)
  have H1 := Lib.hid h1
  have HC := Lib.hid hc
  have HZ := Lib.hid hzs
  clear h1 hc hzs
  go_enter Try.func8, Try.ntmps8
  go_wp2_with (first | (with_reducible refine wl_gen (St.start 27 39 cs z z w (HZ.out.trans HC.out.symm) (HZ.out.trans HC.out.symm)) ?_; intro w0 h0) | (refine wl_ld1 (cs := cs) (W := w) rfl _ _ rfl (by assumption) _ rfl (by have := HC.out; omega) (by decide +kernel) ?_) | (refine wl_stv (cs := cs) (W := w) rfl _ _ _ rfl (by assumption) H1.out 1 _ rfl rfl (cel_cells H1.out (by have := HC.out; omega)) (by kernel_rfl) (by have := HC.out; omega) ?_; intro w1 h1) | (refine wl_ldo (cs := cs) (W := w) rfl _ _ rfl (by assumption) rfl (by have := HC.out; omega) (by kernel_rfl) (by kernel_rfl) ?_) | (refine wl_sto (cs := cs) (W := w) rfl _ _ _ rfl (by assumption) H1.out rfl rfl (by rw [HC.out]; kernel_rfl) ?_; intro w2 h2))
  go_loopg [4] 16 (fun kq v4 w' => ∃ i : Nat, v4 = .int .i64 i ∧ Hid (i + kq = 16) ∧ St 27 39 cs w w' (i * 2))
  case atStart => exact ⟨0, rfl, Lib.hid (by decide), St.start _ _ cs z z w (HZ.out.trans HC.out.symm) (HZ.out.trans HC.out.symm)⟩
  case round =>
    obtain ⟨i, rfl, hk, hst⟩ := hrel
    cases gk with
    | zero =>
      have hi : i = 16 := by have := hk.out; omega
      subst hi
      go_wp2_with (first | (with_reducible refine wl_gen (St.start 27 39 cs z z w (HZ.out.trans HC.out.symm) (HZ.out.trans HC.out.symm)) ?_; intro w0 h0) | (refine wl_ld1 (cs := cs) (W := w) rfl _ _ rfl (by assumption) _ rfl (by have := HC.out; omega) (by decide +kernel) ?_) | (refine wl_stv (cs := cs) (W := w) rfl _ _ _ rfl (by assumption) H1.out 1 _ rfl rfl (cel_cells H1.out (by have := HC.out; omega)) (by kernel_rfl) (by have := HC.out; omega) ?_; intro w1 h1) | (refine wl_ldo (cs := cs) (W := w) rfl _ _ rfl (by assumption) rfl (by have := HC.out; omega) (by kernel_rfl) (by kernel_rfl) ?_) | (refine wl_sto (cs := cs) (W := w) rfl _ _ _ rfl (by assumption) H1.out rfl rfl (by rw [HC.out]; kernel_rfl) ?_; intro w2 h2))
      refine bodyPost_ret (v := .agg cs) (results_cell_row Try.results8 _ _ (w.heap.size + 1) 39 cs (0, 0) _ rfl h2.1 Try.underlying39 rfl (by rw [HC.out]; kernel_rfl)) rfl ⟨rfl, h2.2⟩
    | succ k1 =>
      have hlt : i < 16 := by have := hk.out; omega
      have hcut : (cut cs (i * 2) 2).size = 2 := by have := HC.out; unfold cut; simp; omega
      have HX := Lib.hid (And.intro hcut (fun x hx => H1.out x (cut_mem hx) : ∀ x ∈ cut cs (i * 2) 2, x.oneCell' = true))
      clear hcut
      go_wp2_with (refine wl_ldp (cs := cs) (W := w) rfl 26 _ rfl (by assumption) _ 2 rfl (by kernel_rfl) (by kernel_rfl) (by have := HC.out; omega) ?_)
      refine (toTimer _ HX.out.1 HX.out.2 _).mono ?_
      rintro e w3 ⟨rfl, hb3⟩
      have hst3 := hst.below hb3
      clear hst hb3
      go_wp2_with (refine wl_stv (cs := cs) (W := w) rfl 38 _ _ rfl (by assumption) H1.out 2 _ rfl rfl rfl (by kernel_rfl) (by have := HC.out; omega) ?_; intro w1 h1)
      go_roundg k1
      case measure => have := hk.out; omega
      case rel => exact ⟨i + 1, by first | rfl | (push_cast; rfl), Lib.hid (by have := hk.out; omega), by rw [show (i + 1) * 2 = i * 2 + 2 by omega]; assumption⟩

set_option maxRecDepth 100000 in
theorem toCounters (cs : Array Value) (hc : cs.size = 48) (h1 : ∀ x ∈ cs, x.oneCell' = true) (w : World) :
    Calls Try.prog 9 #[.agg cs] w fun e w' => e = .returned (.agg cs) ∧ Below w.heap.size w w' := by
  obtain ⟨z, hzs, hz⟩ := zero_run (P := Try.prog) (t := 41) (n := 48) (by kernel_rfl)
  have H1 := Lib.hid h1
  have HC := Lib.hid hc
  have HZ := Lib.hid hzs
  clear h1 hc hzs
  go_enter Try.func9, Try.ntmps9
  go_wp2_with (first | (with_reducible refine wl_gen (St.start 30 41 cs z z w (HZ.out.trans HC.out.symm) (HZ.out.trans HC.out.symm)) ?_; intro w0 h0) | (refine wl_ld1 (cs := cs) (W := w) rfl _ _ rfl (by assumption) _ rfl (by have := HC.out; omega) (by decide +kernel) ?_) | (refine wl_stv (cs := cs) (W := w) rfl _ _ _ rfl (by assumption) H1.out 1 _ rfl rfl (cel_cells H1.out (by have := HC.out; omega)) (by kernel_rfl) (by have := HC.out; omega) ?_; intro w1 h1) | (refine wl_ldo (cs := cs) (W := w) rfl _ _ rfl (by assumption) rfl (by have := HC.out; omega) (by kernel_rfl) (by kernel_rfl) ?_) | (refine wl_sto (cs := cs) (W := w) rfl _ _ _ rfl (by assumption) H1.out rfl rfl (by rw [HC.out]; kernel_rfl) ?_; intro w2 h2))
  go_loopg [4] 16 (fun kq v4 w' => ∃ i : Nat, v4 = .int .i64 i ∧ Hid (i + kq = 16) ∧ St 30 41 cs w w' (i * 3))
  case atStart => exact ⟨0, rfl, Lib.hid (by decide), St.start _ _ cs z z w (HZ.out.trans HC.out.symm) (HZ.out.trans HC.out.symm)⟩
  case round =>
    obtain ⟨i, rfl, hk, hst⟩ := hrel
    cases gk with
    | zero =>
      have hi : i = 16 := by have := hk.out; omega
      subst hi
      go_wp2_with (first | (with_reducible refine wl_gen (St.start 30 41 cs z z w (HZ.out.trans HC.out.symm) (HZ.out.trans HC.out.symm)) ?_; intro w0 h0) | (refine wl_ld1 (cs := cs) (W := w) rfl _ _ rfl (by assumption) _ rfl (by have := HC.out; omega) (by decide +kernel) ?_) | (refine wl_stv (cs := cs) (W := w) rfl _ _ _ rfl (by assumption) H1.out 1 _ rfl rfl (cel_cells H1.out (by have := HC.out; omega)) (by kernel_rfl) (by have := HC.out; omega) ?_; intro w1 h1) | (refine wl_ldo (cs := cs) (W := w) rfl _ _ rfl (by assumption) rfl (by have := HC.out; omega) (by kernel_rfl) (by kernel_rfl) ?_) | (refine wl_sto (cs := cs) (W := w) rfl _ _ _ rfl (by assumption) H1.out rfl rfl (by rw [HC.out]; kernel_rfl) ?_; intro w2 h2))
      refine bodyPost_ret (v := .agg cs) (results_cell_row Try.results9 _ _ (w.heap.size + 1) 41 cs (0, 0) _ rfl h2.1 Try.underlying41 rfl (by rw [HC.out]; kernel_rfl)) rfl ⟨rfl, h2.2⟩
    | succ k1 =>
      have hlt : i < 16 := by have := hk.out; omega
      have hcut : (cut cs (i * 3) 3).size = 3 := by have := HC.out; unfold cut; simp; omega
      have HX := Lib.hid (And.intro hcut (fun x hx => H1.out x (cut_mem hx) : ∀ x ∈ cut cs (i * 3) 3, x.oneCell' = true))
      clear hcut
      go_wp2_with (refine wl_ldp (cs := cs) (W := w) rfl 29 _ rfl (by assumption) _ 3 rfl (by kernel_rfl) (by kernel_rfl) (by have := HC.out; omega) ?_)
      refine (toCounter _ HX.out.1 HX.out.2 _).mono ?_
      rintro e w3 ⟨rfl, hb3⟩
      have hst3 := hst.below hb3
      clear hst hb3
      go_wp2_with (refine wl_stv (cs := cs) (W := w) rfl 40 _ _ rfl (by assumption) H1.out 3 _ rfl rfl rfl (by kernel_rfl) (by have := HC.out; omega) ?_; intro w1 h1)
      go_roundg k1
      case measure => have := hk.out; omega
      case rel => exact ⟨i + 1, by first | rfl | (push_cast; rfl), Lib.hid (by have := hk.out; omega), by rw [show (i + 1) * 3 = i * 3 + 3 by omega]; assumption⟩

set_option maxRecDepth 100000 in
set_option maxHeartbeats 2000000 in
theorem toMem (cs : Array Value) (hc : cs.size = 136) (h1 : ∀ x ∈ cs, x.oneCell' = true) (w : World) :
    Calls Try.prog 5 #[.agg cs] w fun e w' => e = .returned (.agg cs) ∧ Below w.heap.size w w' := by
  obtain ⟨z, hzs, hz⟩ := zero_run (P := Try.prog) (t := 43) (n := 136) (by kernel_rfl)
  have hx : ∀ off n, off + n ≤ 136 → (cut cs off n).size = n ∧ ∀ x ∈ cut cs off n, x.oneCell' = true := fun off n h => ⟨by unfold cut; simp; omega, fun x hx => h1 x (cut_mem hx)⟩
  have HX := Lib.hid hx
  have H1 := Lib.hid h1
  have HC := Lib.hid hc
  have HZ := Lib.hid hzs
  clear h1 hc hzs hx
  go_enter Try.func5, Try.ntmps5
  go_wp2_with (first | (with_reducible refine wl_gen (St.start 36 43 cs z z w (HZ.out.trans HC.out.symm) (HZ.out.trans HC.out.symm)) ?_; intro w0 h0) | (refine wl_ld1 (cs := cs) (W := w) rfl _ _ rfl (by assumption) _ rfl (by have := HC.out; omega) (by decide +kernel) ?_) | (refine wl_stv (cs := cs) (W := w) rfl _ _ _ rfl (by assumption) H1.out 1 _ rfl rfl (cel_cells H1.out (by have := HC.out; omega)) (by kernel_rfl) (by have := HC.out; omega) ?_; intro w1 h1) | (refine wl_ldp (cs := cs) (W := w) rfl 27 _ rfl (by assumption) _ 32 rfl (by kernel_rfl) (by kernel_rfl) (by have := HC.out; omega) ?_) | (refine wl_stv (cs := cs) (W := w) rfl 39 _ _ rfl (by assumption) H1.out 32 _ rfl rfl rfl (by kernel_rfl) (by have := HC.out; omega) ?_; intro w1 h1) | (refine wl_ldp (cs := cs) (W := w) rfl 30 _ rfl (by assumption) _ 48 rfl (by kernel_rfl) (by kernel_rfl) (by have := HC.out; omega) ?_) | (refine wl_stv (cs := cs) (W := w) rfl 41 _ _ rfl (by assumption) H1.out 48 _ rfl rfl rfl (by kernel_rfl) (by have := HC.out; omega) ?_; intro w1 h1) | (refine wl_ldp (cs := cs) (W := w) rfl 32 _ rfl (by assumption) _ 32 rfl (by kernel_rfl) (by kernel_rfl) (by have := HC.out; omega) ?_) | (refine wl_stv (cs := cs) (W := w) rfl 32 _ _ rfl (by assumption) H1.out 32 _ rfl rfl rfl (by kernel_rfl) (by have := HC.out; omega) ?_; intro w1 h1) | (refine wl_ldp (cs := cs) (W := w) rfl 34 _ rfl (by assumption) _ 16 rfl (by kernel_rfl) (by kernel_rfl) (by have := HC.out; omega) ?_) | (refine wl_stv (cs := cs) (W := w) rfl 34 _ _ rfl (by assumption) H1.out 16 _ rfl rfl rfl (by kernel_rfl) (by have := HC.out; omega) ?_; intro w1 h1) | (refine wl_ldo (cs := cs) (W := w) rfl _ _ rfl (by assumption) rfl (by have := HC.out; omega) (by kernel_rfl) (by kernel_rfl) ?_) | (refine wl_sto (cs := cs) (W := w) rfl _ _ _ rfl (by assumption) H1.out rfl rfl (by rw [HC.out]; kernel_rfl) ?_; intro w2 h2))
  refine (toTimers _ (HX.out 5 32 (by decide)).1 (HX.out 5 32 (by decide)).2 _).mono ?_
  rintro e w3 ⟨rfl, hb3⟩
  have hst3 := h1.below hb3
  clear h1 hb3
  go_wp2_with (first | (with_reducible refine wl_gen (St.start 36 43 cs z z w (HZ.out.trans HC.out.symm) (HZ.out.trans HC.out.symm)) ?_; intro w0 h0) | (refine wl_ld1 (cs := cs) (W := w) rfl _ _ rfl (by assumption) _ rfl (by have := HC.out; omega) (by decide +kernel) ?_) | (refine wl_stv (cs := cs) (W := w) rfl _ _ _ rfl (by assumption) H1.out 1 _ rfl rfl (cel_cells H1.out (by have := HC.out; omega)) (by kernel_rfl) (by have := HC.out; omega) ?_; intro w1 h1) | (refine wl_ldp (cs := cs) (W := w) rfl 27 _ rfl (by assumption) _ 32 rfl (by kernel_rfl) (by kernel_rfl) (by have := HC.out; omega) ?_) | (refine wl_stv (cs := cs) (W := w) rfl 39 _ _ rfl (by assumption) H1.out 32 _ rfl rfl rfl (by kernel_rfl) (by have := HC.out; omega) ?_; intro w1 h1) | (refine wl_ldp (cs := cs) (W := w) rfl 30 _ rfl (by assumption) _ 48 rfl (by kernel_rfl) (by kernel_rfl) (by have := HC.out; omega) ?_) | (refine wl_stv (cs := cs) (W := w) rfl 41 _ _ rfl (by assumption) H1.out 48 _ rfl rfl rfl (by kernel_rfl) (by have := HC.out; omega) ?_; intro w1 h1) | (refine wl_ldp (cs := cs) (W := w) rfl 32 _ rfl (by assumption) _ 32 rfl (by kernel_rfl) (by kernel_rfl) (by have := HC.out; omega) ?_) | (refine wl_stv (cs := cs) (W := w) rfl 32 _ _ rfl (by assumption) H1.out 32 _ rfl rfl rfl (by kernel_rfl) (by have := HC.out; omega) ?_; intro w1 h1) | (refine wl_ldp (cs := cs) (W := w) rfl 34 _ rfl (by assumption) _ 16 rfl (by kernel_rfl) (by kernel_rfl) (by have := HC.out; omega) ?_) | (refine wl_stv (cs := cs) (W := w) rfl 34 _ _ rfl (by assumption) H1.out 16 _ rfl rfl rfl (by kernel_rfl) (by have := HC.out; omega) ?_; intro w1 h1) | (refine wl_ldo (cs := cs) (W := w) rfl _ _ rfl (by assumption) rfl (by have := HC.out; omega) (by kernel_rfl) (by kernel_rfl) ?_) | (refine wl_sto (cs := cs) (W := w) rfl _ _ _ rfl (by assumption) H1.out rfl rfl (by rw [HC.out]; kernel_rfl) ?_; intro w2 h2))
  refine (toCounters _ (HX.out 37 48 (by decide)).1 (HX.out 37 48 (by decide)).2 _).mono ?_
  rintro e w3 ⟨rfl, hb3⟩
  have hst3 := h1.below hb3
  clear h1 hb3
  go_wp2_with (first | (with_reducible refine wl_gen (St.start 36 43 cs z z w (HZ.out.trans HC.out.symm) (HZ.out.trans HC.out.symm)) ?_; intro w0 h0) | (refine wl_ld1 (cs := cs) (W := w) rfl _ _ rfl (by assumption) _ rfl (by have := HC.out; omega) (by decide +kernel) ?_) | (refine wl_stv (cs := cs) (W := w) rfl _ _ _ rfl (by assumption) H1.out 1 _ rfl rfl (cel_cells H1.out (by have := HC.out; omega)) (by kernel_rfl) (by have := HC.out; omega) ?_; intro w1 h1) | (refine wl_ldp (cs := cs) (W := w) rfl 27 _ rfl (by assumption) _ 32 rfl (by kernel_rfl) (by kernel_rfl) (by have := HC.out; omega) ?_) | (refine wl_stv (cs := cs) (W := w) rfl 39 _ _ rfl (by assumption) H1.out 32 _ rfl rfl rfl (by kernel_rfl) (by have := HC.out; omega) ?_; intro w1 h1) | (refine wl_ldp (cs := cs) (W := w) rfl 30 _ rfl (by assumption) _ 48 rfl (by kernel_rfl) (by kernel_rfl) (by have := HC.out; omega) ?_) | (refine wl_stv (cs := cs) (W := w) rfl 41 _ _ rfl (by assumption) H1.out 48 _ rfl rfl rfl (by kernel_rfl) (by have := HC.out; omega) ?_; intro w1 h1) | (refine wl_ldp (cs := cs) (W := w) rfl 32 _ rfl (by assumption) _ 32 rfl (by kernel_rfl) (by kernel_rfl) (by have := HC.out; omega) ?_) | (refine wl_stv (cs := cs) (W := w) rfl 32 _ _ rfl (by assumption) H1.out 32 _ rfl rfl rfl (by kernel_rfl) (by have := HC.out; omega) ?_; intro w1 h1) | (refine wl_ldp (cs := cs) (W := w) rfl 34 _ rfl (by assumption) _ 16 rfl (by kernel_rfl) (by kernel_rfl) (by have := HC.out; omega) ?_) | (refine wl_stv (cs := cs) (W := w) rfl 34 _ _ rfl (by assumption) H1.out 16 _ rfl rfl rfl (by kernel_rfl) (by have := HC.out; omega) ?_; intro w1 h1) | (refine wl_ldo (cs := cs) (W := w) rfl _ _ rfl (by assumption) rfl (by have := HC.out; omega) (by kernel_rfl) (by kernel_rfl) ?_) | (refine wl_sto (cs := cs) (W := w) rfl _ _ _ rfl (by assumption) H1.out rfl rfl (by rw [HC.out]; kernel_rfl) ?_; intro w2 h2))
  refine (toWholes _ (HX.out 85 32 (by decide)).1 (HX.out 85 32 (by decide)).2 _).mono ?_
  rintro e w3 ⟨rfl, hb3⟩
  have hst3 := h1.below hb3
  clear h1 hb3
  go_wp2_with (first | (with_reducible refine wl_gen (St.start 36 43 cs z z w (HZ.out.trans HC.out.symm) (HZ.out.trans HC.out.symm)) ?_; intro w0 h0) | (refine wl_ld1 (cs := cs) (W := w) rfl _ _ rfl (by assumption) _ rfl (by have := HC.out; omega) (by decide +kernel) ?_) | (refine wl_stv (cs := cs) (W := w) rfl _ _ _ rfl (by assumption) H1.out 1 _ rfl rfl (cel_cells H1.out (by have := HC.out; omega)) (by kernel_rfl) (by have := HC.out; omega) ?_; intro w1 h1) | (refine wl_ldp (cs := cs) (W := w) rfl 27 _ rfl (by assumption) _ 32 rfl (by kernel_rfl) (by kernel_rfl) (by have := HC.out; omega) ?_) | (refine wl_stv (cs := cs) (W := w) rfl 39 _ _ rfl (by assumption) H1.out 32 _ rfl rfl rfl (by kernel_rfl) (by have := HC.out; omega) ?_; intro w1 h1) | (refine wl_ldp (cs := cs) (W := w) rfl 30 _ rfl (by assumption) _ 48 rfl (by kernel_rfl) (by kernel_rfl) (by have := HC.out; omega) ?_) | (refine wl_stv (cs := cs) (W := w) rfl 41 _ _ rfl (by assumption) H1.out 48 _ rfl rfl rfl (by kernel_rfl) (by have := HC.out; omega) ?_; intro w1 h1) | (refine wl_ldp (cs := cs) (W := w) rfl 32 _ rfl (by assumption) _ 32 rfl (by kernel_rfl) (by kernel_rfl) (by have := HC.out; omega) ?_) | (refine wl_stv (cs := cs) (W := w) rfl 32 _ _ rfl (by assumption) H1.out 32 _ rfl rfl rfl (by kernel_rfl) (by have := HC.out; omega) ?_; intro w1 h1) | (refine wl_ldp (cs := cs) (W := w) rfl 34 _ rfl (by assumption) _ 16 rfl (by kernel_rfl) (by kernel_rfl) (by have := HC.out; omega) ?_) | (refine wl_stv (cs := cs) (W := w) rfl 34 _ _ rfl (by assumption) H1.out 16 _ rfl rfl rfl (by kernel_rfl) (by have := HC.out; omega) ?_; intro w1 h1) | (refine wl_ldo (cs := cs) (W := w) rfl _ _ rfl (by assumption) rfl (by have := HC.out; omega) (by kernel_rfl) (by kernel_rfl) ?_) | (refine wl_sto (cs := cs) (W := w) rfl _ _ _ rfl (by assumption) H1.out rfl rfl (by rw [HC.out]; kernel_rfl) ?_; intro w2 h2))
  refine (toReals _ (HX.out 117 16 (by decide)).1 (HX.out 117 16 (by decide)).2 _).mono ?_
  rintro e w3 ⟨rfl, hb3⟩
  have hst3 := h1.below hb3
  clear h1 hb3
  go_wp2_with (first | (with_reducible refine wl_gen (St.start 36 43 cs z z w (HZ.out.trans HC.out.symm) (HZ.out.trans HC.out.symm)) ?_; intro w0 h0) | (refine wl_ld1 (cs := cs) (W := w) rfl _ _ rfl (by assumption) _ rfl (by have := HC.out; omega) (by decide +kernel) ?_) | (refine wl_stv (cs := cs) (W := w) rfl _ _ _ rfl (by assumption) H1.out 1 _ rfl rfl (cel_cells H1.out (by have := HC.out; omega)) (by kernel_rfl) (by have := HC.out; omega) ?_; intro w1 h1) | (refine wl_ldp (cs := cs) (W := w) rfl 27 _ rfl (by assumption) _ 32 rfl (by kernel_rfl) (by kernel_rfl) (by have := HC.out; omega) ?_) | (refine wl_stv (cs := cs) (W := w) rfl 39 _ _ rfl (by assumption) H1.out 32 _ rfl rfl rfl (by kernel_rfl) (by have := HC.out; omega) ?_; intro w1 h1) | (refine wl_ldp (cs := cs) (W := w) rfl 30 _ rfl (by assumption) _ 48 rfl (by kernel_rfl) (by kernel_rfl) (by have := HC.out; omega) ?_) | (refine wl_stv (cs := cs) (W := w) rfl 41 _ _ rfl (by assumption) H1.out 48 _ rfl rfl rfl (by kernel_rfl) (by have := HC.out; omega) ?_; intro w1 h1) | (refine wl_ldp (cs := cs) (W := w) rfl 32 _ rfl (by assumption) _ 32 rfl (by kernel_rfl) (by kernel_rfl) (by have := HC.out; omega) ?_) | (refine wl_stv (cs := cs) (W := w) rfl 32 _ _ rfl (by assumption) H1.out 32 _ rfl rfl rfl (by kernel_rfl) (by have := HC.out; omega) ?_; intro w1 h1) | (refine wl_ldp (cs := cs) (W := w) rfl 34 _ rfl (by assumption) _ 16 rfl (by kernel_rfl) (by kernel_rfl) (by have := HC.out; omega) ?_) | (refine wl_stv (cs := cs) (W := w) rfl 34 _ _ rfl (by assumption) H1.out 16 _ rfl rfl rfl (by kernel_rfl) (by have := HC.out; omega) ?_; intro w1 h1) | (refine wl_ldo (cs := cs) (W := w) rfl _ _ rfl (by assumption) rfl (by have := HC.out; omega) (by kernel_rfl) (by kernel_rfl) ?_) | (refine wl_sto (cs := cs) (W := w) rfl _ _ _ rfl (by assumption) H1.out rfl rfl (by rw [HC.out]; kernel_rfl) ?_; intro w2 h2))
  refine bodyPost_ret (v := .agg cs) (results_cell_row Try.results5 _ _ (w.heap.size + 1) 43 cs (0, 0) _ rfl h2.1 Try.underlying43 rfl (by rw [HC.out]; kernel_rfl)) rfl ⟨rfl, h2.2⟩

end Go.Proofs.Ytcjlkekekalgdaa.part
