/-
  'MemPutWhole' and 'MemPutReal' of both sides: what they return.
  Conditions: the cells have the kinds of a memory; the variable 'devSizes' holds its numbers.
-/
import Derived.Test.YtnffgafofkknoaaDoorStore
import Derived.Test.YtnffgafofkknoaaDoorRange
import Derived.Test.YtnffgafofkknoaaDoorPlace
namespace Go.Proofs.YtnffgafofkknoaaDoor.part
open Go Go.RowKit Go.Proofs.YtnffgafofkknoaaDoor.dev
set_option linter.unusedVariables false
set_option linter.unusedSimpArgs false

theorem plc_nat2 {k n c : Int} (hc : cnt k = c) (h : c ≠ 0) : ∃ j : Nat, plc k n = j ∧ (j : Int) < c := by
  have h1 := plc_in k n
  obtain ⟨j, e⟩ := Int.eq_ofNat_of_zero_le h1.1
  exact ⟨j, e, by rw [← e, ← hc]; exact h1.2 (by rw [hc]; exact h)⟩
/-- A memory with a whole number put. -/
def pw (cs : Array Value) (k n v : Int) : Array Value := if k = 9 then cs.setIfInBounds (85 + (plc k n).toNat) (.int .i16 v) else cs
/-- A memory with a real number put. -/
def pr (cs : Array Value) (k n : Int) (v : Nat) : Array Value := if k = 10 then cs.setIfInBounds (117 + (plc k n).toNat) (.float .f64 v) else cs
theorem pw_shape {cs : Array Value} (h : Shape cs) (k n v : Int) : Shape (pw cs k n v) := by
  unfold pw
  split
  · subst_vars
    obtain ⟨j, hj, hlt⟩ := plc_nat2 (k := 9) (n := n) (c := 32) rfl (by decide)
    rw [hj, Int.toNat_natCast]
    exact (h.tagged.put _ _ (show tv (.int .i16 v) = tags.getD (85 + j) 0 from (by decide : ∀ j, j < 32 → 5 = tags.getD (85 + j) 0) j (by omega))).shape
  · exact h
theorem pr_shape {cs : Array Value} (h : Shape cs) (k n : Int) (v : Nat) : Shape (pr cs k n v) := by
  unfold pr
  split
  · subst_vars
    obtain ⟨j, hj, hlt⟩ := plc_nat2 (k := 10) (n := n) (c := 16) rfl (by decide)
    rw [hj, Int.toNat_natCast]
    exact (h.tagged.put _ _ (show tv (.float .f64 v) = tags.getD (117 + j) 0 from (by decide : ∀ j, j < 16 → 6 = tags.getD (117 + j) 0) j (by omega))).shape
  · exact h
theorem pw_rg {cs : Array Value} (h : Rg cs) (k n v : Int) (hv : -32768 ≤ v ∧ v ≤ 32767) : Rg (pw cs k n v) := by
  unfold pw
  split
  · exact h.put _ _ (fun k a e => by cases e; exact hv)
  · exact h
theorem pr_rg {cs : Array Value} (h : Rg cs) (k n : Int) (v : Nat) : Rg (pr cs k n v) := by
  unfold pr
  split
  · exact h.put _ _ (fun k a e => by cases e)
  · exact h

set_option maxRecDepth 100000 in
theorem iw_1 (cs ce : Array Value) (hsh : Shape cs) (n p : Int) (v : Int) (he : pw cs 9 n v = ce) (hce : Shape ce) (w : World) (hs : Sizes w) : Calls Tryd.prog 22 #[.agg cs, .agg #[.int .i64 9, .int .i64 n, .int .i64 p], .int .i16 v] w fun e w' => e = .returned (.agg ce) ∧ Below w.heap.size w w' := by
  obtain ⟨z, hzs, hz⟩ := zero_run (P := Tryd.prog) (t := 45) (n := 136) (by kernel_rfl)
  have HZ := Lib.hid hzs
  have HSZ := Lib.hid hsh.size
  have HS := Lib.hid hce
  obtain ⟨j, hj, hlt⟩ := plc_nat2 (k := 9) (n := n) (c := 32) rfl (by decide)
  have HE := Lib.hid (show cs.setIfInBounds (85 + j) (.int .i16 v) = ce by rw [← he]; unfold pw; rw [if_pos rfl, hj, Int.toNat_natCast])
  have Hj := Lib.hid hj
  clear hj
  have Hs := Lib.hid hs
  clear hs
  clear hsh he hce hzs
  go_enter Tryd.func22, Tryd.ntmps22
  go_wp2_with fail
  refine (impl_place 9 n p _ (((Hs.out.alloc _).alloc _).alloc _)).mono ?_
  rintro e w1 ⟨rfl, h1⟩
  have hb1 := (Bs.start 45 47 cs #[.int .i64 9, .int .i64 n, .int .i64 p] z w (HZ.out.trans HSZ.out.symm)).below h1
  rw [Hj.out]
  clear h1
  go_wp2_with (first | (refine wl_sst rfl _ _ _ rfl hb1 (85 + j) (.int .i16 v) rfl rfl rfl (by kernel_rfl) (by rw [HSZ.out]; omega) ?_; intro w2 hb2; rw [HE.out] at hb2) | (refine wl_bld rfl _ _ rfl hb2.1 rfl (by kernel_rfl) 136 HS.out.size (by kernel_rfl) ?_) | (refine wl_bsto rfl _ _ _ rfl hb2.1 rfl rfl HS.out.one 136 HS.out.size (by kernel_rfl) ?_; intro w3 h2))
  refine bodyPost_ret (v := .agg ce) (results_cell_row Tryd.results22 _ _ (w.heap.size + 2) 45 ce (0, 0) _ rfl h2.1 Tryd.underlying45 rfl (by rw [HS.out.size]; kernel_rfl)) rfl ⟨rfl, h2.2⟩

set_option maxRecDepth 100000 in
theorem iw_0 (cs ce : Array Value) (hsh : Shape cs) (k n p : Int) (v : Int) (hk : k ≠ 9) (he : pw cs k n v = ce) (hce : Shape ce) (w : World) (hs : Sizes w) : Calls Tryd.prog 22 #[.agg cs, .agg #[.int .i64 k, .int .i64 n, .int .i64 p], .int .i16 v] w fun e w' => e = .returned (.agg ce) ∧ Below w.heap.size w w' := by
  obtain ⟨z, hzs, hz⟩ := zero_run (P := Tryd.prog) (t := 45) (n := 136) (by kernel_rfl)
  have HZ := Lib.hid hzs
  have HSZ := Lib.hid hsh.size
  have HS := Lib.hid hce
  obtain rfl : cs = ce := by rw [← he]; unfold pw; rw [if_neg hk]
  have bk : (k == 9) = false := beq_eq_false_iff_ne.2 hk
  clear hk
  have Hs := Lib.hid hs
  clear hs
  clear hsh he hce hzs
  go_enter Tryd.func22, Tryd.ntmps22
  go_upto_region 3 with (fail)
  refine wp_genS (Bs.start 45 47 cs #[.int .i64 k, .int .i64 n, .int .i64 p] z w (HZ.out.trans HSZ.out.symm)) ?_
  intro w0 hb
  go_wp2_with (first | (refine wl_bld rfl _ _ rfl hb.1 rfl (by kernel_rfl) 136 HS.out.size (by kernel_rfl) ?_) | (refine wl_bsto rfl _ _ _ rfl hb.1 rfl rfl HS.out.one 136 HS.out.size (by kernel_rfl) ?_; intro w3 h2))
  refine bodyPost_ret (v := .agg cs) (results_cell_row Tryd.results22 _ _ (w.heap.size + 2) 45 cs (0, 0) _ rfl h2.1 Tryd.underlying45 rfl (by rw [HS.out.size]; kernel_rfl)) rfl ⟨rfl, h2.2⟩

theorem iw_any (cs ce : Array Value) (hsh : Shape cs) (k n p : Int) (v : Int) (he : pw cs k n v = ce) (hce : Shape ce) (w : World) (hs : Sizes w) : Calls Tryd.prog 22 #[.agg cs, .agg #[.int .i64 k, .int .i64 n, .int .i64 p], .int .i16 v] w fun e w' => e = .returned (.agg ce) ∧ Below w.heap.size w w' := by
  by_cases h : k = 9
  · subst h; exact iw_1 cs ce hsh n p v he hce w hs
  · exact iw_0 cs ce hsh k n p v h he hce w hs

set_option maxRecDepth 100000 in
theorem sw_1 (cs ce : Array Value) (hsh : Shape cs) (n p : Int) (v : Int) (he : pw cs 9 n v = ce) (hce : Shape ce) (w : World) : Calls Tryd.prog 21 #[.agg cs, .agg #[.int .i64 9, .int .i64 n, .int .i64 p], .int .i16 v] w fun e w' => e = .returned (.agg ce) ∧ Below w.heap.size w w' := by
  obtain ⟨z, hzs, hz⟩ := zero_run (P := Tryd.prog) (t := 45) (n := 136) (by kernel_rfl)
  have HZ := Lib.hid hzs
  have HSZ := Lib.hid hsh.size
  have HS := Lib.hid hce
  obtain ⟨j, hj, hlt⟩ := plc_nat2 (k := 9) (n := n) (c := 32) rfl (by decide)
  have HE := Lib.hid (show cs.setIfInBounds (85 + j) (.int .i16 v) = ce by rw [← he]; unfold pw; rw [if_pos rfl, hj, Int.toNat_natCast])
  have Hj := Lib.hid hj
  clear hj
  clear hsh he hce hzs
  go_enter Tryd.func21, Tryd.ntmps21
  go_wp2_with fail
  refine (spec_place 9 n p _).mono ?_
  rintro e w1 ⟨rfl, h1⟩
  have hb1 := (Bs.start 45 47 cs #[.int .i64 9, .int .i64 n, .int .i64 p] z w (HZ.out.trans HSZ.out.symm)).below h1
  rw [Hj.out]
  clear h1
  go_wp2_with (first | (refine wl_sst rfl _ _ _ rfl hb1 (85 + j) (.int .i16 v) rfl rfl rfl (by kernel_rfl) (by rw [HSZ.out]; omega) ?_; intro w2 hb2; rw [HE.out] at hb2) | (refine wl_bld rfl _ _ rfl hb2.1 rfl (by kernel_rfl) 136 HS.out.size (by kernel_rfl) ?_) | (refine wl_bsto rfl _ _ _ rfl hb2.1 rfl rfl HS.out.one 136 HS.out.size (by kernel_rfl) ?_; intro w3 h2))
  refine bodyPost_ret (v := .agg ce) (results_cell_row Tryd.results21 _ _ (w.heap.size + 2) 45 ce (0, 0) _ rfl h2.1 Tryd.underlying45 rfl (by rw [HS.out.size]; kernel_rfl)) rfl ⟨rfl, h2.2⟩

set_option maxRecDepth 100000 in
theorem sw_0 (cs ce : Array Value) (hsh : Shape cs) (k n p : Int) (v : Int) (hk : k ≠ 9) (he : pw cs k n v = ce) (hce : Shape ce) (w : World) : Calls Tryd.prog 21 #[.agg cs, .agg #[.int .i64 k, .int .i64 n, .int .i64 p], .int .i16 v] w fun e w' => e = .returned (.agg ce) ∧ Below w.heap.size w w' := by
  obtain ⟨z, hzs, hz⟩ := zero_run (P := Tryd.prog) (t := 45) (n := 136) (by kernel_rfl)
  have HZ := Lib.hid hzs
  have HSZ := Lib.hid hsh.size
  have HS := Lib.hid hce
  obtain rfl : cs = ce := by rw [← he]; unfold pw; rw [if_neg hk]
  have bk : (k == 9) = false := beq_eq_false_iff_ne.2 hk
  clear hk
  clear hsh he hce hzs
  go_enter Tryd.func21, Tryd.ntmps21
  go_upto_region 3 with (fail)
  refine wp_genS (Bs.start 45 47 cs #[.int .i64 k, .int .i64 n, .int .i64 p] z w (HZ.out.trans HSZ.out.symm)) ?_
  intro w0 hb
  go_wp2_with (first | (refine wl_bld rfl _ _ rfl hb.1 rfl (by kernel_rfl) 136 HS.out.size (by kernel_rfl) ?_) | (refine wl_bsto rfl _ _ _ rfl hb.1 rfl rfl HS.out.one 136 HS.out.size (by kernel_rfl) ?_; intro w3 h2))
  refine bodyPost_ret (v := .agg cs) (results_cell_row Tryd.results21 _ _ (w.heap.size + 2) 45 cs (0, 0) _ rfl h2.1 Tryd.underlying45 rfl (by rw [HS.out.size]; kernel_rfl)) rfl ⟨rfl, h2.2⟩

theorem sw_any (cs ce : Array Value) (hsh : Shape cs) (k n p : Int) (v : Int) (he : pw cs k n v = ce) (hce : Shape ce) (w : World) : Calls Tryd.prog 21 #[.agg cs, .agg #[.int .i64 k, .int .i64 n, .int .i64 p], .int .i16 v] w fun e w' => e = .returned (.agg ce) ∧ Below w.heap.size w w' := by
  by_cases h : k = 9
  · subst h; exact sw_1 cs ce hsh n p v he hce w
  · exact sw_0 cs ce hsh k n p v h he hce w

set_option maxRecDepth 100000 in
theorem ir_1 (cs ce : Array Value) (hsh : Shape cs) (n p : Int) (v : Nat) (he : pr cs 10 n v = ce) (hce : Shape ce) (w : World) (hs : Sizes w) : Calls Tryd.prog 19 #[.agg cs, .agg #[.int .i64 10, .int .i64 n, .int .i64 p], .float .f64 v] w fun e w' => e = .returned (.agg ce) ∧ Below w.heap.size w w' := by
  obtain ⟨z, hzs, hz⟩ := zero_run (P := Tryd.prog) (t := 45) (n := 136) (by kernel_rfl)
  have HZ := Lib.hid hzs
  have HSZ := Lib.hid hsh.size
  have HS := Lib.hid hce
  obtain ⟨j, hj, hlt⟩ := plc_nat2 (k := 10) (n := n) (c := 16) rfl (by decide)
  have HE := Lib.hid (show cs.setIfInBounds (117 + j) (.float .f64 v) = ce by rw [← he]; unfold pr; rw [if_pos rfl, hj, Int.toNat_natCast])
  have Hj := Lib.hid hj
  clear hj
  have Hs := Lib.hid hs
  clear hs
  clear hsh he hce hzs
  go_enter Tryd.func19, Tryd.ntmps19
  go_wp2_with fail
  refine (impl_place 10 n p _ (((Hs.out.alloc _).alloc _).alloc _)).mono ?_
  rintro e w1 ⟨rfl, h1⟩
  have hb1 := (Bs.start 45 47 cs #[.int .i64 10, .int .i64 n, .int .i64 p] z w (HZ.out.trans HSZ.out.symm)).below h1
  rw [Hj.out]
  clear h1
  go_wp2_with (first | (refine wl_sst rfl _ _ _ rfl hb1 (117 + j) (.float .f64 v) rfl rfl rfl (by kernel_rfl) (by rw [HSZ.out]; omega) ?_; intro w2 hb2; rw [HE.out] at hb2) | (refine wl_bld rfl _ _ rfl hb2.1 rfl (by kernel_rfl) 136 HS.out.size (by kernel_rfl) ?_) | (refine wl_bsto rfl _ _ _ rfl hb2.1 rfl rfl HS.out.one 136 HS.out.size (by kernel_rfl) ?_; intro w3 h2))
  refine bodyPost_ret (v := .agg ce) (results_cell_row Tryd.results19 _ _ (w.heap.size + 2) 45 ce (0, 0) _ rfl h2.1 Tryd.underlying45 rfl (by rw [HS.out.size]; kernel_rfl)) rfl ⟨rfl, h2.2⟩

set_option maxRecDepth 100000 in
theorem ir_0 (cs ce : Array Value) (hsh : Shape cs) (k n p : Int) (v : Nat) (hk : k ≠ 10) (he : pr cs k n v = ce) (hce : Shape ce) (w : World) (hs : Sizes w) : Calls Tryd.prog 19 #[.agg cs, .agg #[.int .i64 k, .int .i64 n, .int .i64 p], .float .f64 v] w fun e w' => e = .returned (.agg ce) ∧ Below w.heap.size w w' := by
  obtain ⟨z, hzs, hz⟩ := zero_run (P := Tryd.prog) (t := 45) (n := 136) (by kernel_rfl)
  have HZ := Lib.hid hzs
  have HSZ := Lib.hid hsh.size
  have HS := Lib.hid hce
  obtain rfl : cs = ce := by rw [← he]; unfold pr; rw [if_neg hk]
  have bk : (k == 10) = false := beq_eq_false_iff_ne.2 hk
  clear hk
  have Hs := Lib.hid hs
  clear hs
  clear hsh he hce hzs
  go_enter Tryd.func19, Tryd.ntmps19
  go_upto_region 3 with (fail)
  refine wp_genS (Bs.start 45 47 cs #[.int .i64 k, .int .i64 n, .int .i64 p] z w (HZ.out.trans HSZ.out.symm)) ?_
  intro w0 hb
  go_wp2_with (first | (refine wl_bld rfl _ _ rfl hb.1 rfl (by kernel_rfl) 136 HS.out.size (by kernel_rfl) ?_) | (refine wl_bsto rfl _ _ _ rfl hb.1 rfl rfl HS.out.one 136 HS.out.size (by kernel_rfl) ?_; intro w3 h2))
  refine bodyPost_ret (v := .agg cs) (results_cell_row Tryd.results19 _ _ (w.heap.size + 2) 45 cs (0, 0) _ rfl h2.1 Tryd.underlying45 rfl (by rw [HS.out.size]; kernel_rfl)) rfl ⟨rfl, h2.2⟩

theorem ir_any (cs ce : Array Value) (hsh : Shape cs) (k n p : Int) (v : Nat) (he : pr cs k n v = ce) (hce : Shape ce) (w : World) (hs : Sizes w) : Calls Tryd.prog 19 #[.agg cs, .agg #[.int .i64 k, .int .i64 n, .int .i64 p], .float .f64 v] w fun e w' => e = .returned (.agg ce) ∧ Below w.heap.size w w' := by
  by_cases h : k = 10
  · subst h; exact ir_1 cs ce hsh n p v he hce w hs
  · exact ir_0 cs ce hsh k n p v h he hce w hs

set_option maxRecDepth 100000 in
theorem sr_1 (cs ce : Array Value) (hsh : Shape cs) (n p : Int) (v : Nat) (he : pr cs 10 n v = ce) (hce : Shape ce) (w : World) : Calls Tryd.prog 18 #[.agg cs, .agg #[.int .i64 10, .int .i64 n, .int .i64 p], .float .f64 v] w fun e w' => e = .returned (.agg ce) ∧ Below w.heap.size w w' := by
  obtain ⟨z, hzs, hz⟩ := zero_run (P := Tryd.prog) (t := 45) (n := 136) (by kernel_rfl)
  have HZ := Lib.hid hzs
  have HSZ := Lib.hid hsh.size
  have HS := Lib.hid hce
  obtain ⟨j, hj, hlt⟩ := plc_nat2 (k := 10) (n := n) (c := 16) rfl (by decide)
  have HE := Lib.hid (show cs.setIfInBounds (117 + j) (.float .f64 v) = ce by rw [← he]; unfold pr; rw [if_pos rfl, hj, Int.toNat_natCast])
  have Hj := Lib.hid hj
  clear hj
  clear hsh he hce hzs
  go_enter Tryd.func18, Tryd.ntmps18
  go_wp2_with fail
  refine (spec_place 10 n p _).mono ?_
  rintro e w1 ⟨rfl, h1⟩
  have hb1 := (Bs.start 45 47 cs #[.int .i64 10, .int .i64 n, .int .i64 p] z w (HZ.out.trans HSZ.out.symm)).below h1
  rw [Hj.out]
  clear h1
  go_wp2_with (first | (refine wl_sst rfl _ _ _ rfl hb1 (117 + j) (.float .f64 v) rfl rfl rfl (by kernel_rfl) (by rw [HSZ.out]; omega) ?_; intro w2 hb2; rw [HE.out] at hb2) | (refine wl_bld rfl _ _ rfl hb2.1 rfl (by kernel_rfl) 136 HS.out.size (by kernel_rfl) ?_) | (refine wl_bsto rfl _ _ _ rfl hb2.1 rfl rfl HS.out.one 136 HS.out.size (by kernel_rfl) ?_; intro w3 h2))
  refine bodyPost_ret (v := .agg ce) (results_cell_row Tryd.results18 _ _ (w.heap.size + 2) 45 ce (0, 0) _ rfl h2.1 Tryd.underlying45 rfl (by rw [HS.out.size]; kernel_rfl)) rfl ⟨rfl, h2.2⟩

set_option maxRecDepth 100000 in
theorem sr_0 (cs ce : Array Value) (hsh : Shape cs) (k n p : Int) (v : Nat) (hk : k ≠ 10) (he : pr cs k n v = ce) (hce : Shape ce) (w : World) : Calls Tryd.prog 18 #[.agg cs, .agg #[.int .i64 k, .int .i64 n, .int .i64 p], .float .f64 v] w fun e w' => e = .returned (.agg ce) ∧ Below w.heap.size w w' := by
  obtain ⟨z, hzs, hz⟩ := zero_run (P := Tryd.prog) (t := 45) (n := 136) (by kernel_rfl)
  have HZ := Lib.hid hzs
  have HSZ := Lib.hid hsh.size
  have HS := Lib.hid hce
  obtain rfl : cs = ce := by rw [← he]; unfold pr; rw [if_neg hk]
  have bk : (k == 10) = false := beq_eq_false_iff_ne.2 hk
  clear hk
  clear hsh he hce hzs
  go_enter Tryd.func18, Tryd.ntmps18
  go_upto_region 3 with (fail)
  refine wp_genS (Bs.start 45 47 cs #[.int .i64 k, .int .i64 n, .int .i64 p] z w (HZ.out.trans HSZ.out.symm)) ?_
  intro w0 hb
  go_wp2_with (first | (refine wl_bld rfl _ _ rfl hb.1 rfl (by kernel_rfl) 136 HS.out.size (by kernel_rfl) ?_) | (refine wl_bsto rfl _ _ _ rfl hb.1 rfl rfl HS.out.one 136 HS.out.size (by kernel_rfl) ?_; intro w3 h2))
  refine bodyPost_ret (v := .agg cs) (results_cell_row Tryd.results18 _ _ (w.heap.size + 2) 45 cs (0, 0) _ rfl h2.1 Tryd.underlying45 rfl (by rw [HS.out.size]; kernel_rfl)) rfl ⟨rfl, h2.2⟩

theorem sr_any (cs ce : Array Value) (hsh : Shape cs) (k n p : Int) (v : Nat) (he : pr cs k n v = ce) (hce : Shape ce) (w : World) : Calls Tryd.prog 18 #[.agg cs, .agg #[.int .i64 k, .int .i64 n, .int .i64 p], .float .f64 v] w fun e w' => e = .returned (.agg ce) ∧ Below w.heap.size w w' := by
  by_cases h : k = 10
  · subst h; exact sr_1 cs ce hsh n p v he hce w
  · exact sr_0 cs ce hsh k n p v h he hce w

end Go.Proofs.YtnffgafofkknoaaDoor.part
