/-
  'MemPut' of both sides: what they return.
  Conditions: the cells have the kinds of a memory, the numbers lie in their kinds' ranges; the variable 'devSizes' holds its numbers.
-/
import Derived.Test.YtnffgafofkknoaaDoorBitWalk
import Derived.Test.YtnffgafofkknoaaDoorStore
import Derived.Test.YtnffgafofkknoaaDoorRange
import Derived.Test.YtnffgafofkknoaaDoorPlace
import Derived.BigQuiet
import Derived.Deep.QuietTactic
namespace Go.Proofs.YtnffgafofkknoaaDoor.part
open Go Go.RowKit Go.Proofs.YtnffgafofkknoaaDoor.dev Go.Proofs.YtnffgafofkknoaaDoor.bitm
set_option linter.unusedVariables false
set_option linter.unusedSimpArgs false

theorem plc_nat3 {k n c : Int} (hc : cnt k = c) (h : c ≠ 0) : ∃ j : Nat, plc k n = j ∧ (j : Int) < c := by
  have h1 := plc_in k n
  obtain ⟨j, e⟩ := Int.eq_ofNat_of_zero_le h1.1
  exact ⟨j, e, by rw [← e, ← hc]; exact h1.2 (by rw [hc]; exact h)⟩
theorem plc_nat4 (k n : Int) : ∃ j : Nat, plc k n = j ∧ j < 64 := by
  have h1 := plc_in k n
  have h2 := cnt_le k
  obtain ⟨j, e⟩ := Int.eq_ofNat_of_zero_le h1.1
  refine ⟨j, e, ?_⟩
  by_cases h : cnt k = 0
  · unfold plc at e
    rw [if_pos h] at e
    omega
  · have := h1.2 h
    omega
set_option maxRecDepth 100000 in
theorem ok_bool {W : World} {base : Nat} {v : Value} (h : Value.okWide Tryd.prog W .any base 4 v) : ∃ b, v = .bool b := by
  simp only [Value.okWide, Tryd.underlying4, Cell.okWide] at h
  cases v <;> simp_all [Cell.ok]
theorem un_small3 {k : IntKind} (hk : un k) {x : Int} (h : k.min ≤ x ∧ x ≤ k.max) : small x := by
  rcases hk with rfl | rfl | rfl
  all_goals
    have h1 : (0 : Int) ≤ x := h.1
    have h2 := h.2
    simp only [IntKind.max, IntKind.bits, IntKind.signed] at h2
    unfold small
    omega
theorem un_lt3 {k : IntKind} (hk : un k) {x : Int} (h : k.min ≤ x ∧ x ≤ k.max) : 0 ≤ x ∧ x < 2 ^ k.bits := by
  rcases hk with rfl | rfl | rfl
  all_goals
    have h1 : (0 : Int) ≤ x := h.1
    have h2 := h.2
    simp only [IntKind.max, IntKind.bits, IntKind.signed] at h2 ⊢
    omega
theorem un_rg3 {k : IntKind} (hk : un k) {x : Int} (h : 0 ≤ x ∧ x < 2 ^ k.bits) : k.min ≤ x ∧ x ≤ k.max := by
  rcases hk with rfl | rfl | rfl
  all_goals
    have h2 := h.2
    simp only [IntKind.max, IntKind.min, IntKind.bits, IntKind.signed] at h2 ⊢
    simp only [Bool.false_eq_true, if_false]
    omega
/-- A memory with a bit put. -/
def pb (cs : Array Value) (k n : Int) (b : Bool) : Array Value :=
  if k = 2 then cs.setIfInBounds 1 (.int .u32 (turned (numb (cel cs 1)) (plc k n).toNat b)) else
  if k = 3 then cs.setIfInBounds 2 (.int .u64 (turned (numb (cel cs 2)) (plc k n).toNat b)) else
  if k = 4 then cs.setIfInBounds 3 (.int .u16 (turned (numb (cel cs 3)) (plc k n).toNat b)) else
  if k = 5 then cs.setIfInBounds 4 (.int .u32 (turned (numb (cel cs 4)) (plc k n).toNat b)) else cs
set_option maxRecDepth 100000 in
theorem pb_shape {cs : Array Value} (h : Shape cs) (hr : Rg cs) (k n : Int) (b : Bool) : Shape (pb cs k n b) := by
  unfold pb
  split
  · exact (h.tagged.put _ _ rfl).shape
  split
  · exact (h.tagged.put _ _ rfl).shape
  split
  · exact (h.tagged.put _ _ rfl).shape
  split
  · exact (h.tagged.put _ _ rfl).shape
  · exact h
theorem wrap_pow {k : IntKind} (hk : un k) (j : Nat) (b : Bool) (hj : j < k.bits) : k.wrap (IntKind.u64.wrap ((b.toNat : Int) * 2 ^ j)) = (b.toNat : Int) * 2 ^ j ∧ IntKind.u64.wrap ((b.toNat : Int) * 2 ^ j) = (b.toNat : Int) * 2 ^ j := by
  have h64 : k.bits ≤ 64 := by rcases hk with rfl | rfl | rfl <;> decide
  have hlt : 2 ^ j < 2 ^ k.bits := Nat.pow_lt_pow_right (by decide) hj
  have hl2 : 2 ^ k.bits ≤ 2 ^ 64 := Nat.pow_le_pow_right (by decide) h64
  have e : ((b.toNat : Int) * 2 ^ j) = ((b.toNat * 2 ^ j : Nat) : Int) := by rw [← pow_cast, Int.natCast_mul]
  have hb : b.toNat * 2 ^ j < 2 ^ k.bits := by
    cases b
    · rw [Bool.toNat_false, Nat.zero_mul]; exact Nat.two_pow_pos _
    · rw [Bool.toNat_true, Nat.one_mul]; exact hlt
  have h1 : IntKind.u64.wrap ((b.toNat : Int) * 2 ^ j) = (b.toNat : Int) * 2 ^ j := by
    rw [e]
    exact wrap_un (by unfold un; simp) _ (Nat.lt_of_lt_of_le hb hl2)
  refine ⟨?_, h1⟩
  rw [h1, e]
  exact wrap_un hk _ hb

set_option maxRecDepth 100000 in
theorem ip_Y (cs ce : Array Value) (hsh : Shape cs) (hrg : Rg cs) (n p : Int) (v : Bool) (he : pb cs 2 n v = ce) (hce : Shape ce) (w : World) (hs : Sizes w) : Calls Tryd.prog 27 #[.agg cs, .agg #[.int .i64 2, .int .i64 n, .int .i64 p], .bool v] w fun e w' => e = .returned (.agg ce) ∧ Below w.heap.size w w' := by
  obtain ⟨z, hzs, hz⟩ := zero_run (P := Tryd.prog) (t := 45) (n := 136) (by kernel_rfl)
  have HZ := Lib.hid hzs
  have HSZ := Lib.hid hsh.size
  have HS := Lib.hid hce
  obtain ⟨j, hj, hlt⟩ := plc_nat3 (k := 2) (n := n) (c := size 2) rfl (by decide)
  have hlt : (j : Int) < 32 := hlt
  obtain ⟨x, hc⟩ := hsh.Y
  have hu : un .u32 := by unfold un; simp
  have hr := un_lt3 hu (hrg 1 _ _ hc)
  have hm := un_small3 hu (hrg 1 _ _ hc)
  have hin := turned_in 32 x j v hr.1 hr.2 (by omega)
  have HE := Lib.hid (show cs.setIfInBounds 1 (.int .u32 (turned x j v)) = ce by rw [← he]; unfold pb; rw [if_pos rfl]; rw [hj, Int.toNat_natCast, cel_is hc]; rfl)
  have HM := Lib.hid (mask_put hu x j v hr.1 hr.2 (by show j < 32; omega))
  have HP := Lib.hid (wrap_pow hu j v (by show j < 32; omega))
  have H1 := Lib.hid (wrap_pow hu j true (by show j < 32; omega))
  have HX := Lib.hid (show IntKind.u64.wrap x = x by unfold small at hm; rw [IntKind.wrap_u64]; omega)
  have HW := Lib.hid (show IntKind.u32.wrap (turned x j v) = turned x j v by
    obtain ⟨y, e⟩ := Int.eq_ofNat_of_zero_le hin.1
    have h2 := hin.2
    rw [e, ← pow_cast] at h2
    rw [e]
    exact wrap_un hu y (by exact_mod_cast h2))
  have HT := Lib.hid (show small (turned x j v) by have := hin; unfold small; omega)
  have HR := Lib.hid hm
  have Hj := Lib.hid hj
  have Hc := Lib.hid hc
  have hj64 : j < 64 := by omega
  have hx0 : 0 ≤ x := hr.1
  clear hj hc hr hm hu hin
  have Hs := Lib.hid hs
  clear hs
  clear hsh he hce hzs hrg
  go_enter Tryd.func27, Tryd.ntmps27
  go_wp2_with fail
  refine (impl_place 2 n p _ (((Hs.out.alloc _).alloc _).alloc _)).mono ?_
  rintro e w1 ⟨rfl, h1⟩
  have hb1 := (Bs.start 45 47 cs #[.int .i64 2, .int .i64 n, .int .i64 p] z w (HZ.out.trans HSZ.out.symm)).below h1
  rw [Hj.out]
  clear h1
  have d0 := kit.box_cell hb1.2 0 rfl
  have cc : w1.cell? ⟨w.heap.size, 1, none⟩ = some (.int .u32 x) := kit.box_cell hb1.1.2.2.2.1 1 Hc.out
  go_wp2_with fail
  go_quiet ((go_at_call 53; exact Calls.quiet_of_same ((bit_any _ _).mono fun _ _ ⟨a, b⟩ => ⟨a, b.symm⟩)))
  have hbq := hb1.below (dev.below_drewN w1 nq)
  clear hb1
  have HV := Lib.hid (show bits .or .u32 (bits .andNot .u32 x (IntKind.u32.wrap (IntKind.u64.wrap (2 ^ j)))) (IntKind.u32.wrap (IntKind.u64.wrap ((v.toNat : Int) * 2 ^ j))) = turned x j v by
    have e1 := H1.out
    simp only [show ((true.toNat : Nat) : Int) = 1 from rfl, Int.one_mul] at e1
    rw [e1.1, HP.out.1]
    exact HM.out)
  go_wp2_with (first | (refine wl_sst rfl _ _ _ rfl hbq 1 (.int .u32 (turned x j v)) rfl (by show Value.int .u32 (bits .or .u32 (bits .andNot .u32 x (IntKind.u32.wrap (IntKind.u64.wrap (2 ^ j)))) (IntKind.u32.wrap (IntKind.u64.wrap ((v.toNat : Int) * 2 ^ j)))) = _; rw [HV.out]) rfl (by kernel_rfl) (by rw [HSZ.out]; decide) ?_; intro w2 hb2; rw [HE.out] at hb2) | (refine wl_bld rfl _ _ rfl hb2.1 rfl (by kernel_rfl) 136 HS.out.size (by kernel_rfl) ?_) | (refine wl_bsto rfl _ _ _ rfl hb2.1 rfl rfl HS.out.one 136 HS.out.size (by kernel_rfl) ?_; intro w3 h2))
  refine bodyPost_ret (v := .agg ce) (results_cell_row Tryd.results27 _ _ (w.heap.size + 2) 45 ce (0, 0) _ rfl h2.1 Tryd.underlying45 rfl (by rw [HS.out.size]; kernel_rfl)) rfl ⟨rfl, h2.2⟩

set_option maxRecDepth 100000 in
theorem ip_M (cs ce : Array Value) (hsh : Shape cs) (hrg : Rg cs) (n p : Int) (v : Bool) (he : pb cs 3 n v = ce) (hce : Shape ce) (w : World) (hs : Sizes w) : Calls Tryd.prog 27 #[.agg cs, .agg #[.int .i64 3, .int .i64 n, .int .i64 p], .bool v] w fun e w' => e = .returned (.agg ce) ∧ Below w.heap.size w w' := by
  obtain ⟨z, hzs, hz⟩ := zero_run (P := Tryd.prog) (t := 45) (n := 136) (by kernel_rfl)
  have HZ := Lib.hid hzs
  have HSZ := Lib.hid hsh.size
  have HS := Lib.hid hce
  obtain ⟨j, hj, hlt⟩ := plc_nat3 (k := 3) (n := n) (c := size 3) rfl (by decide)
  have hlt : (j : Int) < 64 := hlt
  obtain ⟨x, hc⟩ := hsh.M
  have hu : un .u64 := by unfold un; simp
  have hr := un_lt3 hu (hrg 2 _ _ hc)
  have hm := un_small3 hu (hrg 2 _ _ hc)
  have hin := turned_in 64 x j v hr.1 hr.2 (by omega)
  have HE := Lib.hid (show cs.setIfInBounds 2 (.int .u64 (turned x j v)) = ce by rw [← he]; unfold pb; rw [if_neg (by decide)]; rw [if_pos rfl]; rw [hj, Int.toNat_natCast, cel_is hc]; rfl)
  have HM := Lib.hid (mask_put hu x j v hr.1 hr.2 (by show j < 64; omega))
  have HP := Lib.hid (wrap_pow hu j v (by show j < 64; omega))
  have H1 := Lib.hid (wrap_pow hu j true (by show j < 64; omega))
  have HX := Lib.hid (show IntKind.u64.wrap x = x by unfold small at hm; rw [IntKind.wrap_u64]; omega)
  have HW := Lib.hid (show IntKind.u64.wrap (turned x j v) = turned x j v by
    obtain ⟨y, e⟩ := Int.eq_ofNat_of_zero_le hin.1
    have h2 := hin.2
    rw [e, ← pow_cast] at h2
    rw [e]
    exact wrap_un hu y (by exact_mod_cast h2))
  have HT := Lib.hid (show small (turned x j v) by have := hin; unfold small; omega)
  have HR := Lib.hid hm
  have Hj := Lib.hid hj
  have Hc := Lib.hid hc
  have hj64 : j < 64 := by omega
  have hx0 : 0 ≤ x := hr.1
  clear hj hc hr hm hu hin
  have Hs := Lib.hid hs
  clear hs
  clear hsh he hce hzs hrg
  go_enter Tryd.func27, Tryd.ntmps27
  go_wp2_with fail
  refine (impl_place 3 n p _ (((Hs.out.alloc _).alloc _).alloc _)).mono ?_
  rintro e w1 ⟨rfl, h1⟩
  have hb1 := (Bs.start 45 47 cs #[.int .i64 3, .int .i64 n, .int .i64 p] z w (HZ.out.trans HSZ.out.symm)).below h1
  rw [Hj.out]
  clear h1
  have d0 := kit.box_cell hb1.2 0 rfl
  have cc : w1.cell? ⟨w.heap.size, 2, none⟩ = some (.int .u64 x) := kit.box_cell hb1.1.2.2.2.1 2 Hc.out
  go_wp2_with fail
  go_quiet ((go_at_call 53; exact Calls.quiet_of_same ((bit_any _ _).mono fun _ _ ⟨a, b⟩ => ⟨a, b.symm⟩)))
  have hbq := hb1.below (dev.below_drewN w1 nq)
  clear hb1
  have HV := Lib.hid (show bits .or .u64 (bits .andNot .u64 x (IntKind.u64.wrap (2 ^ j))) (IntKind.u64.wrap ((v.toNat : Int) * 2 ^ j)) = turned x j v by
    have e1 := H1.out
    simp only [show ((true.toNat : Nat) : Int) = 1 from rfl, Int.one_mul] at e1
    rw [e1.2, HP.out.2]
    exact HM.out)
  go_wp2_with (first | (refine wl_sst rfl _ _ _ rfl hbq 2 (.int .u64 (turned x j v)) rfl (by show Value.int .u64 (bits .or .u64 (bits .andNot .u64 x (IntKind.u64.wrap (2 ^ j))) (IntKind.u64.wrap ((v.toNat : Int) * 2 ^ j))) = _; rw [HV.out]) rfl (by kernel_rfl) (by rw [HSZ.out]; decide) ?_; intro w2 hb2; rw [HE.out] at hb2) | (refine wl_bld rfl _ _ rfl hb2.1 rfl (by kernel_rfl) 136 HS.out.size (by kernel_rfl) ?_) | (refine wl_bsto rfl _ _ _ rfl hb2.1 rfl rfl HS.out.one 136 HS.out.size (by kernel_rfl) ?_; intro w3 h2))
  refine bodyPost_ret (v := .agg ce) (results_cell_row Tryd.results27 _ _ (w.heap.size + 2) 45 ce (0, 0) _ rfl h2.1 Tryd.underlying45 rfl (by rw [HS.out.size]; kernel_rfl)) rfl ⟨rfl, h2.2⟩

set_option maxRecDepth 100000 in
theorem ip_S (cs ce : Array Value) (hsh : Shape cs) (hrg : Rg cs) (n p : Int) (v : Bool) (he : pb cs 4 n v = ce) (hce : Shape ce) (w : World) (hs : Sizes w) : Calls Tryd.prog 27 #[.agg cs, .agg #[.int .i64 4, .int .i64 n, .int .i64 p], .bool v] w fun e w' => e = .returned (.agg ce) ∧ Below w.heap.size w w' := by
  obtain ⟨z, hzs, hz⟩ := zero_run (P := Tryd.prog) (t := 45) (n := 136) (by kernel_rfl)
  have HZ := Lib.hid hzs
  have HSZ := Lib.hid hsh.size
  have HS := Lib.hid hce
  obtain ⟨j, hj, hlt⟩ := plc_nat3 (k := 4) (n := n) (c := size 4) rfl (by decide)
  have hlt : (j : Int) < 16 := hlt
  obtain ⟨x, hc⟩ := hsh.S
  have hu : un .u16 := by unfold un; simp
  have hr := un_lt3 hu (hrg 3 _ _ hc)
  have hm := un_small3 hu (hrg 3 _ _ hc)
  have hin := turned_in 16 x j v hr.1 hr.2 (by omega)
  have HE := Lib.hid (show cs.setIfInBounds 3 (.int .u16 (turned x j v)) = ce by rw [← he]; unfold pb; rw [if_neg (by decide)]; rw [if_neg (by decide)]; rw [if_pos rfl]; rw [hj, Int.toNat_natCast, cel_is hc]; rfl)
  have HM := Lib.hid (mask_put hu x j v hr.1 hr.2 (by show j < 16; omega))
  have HP := Lib.hid (wrap_pow hu j v (by show j < 16; omega))
  have H1 := Lib.hid (wrap_pow hu j true (by show j < 16; omega))
  have HX := Lib.hid (show IntKind.u64.wrap x = x by unfold small at hm; rw [IntKind.wrap_u64]; omega)
  have HW := Lib.hid (show IntKind.u16.wrap (turned x j v) = turned x j v by
    obtain ⟨y, e⟩ := Int.eq_ofNat_of_zero_le hin.1
    have h2 := hin.2
    rw [e, ← pow_cast] at h2
    rw [e]
    exact wrap_un hu y (by exact_mod_cast h2))
  have HT := Lib.hid (show small (turned x j v) by have := hin; unfold small; omega)
  have HR := Lib.hid hm
  have Hj := Lib.hid hj
  have Hc := Lib.hid hc
  have hj64 : j < 64 := by omega
  have hx0 : 0 ≤ x := hr.1
  clear hj hc hr hm hu hin
  have Hs := Lib.hid hs
  clear hs
  clear hsh he hce hzs hrg
  go_enter Tryd.func27, Tryd.ntmps27
  go_wp2_with fail
  refine (impl_place 4 n p _ (((Hs.out.alloc _).alloc _).alloc _)).mono ?_
  rintro e w1 ⟨rfl, h1⟩
  have hb1 := (Bs.start 45 47 cs #[.int .i64 4, .int .i64 n, .int .i64 p] z w (HZ.out.trans HSZ.out.symm)).below h1
  rw [Hj.out]
  clear h1
  have d0 := kit.box_cell hb1.2 0 rfl
  have cc : w1.cell? ⟨w.heap.size, 3, none⟩ = some (.int .u16 x) := kit.box_cell hb1.1.2.2.2.1 3 Hc.out
  go_wp2_with fail
  go_quiet ((go_at_call 53; exact Calls.quiet_of_same ((bit_any _ _).mono fun _ _ ⟨a, b⟩ => ⟨a, b.symm⟩)))
  have hbq := hb1.below (dev.below_drewN w1 nq)
  clear hb1
  have HV := Lib.hid (show bits .or .u16 (bits .andNot .u16 x (IntKind.u16.wrap (IntKind.u64.wrap (2 ^ j)))) (IntKind.u16.wrap (IntKind.u64.wrap ((v.toNat : Int) * 2 ^ j))) = turned x j v by
    have e1 := H1.out
    simp only [show ((true.toNat : Nat) : Int) = 1 from rfl, Int.one_mul] at e1
    rw [e1.1, HP.out.1]
    exact HM.out)
  go_wp2_with (first | (refine wl_sst rfl _ _ _ rfl hbq 3 (.int .u16 (turned x j v)) rfl (by show Value.int .u16 (bits .or .u16 (bits .andNot .u16 x (IntKind.u16.wrap (IntKind.u64.wrap (2 ^ j)))) (IntKind.u16.wrap (IntKind.u64.wrap ((v.toNat : Int) * 2 ^ j)))) = _; rw [HV.out]) rfl (by kernel_rfl) (by rw [HSZ.out]; decide) ?_; intro w2 hb2; rw [HE.out] at hb2) | (refine wl_bld rfl _ _ rfl hb2.1 rfl (by kernel_rfl) 136 HS.out.size (by kernel_rfl) ?_) | (refine wl_bsto rfl _ _ _ rfl hb2.1 rfl rfl HS.out.one 136 HS.out.size (by kernel_rfl) ?_; intro w3 h2))
  refine bodyPost_ret (v := .agg ce) (results_cell_row Tryd.results27 _ _ (w.heap.size + 2) 45 ce (0, 0) _ rfl h2.1 Tryd.underlying45 rfl (by rw [HS.out.size]; kernel_rfl)) rfl ⟨rfl, h2.2⟩

set_option maxRecDepth 100000 in
theorem ip_E (cs ce : Array Value) (hsh : Shape cs) (hrg : Rg cs) (n p : Int) (v : Bool) (he : pb cs 5 n v = ce) (hce : Shape ce) (w : World) (hs : Sizes w) : Calls Tryd.prog 27 #[.agg cs, .agg #[.int .i64 5, .int .i64 n, .int .i64 p], .bool v] w fun e w' => e = .returned (.agg ce) ∧ Below w.heap.size w w' := by
  obtain ⟨z, hzs, hz⟩ := zero_run (P := Tryd.prog) (t := 45) (n := 136) (by kernel_rfl)
  have HZ := Lib.hid hzs
  have HSZ := Lib.hid hsh.size
  have HS := Lib.hid hce
  obtain ⟨j, hj, hlt⟩ := plc_nat3 (k := 5) (n := n) (c := size 5) rfl (by decide)
  have hlt : (j : Int) < 32 := hlt
  obtain ⟨x, hc⟩ := hsh.E
  have hu : un .u32 := by unfold un; simp
  have hr := un_lt3 hu (hrg 4 _ _ hc)
  have hm := un_small3 hu (hrg 4 _ _ hc)
  have hin := turned_in 32 x j v hr.1 hr.2 (by omega)
  have HE := Lib.hid (show cs.setIfInBounds 4 (.int .u32 (turned x j v)) = ce by rw [← he]; unfold pb; rw [if_neg (by decide)]; rw [if_neg (by decide)]; rw [if_neg (by decide)]; rw [if_pos rfl]; rw [hj, Int.toNat_natCast, cel_is hc]; rfl)
  have HM := Lib.hid (mask_put hu x j v hr.1 hr.2 (by show j < 32; omega))
  have HP := Lib.hid (wrap_pow hu j v (by show j < 32; omega))
  have H1 := Lib.hid (wrap_pow hu j true (by show j < 32; omega))
  have HX := Lib.hid (show IntKind.u64.wrap x = x by unfold small at hm; rw [IntKind.wrap_u64]; omega)
  have HW := Lib.hid (show IntKind.u32.wrap (turned x j v) = turned x j v by
    obtain ⟨y, e⟩ := Int.eq_ofNat_of_zero_le hin.1
    have h2 := hin.2
    rw [e, ← pow_cast] at h2
    rw [e]
    exact wrap_un hu y (by exact_mod_cast h2))
  have HT := Lib.hid (show small (turned x j v) by have := hin; unfold small; omega)
  have HR := Lib.hid hm
  have Hj := Lib.hid hj
  have Hc := Lib.hid hc
  have hj64 : j < 64 := by omega
  have hx0 : 0 ≤ x := hr.1
  clear hj hc hr hm hu hin
  have Hs := Lib.hid hs
  clear hs
  clear hsh he hce hzs hrg
  go_enter Tryd.func27, Tryd.ntmps27
  go_wp2_with fail
  refine (impl_place 5 n p _ (((Hs.out.alloc _).alloc _).alloc _)).mono ?_
  rintro e w1 ⟨rfl, h1⟩
  have hb1 := (Bs.start 45 47 cs #[.int .i64 5, .int .i64 n, .int .i64 p] z w (HZ.out.trans HSZ.out.symm)).below h1
  rw [Hj.out]
  clear h1
  have d0 := kit.box_cell hb1.2 0 rfl
  have cc : w1.cell? ⟨w.heap.size, 4, none⟩ = some (.int .u32 x) := kit.box_cell hb1.1.2.2.2.1 4 Hc.out
  go_wp2_with fail
  go_quiet ((go_at_call 53; exact Calls.quiet_of_same ((bit_any _ _).mono fun _ _ ⟨a, b⟩ => ⟨a, b.symm⟩)))
  have hbq := hb1.below (dev.below_drewN w1 nq)
  clear hb1
  have HV := Lib.hid (show bits .or .u32 (bits .andNot .u32 x (IntKind.u32.wrap (IntKind.u64.wrap (2 ^ j)))) (IntKind.u32.wrap (IntKind.u64.wrap ((v.toNat : Int) * 2 ^ j))) = turned x j v by
    have e1 := H1.out
    simp only [show ((true.toNat : Nat) : Int) = 1 from rfl, Int.one_mul] at e1
    rw [e1.1, HP.out.1]
    exact HM.out)
  go_wp2_with (first | (refine wl_sst rfl _ _ _ rfl hbq 4 (.int .u32 (turned x j v)) rfl (by show Value.int .u32 (bits .or .u32 (bits .andNot .u32 x (IntKind.u32.wrap (IntKind.u64.wrap (2 ^ j)))) (IntKind.u32.wrap (IntKind.u64.wrap ((v.toNat : Int) * 2 ^ j)))) = _; rw [HV.out]) rfl (by kernel_rfl) (by rw [HSZ.out]; decide) ?_; intro w2 hb2; rw [HE.out] at hb2) | (refine wl_bld rfl _ _ rfl hb2.1 rfl (by kernel_rfl) 136 HS.out.size (by kernel_rfl) ?_) | (refine wl_bsto rfl _ _ _ rfl hb2.1 rfl rfl HS.out.one 136 HS.out.size (by kernel_rfl) ?_; intro w3 h2))
  refine bodyPost_ret (v := .agg ce) (results_cell_row Tryd.results27 _ _ (w.heap.size + 2) 45 ce (0, 0) _ rfl h2.1 Tryd.underlying45 rfl (by rw [HS.out.size]; kernel_rfl)) rfl ⟨rfl, h2.2⟩

set_option maxRecDepth 100000 in
theorem ip_O (cs ce : Array Value) (hsh : Shape cs) (hrg : Rg cs) (k n p : Int) (v : Bool) (h2 : k ≠ 2) (h3 : k ≠ 3) (h4 : k ≠ 4) (h5 : k ≠ 5) (he : pb cs k n v = ce) (hce : Shape ce) (w : World) (hs : Sizes w) : Calls Tryd.prog 27 #[.agg cs, .agg #[.int .i64 k, .int .i64 n, .int .i64 p], .bool v] w fun e w' => e = .returned (.agg ce) ∧ Below w.heap.size w w' := by
  obtain ⟨z, hzs, hz⟩ := zero_run (P := Tryd.prog) (t := 45) (n := 136) (by kernel_rfl)
  have HZ := Lib.hid hzs
  have HSZ := Lib.hid hsh.size
  have HS := Lib.hid hce
  obtain rfl : cs = ce := by rw [← he]; unfold pb; rw [if_neg h2, if_neg h3, if_neg h4, if_neg h5]
  obtain ⟨j, hj, hj64⟩ := plc_nat4 k n
  have Hj := Lib.hid hj
  have b2 : (k == 2) = false := beq_eq_false_iff_ne.2 h2
  have b3 : (k == 3) = false := beq_eq_false_iff_ne.2 h3
  have b4 : (k == 4) = false := beq_eq_false_iff_ne.2 h4
  have b5 : (k == 5) = false := beq_eq_false_iff_ne.2 h5
  clear hj h2 h3 h4 h5
  have Hs := Lib.hid hs
  clear hs
  clear hsh he hce hzs hrg
  go_enter Tryd.func27, Tryd.ntmps27
  go_wp2_with fail
  refine (impl_place k n p _ (((Hs.out.alloc _).alloc _).alloc _)).mono ?_
  rintro e w1 ⟨rfl, h1⟩
  have hb1 := (Bs.start 45 47 cs #[.int .i64 k, .int .i64 n, .int .i64 p] z w (HZ.out.trans HSZ.out.symm)).below h1
  rw [Hj.out]
  clear h1
  have d0 := kit.box_cell hb1.2 0 rfl
  go_wp2_with fail
  go_quiet ((go_at_call 53; exact Calls.quiet_of_same ((bit_any _ _).mono fun _ _ ⟨a, b⟩ => ⟨a, b.symm⟩)))
  have hbq := hb1.below (dev.below_drewN w1 nq)
  clear hb1
  go_wp2_with (first | (refine wl_bld rfl _ _ rfl hbq.1 rfl (by kernel_rfl) 136 HS.out.size (by kernel_rfl) ?_) | (refine wl_bsto rfl _ _ _ rfl hbq.1 rfl rfl HS.out.one 136 HS.out.size (by kernel_rfl) ?_; intro w3 h2))
  refine bodyPost_ret (v := .agg cs) (results_cell_row Tryd.results27 _ _ (w.heap.size + 2) 45 cs (0, 0) _ rfl h2.1 Tryd.underlying45 rfl (by rw [HS.out.size]; kernel_rfl)) rfl ⟨rfl, h2.2⟩

theorem ip_any (cs ce : Array Value) (hsh : Shape cs) (hrg : Rg cs) (k n p : Int) (v : Bool) (he : pb cs k n v = ce) (hce : Shape ce) (w : World) (hs : Sizes w) : Calls Tryd.prog 27 #[.agg cs, .agg #[.int .i64 k, .int .i64 n, .int .i64 p], .bool v] w fun e w' => e = .returned (.agg ce) ∧ Below w.heap.size w w' := by
  by_cases h2 : k = 2
  · subst h2; exact ip_Y cs ce hsh hrg n p v he hce w hs
  by_cases h3 : k = 3
  · subst h3; exact ip_M cs ce hsh hrg n p v he hce w hs
  by_cases h4 : k = 4
  · subst h4; exact ip_S cs ce hsh hrg n p v he hce w hs
  by_cases h5 : k = 5
  · subst h5; exact ip_E cs ce hsh hrg n p v he hce w hs
  exact ip_O cs ce hsh hrg k n p v h2 h3 h4 h5 he hce w hs

set_option maxRecDepth 100000 in
theorem sp_Y (cs ce : Array Value) (hsh : Shape cs) (hrg : Rg cs) (n p : Int) (v : Bool) (he : pb cs 2 n v = ce) (hce : Shape ce) (w : World) : Calls Tryd.prog 26 #[.agg cs, .agg #[.int .i64 2, .int .i64 n, .int .i64 p], .bool v] w fun e w' => e = .returned (.agg ce) ∧ Below w.heap.size w w' := by
  obtain ⟨z, hzs, hz⟩ := zero_run (P := Tryd.prog) (t := 45) (n := 136) (by kernel_rfl)
  have HZ := Lib.hid hzs
  have HSZ := Lib.hid hsh.size
  have HS := Lib.hid hce
  obtain ⟨j, hj, hlt⟩ := plc_nat3 (k := 2) (n := n) (c := size 2) rfl (by decide)
  have hlt : (j : Int) < 32 := hlt
  obtain ⟨x, hc⟩ := hsh.Y
  have hu : un .u32 := by unfold un; simp
  have hr := un_lt3 hu (hrg 1 _ _ hc)
  have hm := un_small3 hu (hrg 1 _ _ hc)
  have hin := turned_in 32 x j v hr.1 hr.2 (by omega)
  have HE := Lib.hid (show cs.setIfInBounds 1 (.int .u32 (turned x j v)) = ce by rw [← he]; unfold pb; rw [if_pos rfl]; rw [hj, Int.toNat_natCast, cel_is hc]; rfl)
  have HM := Lib.hid (mask_put hu x j v hr.1 hr.2 (by show j < 32; omega))
  have HP := Lib.hid (wrap_pow hu j v (by show j < 32; omega))
  have H1 := Lib.hid (wrap_pow hu j true (by show j < 32; omega))
  have HX := Lib.hid (show IntKind.u64.wrap x = x by unfold small at hm; rw [IntKind.wrap_u64]; omega)
  have HW := Lib.hid (show IntKind.u32.wrap (turned x j v) = turned x j v by
    obtain ⟨y, e⟩ := Int.eq_ofNat_of_zero_le hin.1
    have h2 := hin.2
    rw [e, ← pow_cast] at h2
    rw [e]
    exact wrap_un hu y (by exact_mod_cast h2))
  have HT := Lib.hid (show small (turned x j v) by have := hin; unfold small; omega)
  have HR := Lib.hid hm
  have Hj := Lib.hid hj
  have Hc := Lib.hid hc
  have hj64 : j < 64 := by omega
  have hx0 : 0 ≤ x := hr.1
  clear hj hc hr hm hu hin
  clear hsh he hce hzs hrg
  go_enter Tryd.func26, Tryd.ntmps26
  go_wp2_with fail
  refine (spec_place 2 n p _).mono ?_
  rintro e w1 ⟨rfl, h1⟩
  have hb1 := (Bs.start 45 47 cs #[.int .i64 2, .int .i64 n, .int .i64 p] z w (HZ.out.trans HSZ.out.symm)).below h1
  rw [Hj.out]
  clear h1
  have d0 := kit.box_cell hb1.2 0 rfl
  have cc : w1.cell? ⟨w.heap.size, 1, none⟩ = some (.int .u32 x) := kit.box_cell hb1.1.2.2.2.1 1 Hc.out
  go_wp2_with fail
  rw [HX.out]
  refine (l5Turned_any x j v HR.out HT.out hj64 _).mono ?_
  rintro e w' ⟨rfl, rfl⟩
  go_wp2_with (first | (refine wl_sst rfl _ _ _ rfl hb1 1 (.int .u32 (turned x j v)) rfl (by show Value.int .u32 (IntKind.u32.wrap (turned x j v)) = _; rw [HW.out]) rfl (by kernel_rfl) (by rw [HSZ.out]; decide) ?_; intro w2 hb2; rw [HE.out] at hb2) | (refine wl_bld rfl _ _ rfl hb2.1 rfl (by kernel_rfl) 136 HS.out.size (by kernel_rfl) ?_) | (refine wl_bsto rfl _ _ _ rfl hb2.1 rfl rfl HS.out.one 136 HS.out.size (by kernel_rfl) ?_; intro w3 h2))
  refine bodyPost_ret (v := .agg ce) (results_cell_row Tryd.results26 _ _ (w.heap.size + 2) 45 ce (0, 0) _ rfl h2.1 Tryd.underlying45 rfl (by rw [HS.out.size]; kernel_rfl)) rfl ⟨rfl, h2.2⟩

set_option maxRecDepth 100000 in
theorem sp_M (cs ce : Array Value) (hsh : Shape cs) (hrg : Rg cs) (n p : Int) (v : Bool) (he : pb cs 3 n v = ce) (hce : Shape ce) (w : World) : Calls Tryd.prog 26 #[.agg cs, .agg #[.int .i64 3, .int .i64 n, .int .i64 p], .bool v] w fun e w' => e = .returned (.agg ce) ∧ Below w.heap.size w w' := by
  obtain ⟨z, hzs, hz⟩ := zero_run (P := Tryd.prog) (t := 45) (n := 136) (by kernel_rfl)
  have HZ := Lib.hid hzs
  have HSZ := Lib.hid hsh.size
  have HS := Lib.hid hce
  obtain ⟨j, hj, hlt⟩ := plc_nat3 (k := 3) (n := n) (c := size 3) rfl (by decide)
  have hlt : (j : Int) < 64 := hlt
  obtain ⟨x, hc⟩ := hsh.M
  have hu : un .u64 := by unfold un; simp
  have hr := un_lt3 hu (hrg 2 _ _ hc)
  have hm := un_small3 hu (hrg 2 _ _ hc)
  have hin := turned_in 64 x j v hr.1 hr.2 (by omega)
  have HE := Lib.hid (show cs.setIfInBounds 2 (.int .u64 (turned x j v)) = ce by rw [← he]; unfold pb; rw [if_neg (by decide)]; rw [if_pos rfl]; rw [hj, Int.toNat_natCast, cel_is hc]; rfl)
  have HM := Lib.hid (mask_put hu x j v hr.1 hr.2 (by show j < 64; omega))
  have HP := Lib.hid (wrap_pow hu j v (by show j < 64; omega))
  have H1 := Lib.hid (wrap_pow hu j true (by show j < 64; omega))
  have HX := Lib.hid (show IntKind.u64.wrap x = x by unfold small at hm; rw [IntKind.wrap_u64]; omega)
  have HW := Lib.hid (show IntKind.u64.wrap (turned x j v) = turned x j v by
    obtain ⟨y, e⟩ := Int.eq_ofNat_of_zero_le hin.1
    have h2 := hin.2
    rw [e, ← pow_cast] at h2
    rw [e]
    exact wrap_un hu y (by exact_mod_cast h2))
  have HT := Lib.hid (show small (turned x j v) by have := hin; unfold small; omega)
  have HR := Lib.hid hm
  have Hj := Lib.hid hj
  have Hc := Lib.hid hc
  have hj64 : j < 64 := by omega
  have hx0 : 0 ≤ x := hr.1
  clear hj hc hr hm hu hin
  clear hsh he hce hzs hrg
  go_enter Tryd.func26, Tryd.ntmps26
  go_wp2_with fail
  refine (spec_place 3 n p _).mono ?_
  rintro e w1 ⟨rfl, h1⟩
  have hb1 := (Bs.start 45 47 cs #[.int .i64 3, .int .i64 n, .int .i64 p] z w (HZ.out.trans HSZ.out.symm)).below h1
  rw [Hj.out]
  clear h1
  have d0 := kit.box_cell hb1.2 0 rfl
  have cc : w1.cell? ⟨w.heap.size, 2, none⟩ = some (.int .u64 x) := kit.box_cell hb1.1.2.2.2.1 2 Hc.out
  go_wp2_with fail
  refine (l5Turned_any x j v HR.out HT.out hj64 _).mono ?_
  rintro e w' ⟨rfl, rfl⟩
  go_wp2_with (first | (refine wl_sst rfl _ _ _ rfl hb1 2 (.int .u64 (turned x j v)) rfl (by rfl) rfl (by kernel_rfl) (by rw [HSZ.out]; decide) ?_; intro w2 hb2; rw [HE.out] at hb2) | (refine wl_bld rfl _ _ rfl hb2.1 rfl (by kernel_rfl) 136 HS.out.size (by kernel_rfl) ?_) | (refine wl_bsto rfl _ _ _ rfl hb2.1 rfl rfl HS.out.one 136 HS.out.size (by kernel_rfl) ?_; intro w3 h2))
  refine bodyPost_ret (v := .agg ce) (results_cell_row Tryd.results26 _ _ (w.heap.size + 2) 45 ce (0, 0) _ rfl h2.1 Tryd.underlying45 rfl (by rw [HS.out.size]; kernel_rfl)) rfl ⟨rfl, h2.2⟩

set_option maxRecDepth 100000 in
theorem sp_S (cs ce : Array Value) (hsh : Shape cs) (hrg : Rg cs) (n p : Int) (v : Bool) (he : pb cs 4 n v = ce) (hce : Shape ce) (w : World) : Calls Tryd.prog 26 #[.agg cs, .agg #[.int .i64 4, .int .i64 n, .int .i64 p], .bool v] w fun e w' => e = .returned (.agg ce) ∧ Below w.heap.size w w' := by
  obtain ⟨z, hzs, hz⟩ := zero_run (P := Tryd.prog) (t := 45) (n := 136) (by kernel_rfl)
  have HZ := Lib.hid hzs
  have HSZ := Lib.hid hsh.size
  have HS := Lib.hid hce
  obtain ⟨j, hj, hlt⟩ := plc_nat3 (k := 4) (n := n) (c := size 4) rfl (by decide)
  have hlt : (j : Int) < 16 := hlt
  obtain ⟨x, hc⟩ := hsh.S
  have hu : un .u16 := by unfold un; simp
  have hr := un_lt3 hu (hrg 3 _ _ hc)
  have hm := un_small3 hu (hrg 3 _ _ hc)
  have hin := turned_in 16 x j v hr.1 hr.2 (by omega)
  have HE := Lib.hid (show cs.setIfInBounds 3 (.int .u16 (turned x j v)) = ce by rw [← he]; unfold pb; rw [if_neg (by decide)]; rw [if_neg (by decide)]; rw [if_pos rfl]; rw [hj, Int.toNat_natCast, cel_is hc]; rfl)
  have HM := Lib.hid (mask_put hu x j v hr.1 hr.2 (by show j < 16; omega))
  have HP := Lib.hid (wrap_pow hu j v (by show j < 16; omega))
  have H1 := Lib.hid (wrap_pow hu j true (by show j < 16; omega))
  have HX := Lib.hid (show IntKind.u64.wrap x = x by unfold small at hm; rw [IntKind.wrap_u64]; omega)
  have HW := Lib.hid (show IntKind.u16.wrap (turned x j v) = turned x j v by
    obtain ⟨y, e⟩ := Int.eq_ofNat_of_zero_le hin.1
    have h2 := hin.2
    rw [e, ← pow_cast] at h2
    rw [e]
    exact wrap_un hu y (by exact_mod_cast h2))
  have HT := Lib.hid (show small (turned x j v) by have := hin; unfold small; omega)
  have HR := Lib.hid hm
  have Hj := Lib.hid hj
  have Hc := Lib.hid hc
  have hj64 : j < 64 := by omega
  have hx0 : 0 ≤ x := hr.1
  clear hj hc hr hm hu hin
  clear hsh he hce hzs hrg
  go_enter Tryd.func26, Tryd.ntmps26
  go_wp2_with fail
  refine (spec_place 4 n p _).mono ?_
  rintro e w1 ⟨rfl, h1⟩
  have hb1 := (Bs.start 45 47 cs #[.int .i64 4, .int .i64 n, .int .i64 p] z w (HZ.out.trans HSZ.out.symm)).below h1
  rw [Hj.out]
  clear h1
  have d0 := kit.box_cell hb1.2 0 rfl
  have cc : w1.cell? ⟨w.heap.size, 3, none⟩ = some (.int .u16 x) := kit.box_cell hb1.1.2.2.2.1 3 Hc.out
  go_wp2_with fail
  rw [HX.out]
  refine (l5Turned_any x j v HR.out HT.out hj64 _).mono ?_
  rintro e w' ⟨rfl, rfl⟩
  go_wp2_with (first | (refine wl_sst rfl _ _ _ rfl hb1 3 (.int .u16 (turned x j v)) rfl (by show Value.int .u16 (IntKind.u16.wrap (turned x j v)) = _; rw [HW.out]) rfl (by kernel_rfl) (by rw [HSZ.out]; decide) ?_; intro w2 hb2; rw [HE.out] at hb2) | (refine wl_bld rfl _ _ rfl hb2.1 rfl (by kernel_rfl) 136 HS.out.size (by kernel_rfl) ?_) | (refine wl_bsto rfl _ _ _ rfl hb2.1 rfl rfl HS.out.one 136 HS.out.size (by kernel_rfl) ?_; intro w3 h2))
  refine bodyPost_ret (v := .agg ce) (results_cell_row Tryd.results26 _ _ (w.heap.size + 2) 45 ce (0, 0) _ rfl h2.1 Tryd.underlying45 rfl (by rw [HS.out.size]; kernel_rfl)) rfl ⟨rfl, h2.2⟩

set_option maxRecDepth 100000 in
theorem sp_E (cs ce : Array Value) (hsh : Shape cs) (hrg : Rg cs) (n p : Int) (v : Bool) (he : pb cs 5 n v = ce) (hce : Shape ce) (w : World) : Calls Tryd.prog 26 #[.agg cs, .agg #[.int .i64 5, .int .i64 n, .int .i64 p], .bool v] w fun e w' => e = .returned (.agg ce) ∧ Below w.heap.size w w' := by
  obtain ⟨z, hzs, hz⟩ := zero_run (P := Tryd.prog) (t := 45) (n := 136) (by kernel_rfl)
  have HZ := Lib.hid hzs
  have HSZ := Lib.hid hsh.size
  have HS := Lib.hid hce
  obtain ⟨j, hj, hlt⟩ := plc_nat3 (k := 5) (n := n) (c := size 5) rfl (by decide)
  have hlt : (j : Int) < 32 := hlt
  obtain ⟨x, hc⟩ := hsh.E
  have hu : un .u32 := by unfold un; simp
  have hr := un_lt3 hu (hrg 4 _ _ hc)
  have hm := un_small3 hu (hrg 4 _ _ hc)
  have hin := turned_in 32 x j v hr.1 hr.2 (by omega)
  have HE := Lib.hid (show cs.setIfInBounds 4 (.int .u32 (turned x j v)) = ce by rw [← he]; unfold pb; rw [if_neg (by decide)]; rw [if_neg (by decide)]; rw [if_neg (by decide)]; rw [if_pos rfl]; rw [hj, Int.toNat_natCast, cel_is hc]; rfl)
  have HM := Lib.hid (mask_put hu x j v hr.1 hr.2 (by show j < 32; omega))
  have HP := Lib.hid (wrap_pow hu j v (by show j < 32; omega))
  have H1 := Lib.hid (wrap_pow hu j true (by show j < 32; omega))
  have HX := Lib.hid (show IntKind.u64.wrap x = x by unfold small at hm; rw [IntKind.wrap_u64]; omega)
  have HW := Lib.hid (show IntKind.u32.wrap (turned x j v) = turned x j v by
    obtain ⟨y, e⟩ := Int.eq_ofNat_of_zero_le hin.1
    have h2 := hin.2
    rw [e, ← pow_cast] at h2
    rw [e]
    exact wrap_un hu y (by exact_mod_cast h2))
  have HT := Lib.hid (show small (turned x j v) by have := hin; unfold small; omega)
  have HR := Lib.hid hm
  have Hj := Lib.hid hj
  have Hc := Lib.hid hc
  have hj64 : j < 64 := by omega
  have hx0 : 0 ≤ x := hr.1
  clear hj hc hr hm hu hin
  clear hsh he hce hzs hrg
  go_enter Tryd.func26, Tryd.ntmps26
  go_wp2_with fail
  refine (spec_place 5 n p _).mono ?_
  rintro e w1 ⟨rfl, h1⟩
  have hb1 := (Bs.start 45 47 cs #[.int .i64 5, .int .i64 n, .int .i64 p] z w (HZ.out.trans HSZ.out.symm)).below h1
  rw [Hj.out]
  clear h1
  have d0 := kit.box_cell hb1.2 0 rfl
  have cc : w1.cell? ⟨w.heap.size, 4, none⟩ = some (.int .u32 x) := kit.box_cell hb1.1.2.2.2.1 4 Hc.out
  go_wp2_with fail
  rw [HX.out]
  refine (l5Turned_any x j v HR.out HT.out hj64 _).mono ?_
  rintro e w' ⟨rfl, rfl⟩
  go_wp2_with (first | (refine wl_sst rfl _ _ _ rfl hb1 4 (.int .u32 (turned x j v)) rfl (by show Value.int .u32 (IntKind.u32.wrap (turned x j v)) = _; rw [HW.out]) rfl (by kernel_rfl) (by rw [HSZ.out]; decide) ?_; intro w2 hb2; rw [HE.out] at hb2) | (refine wl_bld rfl _ _ rfl hb2.1 rfl (by kernel_rfl) 136 HS.out.size (by kernel_rfl) ?_) | (refine wl_bsto rfl _ _ _ rfl hb2.1 rfl rfl HS.out.one 136 HS.out.size (by kernel_rfl) ?_; intro w3 h2))
  refine bodyPost_ret (v := .agg ce) (results_cell_row Tryd.results26 _ _ (w.heap.size + 2) 45 ce (0, 0) _ rfl h2.1 Tryd.underlying45 rfl (by rw [HS.out.size]; kernel_rfl)) rfl ⟨rfl, h2.2⟩

set_option maxRecDepth 100000 in
theorem sp_O (cs ce : Array Value) (hsh : Shape cs) (hrg : Rg cs) (k n p : Int) (v : Bool) (h2 : k ≠ 2) (h3 : k ≠ 3) (h4 : k ≠ 4) (h5 : k ≠ 5) (he : pb cs k n v = ce) (hce : Shape ce) (w : World) : Calls Tryd.prog 26 #[.agg cs, .agg #[.int .i64 k, .int .i64 n, .int .i64 p], .bool v] w fun e w' => e = .returned (.agg ce) ∧ Below w.heap.size w w' := by
  obtain ⟨z, hzs, hz⟩ := zero_run (P := Tryd.prog) (t := 45) (n := 136) (by kernel_rfl)
  have HZ := Lib.hid hzs
  have HSZ := Lib.hid hsh.size
  have HS := Lib.hid hce
  obtain rfl : cs = ce := by rw [← he]; unfold pb; rw [if_neg h2, if_neg h3, if_neg h4, if_neg h5]
  obtain ⟨j, hj, hj64⟩ := plc_nat4 k n
  have Hj := Lib.hid hj
  have b2 : (k == 2) = false := beq_eq_false_iff_ne.2 h2
  have b3 : (k == 3) = false := beq_eq_false_iff_ne.2 h3
  have b4 : (k == 4) = false := beq_eq_false_iff_ne.2 h4
  have b5 : (k == 5) = false := beq_eq_false_iff_ne.2 h5
  clear hj h2 h3 h4 h5
  clear hsh he hce hzs hrg
  go_enter Tryd.func26, Tryd.ntmps26
  go_wp2_with fail
  refine (spec_place k n p _).mono ?_
  rintro e w1 ⟨rfl, h1⟩
  have hb1 := (Bs.start 45 47 cs #[.int .i64 k, .int .i64 n, .int .i64 p] z w (HZ.out.trans HSZ.out.symm)).below h1
  rw [Hj.out]
  clear h1
  have d0 := kit.box_cell hb1.2 0 rfl
  go_wp2_with (first | (refine wl_bld rfl _ _ rfl hb1.1 rfl (by kernel_rfl) 136 HS.out.size (by kernel_rfl) ?_) | (refine wl_bsto rfl _ _ _ rfl hb1.1 rfl rfl HS.out.one 136 HS.out.size (by kernel_rfl) ?_; intro w3 h2))
  refine bodyPost_ret (v := .agg cs) (results_cell_row Tryd.results26 _ _ (w.heap.size + 2) 45 cs (0, 0) _ rfl h2.1 Tryd.underlying45 rfl (by rw [HS.out.size]; kernel_rfl)) rfl ⟨rfl, h2.2⟩

theorem sp_any (cs ce : Array Value) (hsh : Shape cs) (hrg : Rg cs) (k n p : Int) (v : Bool) (he : pb cs k n v = ce) (hce : Shape ce) (w : World) : Calls Tryd.prog 26 #[.agg cs, .agg #[.int .i64 k, .int .i64 n, .int .i64 p], .bool v] w fun e w' => e = .returned (.agg ce) ∧ Below w.heap.size w w' := by
  by_cases h2 : k = 2
  · subst h2; exact sp_Y cs ce hsh hrg n p v he hce w
  by_cases h3 : k = 3
  · subst h3; exact sp_M cs ce hsh hrg n p v he hce w
  by_cases h4 : k = 4
  · subst h4; exact sp_S cs ce hsh hrg n p v he hce w
  by_cases h5 : k = 5
  · subst h5; exact sp_E cs ce hsh hrg n p v he hce w
  exact sp_O cs ce hsh hrg k n p v h2 h3 h4 h5 he hce w

end Go.Proofs.YtnffgafofkknoaaDoor.part
