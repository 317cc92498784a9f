/-
  'l2Arg', 'l2Spoilt', 'l2Any' of the draws: each gives some operand and moves the reader on.
  Conditions: the reader has read fewer than 80000 bytes.
-/
import Derived.Test.YtgmdpgchffapoaaDoorSx
import Derived.Test.YtgmdpgchffapoaaDoorDevSize
namespace Go.Proofs.YtgmdpgchffapoaaDoor.draws
open Go Go.RowKit Go.Proofs.YtgmdpgchffapoaaDoor.part
set_option linter.unusedVariables false
set_option linter.unusedSimpArgs false
set_option maxRecDepth 100000

theorem rowOf (xs : List Int) : ∀ j, j < xs.length → (xs.map (Value.int .i64)).toArray[j]? = some (.int .i64 (xs.getD j 0)) := by
  intro j hj
  simp [List.getElem?_eq_getElem hj, List.getD_eq_getElem?_getD]
/-- Some operand comes back; the reader has read at most m bytes. -/
def AnyDev (B : Base) (g : Nat) (m : Int) (e : Ending) (w' : World) : Prop := ∃ a b c : Int, e = .returned (.agg #[.int .i64 a, .int .i64 b, .int .i64 c]) ∧ Rd B w' g m
theorem rd_sx {B : Base} {w : World} {g : Nat} {n : Int} (h : Rd B w g n) : Sx ⟨B.w0, w⟩ g n [] w := ⟨h.now, fun p hp => by cases hp⟩
theorem AnyDev.mono {B : Base} {g : Nat} {n m : Int} {e : Ending} {w' : World} (h : AnyDev B g n e w') (hm : n ≤ m) : AnyDev B g m e w' := by
  obtain ⟨a, b, c, h1, h2⟩ := h
  exact ⟨a, b, c, h1, h2.le hm⟩

theorem arg_w {B : Base} {w : World} {g : Nat} {n : Int} (h : Rd B w g n) (hn : n < 80000) (k : Int) : Calls Tryd.prog 62 #[.pointer (some ⟨g, 0, none⟩), .int .i64 k] w (AnyDev B g (n + 3)) := by
  have HR := Lib.hid h
  have S0 := Lib.hid ((rd_sx h).dev 0 0 0)
  clear h
  by_cases h11 : k = 11
  · subst h11
    go_enter Tryd.func62, Tryd.ntmps62
    go_wp2_with fail
    refine (S0.out.num (by omega) [0, 1, 2, 3, 5, -1, -7, 10, 100, 32767, -32768, 1000] _ _ _ (by simp) (by decide) (by decide) (rowOf _)).mono ?_
    rintro e w1 ⟨q, rfl, _, S1⟩
    go_wp2_with (refine wl_x0 rfl _ _ _ rfl S1 (by simp) _ _ _ rfl rfl (by kernel_rfl) ?_; intro w2 S2)
    obtain ⟨⟨fx, fy, fz, hf⟩, _⟩ := S2.2 (w.heap.size, 0) (by simp)
    refine bodyPost_ret (v := .agg #[.int .i64 fx, .int .i64 fy, .int .i64 fz]) (results_cell_row Tryd.results62 _ _ w.heap.size 31 #[.int .i64 fx, .int .i64 fy, .int .i64 fz] (0, 0) _ rfl hf Tryd.underlying31 rfl (by kernel_rfl)) rfl ⟨fx, fy, fz, rfl, HR.out.since (S2.1.le (by omega))⟩
  have b11 : (k == 11) = false := beq_eq_false_iff_ne.2 h11
  by_cases h12 : k = 12
  · subst h12
    clear b11 h11
    go_enter Tryd.func62, Tryd.ntmps62
    go_wp2_with fail
    refine (S0.out.num (by omega) [0, 1, 5, -5, 25, -15, 999999999, -999999999, 3, 1001, 7] _ _ _ (by simp) (by decide) (by decide) (rowOf _)).mono ?_
    rintro e w1 ⟨q, rfl, _, S1⟩
    go_wp2_with fail
    refine (S1.pick (by omega) 6 (by decide)).mono ?_
    rintro e w2 ⟨j, rfl, hj, S2⟩
    clear S1
    go_wp2_with (refine wl_x0 rfl _ _ _ rfl S2 (by simp) _ _ _ rfl rfl (by kernel_rfl) ?_; intro w3 S3)
    all_goals
      obtain ⟨⟨fx, fy, fz, hf⟩, _⟩ := S3.2 (w.heap.size, 0) (by simp)
      refine bodyPost_ret (v := .agg #[.int .i64 fx, .int .i64 fy, .int .i64 fz]) (results_cell_row Tryd.results62 _ _ w.heap.size 31 #[.int .i64 fx, .int .i64 fy, .int .i64 fz] (0, 0) _ rfl hf Tryd.underlying31 rfl (by kernel_rfl)) rfl ⟨fx, fy, fz, rfl, HR.out.since (S3.1.le (by omega))⟩
  have b12 : (k == 12) = false := beq_eq_false_iff_ne.2 h12
  by_cases h13 : k = 13
  · subst h13
    clear b11 b12 h11 h12
    go_enter Tryd.func62, Tryd.ntmps62
    go_wp2_with fail
    refine (S0.out.pick (by omega) 4 (by decide)).mono ?_
    rintro e w1 ⟨j, rfl, hj, S1⟩
    go_wp2_with (refine wl_x0 rfl _ _ _ rfl S1 (by simp) _ _ _ rfl rfl (by kernel_rfl) ?_; intro w2 S2)
    obtain ⟨⟨fx, fy, fz, hf⟩, _⟩ := S2.2 (w.heap.size, 0) (by simp)
    refine bodyPost_ret (v := .agg #[.int .i64 fx, .int .i64 fy, .int .i64 fz]) (results_cell_row Tryd.results62 _ _ w.heap.size 31 #[.int .i64 fx, .int .i64 fy, .int .i64 fz] (0, 0) _ rfl hf Tryd.underlying31 rfl (by kernel_rfl)) rfl ⟨fx, fy, fz, rfl, HR.out.since (S2.1.le (by omega))⟩
  have b13 : (k == 13) = false := beq_eq_false_iff_ne.2 h13
  clear h11 h12 h13
  go_enter Tryd.func62, Tryd.ntmps62
  go_wp2_with fail
  refine (S0.out.pick (by omega) 4 (by decide)).mono ?_
  rintro e w1 ⟨j, rfl, hj, S1⟩
  go_wp2_with fail
  refine (S1.pick (by omega) 6 (by decide)).mono ?_
  rintro e w2 ⟨i, rfl, hi, S2⟩
  clear S1
  by_cases hi0 : i = 0
  · subst hi0
    go_wp2_with fail
    refine (dev.spec_size k _).mono ?_
    rintro e w' ⟨rfl, rfl⟩
    go_wp2_with fail
    refine (S2.pickAny (by omega) _).mono ?_
    rintro e w3 ⟨q, rfl, S3⟩
    clear S2
    go_wp2_with fail
    refine (dev.spec_size k _).mono ?_
    rintro e w' ⟨rfl, rfl⟩
    go_wp2_with (refine wl_x0 rfl _ _ _ rfl S3 (by simp) _ _ _ rfl rfl (by kernel_rfl) ?_; intro w4 S4)
    all_goals
      obtain ⟨⟨fx, fy, fz, hf⟩, _⟩ := S4.2 (w.heap.size, 0) (by simp)
      refine bodyPost_ret (v := .agg #[.int .i64 fx, .int .i64 fy, .int .i64 fz]) (results_cell_row Tryd.results62 _ _ w.heap.size 31 #[.int .i64 fx, .int .i64 fy, .int .i64 fz] (0, 0) _ rfl hf Tryd.underlying31 rfl (by kernel_rfl)) rfl ⟨fx, fy, fz, rfl, HR.out.since (S4.1.le (by omega))⟩
  · have bi0 : ((i : Int) == 0) = false := beq_eq_false_iff_ne.2 (by omega)
    clear hi0
    go_wp2_with fail
    refine (dev.spec_size k _).mono ?_
    rintro e w' ⟨rfl, rfl⟩
    go_wp2_with (refine wl_x0 rfl _ _ _ rfl S2 (by simp) _ _ _ rfl rfl (by kernel_rfl) ?_; intro w4 S4)
    all_goals
      obtain ⟨⟨fx, fy, fz, hf⟩, _⟩ := S4.2 (w.heap.size, 0) (by simp)
      refine bodyPost_ret (v := .agg #[.int .i64 fx, .int .i64 fy, .int .i64 fz]) (results_cell_row Tryd.results62 _ _ w.heap.size 31 #[.int .i64 fx, .int .i64 fy, .int .i64 fz] (0, 0) _ rfl hf Tryd.underlying31 rfl (by kernel_rfl)) rfl ⟨fx, fy, fz, rfl, HR.out.since (S4.1.le (by omega))⟩

theorem spoilt_w {B : Base} {w : World} {g : Nat} {n : Int} (h : Rd B w g n) (hn : n < 80000) (x y z : Int) : Calls Tryd.prog 53 #[.pointer (some ⟨g, 0, none⟩), .agg #[.int .i64 x, .int .i64 y, .int .i64 z]] w (AnyDev B g (n + 2)) := by
  have HR := Lib.hid h
  have S0 := Lib.hid (((rd_sx h).dev x y z).dev 0 0 0)
  have e1 := size_alloc w (.cells #[.int .i64 x, .int .i64 y, .int .i64 z] 31)
  have E1 := Lib.hid e1
  clear h e1
  go_enter Tryd.func53, Tryd.ntmps53
  go_wp2_with fail
  have S00 := S0.out
  rw [E1.out] at S00
  refine (S00.pick (by omega) 6 (by decide)).mono ?_
  rintro e w1 ⟨j, rfl, hj, S1⟩
  clear S00
  have hc : j = 0 ∨ j = 1 ∨ j = 2 ∨ j = 3 ∨ j = 4 ∨ j = 5 := by omega
  clear hj
  rcases hc with rfl | rfl | rfl | rfl | rfl | rfl
  · go_wp2_with fail
    refine (S1.pick (by omega) 16 (by decide)).mono ?_
    rintro e w2 ⟨i, rfl, hi, S2⟩
    clear S1
    go_wp2_with (first | (refine wl_x0f rfl _ _ _ rfl S2 (by simp) 0 (by decide) _ rfl rfl (by kernel_rfl) ?_; intro w3 S3) | (refine wl_l0 rfl _ _ rfl S3 (by simp) rfl (by kernel_rfl) (by kernel_rfl) ?_; intro p1 p2 p3) | (refine wl_x0 rfl _ _ _ rfl S3 (by simp) _ _ _ rfl rfl (by kernel_rfl) ?_; intro w8 S8))
    obtain ⟨⟨fx, fy, fz, hf⟩, _⟩ := S8.2 ((w.heap.size + 1), 0) (by simp)
    refine bodyPost_ret (v := .agg #[.int .i64 fx, .int .i64 fy, .int .i64 fz]) (results_cell_row Tryd.results53 _ _ (w.heap.size + 1) 31 #[.int .i64 fx, .int .i64 fy, .int .i64 fz] (0, 0) _ rfl hf Tryd.underlying31 rfl (by kernel_rfl)) rfl ⟨fx, fy, fz, rfl, HR.out.since (S8.1.le (by omega))⟩
  · go_wp2_with fail
    refine (S1.num (by omega) [-1, 4, 5, 15, 16, 31, 32, 63, 64, 255, 32768, -32769, 1000000000, -1000000000, 20, 10] _ _ _ rfl (by decide) (by decide) (rowOf _)).mono ?_
    rintro e w2 ⟨q, rfl, _, S2⟩
    clear S1
    go_wp2_with (first | (refine wl_x0f rfl _ _ _ rfl S2 (by simp) 1 (by decide) _ rfl rfl (by kernel_rfl) ?_; intro w3 S3) | (refine wl_l0 rfl _ _ rfl S3 (by simp) rfl (by kernel_rfl) (by kernel_rfl) ?_; intro p1 p2 p3) | (refine wl_x0 rfl _ _ _ rfl S3 (by simp) _ _ _ rfl rfl (by kernel_rfl) ?_; intro w8 S8))
    obtain ⟨⟨fx, fy, fz, hf⟩, _⟩ := S8.2 ((w.heap.size + 1), 0) (by simp)
    refine bodyPost_ret (v := .agg #[.int .i64 fx, .int .i64 fy, .int .i64 fz]) (results_cell_row Tryd.results53 _ _ (w.heap.size + 1) 31 #[.int .i64 fx, .int .i64 fy, .int .i64 fz] (0, 0) _ rfl hf Tryd.underlying31 rfl (by kernel_rfl)) rfl ⟨fx, fy, fz, rfl, HR.out.since (S8.1.le (by omega))⟩
  · go_wp2_with fail
    refine (S1.num (by omega) [-1, 0, 1, 6, 7] _ _ _ rfl (by decide) (by decide) (rowOf _)).mono ?_
    rintro e w2 ⟨q, rfl, _, S2⟩
    clear S1
    go_wp2_with (first | (refine wl_x0f rfl _ _ _ rfl S2 (by simp) 2 (by decide) _ rfl rfl (by kernel_rfl) ?_; intro w3 S3) | (refine wl_l0 rfl _ _ rfl S3 (by simp) rfl (by kernel_rfl) (by kernel_rfl) ?_; intro p1 p2 p3) | (refine wl_x0 rfl _ _ _ rfl S3 (by simp) _ _ _ rfl rfl (by kernel_rfl) ?_; intro w8 S8))
    obtain ⟨⟨fx, fy, fz, hf⟩, _⟩ := S8.2 ((w.heap.size + 1), 0) (by simp)
    refine bodyPost_ret (v := .agg #[.int .i64 fx, .int .i64 fy, .int .i64 fz]) (results_cell_row Tryd.results53 _ _ (w.heap.size + 1) 31 #[.int .i64 fx, .int .i64 fy, .int .i64 fz] (0, 0) _ rfl hf Tryd.underlying31 rfl (by kernel_rfl)) rfl ⟨fx, fy, fz, rfl, HR.out.since (S8.1.le (by omega))⟩
  · go_wp2_with (refine wl_l0f rfl _ _ rfl S1 (by simp) 0 (by decide) rfl (by decide +kernel) ?_; intro q)
    refine (dev.spec_size _ _).mono ?_
    rintro e w' ⟨rfl, rfl⟩
    go_wp2_with (first | (refine wl_x0f rfl _ _ _ rfl S1 (by simp) 1 (by decide) _ rfl rfl (by kernel_rfl) ?_; intro w3 S3) | (refine wl_l0 rfl _ _ rfl S3 (by simp) rfl (by kernel_rfl) (by kernel_rfl) ?_; intro p1 p2 p3) | (refine wl_x0 rfl _ _ _ rfl S3 (by simp) _ _ _ rfl rfl (by kernel_rfl) ?_; intro w8 S8))
    obtain ⟨⟨fx, fy, fz, hf⟩, _⟩ := S8.2 ((w.heap.size + 1), 0) (by simp)
    refine bodyPost_ret (v := .agg #[.int .i64 fx, .int .i64 fy, .int .i64 fz]) (results_cell_row Tryd.results53 _ _ (w.heap.size + 1) 31 #[.int .i64 fx, .int .i64 fy, .int .i64 fz] (0, 0) _ rfl hf Tryd.underlying31 rfl (by kernel_rfl)) rfl ⟨fx, fy, fz, rfl, HR.out.since (S8.1.le (by omega))⟩
  · go_wp2_with (refine wl_l0f rfl _ _ rfl S1 (by simp) 0 (by decide) rfl (by decide +kernel) ?_; intro q)
    refine (dev.spec_size _ _).mono ?_
    rintro e w' ⟨rfl, rfl⟩
    go_wp2_with (first | (refine wl_x0f rfl _ _ _ rfl S1 (by simp) 1 (by decide) _ rfl rfl (by kernel_rfl) ?_; intro w3 S3) | (refine wl_l0 rfl _ _ rfl S3 (by simp) rfl (by kernel_rfl) (by kernel_rfl) ?_; intro p1 p2 p3) | (refine wl_x0 rfl _ _ _ rfl S3 (by simp) _ _ _ rfl rfl (by kernel_rfl) ?_; intro w8 S8))
    obtain ⟨⟨fx, fy, fz, hf⟩, _⟩ := S8.2 ((w.heap.size + 1), 0) (by simp)
    refine bodyPost_ret (v := .agg #[.int .i64 fx, .int .i64 fy, .int .i64 fz]) (results_cell_row Tryd.results53 _ _ (w.heap.size + 1) 31 #[.int .i64 fx, .int .i64 fy, .int .i64 fz] (0, 0) _ rfl hf Tryd.underlying31 rfl (by kernel_rfl)) rfl ⟨fx, fy, fz, rfl, HR.out.since (S8.1.le (by omega))⟩
  · go_wp2_with (first | (refine wl_l0f rfl _ _ rfl S1 (by simp) 1 (by decide) rfl (by decide +kernel) ?_; intro q) | (refine wl_x0f rfl _ _ _ rfl S1 (by simp) 1 (by decide) _ rfl rfl (by kernel_rfl) ?_; intro w3 S3) | (refine wl_l0 rfl _ _ rfl S3 (by simp) rfl (by kernel_rfl) (by kernel_rfl) ?_; intro p1 p2 p3) | (refine wl_x0 rfl _ _ _ rfl S3 (by simp) _ _ _ rfl rfl (by kernel_rfl) ?_; intro w8 S8))
    obtain ⟨⟨fx, fy, fz, hf⟩, _⟩ := S8.2 ((w.heap.size + 1), 0) (by simp)
    refine bodyPost_ret (v := .agg #[.int .i64 fx, .int .i64 fy, .int .i64 fz]) (results_cell_row Tryd.results53 _ _ (w.heap.size + 1) 31 #[.int .i64 fx, .int .i64 fy, .int .i64 fz] (0, 0) _ rfl hf Tryd.underlying31 rfl (by kernel_rfl)) rfl ⟨fx, fy, fz, rfl, HR.out.since (S8.1.le (by omega))⟩

theorem any_w {B : Base} {w : World} {g : Nat} {n : Int} (h : Rd B w g n) (hn : n < 70000) : Calls Tryd.prog 52 #[.pointer (some ⟨g, 0, none⟩)] w (AnyDev B g (n + 7)) := by
  have HR := Lib.hid h
  have S0 := Lib.hid ((rd_sx h).dev 0 0 0)
  clear h
  go_enter Tryd.func52, Tryd.ntmps52
  go_wp2_with fail
  refine (S0.out.pick (by omega) 13 (by decide)).mono ?_
  rintro e w1 ⟨j, rfl, hj, S1⟩
  go_wp2_with fail
  refine (arg_w S1.rd (by omega) _).mono ?_
  rintro e w2 ⟨a, b, c, rfl, h2⟩
  have S2 := (S1.step h2).dev a b c
  clear S1 h2
  go_wp2_with fail
  refine (S2.pick (by omega) 20 (by decide)).mono ?_
  rintro e w3 ⟨i, rfl, hi, S3⟩
  clear S2
  by_cases hi0 : i = 0
  · subst hi0
    clear hi hj
    go_wp2_with (refine wl_l0 rfl _ _ rfl S3 (by simp) rfl (by kernel_rfl) (by kernel_rfl) ?_; intro p1 p2 p3)
    refine (spoilt_w S3.rd (by omega) _ _ _).mono ?_
    rintro e w4 ⟨a', b', c', rfl, h4⟩
    have S4 := S3.step h4
    clear S3 h4
    go_wp2_with (refine wl_x0 rfl _ _ _ rfl S4 (by simp) _ _ _ rfl rfl (by kernel_rfl) ?_; intro w8 S8)
    obtain ⟨⟨fx, fy, fz, hf⟩, _⟩ := S8.2 (w.heap.size, 0) (by simp)
    refine bodyPost_ret (v := .agg #[.int .i64 fx, .int .i64 fy, .int .i64 fz]) (results_cell_row Tryd.results52 _ _ w.heap.size 31 #[.int .i64 fx, .int .i64 fy, .int .i64 fz] (0, 0) _ rfl hf Tryd.underlying31 rfl (by kernel_rfl)) rfl ⟨fx, fy, fz, rfl, HR.out.since (S8.1.le (by omega))⟩
  · have bi0 : ((i : Int) == 0) = false := beq_eq_false_iff_ne.2 (by omega)
    clear hi0 hj
    go_wp2_with (first | (refine wl_l0 rfl _ _ rfl S3 (by simp) rfl (by kernel_rfl) (by kernel_rfl) ?_; intro p1 p2 p3) | (refine wl_x0 rfl _ _ _ rfl S3 (by simp) _ _ _ rfl rfl (by kernel_rfl) ?_; intro w8 S8))
    obtain ⟨⟨fx, fy, fz, hf⟩, _⟩ := S8.2 (w.heap.size, 0) (by simp)
    refine bodyPost_ret (v := .agg #[.int .i64 fx, .int .i64 fy, .int .i64 fz]) (results_cell_row Tryd.results52 _ _ w.heap.size 31 #[.int .i64 fx, .int .i64 fy, .int .i64 fz] (0, 0) _ rfl hf Tryd.underlying31 rfl (by kernel_rfl)) rfl ⟨fx, fy, fz, rfl, HR.out.since (S8.1.le (by omega))⟩

end Go.Proofs.YtgmdpgchffapoaaDoor.draws
