/-
  'FnRealArg': the law's walk: decimals keep their order as floats.
  Conditions: the variables 'devSizes', 'devWords' hold what they are laid with.
-/
import Derived.Test.YthfkgeloilhniaaDoorRealArg
import Derived.Test.YthfkgeloilhniaaDoorWrSame
import Derived.Test.YthfkgeloilhniaaDoorDecOrder
import Derived.Test.YthfkgeloilhniaaDoorAsks
import Derived.Test.YthfkgeloilhniaaDoorHxG
import Derived.Test.YthfkgeloilhniaaDoorBytes
namespace Go.Proofs.YthfkgeloilhniaaDoor.fnRealArg
open Go Go.RowKit Go.Proofs.YthfkgeloilhniaaDoor.part Go.Proofs.YthfkgeloilhniaaDoor.dev Go.Proofs.YthfkgeloilhniaaDoor.flo Go.Proofs.YthfkgeloilhniaaDoor.draws Go.Proofs.YthfkgeloilhniaaDoorW.PrintWords
set_option linter.unusedVariables false
set_option linter.unusedSimpArgs false
set_option maxRecDepth 100000

/-! ### the draw -/
def Code_ (W : World) (A : Option Addr) (l : List Int) (c : Nat) : Prop := ReadsInt W .u8 A l.length l ∧ l.length ≤ c ∧ l.length ≤ 1048576 ∧ ∀ x ∈ l, (Lit.int .u8 x).wf = true
def Some3 (w : World) (e : Ending) (w' : World) : Prop := ∃ a b c : Int, e = .returned (.agg #[.int .i64 a, .int .i64 b, .int .i64 c]) ∧ Below w.heap.size w w'
theorem sx_start {W w1 : World} {g : Nat} (hR : Rd ⟨W, W⟩ w1 g 0) (hb : Below (W.alloc (.cells #[.int .i64 0, .int .i64 0, .int .i64 0] 35)).heap.size (W.alloc (.cells #[.int .i64 0, .int .i64 0, .int .i64 0] 35)) w1) : Sx ⟨W, W⟩ g 0 [(W.heap.size, 0)] w1 :=
  ⟨hR, fun p hp => by
    rcases List.mem_cons.1 hp with rfl | hp
    · have k0 := kit.box_keep (heap_alloc_new W (.cells #[.int .i64 0, .int .i64 0, .int .i64 0] 35)) hb (by simp)
      exact ⟨⟨0, 0, 0, k0⟩, hR.apart k0 (by decide), Nat.le_refl _, Nat.le_refl _⟩
    · cases hp⟩
theorem drawArg {W : World} {A : Option Addr} {l : List Int} {c : Nat} (hc : Code_ W A l c) : Calls Tryd.prog 11 #[.slice A l.length c] W (Some3 W) := by
  have HC := Lib.hid hc
  have HB := Lib.hid ((Below.refl W.heap.size W).alloc (Nat.le_refl _) (.cells #[.int .i64 0, .int .i64 0, .int .i64 0] 35))
  clear hc
  go_enter Tryd.func11, Tryd.ntmps11
  go_wp2_with fail
  refine (open_w HB.out HC.out.1 HC.out.2.1 HC.out.2.2.1 HC.out.2.2.2).mono ?_
  rintro e w1 ⟨g, rfl, hR, hbl⟩
  have S1 := sx_start hR hbl
  clear hR hbl
  go_wp2_with fail
  refine (S1.pick (by omega) 4 (by decide)).mono ?_
  rintro e w2 ⟨j, rfl, _, S2⟩
  clear S1
  by_cases hj : j = 0
  · subst hj
    go_wp2_with fail
    refine (any_w S2.rd (by omega)).mono ?_
    rintro e w3 ⟨a, b, c, rfl, h3⟩
    have S3 := S2.step h3
    clear S2 h3
    go_wp2_with (refine wl_x0 rfl _ _ _ rfl S3 (by simp) _ _ _ rfl rfl (by kernel_rfl) ?_; intro w8 S8)
    obtain ⟨⟨fx, fy, fz, hf⟩, _⟩ := S8.2 (W.heap.size, 0) (by simp)
    refine bodyPost_ret (v := .agg #[.int .i64 fx, .int .i64 fy, .int .i64 fz]) (results_cell_row Tryd.results11 _ _ W.heap.size 35 #[.int .i64 fx, .int .i64 fy, .int .i64 fz] (0, 0) _ rfl hf Tryd.underlying35 rfl (by kernel_rfl)) rfl ⟨fx, fy, fz, rfl, S8.1.is⟩
  · have bj : ((j : Int) == 0) = false := beq_eq_false_iff_ne.2 (by omega)
    clear hj
    go_wp2_with fail
    refine (S2.pick (by omega) 2 (by decide)).mono ?_
    rintro e w3 ⟨i, rfl, _, S3⟩
    clear S2
    go_wp2_with fail
    refine (arg_w S3.rd (by omega) _).mono ?_
    rintro e w4 ⟨a, b, c, rfl, h4⟩
    have S4 := S3.step h4
    clear S3 h4
    go_wp2_with (refine wl_x0 rfl _ _ _ rfl S4 (by simp) _ _ _ rfl rfl (by kernel_rfl) ?_; intro w8 S8)
    obtain ⟨⟨fx, fy, fz, hf⟩, _⟩ := S8.2 (W.heap.size, 0) (by simp)
    refine bodyPost_ret (v := .agg #[.int .i64 fx, .int .i64 fy, .int .i64 fz]) (results_cell_row Tryd.results11 _ _ W.heap.size 35 #[.int .i64 fx, .int .i64 fy, .int .i64 fz] (0, 0) _ rfl hf Tryd.underlying35 rfl (by kernel_rfl)) rfl ⟨fx, fy, fz, rfl, S8.1.is⟩

/-! ### the decimals -/
theorem ten_b (n : Int) (hn : -999999999 ≤ n ∧ n ≤ 999999999) (j : Nat) (hj : j ≤ 5) : -99999999900000 ≤ n * ten j ∧ n * ten j ≤ 99999999900000 := by
  have : j = 0 ∨ j = 1 ∨ j = 2 ∨ j = 3 ∨ j = 4 ∨ j = 5 := by omega
  rcases this with rfl | rfl | rfl | rfl | rfl | rfl
  · rw [show ten 0 = 1 from rfl]; omega
  · rw [show ten 1 = 10 from rfl]; omega
  · rw [show ten 2 = 100 from rfl]; omega
  · rw [show ten 3 = 1000 from rfl]; omega
  · rw [show ten 4 = 10000 from rfl]; omega
  · rw [show ten 5 = 100000 from rfl]; omega
theorem wrdec_any (n : Int) (q : Nat) (w : World) (hn : -999999999 ≤ n ∧ n ≤ 999999999) (hq : 1 ≤ q ∧ q ≤ 6) :
    Calls Tryd.prog 16 #[.agg #[.int .i64 12, .int .i64 n, .int .i64 q]] w fun e w' => e = .returned (.int .i64 (wr n q)) ∧ Below w.heap.size w w' := by
  have HB := Lib.hid ((Below.refl w.heap.size w).alloc (Nat.le_refl _) (.cells #[.int .i64 12, .int .i64 n, .int .i64 q] 35))
  go_enter Tryd.func16, Tryd.ntmps16
  go_wp2
  go_loop [3, 4] (fun v i => ∃ (j : Nat) (z : Int), q + j ≤ 6 ∧ i = .int .i64 ((q + j : Nat) : Int) ∧ v = .int .i64 z ∧ Hid (z = n * ten j)) (fun _ i => 6 - (intOf i).toNat)
  case atStart => exact ⟨0, n, by omega, by simp, rfl, Lib.hid (by rw [ten_zero, Int.mul_one])⟩
  case round =>
    obtain ⟨j, z, hj, rfl, rfl, Hz⟩ := hrel
    have hz := ten_b n hn j (by omega)
    rw [← Hz.out] at hz
    obtain ⟨hz1, hz2⟩ := hz
    obtain ⟨i, hi⟩ : ∃ i : Int, ((q + j : Nat) : Int) = i := ⟨_, rfl⟩
    have hi0 : 0 ≤ i := by omega
    have hi6 : i ≤ 6 := by omega
    rw [hi]
    by_cases hlt : q + j < 6
    · have hl : decide (i < 6) = true := decide_eq_true (by omega)
      have Hi := Lib.hid hi
      clear hi
      go_wp2
      go_round
      case rel => exact ⟨j + 1, z * 10, by omega, by rw [← Hi.out]; go_num, rfl, Lib.hid (by rw [Hz.out, ten_succ, Int.mul_assoc])⟩
      case measure => have := Hi.out; simp [intOf]; omega
    · have hl : decide (i < 6) = false := decide_eq_false (by omega)
      have Hj := Lib.hid (show 6 - q = j by omega)
      clear hi hlt hj
      go_wp2
      go_ret
      exact ⟨kit.ret_int (by unfold wr; rw [Hj.out]; exact Hz.out), HB.out⟩

/-! ### the law -/
theorem code_of {W w : World} {A : Option Addr} {l : List Int} {c : Nat} (h : Code_ W A l c) (hb : Below W.heap.size W w) : Code_ w A l c := ⟨h.1.below hb, h.2⟩
theorem big (W : World) (A A2 : Option Addr) (l l2 : List Int) (c c2 : Nat) (h : (l.length : Int) > 1048576) : Calls Tryd.prog 4 #[.slice A l.length c, .slice A2 l2.length c2] W fun e w' => e = .returned (.bool true) ∧ Below W.heap.size W w' := by
  go_enter Tryd.func4, Tryd.ntmps4
  go_wp2
  go_ret
  exact ⟨rfl, Below.refl _ _⟩
theorem big2 (W : World) (A A2 : Option Addr) (l l2 : List Int) (c c2 : Nat) (h0 : ¬ (l.length : Int) > 1048576) (h : (l2.length : Int) > 1048576) : Calls Tryd.prog 4 #[.slice A l.length c, .slice A2 l2.length c2] W fun e w' => e = .returned (.bool true) ∧ Below W.heap.size W w' := by
  go_enter Tryd.func4, Tryd.ntmps4
  go_wp2
  go_ret
  exact ⟨rfl, Below.refl _ _⟩
theorem flt_run (op : BinOp) (o : Ordering) (b : Bool) (hop : (op = .lss ∧ b = (o == .lt)) ∨ (op = .eql ∧ b = (o == .eq))) {x y : Nat} (h : FloatKind.f64.format.order x y = some o) (w : World) : (binOp op 37 (.float .f64 x) (.float .f64 y)).run Tryd.prog w = .ok (.bool b) w := by
  rcases hop with ⟨rfl, rfl⟩ | ⟨rfl, rfl⟩ <;> cases o <;> simp [binOp, Op.floatCmp, Op.floatEq, h, go_sem]

theorem ow_flt {o : Oper} {a : Act} {w : World} {K : Act → World → Prop} {Q : Exit → Act → World → Prop} (op : BinOp) (hop : op = .lss ∨ op = .eql) (ty t2 : TypeId) (x y : Operand) (ho : o.op = .binOp op ty x y t2) {u v : Nat} (hx : a.eval x = .float .f64 u) (hy : a.eval y = .float .f64 v) {r : Value}
    (hr : (binOp op ty (.float .f64 u) (.float .f64 v)).run Tryd.prog w = .ok r w) (h : K (a.put o.dst r) w) : o.wp Tryd.prog a w K Q := by
  have hg : (eqGuard op ty x y (.float .f64 u) (.float .f64 v)).run Tryd.prog w = .ok () w := by rcases hop with rfl | rfl <;> simp [eqGuard, go_sem]
  unfold Oper.wp execOp
  simp only [ho, hx, hy, Sem.run_bind, hg, Result.andThen_ok, hr]
  exact h

set_option maxHeartbeats 4000000 in
theorem walkI {W : World} (hs : Sizes W) (hw : Words W) {A A2 : Option Addr} {l l2 : List Int} {c c2 : Nat} (hc : ReadsInt W .u8 A l.length l ∧ l.length ≤ c ∧ ∀ x ∈ l, (Lit.int .u8 x).wf = true) (hc2 : ReadsInt W .u8 A2 l2.length l2 ∧ l2.length ≤ c2 ∧ ∀ x ∈ l2, (Lit.int .u8 x).wf = true) :
    Calls Tryd.prog 4 #[.slice A l.length c, .slice A2 l2.length c2] W fun e w' => e = .returned (.bool true) ∧ Below W.heap.size W w' := by
  by_cases hl : (l.length : Int) > 1048576
  · exact big W A A2 l l2 c c2 hl
  by_cases hl2 : (l2.length : Int) > 1048576
  · exact big2 W A A2 l l2 c c2 hl hl2
  have HC := Lib.hid (show Code_ W A l c from ⟨hc.1, hc.2.1, by omega, hc.2.2⟩)
  have HC2 := Lib.hid (show Code_ W A2 l2 c2 from ⟨hc2.1, hc2.2.1, by omega, hc2.2.2⟩)
  have HS := Lib.hid hs
  have HW := Lib.hid hw
  clear hs hw hc hc2
  go_enter Tryd.func4, Tryd.ntmps4
  go_wp2_with fail
  refine (drawArg HC.out).mono ?_
  rintro e w1 ⟨k, n, p, rfl, h1⟩
  have H1 := Lib.hid ((Hx.nil h1).box #[.int .i64 k, .int .i64 n, .int .i64 p] 35)
  clear h1 HC
  go_wp2_with fail
  refine (drawArg (code_of HC2.out H1.out.1)).mono ?_
  rintro e w2 ⟨k2, n2, p2, rfl, h2⟩
  have H2 := Lib.hid ((H1.out.below h2).box #[.int .i64 k2, .int .i64 n2, .int .i64 p2] 35)
  clear h2 H1 HC2
  have a0 := H2.out.cell (g := w1.heap.size) (cs := #[.int .i64 k, .int .i64 n, .int .i64 p]) (by simp) 0 rfl
  have a1 := H2.out.cell (g := w1.heap.size) (cs := #[.int .i64 k, .int .i64 n, .int .i64 p]) (by simp) 1 rfl
  have a2 := H2.out.cell (g := w1.heap.size) (cs := #[.int .i64 k, .int .i64 n, .int .i64 p]) (by simp) 2 rfl
  go_wp2_with fail
  refine (impl_arg k n p _ (HS.out.below H2.out.1) (HW.out.below H2.out.1)).mono ?_
  rintro e w3 ⟨x, rfl, hx, h3⟩
  have Hx1 := Lib.hid hx
  have H3 := Lib.hid (H2.out.below h3)
  clear h3 hx H2 a0 a1 a2
  have b0 := H3.out.cell (g := w2.heap.size) (cs := #[.int .i64 k2, .int .i64 n2, .int .i64 p2]) (by simp) 0 rfl
  have b1 := H3.out.cell (g := w2.heap.size) (cs := #[.int .i64 k2, .int .i64 n2, .int .i64 p2]) (by simp) 1 rfl
  have b2 := H3.out.cell (g := w2.heap.size) (cs := #[.int .i64 k2, .int .i64 n2, .int .i64 p2]) (by simp) 2 rfl
  go_wp2_with fail
  refine (impl_arg k2 n2 p2 _ (HS.out.below H3.out.1) (HW.out.below H3.out.1)).mono ?_
  rintro e w4 ⟨y, rfl, hy, h4⟩
  have Hy1 := Lib.hid hy
  have H4 := Lib.hid (H3.out.below h4)
  clear h4 hy H3 b0 b1 b2
  have a0 := H4.out.cell (g := w1.heap.size) (cs := #[.int .i64 k, .int .i64 n, .int .i64 p]) (by simp) 0 rfl
  have a1 := H4.out.cell (g := w1.heap.size) (cs := #[.int .i64 k, .int .i64 n, .int .i64 p]) (by simp) 1 rfl
  have a2 := H4.out.cell (g := w1.heap.size) (cs := #[.int .i64 k, .int .i64 n, .int .i64 p]) (by simp) 2 rfl
  go_wp2_with fail
  refine (spec_arg k n p _).mono ?_
  rintro e w5 ⟨z, rfl, hz, h5⟩
  have Hz1 := Lib.hid hz
  have H5 := Lib.hid (H4.out.below h5)
  clear h5 hz H4 a0 a1 a2
  go_wp2_with fail
  refine (wr_any x z _ (Hz1.out.same Hx1.out)).mono ?_
  rintro e w6 ⟨rfl, rfl⟩
  clear Hz1
  have a0 := H5.out.cell (g := w1.heap.size) (cs := #[.int .i64 k, .int .i64 n, .int .i64 p]) (by simp) 0 rfl
  have a1 := H5.out.cell (g := w1.heap.size) (cs := #[.int .i64 k, .int .i64 n, .int .i64 p]) (by simp) 1 rfl
  have a2 := H5.out.cell (g := w1.heap.size) (cs := #[.int .i64 k, .int .i64 n, .int .i64 p]) (by simp) 2 rfl
  have b0 := H5.out.cell (g := w2.heap.size) (cs := #[.int .i64 k2, .int .i64 n2, .int .i64 p2]) (by simp) 0 rfl
  have b1 := H5.out.cell (g := w2.heap.size) (cs := #[.int .i64 k2, .int .i64 n2, .int .i64 p2]) (by simp) 1 rfl
  have b2 := H5.out.cell (g := w2.heap.size) (cs := #[.int .i64 k2, .int .i64 n2, .int .i64 p2]) (by simp) 2 rfl
  by_cases hk : k = 12
  · subst hk
    by_cases hk2 : k2 = 12
    · subst hk2
      cases hd : dok 12 n p with
      | false =>
        have Hd := Lib.hid hd
        clear hd
        go_wp2_with fail
        refine (spec_dok 12 n p _).mono ?_
        rw [Hd.out]
        rintro e w7 ⟨rfl, h7⟩
        have H7 := Lib.hid (H5.out.below h7)
        clear h7 H5
        go_wp2_with fail
        go_ret
        exact ⟨rfl, H7.out.1⟩
      | true =>
        have Hd := Lib.hid hd
        clear hd
        cases hd2 : dok 12 n2 p2 with
        | false =>
          have Hd2 := Lib.hid hd2
          clear hd2
          go_wp2_with fail
          refine (spec_dok 12 n p _).mono ?_
          rw [Hd.out]
          rintro e w7 ⟨rfl, h7⟩
          have H7 := Lib.hid (H5.out.below h7)
          clear h7 H5 a0 a1 a2 b0 b1 b2
          have b0 := H7.out.cell (g := w2.heap.size) (cs := #[.int .i64 12, .int .i64 n2, .int .i64 p2]) (by simp) 0 rfl
          have b1 := H7.out.cell (g := w2.heap.size) (cs := #[.int .i64 12, .int .i64 n2, .int .i64 p2]) (by simp) 1 rfl
          have b2 := H7.out.cell (g := w2.heap.size) (cs := #[.int .i64 12, .int .i64 n2, .int .i64 p2]) (by simp) 2 rfl
          go_wp2_with fail
          refine (spec_dok 12 n2 p2 _).mono ?_
          rw [Hd2.out]
          rintro e w8 ⟨rfl, h8⟩
          have H8 := Lib.hid (H7.out.below h8)
          clear h8 H7
          go_wp2_with fail
          go_ret
          exact ⟨rfl, H8.out.1⟩
        | true =>
          have Hd2 := Lib.hid hd2
          clear hd2
          go_wp2_with fail
          refine (spec_dok 12 n p _).mono ?_
          rw [Hd.out]
          rintro e w7 ⟨rfl, h7⟩
          have H7 := Lib.hid (H5.out.below h7)
          clear h7 H5 a0 a1 a2 b0 b1 b2
          have b0 := H7.out.cell (g := w2.heap.size) (cs := #[.int .i64 12, .int .i64 n2, .int .i64 p2]) (by simp) 0 rfl
          have b1 := H7.out.cell (g := w2.heap.size) (cs := #[.int .i64 12, .int .i64 n2, .int .i64 p2]) (by simp) 1 rfl
          have b2 := H7.out.cell (g := w2.heap.size) (cs := #[.int .i64 12, .int .i64 n2, .int .i64 p2]) (by simp) 2 rfl
          go_wp2_with fail
          refine (spec_dok 12 n2 p2 _).mono ?_
          rw [Hd2.out]
          rintro e w8 ⟨rfl, h8⟩
          have H8 := Lib.hid (H7.out.below h8)
          clear h8 H7 b0 b1 b2
          have hb := Hd.out
          rw [dok12, decide_eq_true_iff] at hb
          obtain ⟨n1, n3, n4, n5, _⟩ := hb
          have hb2 := Hd2.out
          rw [dok12, decide_eq_true_iff] at hb2
          obtain ⟨m1, m3, m4, m5, _⟩ := hb2
          obtain ⟨q, hq⟩ : ∃ q : Nat, p = q := ⟨p.toNat, by omega⟩
          obtain ⟨q2, hq2⟩ : ∃ q : Nat, p2 = q := ⟨p2.toNat, by omega⟩
          subst hq hq2
          have HO := Lib.hid (dec_order Hd.out Hd2.out Hx1.out Hy1.out)
          have HW1 := Lib.hid (fun w => wrdec_any n q w ⟨n1, n3⟩ ⟨by omega, by omega⟩)
          have HW2 := Lib.hid (fun w => wrdec_any n2 q2 w ⟨m1, m3⟩ ⟨by omega, by omega⟩)
          clear n1 n3 n4 n5 m1 m3 m4 m5
          obtain ⟨u, hu⟩ : ∃ u, wr n q = u := ⟨_, rfl⟩
          obtain ⟨v, hv⟩ : ∃ v, wr n2 q2 = v := ⟨_, rfl⟩
          rw [hu, hv] at HO
          rw [hu] at HW1
          rw [hv] at HW2
          clear hu hv Hd Hd2 Hx1 Hy1 HS HW hl hl2
          go_wp2_with fail
          by_cases hlt : u < v
          · have HO2 := Lib.hid (show FloatKind.f64.format.order x y = some .lt by rw [HO.out, compare_lt_of_lt hlt])
            have HL := Lib.hid (decide_eq_true hlt)
            have HE := Lib.hid (show (u == v) = false from beq_eq_false_iff_ne.2 (by omega))
            clear HO hlt
            refine wp_region_vals (R := Hx W [(w2.heap.size, #[.int .i64 12, .int .i64 n2, .int .i64 q2]), (w1.heap.size, #[.int .i64 12, .int .i64 n, .int .i64 q])]) (aa := ?aa1) [(48, .agg #[.int .i64 12, .int .i64 n, .int .i64 q]), (49, .int .i64 u), (50, .agg #[.int .i64 12, .int .i64 n2, .int .i64 q2]), (51, .int .i64 v), (52, .bool true), (53, .float .f64 x), (54, .float .f64 y), (55, .bool true), (56, .bool true), (57, .bool true), (58, .agg #[.int .i64 12, .int .i64 n, .int .i64 q]), (59, .int .i64 u), (60, .agg #[.int .i64 12, .int .i64 n2, .int .i64 q2]), (61, .int .i64 v), (62, .bool false), (63, .float .f64 x), (64, .float .f64 y), (65, .bool false), (66, .bool true), (67, .bool true), (4, .bool true)] ?hL1 (by kernel_rfl) ?hv1 ?hD1 ?hR1 ?hdo1 ?fin1
            case hL1 =>
              simp only [putD, Act.put]
              go_simp
              rfl
            case hv1 => kernel_rfl
            case hD1 => kernel_rfl
            case hdo1 =>
              intro i o ho
              match i, ho with
              | 0, ho =>
                cases ho
                refine .inl ⟨by kernel_rfl, fun w hR => ?_⟩
                exact ow_hx _ _ rfl hR (cs := #[.int .i64 12, .int .i64 n, .int .i64 q]) (by simp) rfl (by kernel_rfl) 3 (rfl) (by kernel_rfl) ⟨rfl, hR⟩
              | 1, ho =>
                cases ho
                refine .inl ⟨by kernel_rfl, fun w hR => ?_⟩
                go_simp
                go_wp2_with fail
                refine (HW1.out w).mono ?_
                rintro e w4 ⟨rfl, h5⟩
                exact ⟨rfl, hR.below h5⟩
              | 2, ho =>
                cases ho
                refine .inl ⟨by kernel_rfl, fun w hR => ?_⟩
                exact ow_hx _ _ rfl hR (cs := #[.int .i64 12, .int .i64 n2, .int .i64 q2]) (by simp) rfl (by kernel_rfl) 3 (rfl) (by kernel_rfl) ⟨rfl, hR⟩
              | 3, ho =>
                cases ho
                refine .inl ⟨by kernel_rfl, fun w hR => ?_⟩
                go_simp
                go_wp2_with fail
                refine (HW2.out w).mono ?_
                rintro e w4 ⟨rfl, h5⟩
                exact ⟨rfl, hR.below h5⟩
              | 4, ho =>
                cases ho
                refine .inl ⟨by kernel_rfl, fun w hR => ?_⟩
                have hc := HL.out
                first | (go_simp; done) | (go_simp; exact ⟨rfl, hR⟩) | (go_simp; exact ⟨by simpa using hc, hR⟩) | (go_simp; simp [hc]; done) | (go_simp; simp [hc]; exact hR)
              | 5, ho =>
                cases ho
                refine .inl ⟨by kernel_rfl, fun w hR => ?_⟩
                first | (go_simp; done) | (go_simp; exact ⟨rfl, hR⟩)
              | 6, ho =>
                cases ho
                refine .inl ⟨by kernel_rfl, fun w hR => ?_⟩
                first | (go_simp; done) | (go_simp; exact ⟨rfl, hR⟩)
              | 7, ho =>
                cases ho
                refine .inl ⟨by kernel_rfl, fun w hR => ?_⟩
                exact ow_flt .lss (by decide) _ _ _ _ rfl rfl rfl (flt_run .lss .lt true (by decide) HO2.out w) ⟨rfl, hR⟩
              | 8, ho =>
                cases ho
                refine .inl ⟨by kernel_rfl, fun w hR => ?_⟩
                first | (go_simp; done) | (go_simp; exact ⟨rfl, hR⟩)
              | 9, ho =>
                cases ho
                refine .inl ⟨by kernel_rfl, fun w hR => ?_⟩
                first | (go_simp; done) | (go_simp; exact ⟨rfl, hR⟩)
              | 10, ho =>
                cases ho
                refine .inl ⟨by kernel_rfl, fun w hR => ?_⟩
                exact ow_hx _ _ rfl hR (cs := #[.int .i64 12, .int .i64 n, .int .i64 q]) (by simp) rfl (by kernel_rfl) 3 (rfl) (by kernel_rfl) ⟨rfl, hR⟩
              | 11, ho =>
                cases ho
                refine .inl ⟨by kernel_rfl, fun w hR => ?_⟩
                go_simp
                go_wp2_with fail
                refine (HW1.out w).mono ?_
                rintro e w4 ⟨rfl, h5⟩
                exact ⟨rfl, hR.below h5⟩
              | 12, ho =>
                cases ho
                refine .inl ⟨by kernel_rfl, fun w hR => ?_⟩
                exact ow_hx _ _ rfl hR (cs := #[.int .i64 12, .int .i64 n2, .int .i64 q2]) (by simp) rfl (by kernel_rfl) 3 (rfl) (by kernel_rfl) ⟨rfl, hR⟩
              | 13, ho =>
                cases ho
                refine .inl ⟨by kernel_rfl, fun w hR => ?_⟩
                go_simp
                go_wp2_with fail
                refine (HW2.out w).mono ?_
                rintro e w4 ⟨rfl, h5⟩
                exact ⟨rfl, hR.below h5⟩
              | 14, ho =>
                cases ho
                refine .inl ⟨by kernel_rfl, fun w hR => ?_⟩
                have hc := HE.out
                first | (go_simp; done) | (go_simp; exact ⟨rfl, hR⟩) | (go_simp; exact ⟨by simpa using hc, hR⟩) | (go_simp; simp [hc]; done) | (go_simp; simp [hc]; exact hR)
              | 15, ho =>
                cases ho
                refine .inl ⟨by kernel_rfl, fun w hR => ?_⟩
                first | (go_simp; done) | (go_simp; exact ⟨rfl, hR⟩)
              | 16, ho =>
                cases ho
                refine .inl ⟨by kernel_rfl, fun w hR => ?_⟩
                first | (go_simp; done) | (go_simp; exact ⟨rfl, hR⟩)
              | 17, ho =>
                cases ho
                refine .inl ⟨by kernel_rfl, fun w hR => ?_⟩
                exact ow_flt .eql (by decide) _ _ _ _ rfl rfl rfl (flt_run .eql .lt false (by decide) HO2.out w) ⟨rfl, hR⟩
              | 18, ho =>
                cases ho
                refine .inl ⟨by kernel_rfl, fun w hR => ?_⟩
                first | (go_simp; done) | (go_simp; exact ⟨rfl, hR⟩)
              | 19, ho =>
                cases ho
                refine .inl ⟨by kernel_rfl, fun w hR => ?_⟩
                first | (go_simp; done) | (go_simp; exact ⟨rfl, hR⟩)
              | 20, ho =>
                cases ho
                refine .inl ⟨by kernel_rfl, fun w hR => ?_⟩
                first | (go_simp; done) | (go_simp; exact ⟨rfl, hR⟩)
              | i + 21, ho => simp at ho
            case hR1 => exact H8.out.drew
            case fin1 =>
              intro w9 h9
              have H9 := Lib.hid h9
              clear h9 H8
              go_wp2_with fail
              go_ret
              exact ⟨rfl, H9.out.1⟩
          by_cases heq : u = v
          · have HO2 := Lib.hid (show FloatKind.f64.format.order x y = some .eq by rw [HO.out, compare_eq_of_eq heq])
            have HL := Lib.hid (decide_eq_false hlt)
            have HE := Lib.hid (show (u == v) = true from beq_iff_eq.2 heq)
            clear HO hlt heq
            refine wp_region_vals (R := Hx W [(w2.heap.size, #[.int .i64 12, .int .i64 n2, .int .i64 q2]), (w1.heap.size, #[.int .i64 12, .int .i64 n, .int .i64 q])]) (aa := ?aa2) [(48, .agg #[.int .i64 12, .int .i64 n, .int .i64 q]), (49, .int .i64 u), (50, .agg #[.int .i64 12, .int .i64 n2, .int .i64 q2]), (51, .int .i64 v), (52, .bool false), (53, .float .f64 x), (54, .float .f64 y), (55, .bool false), (56, .bool true), (57, .bool true), (58, .agg #[.int .i64 12, .int .i64 n, .int .i64 q]), (59, .int .i64 u), (60, .agg #[.int .i64 12, .int .i64 n2, .int .i64 q2]), (61, .int .i64 v), (62, .bool true), (63, .float .f64 x), (64, .float .f64 y), (65, .bool true), (66, .bool true), (67, .bool true), (4, .bool true)] ?hL2 (by kernel_rfl) ?hv2 ?hD2 ?hR2 ?hdo2 ?fin2
            case hL2 =>
              simp only [putD, Act.put]
              go_simp
              rfl
            case hv2 => kernel_rfl
            case hD2 => kernel_rfl
            case hdo2 =>
              intro i o ho
              match i, ho with
              | 0, ho =>
                cases ho
                refine .inl ⟨by kernel_rfl, fun w hR => ?_⟩
                exact ow_hx _ _ rfl hR (cs := #[.int .i64 12, .int .i64 n, .int .i64 q]) (by simp) rfl (by kernel_rfl) 3 (rfl) (by kernel_rfl) ⟨rfl, hR⟩
              | 1, ho =>
                cases ho
                refine .inl ⟨by kernel_rfl, fun w hR => ?_⟩
                go_simp
                go_wp2_with fail
                refine (HW1.out w).mono ?_
                rintro e w4 ⟨rfl, h5⟩
                exact ⟨rfl, hR.below h5⟩
              | 2, ho =>
                cases ho
                refine .inl ⟨by kernel_rfl, fun w hR => ?_⟩
                exact ow_hx _ _ rfl hR (cs := #[.int .i64 12, .int .i64 n2, .int .i64 q2]) (by simp) rfl (by kernel_rfl) 3 (rfl) (by kernel_rfl) ⟨rfl, hR⟩
              | 3, ho =>
                cases ho
                refine .inl ⟨by kernel_rfl, fun w hR => ?_⟩
                go_simp
                go_wp2_with fail
                refine (HW2.out w).mono ?_
                rintro e w4 ⟨rfl, h5⟩
                exact ⟨rfl, hR.below h5⟩
              | 4, ho =>
                cases ho
                refine .inl ⟨by kernel_rfl, fun w hR => ?_⟩
                have hc := HL.out
                first | (go_simp; done) | (go_simp; exact ⟨rfl, hR⟩) | (go_simp; exact ⟨by simpa using hc, hR⟩) | (go_simp; simp [hc]; done) | (go_simp; simp [hc]; exact hR)
              | 5, ho =>
                cases ho
                refine .inl ⟨by kernel_rfl, fun w hR => ?_⟩
                first | (go_simp; done) | (go_simp; exact ⟨rfl, hR⟩)
              | 6, ho =>
                cases ho
                refine .inl ⟨by kernel_rfl, fun w hR => ?_⟩
                first | (go_simp; done) | (go_simp; exact ⟨rfl, hR⟩)
              | 7, ho =>
                cases ho
                refine .inl ⟨by kernel_rfl, fun w hR => ?_⟩
                exact ow_flt .lss (by decide) _ _ _ _ rfl rfl rfl (flt_run .lss .eq false (by decide) HO2.out w) ⟨rfl, hR⟩
              | 8, ho =>
                cases ho
                refine .inl ⟨by kernel_rfl, fun w hR => ?_⟩
                first | (go_simp; done) | (go_simp; exact ⟨rfl, hR⟩)
              | 9, ho =>
                cases ho
                refine .inl ⟨by kernel_rfl, fun w hR => ?_⟩
                first | (go_simp; done) | (go_simp; exact ⟨rfl, hR⟩)
              | 10, ho =>
                cases ho
                refine .inl ⟨by kernel_rfl, fun w hR => ?_⟩
                exact ow_hx _ _ rfl hR (cs := #[.int .i64 12, .int .i64 n, .int .i64 q]) (by simp) rfl (by kernel_rfl) 3 (rfl) (by kernel_rfl) ⟨rfl, hR⟩
              | 11, ho =>
                cases ho
                refine .inl ⟨by kernel_rfl, fun w hR => ?_⟩
                go_simp
                go_wp2_with fail
                refine (HW1.out w).mono ?_
                rintro e w4 ⟨rfl, h5⟩
                exact ⟨rfl, hR.below h5⟩
              | 12, ho =>
                cases ho
                refine .inl ⟨by kernel_rfl, fun w hR => ?_⟩
                exact ow_hx _ _ rfl hR (cs := #[.int .i64 12, .int .i64 n2, .int .i64 q2]) (by simp) rfl (by kernel_rfl) 3 (rfl) (by kernel_rfl) ⟨rfl, hR⟩
              | 13, ho =>
                cases ho
                refine .inl ⟨by kernel_rfl, fun w hR => ?_⟩
                go_simp
                go_wp2_with fail
                refine (HW2.out w).mono ?_
                rintro e w4 ⟨rfl, h5⟩
                exact ⟨rfl, hR.below h5⟩
              | 14, ho =>
                cases ho
                refine .inl ⟨by kernel_rfl, fun w hR => ?_⟩
                have hc := HE.out
                first | (go_simp; done) | (go_simp; exact ⟨rfl, hR⟩) | (go_simp; exact ⟨by simpa using hc, hR⟩) | (go_simp; simp [hc]; done) | (go_simp; simp [hc]; exact hR)
              | 15, ho =>
                cases ho
                refine .inl ⟨by kernel_rfl, fun w hR => ?_⟩
                first | (go_simp; done) | (go_simp; exact ⟨rfl, hR⟩)
              | 16, ho =>
                cases ho
                refine .inl ⟨by kernel_rfl, fun w hR => ?_⟩
                first | (go_simp; done) | (go_simp; exact ⟨rfl, hR⟩)
              | 17, ho =>
                cases ho
                refine .inl ⟨by kernel_rfl, fun w hR => ?_⟩
                exact ow_flt .eql (by decide) _ _ _ _ rfl rfl rfl (flt_run .eql .eq true (by decide) HO2.out w) ⟨rfl, hR⟩
              | 18, ho =>
                cases ho
                refine .inl ⟨by kernel_rfl, fun w hR => ?_⟩
                first | (go_simp; done) | (go_simp; exact ⟨rfl, hR⟩)
              | 19, ho =>
                cases ho
                refine .inl ⟨by kernel_rfl, fun w hR => ?_⟩
                first | (go_simp; done) | (go_simp; exact ⟨rfl, hR⟩)
              | 20, ho =>
                cases ho
                refine .inl ⟨by kernel_rfl, fun w hR => ?_⟩
                first | (go_simp; done) | (go_simp; exact ⟨rfl, hR⟩)
              | i + 21, ho => simp at ho
            case hR2 => exact H8.out.drew
            case fin2 =>
              intro w9 h9
              have H9 := Lib.hid h9
              clear h9 H8
              go_wp2_with fail
              go_ret
              exact ⟨rfl, H9.out.1⟩
          · have HO2 := Lib.hid (show FloatKind.f64.format.order x y = some .gt by rw [HO.out, compare_gt_of_gt (by omega)])
            have HL := Lib.hid (decide_eq_false hlt)
            have HE := Lib.hid (show (u == v) = false from beq_eq_false_iff_ne.2 heq)
            clear HO hlt heq
            refine wp_region_vals (R := Hx W [(w2.heap.size, #[.int .i64 12, .int .i64 n2, .int .i64 q2]), (w1.heap.size, #[.int .i64 12, .int .i64 n, .int .i64 q])]) (aa := ?aa3) [(48, .agg #[.int .i64 12, .int .i64 n, .int .i64 q]), (49, .int .i64 u), (50, .agg #[.int .i64 12, .int .i64 n2, .int .i64 q2]), (51, .int .i64 v), (52, .bool false), (53, .float .f64 x), (54, .float .f64 y), (55, .bool false), (56, .bool true), (57, .bool true), (58, .agg #[.int .i64 12, .int .i64 n, .int .i64 q]), (59, .int .i64 u), (60, .agg #[.int .i64 12, .int .i64 n2, .int .i64 q2]), (61, .int .i64 v), (62, .bool false), (63, .float .f64 x), (64, .float .f64 y), (65, .bool false), (66, .bool true), (67, .bool true), (4, .bool true)] ?hL3 (by kernel_rfl) ?hv3 ?hD3 ?hR3 ?hdo3 ?fin3
            case hL3 =>
              simp only [putD, Act.put]
              go_simp
              rfl
            case hv3 => kernel_rfl
            case hD3 => kernel_rfl
            case hdo3 =>
              intro i o ho
              match i, ho with
              | 0, ho =>
                cases ho
                refine .inl ⟨by kernel_rfl, fun w hR => ?_⟩
                exact ow_hx _ _ rfl hR (cs := #[.int .i64 12, .int .i64 n, .int .i64 q]) (by simp) rfl (by kernel_rfl) 3 (rfl) (by kernel_rfl) ⟨rfl, hR⟩
              | 1, ho =>
                cases ho
                refine .inl ⟨by kernel_rfl, fun w hR => ?_⟩
                go_simp
                go_wp2_with fail
                refine (HW1.out w).mono ?_
                rintro e w4 ⟨rfl, h5⟩
                exact ⟨rfl, hR.below h5⟩
              | 2, ho =>
                cases ho
                refine .inl ⟨by kernel_rfl, fun w hR => ?_⟩
                exact ow_hx _ _ rfl hR (cs := #[.int .i64 12, .int .i64 n2, .int .i64 q2]) (by simp) rfl (by kernel_rfl) 3 (rfl) (by kernel_rfl) ⟨rfl, hR⟩
              | 3, ho =>
                cases ho
                refine .inl ⟨by kernel_rfl, fun w hR => ?_⟩
                go_simp
                go_wp2_with fail
                refine (HW2.out w).mono ?_
                rintro e w4 ⟨rfl, h5⟩
                exact ⟨rfl, hR.below h5⟩
              | 4, ho =>
                cases ho
                refine .inl ⟨by kernel_rfl, fun w hR => ?_⟩
                have hc := HL.out
                first | (go_simp; done) | (go_simp; exact ⟨rfl, hR⟩) | (go_simp; exact ⟨by simpa using hc, hR⟩) | (go_simp; simp [hc]; done) | (go_simp; simp [hc]; exact hR)
              | 5, ho =>
                cases ho
                refine .inl ⟨by kernel_rfl, fun w hR => ?_⟩
                first | (go_simp; done) | (go_simp; exact ⟨rfl, hR⟩)
              | 6, ho =>
                cases ho
                refine .inl ⟨by kernel_rfl, fun w hR => ?_⟩
                first | (go_simp; done) | (go_simp; exact ⟨rfl, hR⟩)
              | 7, ho =>
                cases ho
                refine .inl ⟨by kernel_rfl, fun w hR => ?_⟩
                exact ow_flt .lss (by decide) _ _ _ _ rfl rfl rfl (flt_run .lss .gt false (by decide) HO2.out w) ⟨rfl, hR⟩
              | 8, ho =>
                cases ho
                refine .inl ⟨by kernel_rfl, fun w hR => ?_⟩
                first | (go_simp; done) | (go_simp; exact ⟨rfl, hR⟩)
              | 9, ho =>
                cases ho
                refine .inl ⟨by kernel_rfl, fun w hR => ?_⟩
                first | (go_simp; done) | (go_simp; exact ⟨rfl, hR⟩)
              | 10, ho =>
                cases ho
                refine .inl ⟨by kernel_rfl, fun w hR => ?_⟩
                exact ow_hx _ _ rfl hR (cs := #[.int .i64 12, .int .i64 n, .int .i64 q]) (by simp) rfl (by kernel_rfl) 3 (rfl) (by kernel_rfl) ⟨rfl, hR⟩
              | 11, ho =>
                cases ho
                refine .inl ⟨by kernel_rfl, fun w hR => ?_⟩
                go_simp
                go_wp2_with fail
                refine (HW1.out w).mono ?_
                rintro e w4 ⟨rfl, h5⟩
                exact ⟨rfl, hR.below h5⟩
              | 12, ho =>
                cases ho
                refine .inl ⟨by kernel_rfl, fun w hR => ?_⟩
                exact ow_hx _ _ rfl hR (cs := #[.int .i64 12, .int .i64 n2, .int .i64 q2]) (by simp) rfl (by kernel_rfl) 3 (rfl) (by kernel_rfl) ⟨rfl, hR⟩
              | 13, ho =>
                cases ho
                refine .inl ⟨by kernel_rfl, fun w hR => ?_⟩
                go_simp
                go_wp2_with fail
                refine (HW2.out w).mono ?_
                rintro e w4 ⟨rfl, h5⟩
                exact ⟨rfl, hR.below h5⟩
              | 14, ho =>
                cases ho
                refine .inl ⟨by kernel_rfl, fun w hR => ?_⟩
                have hc := HE.out
                first | (go_simp; done) | (go_simp; exact ⟨rfl, hR⟩) | (go_simp; exact ⟨by simpa using hc, hR⟩) | (go_simp; simp [hc]; done) | (go_simp; simp [hc]; exact hR)
              | 15, ho =>
                cases ho
                refine .inl ⟨by kernel_rfl, fun w hR => ?_⟩
                first | (go_simp; done) | (go_simp; exact ⟨rfl, hR⟩)
              | 16, ho =>
                cases ho
                refine .inl ⟨by kernel_rfl, fun w hR => ?_⟩
                first | (go_simp; done) | (go_simp; exact ⟨rfl, hR⟩)
              | 17, ho =>
                cases ho
                refine .inl ⟨by kernel_rfl, fun w hR => ?_⟩
                exact ow_flt .eql (by decide) _ _ _ _ rfl rfl rfl (flt_run .eql .gt false (by decide) HO2.out w) ⟨rfl, hR⟩
              | 18, ho =>
                cases ho
                refine .inl ⟨by kernel_rfl, fun w hR => ?_⟩
                first | (go_simp; done) | (go_simp; exact ⟨rfl, hR⟩)
              | 19, ho =>
                cases ho
                refine .inl ⟨by kernel_rfl, fun w hR => ?_⟩
                first | (go_simp; done) | (go_simp; exact ⟨rfl, hR⟩)
              | 20, ho =>
                cases ho
                refine .inl ⟨by kernel_rfl, fun w hR => ?_⟩
                first | (go_simp; done) | (go_simp; exact ⟨rfl, hR⟩)
              | i + 21, ho => simp at ho
            case hR3 => exact H8.out.drew
            case fin3 =>
              intro w9 h9
              have H9 := Lib.hid h9
              clear h9 H8
              go_wp2_with fail
              go_ret
              exact ⟨rfl, H9.out.1⟩
    · have hk3 : (k2 != 12) = true := by simpa using hk2
      clear hk2
      go_wp2_with fail
      go_ret
      exact ⟨rfl, H5.out.1⟩
  · have hk3 : (k != 12) = true := by simpa using hk
    clear hk
    go_wp2_with fail
    go_ret
    exact ⟨rfl, H5.out.1⟩

theorem walk (W : World) (base : Nat) (v0 v1 : Value) (o0 : Value.okWide Tryd.prog W .any base 33 v0) (o1 : Value.okWide Tryd.prog W .any base 33 v1) (b0 : kit.Bytes W v0) (b1 : kit.Bytes W v1) (hL : laidMetH Tryd.prog Rows.fnRealArgRow.laid W) :
    Calls Tryd.prog 4 #[v0, v1] W fun e w' => e = .returned (.bool true) ∧ Below W.heap.size W w' := by
  have hs : Sizes W := kit.laid_ints (zs := sizes) (k := .i64) (n := "loop.example/stile/impl.devSizes") hL (by kernel_rfl) (by repeat (first | exact List.Mem.head _ | apply List.Mem.tail)) (by kernel_rfl) (by kernel_rfl) Tryd.underlying63 Tryd.underlying3 (by kernel_rfl) (by decide)
  have hw : Words W := by
    obtain ⟨b, off, hc, _⟩ := kit.laid_strs (g := 1) (L := [[110, 97, 110], [105, 110, 102], [45, 105, 110, 102], [45, 48, 46, 48]]) (n := "loop.example/stile/impl.devWords") hL (by kernel_rfl) (by repeat (first | exact List.Mem.head _ | apply List.Mem.tail)) (by kernel_rfl) (by kernel_rfl) Tryd.underlying73 Tryd.underlying9 (by kernel_rfl) (by decide)
    exact ⟨b, off, hc⟩
  obtain ⟨A0, len0, cap0, zs0, rfl, h0, y0⟩ := b0
  obtain ⟨l0, rfl, hr0, hm0, hwf0, hc0⟩ := ReadsInt.ofRowC h0
  obtain ⟨A1, len1, cap1, zs1, rfl, h1, y1⟩ := b1
  obtain ⟨l1, rfl, hr1, hm1, hwf1, hc1⟩ := ReadsInt.ofRowC h1
  exact walkI hs hw ⟨hr0, hc0, hwf0⟩ ⟨hr1, hc1, hwf1⟩
end Go.Proofs.YthfkgeloilhniaaDoor.fnRealArg
