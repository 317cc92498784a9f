/-
  'spec.ElemIsCoil': what its numbers' ways share.
  Conditions: the operands' cells hold them.
-/
import Derived.Test.YtgmdpgchffapoaaDoorElemC
import Derived.Test.YtgmdpgchffapoaaDoorHxS
import Derived.Deep.CutBlock
namespace Go.Proofs.YtgmdpgchffapoaaDoor.dev
open Go Go.RowKit Go.Proofs.YtgmdpgchffapoaaDoor.part
set_option linter.unusedVariables false
set_option linter.unusedSimpArgs false
set_option maxRecDepth 100000

theorem kind_any (k n p a b : Int) (w : World) : Calls Tryd.prog 27 #[.agg #[.int .i64 k, .int .i64 n, .int .i64 p], .int .i64 a, .int .i64 b] w fun e w' => e = .returned (.bool (kis k n p [a, b])) ∧ Below w.heap.size w w' := by
  cases hd : dok k n p with
  | false =>
    have Hv := Lib.hid (show kis k n p [a, b] = false by rw [kis, hd]; rfl)
    have Hd := Lib.hid hd
    clear hd
    go_enter Tryd.func27, Tryd.ntmps27
    go_wp2_with fail
    refine (spec_dok _ _ _ _).mono ?_
    rw [Hd.out]
    rintro e w1 ⟨rfl, h1⟩
    go_wp2_with fail
    go_ret
    exact ret_of Hv.out.symm (((Below.refl _ _).alloc (Nat.le_refl _) _).trans (h1.mono (by simp)))
  | true =>
    have Hv := Lib.hid (show kis k n p [a, b] = (k == a || k == b) by rw [kis, hd, Bool.true_and]; simp only [has, List.contains_cons, List.contains_nil, Bool.or_false])
    have Hd := Lib.hid hd
    clear hd
    by_cases hka : k = a
    · subst hka
      go_enter Tryd.func27, Tryd.ntmps27
      go_wp2_with fail
      refine (spec_dok _ _ _ _).mono ?_
      rw [Hd.out]
      rintro e w1 ⟨rfl, h1⟩
      have k1 := kit.box_keep (kit.box_new w _ _) h1 (by simp)
      have c0 := kit.box_cell k1 0 rfl
      go_wp2_with fail
      go_ret
      exact ret_of (by rw [Hv.out]; simp) (((Below.refl _ _).alloc (Nat.le_refl _) _).trans (h1.mono (by simp)))
    · have Hk := Lib.hid hka
      have hkb : (k == a) = false := beq_eq_false_iff_ne.2 hka
      clear hka
      go_enter Tryd.func27, Tryd.ntmps27
      go_wp2_with fail
      refine (spec_dok _ _ _ _).mono ?_
      rw [Hd.out]
      rintro e w1 ⟨rfl, h1⟩
      have k1 := kit.box_keep (kit.box_new w _ _) h1 (by simp)
      have c0 := kit.box_cell k1 0 rfl
      go_wp2_with fail
      go_ret
      exact ret_of (by rw [Hv.out, beq_eq_false_iff_ne.2 Hk.out]; simp) (((Below.refl _ _).alloc (Nat.le_refl _) _).trans (h1.mono (by simp)))
theorem kis2 (x : Tri) (a b : Int) : tKis x [a, b] = (tKis x [a] || tKis x [b]) := by
  unfold tKis kis has
  cases dok x.1 x.2.1 x.2.2 <;> simp
theorem kis3 (x : Tri) (a b c : Int) : tKis x [a, b, c] = (tKis x [a] || tKis x [b] || tKis x [c]) := by
  unfold tKis kis has
  cases dok x.1 x.2.1 x.2.2 <;> simp [Bool.or_assoc]
theorem kis5 (x : Tri) (a b c d e : Int) : tKis x [a, b, c, d, e] = (tKis x [a] || tKis x [b] || tKis x [c] || tKis x [d] || tKis x [e]) := by
  unfold tKis kis has
  cases dok x.1 x.2.1 x.2.2 <;> simp [Bool.or_assoc]
theorem kis_kind {x : Tri} {a : Int} (h : tKis x [a] = true) : x.1 = a := by
  unfold tKis kis has at h
  simp at h
  exact h.2
theorem kis_not {x : Tri} {a b : Int} (hab : a ≠ b) (h : tKis x [a] = true) : tKis x [b] = false := by
  have := kis_kind h
  unfold tKis kis has
  rw [this]
  simp
  intro _
  exact hab
def calcB (op : Int) (x : Tri) (l : List Tri) : Bool := tKis x [9] && l.all tWhole || (decide (op ≠ 35) && (tKis x [10] && l.all tReal))
theorem getS (x : Tri) (l : List Tri) (k : Nat) (h : 1 ≤ k) : (x :: l).getD k zT = l.getD (k - 1) zT := by
  obtain ⟨j, rfl⟩ : ∃ j, k = j + 1 := ⟨k - 1, by omega⟩
  rfl
theorem takeS (l : List Tri) (k : Nat) (h : 1 ≤ k) (hl : k < l.length + 1) : l.take k = l.take (k - 1) ++ [l.getD (k - 1) zT] := by
  have := take_succT l (k - 1) (by omega)
  rwa [show k - 1 + 1 = k by omega] at this
theorem calc_no (op : Int) (x : Tri) (rest : List Tri) (b off c : Nat) (W : World) (hT : Trip W b off (x :: rest)) (h : tKis x [9, 10] = false) :
    Calls Tryd.prog 28 #[.agg #[.int .i64 op, .slice (some ⟨b, off, none⟩) (rest.length + 1) c]] W fun e w' => e = .returned (.bool false) ∧ Below W.heap.size W w' := by
  have HT := Lib.hid hT
  have Hk := Lib.hid h
  clear hT h
  have H1 := Lib.hid (Hx.box (Hx.nil (Below.refl W.heap.size W)) #[.int .i64 op, .slice (some ⟨b, off, none⟩) (rest.length + 1) c] 25)
  obtain ⟨x0, x1, x2⟩ := (HT.out.below H1.out.1).at0
  go_enter Tryd.func28, Tryd.ntmps28
  go_wp2_with fail
  refine (kind_any x.1 x.2.1 x.2.2 9 10 _).mono ?_
  rw [show kis x.1 x.2.1 x.2.2 [9, 10] = false from Hk.out]
  rintro e w1 ⟨rfl, h1⟩
  have H2 := Lib.hid (H1.out.below h1)
  clear h1 x0 x1 x2 H1
  go_wp2_with fail
  go_ret
  exact ⟨rfl, H2.out.1⟩


set_option maxHeartbeats 4000000 in
theorem calc_Whole (op : Int) (n p : Int) (rest : List Tri) (b off c : Nat) (W : World) (hl : rest.length ≤ 100) (hT : Trip W b off ((9, n, p) :: rest)) (h : tKis (9, n, p) [9, 10] = true) :
    Calls Tryd.prog 28 #[.agg #[.int .i64 op, .slice (some ⟨b, off, none⟩) (rest.length + 1) c]] W fun e w' => e = .returned (.bool (rest.all tWhole)) ∧ Below W.heap.size W w' := by
  have HT := Lib.hid hT
  have Hk := Lib.hid h
  clear hT h
  have H1 := Lib.hid (Hx.box (Hx.nil (Below.refl W.heap.size W)) #[.int .i64 op, .slice (some ⟨b, off, none⟩) (rest.length + 1) c] 25)
  obtain ⟨x0, x1, x2⟩ := (HT.out.below H1.out.1).at0
  dsimp only at x0 x1 x2
  go_enter Tryd.func28, Tryd.ntmps28
  go_wp2_with fail
  refine (kind_any 9 n p 9 10 _).mono ?_
  rw [show kis 9 n p [9, 10] = true from Hk.out]
  rintro e w1 ⟨rfl, h1⟩
  have H2 := Lib.hid (H1.out.below h1)
  clear h1 x0 x1 x2 H1
  obtain ⟨x0, x1, x2⟩ := (HT.out.below H2.out.1).at0
  have c1 := H2.out.cell (g := W.heap.size) (cs := #[.int .i64 op, .slice (some ⟨b, off, none⟩) (rest.length + 1) c]) (by simp) 1 rfl
  dsimp only at x0 x1 x2
  go_wp2_with fail
  go_loopg [4] rest.length (fun gg s4 wr => ∃ kk : Nat, 1 ≤ kk ∧ kk ≤ rest.length + 1 ∧ rest.length + 1 - kk ≤ gg ∧ s4 = .int .i64 kk ∧ Hid (Hx W [(W.heap.size, #[.int .i64 op, .slice (some ⟨b, off, none⟩) (rest.length + 1) c])] wr) ∧ Hid ((rest.take (kk - 1)).all tWhole = true))
  case atStart => exact ⟨1, Nat.le_refl _, by omega, by omega, rfl, H2, Lib.hid rfl⟩
  case round =>
    clear x0 x1 x2 c1
    obtain ⟨kk, hk1, hk2, hgg, rfl, H3, hno⟩ := hrel
    have c0 := H3.out.cell (g := W.heap.size) (cs := #[.int .i64 op, .slice (some ⟨b, off, none⟩) (rest.length + 1) c]) (by simp) 0 rfl
    have c1 := H3.out.cell (g := W.heap.size) (cs := #[.int .i64 op, .slice (some ⟨b, off, none⟩) (rest.length + 1) c]) (by simp) 1 rfl
    by_cases hlt : kk < rest.length + 1
    · obtain ⟨y0, y1, y2⟩ := (HT.out.below H3.out.1) kk (by simp only [List.length_cons]; omega)
      rw [getS _ _ _ hk1] at y0 y1 y2
      have ht := Lib.hid (takeS rest kk hk1 hlt)
      have hm : Hid (rest.getD (kk - 1) zT ∈ rest) := Lib.hid (by rw [List.getD_eq_getElem?_getD, List.getElem?_eq_getElem (by omega)]; exact List.getElem_mem _)
      generalize rest.getD (kk - 1) zT = y at *
      cases hq : tWhole y with
      | false =>
        have Hq := Lib.hid hq
        clear hq
        go_wp2_with fail
        refine (spec_isWhole y.1 y.2.1 y.2.2 _).mono ?_
        rw [show isWhole y.1 y.2.1 y.2.2 = false from Hq.out]
        rintro e w4 ⟨rfl, h4⟩
        have H4 := Lib.hid (H3.out.below h4)
        clear h4 c0 c1 y0 y1 y2
        go_wp2_with fail
        go_ret
        have HF : rest.all tWhole = false := by
          rw [Bool.eq_false_iff, ne_eq, List.all_eq_true]
          intro ha
          have := ha y hm.out
          rw [Hq.out] at this
          cases this
        exact ⟨kit.ret_bool (by rw [HF]; try simp), H4.out.1⟩
      | true =>
        have Hq := Lib.hid hq
        clear hq
        go_wp2_with fail
        refine (spec_isWhole y.1 y.2.1 y.2.2 _).mono ?_
        rw [show isWhole y.1 y.2.1 y.2.2 = true from Hq.out]
        rintro e w4 ⟨rfl, h4⟩
        have H4 := Lib.hid (H3.out.below h4)
        clear h4 c0 c1 y0 y1 y2
        go_wp2_with fail
        go_roundg (rest.length + 1 - (kk + 1))
        case measure => omega
        case rel => exact ⟨kk + 1, by omega, by omega, by omega, by go_num, H4, Lib.hid (by rw [Nat.add_sub_cancel, ht.out, List.all_append, hno.out]; simp [Hq.out])⟩
    · have HR := hno.out
      rw [List.take_of_length_le (by omega)] at HR
      have HR := Lib.hid HR
      go_wp2_with fail
      go_ret
      exact ⟨kit.ret_bool (by rw [HR.out]; first | done | (simp; done) | (simp; rfl)), H3.out.1⟩


set_option maxHeartbeats 4000000 in
theorem calc_Real (op : Int) (n p : Int) (rest : List Tri) (b off c : Nat) (W : World) (hl : rest.length ≤ 100) (hT : Trip W b off ((10, n, p) :: rest)) (h : tKis (10, n, p) [9, 10] = true) :
    Calls Tryd.prog 28 #[.agg #[.int .i64 op, .slice (some ⟨b, off, none⟩) (rest.length + 1) c]] W fun e w' => e = .returned (.bool (decide (op ≠ 35) && rest.all tReal)) ∧ Below W.heap.size W w' := by
  have HT := Lib.hid hT
  have Hk := Lib.hid h
  clear hT h
  have H1 := Lib.hid (Hx.box (Hx.nil (Below.refl W.heap.size W)) #[.int .i64 op, .slice (some ⟨b, off, none⟩) (rest.length + 1) c] 25)
  obtain ⟨x0, x1, x2⟩ := (HT.out.below H1.out.1).at0
  dsimp only at x0 x1 x2
  go_enter Tryd.func28, Tryd.ntmps28
  go_wp2_with fail
  refine (kind_any 10 n p 9 10 _).mono ?_
  rw [show kis 10 n p [9, 10] = true from Hk.out]
  rintro e w1 ⟨rfl, h1⟩
  have H2 := Lib.hid (H1.out.below h1)
  clear h1 x0 x1 x2 H1
  obtain ⟨x0, x1, x2⟩ := (HT.out.below H2.out.1).at0
  have c1 := H2.out.cell (g := W.heap.size) (cs := #[.int .i64 op, .slice (some ⟨b, off, none⟩) (rest.length + 1) c]) (by simp) 1 rfl
  dsimp only at x0 x1 x2
  go_wp2_with fail
  go_loopg [4] rest.length (fun gg s4 wr => ∃ kk : Nat, 1 ≤ kk ∧ kk ≤ rest.length + 1 ∧ rest.length + 1 - kk ≤ gg ∧ s4 = .int .i64 kk ∧ Hid (Hx W [(W.heap.size, #[.int .i64 op, .slice (some ⟨b, off, none⟩) (rest.length + 1) c])] wr) ∧ Hid ((rest.take (kk - 1)).all tReal = true))
  case atStart => exact ⟨1, Nat.le_refl _, by omega, by omega, rfl, H2, Lib.hid rfl⟩
  case round =>
    clear x0 x1 x2 c1
    obtain ⟨kk, hk1, hk2, hgg, rfl, H3, hno⟩ := hrel
    have c0 := H3.out.cell (g := W.heap.size) (cs := #[.int .i64 op, .slice (some ⟨b, off, none⟩) (rest.length + 1) c]) (by simp) 0 rfl
    have c1 := H3.out.cell (g := W.heap.size) (cs := #[.int .i64 op, .slice (some ⟨b, off, none⟩) (rest.length + 1) c]) (by simp) 1 rfl
    by_cases hlt : kk < rest.length + 1
    · obtain ⟨y0, y1, y2⟩ := (HT.out.below H3.out.1) kk (by simp only [List.length_cons]; omega)
      rw [getS _ _ _ hk1] at y0 y1 y2
      have ht := Lib.hid (takeS rest kk hk1 hlt)
      have hm : Hid (rest.getD (kk - 1) zT ∈ rest) := Lib.hid (by rw [List.getD_eq_getElem?_getD, List.getElem?_eq_getElem (by omega)]; exact List.getElem_mem _)
      generalize rest.getD (kk - 1) zT = y at *
      cases hq : tReal y with
      | false =>
        have Hq := Lib.hid hq
        clear hq
        go_wp2_with fail
        refine (spec_isReal y.1 y.2.1 y.2.2 _).mono ?_
        rw [show isReal y.1 y.2.1 y.2.2 = false from Hq.out]
        rintro e w4 ⟨rfl, h4⟩
        have H4 := Lib.hid (H3.out.below h4)
        clear h4 c0 c1 y0 y1 y2
        go_wp2_with fail
        go_ret
        have HF : rest.all tReal = false := by
          rw [Bool.eq_false_iff, ne_eq, List.all_eq_true]
          intro ha
          have := ha y hm.out
          rw [Hq.out] at this
          cases this
        exact ⟨kit.ret_bool (by rw [HF]; try simp), H4.out.1⟩
      | true =>
        have Hq := Lib.hid hq
        clear hq
        go_wp2_with fail
        refine (spec_isReal y.1 y.2.1 y.2.2 _).mono ?_
        rw [show isReal y.1 y.2.1 y.2.2 = true from Hq.out]
        rintro e w4 ⟨rfl, h4⟩
        have H4 := Lib.hid (H3.out.below h4)
        clear h4 c0 c1 y0 y1 y2
        go_wp2_with fail
        go_roundg (rest.length + 1 - (kk + 1))
        case measure => omega
        case rel => exact ⟨kk + 1, by omega, by omega, by omega, by go_num, H4, Lib.hid (by rw [Nat.add_sub_cancel, ht.out, List.all_append, hno.out]; simp [Hq.out])⟩
    · have HR := hno.out
      rw [List.take_of_length_le (by omega)] at HR
      have HR := Lib.hid HR
      go_wp2_with fail
      go_ret
      exact ⟨kit.ret_bool (by rw [HR.out]; first | done | (simp; done) | (simp; rfl)), H3.out.1⟩


theorem calc_any (op : Int) (x : Tri) (rest : List Tri) (b off c : Nat) (W : World) (hl : rest.length ≤ 100) (hT : Trip W b off (x :: rest)) :
    Calls Tryd.prog 28 #[.agg #[.int .i64 op, .slice (some ⟨b, off, none⟩) (rest.length + 1) c]] W fun e w' => e = .returned (.bool (calcB op x rest)) ∧ Below W.heap.size W w' := by
  unfold calcB
  cases h9 : tKis x [9] with
  | true =>
    obtain ⟨k, n, p⟩ := x
    obtain rfl : k = 9 := kis_kind h9
    rw [kis_not (by decide) h9, Bool.false_and, Bool.and_false, Bool.or_false, Bool.true_and]
    exact calc_Whole op n p rest b off c W hl hT (by rw [kis2, h9]; rfl)
  | false =>
    cases h10 : tKis x [10] with
    | true =>
      obtain ⟨k, n, p⟩ := x
      obtain rfl : k = 10 := kis_kind h10
      rw [Bool.false_and, Bool.false_or, Bool.true_and]
      exact calc_Real op n p rest b off c W hl hT (by rw [kis2, h10]; simp)
    | false =>
      rw [Bool.false_and, Bool.false_and, Bool.and_false, Bool.or_false]
      exact calc_no op x rest b off c W hT (by rw [kis2, h9, h10]; rfl)

theorem scoil_lt (op : Int) (n : Nat) (A : Option Addr) (c : Nat) (W : World) (hlt : op < 21) :
    Calls Tryd.prog 8 #[.agg #[.int .i64 op, .slice A n c]] W fun e w' => e = .returned (.bool false) ∧ Below W.heap.size W w' := by
  have Hlt := Lib.hid hlt
  clear hlt
  have H1 := Lib.hid (Hx.box (Hx.nil (Below.refl W.heap.size W)) #[.int .i64 op, .slice A n c] 25)
  go_enter Tryd.func8, Tryd.ntmps8
  go_wp2_with fail
  refine wp_region_vals (R := Hx W [(W.heap.size, #[.int .i64 op, .slice A n c])]) (aa := ?aa1) [(4, .pointer (some ⟨W.heap.size, 0, none⟩)), (5, .int .i64 op), (6, .bool true), (7, .bool true), (8, undef), (9, undef), (10, undef), (11, .bool true), (12, .bool true), (13, undef), (14, undef), (15, undef), (16, undef), (17, undef), (18, undef), (19, undef), (20, .bool true)] ?hL1 (by kernel_rfl) ?hv1 ?hD1 ?hR1 ?hdo1 ?fin1
  case hL1 =>
    simp only [putD, Act.put]
    go_simp
    rfl
  case hv1 => kernel_rfl
  case hD1 => kernel_rfl
  case hdo1 =>
    intro i o ho
    match i, ho with
    | 0, ho =>
      cases ho
      refine .inl ⟨by kernel_rfl, fun w hR => ?_⟩
      first | (go_simp; done) | (go_simp; exact ⟨rfl, hR⟩) | (go_simp; exact ⟨Hx.out, hR⟩) | (go_simp; exact Hx.out)
    | 1, ho =>
      cases ho
      refine .inl ⟨by kernel_rfl, fun w hR => ?_⟩
      exact ow_hxf _ _ rfl hR (cs := #[.int .i64 op, .slice A n c]) (by simp) 0 (.int .i64 op) rfl rfl (by decide +kernel) ⟨rfl, hR⟩
    | 2, ho =>
      cases ho
      refine .inl ⟨by kernel_rfl, fun w hR => ?_⟩
      first | (go_simp; done) | (go_simp; exact ⟨rfl, hR⟩) | (go_simp; exact ⟨Hlt.out, hR⟩) | (go_simp; exact Hlt.out)
    | 3, ho =>
      cases ho
      refine .inl ⟨by kernel_rfl, fun w hR => ?_⟩
      first | (go_simp; done) | (go_simp; exact ⟨rfl, hR⟩) | (go_simp; exact ⟨Hlt.out, hR⟩) | (go_simp; exact Hlt.out)
    | 4, ho =>
      cases ho
      exact .inr ⟨by kernel_rfl, fun t ht => by cases ht; rfl⟩
    | 5, ho =>
      cases ho
      exact .inr ⟨by kernel_rfl, fun t ht => by cases ht; rfl⟩
    | 6, ho =>
      cases ho
      exact .inr ⟨by kernel_rfl, fun t ht => by cases ht; rfl⟩
    | 7, ho =>
      cases ho
      refine .inl ⟨by kernel_rfl, fun w hR => ?_⟩
      first | (go_simp; done) | (go_simp; exact ⟨rfl, hR⟩) | (go_simp; exact ⟨Hx.out, hR⟩) | (go_simp; exact Hx.out)
    | 8, ho =>
      cases ho
      refine .inl ⟨by kernel_rfl, fun w hR => ?_⟩
      first | (go_simp; done) | (go_simp; exact ⟨rfl, hR⟩) | (go_simp; exact ⟨Hx.out, hR⟩) | (go_simp; exact Hx.out)
    | 9, ho =>
      cases ho
      exact .inr ⟨by kernel_rfl, fun t ht => by cases ht; rfl⟩
    | 10, ho =>
      cases ho
      exact .inr ⟨by kernel_rfl, fun t ht => by cases ht; rfl⟩
    | 11, ho =>
      cases ho
      exact .inr ⟨by kernel_rfl, fun t ht => by cases ht; rfl⟩
    | 12, ho =>
      cases ho
      exact .inr ⟨by kernel_rfl, fun t ht => by cases ht; rfl⟩
    | 13, ho =>
      cases ho
      exact .inr ⟨by kernel_rfl, fun t ht => by cases ht; rfl⟩
    | 14, ho =>
      cases ho
      exact .inr ⟨by kernel_rfl, fun t ht => by cases ht; rfl⟩
    | 15, ho =>
      cases ho
      exact .inr ⟨by kernel_rfl, fun t ht => by cases ht; rfl⟩
    | 16, ho =>
      cases ho
      refine .inl ⟨by kernel_rfl, fun w hR => ?_⟩
      first | (go_simp; done) | (go_simp; exact ⟨rfl, hR⟩) | (go_simp; exact ⟨Hx.out, hR⟩) | (go_simp; exact Hx.out)
    | i + 17, ho => simp at ho
  case hR1 => exact H1.out.drew
  case fin1 =>
    intro w2 h2
    have H2 := Lib.hid h2
    clear h2 H1
    go_wp2_with fail
    go_ret
    exact ⟨rfl, H2.out.1⟩
theorem scoil_gt (op : Int) (n : Nat) (A : Option Addr) (c : Nat) (W : World) (hlt : 21 ≤ op) (hgt : 37 < op) :
    Calls Tryd.prog 8 #[.agg #[.int .i64 op, .slice A n c]] W fun e w' => e = .returned (.bool false) ∧ Below W.heap.size W w' := by
  have Hlt := Lib.hid hlt
  have Hgt := Lib.hid hgt
  clear hlt hgt
  have H1 := Lib.hid (Hx.box (Hx.nil (Below.refl W.heap.size W)) #[.int .i64 op, .slice A n c] 25)
  go_enter Tryd.func8, Tryd.ntmps8
  go_wp2_with fail
  refine wp_region_vals (R := Hx W [(W.heap.size, #[.int .i64 op, .slice A n c])]) (aa := ?aa2) [(4, .pointer (some ⟨W.heap.size, 0, none⟩)), (5, .int .i64 op), (6, .bool false), (7, .bool false), (8, .pointer (some ⟨W.heap.size, 0, none⟩)), (9, .int .i64 op), (10, .bool true), (11, .bool true), (12, .bool true), (13, undef), (14, undef), (15, undef), (16, undef), (17, undef), (18, undef), (19, undef), (20, .bool true)] ?hL2 (by kernel_rfl) ?hv2 ?hD2 ?hR2 ?hdo2 ?fin2
  case hL2 =>
    simp only [putD, Act.put]
    go_simp
    rfl
  case hv2 => kernel_rfl
  case hD2 => kernel_rfl
  case hdo2 =>
    intro i o ho
    match i, ho with
    | 0, ho =>
      cases ho
      refine .inl ⟨by kernel_rfl, fun w hR => ?_⟩
      first | (go_simp; done) | (go_simp; exact ⟨rfl, hR⟩) | (go_simp; exact ⟨Hx.out, hR⟩) | (go_simp; exact Hx.out)
    | 1, ho =>
      cases ho
      refine .inl ⟨by kernel_rfl, fun w hR => ?_⟩
      exact ow_hxf _ _ rfl hR (cs := #[.int .i64 op, .slice A n c]) (by simp) 0 (.int .i64 op) rfl rfl (by decide +kernel) ⟨rfl, hR⟩
    | 2, ho =>
      cases ho
      refine .inl ⟨by kernel_rfl, fun w hR => ?_⟩
      first | (go_simp; done) | (go_simp; exact ⟨rfl, hR⟩) | (go_simp; exact ⟨Hlt.out, hR⟩) | (go_simp; exact Hlt.out)
    | 3, ho =>
      cases ho
      refine .inl ⟨by kernel_rfl, fun w hR => ?_⟩
      first | (go_simp; done) | (go_simp; exact ⟨rfl, hR⟩) | (go_simp; exact ⟨Hlt.out, hR⟩) | (go_simp; exact Hlt.out)
    | 4, ho =>
      cases ho
      refine .inl ⟨by kernel_rfl, fun w hR => ?_⟩
      first | (go_simp; done) | (go_simp; exact ⟨rfl, hR⟩) | (go_simp; exact ⟨Hx.out, hR⟩) | (go_simp; exact Hx.out)
    | 5, ho =>
      cases ho
      refine .inl ⟨by kernel_rfl, fun w hR => ?_⟩
      exact ow_hxf _ _ rfl hR (cs := #[.int .i64 op, .slice A n c]) (by simp) 0 (.int .i64 op) rfl rfl (by decide +kernel) ⟨rfl, hR⟩
    | 6, ho =>
      cases ho
      refine .inl ⟨by kernel_rfl, fun w hR => ?_⟩
      first | (go_simp; done) | (go_simp; exact ⟨rfl, hR⟩) | (go_simp; exact ⟨Hgt.out, hR⟩) | (go_simp; exact Hgt.out)
    | 7, ho =>
      cases ho
      refine .inl ⟨by kernel_rfl, fun w hR => ?_⟩
      first | (go_simp; done) | (go_simp; exact ⟨rfl, hR⟩) | (go_simp; exact ⟨Hx.out, hR⟩) | (go_simp; exact Hx.out)
    | 8, ho =>
      cases ho
      refine .inl ⟨by kernel_rfl, fun w hR => ?_⟩
      first | (go_simp; done) | (go_simp; exact ⟨rfl, hR⟩) | (go_simp; exact ⟨Hx.out, hR⟩) | (go_simp; exact Hx.out)
    | 9, ho =>
      cases ho
      exact .inr ⟨by kernel_rfl, fun t ht => by cases ht; rfl⟩
    | 10, ho =>
      cases ho
      exact .inr ⟨by kernel_rfl, fun t ht => by cases ht; rfl⟩
    | 11, ho =>
      cases ho
      exact .inr ⟨by kernel_rfl, fun t ht => by cases ht; rfl⟩
    | 12, ho =>
      cases ho
      exact .inr ⟨by kernel_rfl, fun t ht => by cases ht; rfl⟩
    | 13, ho =>
      cases ho
      exact .inr ⟨by kernel_rfl, fun t ht => by cases ht; rfl⟩
    | 14, ho =>
      cases ho
      exact .inr ⟨by kernel_rfl, fun t ht => by cases ht; rfl⟩
    | 15, ho =>
      cases ho
      exact .inr ⟨by kernel_rfl, fun t ht => by cases ht; rfl⟩
    | 16, ho =>
      cases ho
      refine .inl ⟨by kernel_rfl, fun w hR => ?_⟩
      first | (go_simp; done) | (go_simp; exact ⟨rfl, hR⟩) | (go_simp; exact ⟨Hx.out, hR⟩) | (go_simp; exact Hx.out)
    | i + 17, ho => simp at ho
  case hR2 => exact H1.out.drew
  case fin2 =>
    intro w2 h2
    have H2 := Lib.hid h2
    clear h2 H1
    go_wp2_with fail
    go_ret
    exact ⟨rfl, H2.out.1⟩
theorem scoil_len (op : Int) (n : Nat) (A : Option Addr) (c : Nat) (W : World) (hlt : 21 ≤ op) (hgt : op ≤ 37) (hne : (n : Int) ≠ arity op) :
    Calls Tryd.prog 8 #[.agg #[.int .i64 op, .slice A n c]] W fun e w' => e = .returned (.bool false) ∧ Below W.heap.size W w' := by
  have Hlt := Lib.hid hlt
  have Hgt := Lib.hid hgt
  have Hne := Lib.hid (show (n : Int) = arity op → False from hne)
  clear hlt hgt hne
  have H1 := Lib.hid (Hx.box (Hx.nil (Below.refl W.heap.size W)) #[.int .i64 op, .slice A n c] 25)
  go_enter Tryd.func8, Tryd.ntmps8
  go_wp2_with fail
  refine wp_region_vals (R := Hx W [(W.heap.size, #[.int .i64 op, .slice A n c])]) (aa := ?aa3) [(4, .pointer (some ⟨W.heap.size, 0, none⟩)), (5, .int .i64 op), (6, .bool false), (7, .bool false), (8, .pointer (some ⟨W.heap.size, 0, none⟩)), (9, .int .i64 op), (10, .bool false), (11, .bool false), (12, .bool false), (13, .pointer (some ⟨W.heap.size, 1, none⟩)), (14, .slice A n c), (15, .int .i64 n), (16, .pointer (some ⟨W.heap.size, 0, none⟩)), (17, .int .i64 op), (18, .int .i64 (arity op)), (19, .bool true), (20, .bool true)] ?hL3 (by kernel_rfl) ?hv3 ?hD3 ?hR3 ?hdo3 ?fin3
  case hL3 =>
    simp only [putD, Act.put]
    go_simp
    rfl
  case hv3 => kernel_rfl
  case hD3 => kernel_rfl
  case hdo3 =>
    intro i o ho
    match i, ho with
    | 0, ho =>
      cases ho
      refine .inl ⟨by kernel_rfl, fun w hR => ?_⟩
      first | (go_simp; done) | (go_simp; exact ⟨rfl, hR⟩) | (go_simp; exact ⟨Hx.out, hR⟩) | (go_simp; exact Hx.out)
    | 1, ho =>
      cases ho
      refine .inl ⟨by kernel_rfl, fun w hR => ?_⟩
      exact ow_hxf _ _ rfl hR (cs := #[.int .i64 op, .slice A n c]) (by simp) 0 (.int .i64 op) rfl rfl (by decide +kernel) ⟨rfl, hR⟩
    | 2, ho =>
      cases ho
      refine .inl ⟨by kernel_rfl, fun w hR => ?_⟩
      first | (go_simp; done) | (go_simp; exact ⟨rfl, hR⟩) | (go_simp; exact ⟨Hlt.out, hR⟩) | (go_simp; exact Hlt.out)
    | 3, ho =>
      cases ho
      refine .inl ⟨by kernel_rfl, fun w hR => ?_⟩
      first | (go_simp; done) | (go_simp; exact ⟨rfl, hR⟩) | (go_simp; exact ⟨Hlt.out, hR⟩) | (go_simp; exact Hlt.out)
    | 4, ho =>
      cases ho
      refine .inl ⟨by kernel_rfl, fun w hR => ?_⟩
      first | (go_simp; done) | (go_simp; exact ⟨rfl, hR⟩) | (go_simp; exact ⟨Hx.out, hR⟩) | (go_simp; exact Hx.out)
    | 5, ho =>
      cases ho
      refine .inl ⟨by kernel_rfl, fun w hR => ?_⟩
      exact ow_hxf _ _ rfl hR (cs := #[.int .i64 op, .slice A n c]) (by simp) 0 (.int .i64 op) rfl rfl (by decide +kernel) ⟨rfl, hR⟩
    | 6, ho =>
      cases ho
      refine .inl ⟨by kernel_rfl, fun w hR => ?_⟩
      first | (go_simp; done) | (go_simp; exact ⟨rfl, hR⟩) | (go_simp; exact ⟨Hgt.out, hR⟩) | (go_simp; exact Hgt.out)
    | 7, ho =>
      cases ho
      refine .inl ⟨by kernel_rfl, fun w hR => ?_⟩
      first | (go_simp; done) | (go_simp; exact ⟨rfl, hR⟩) | (go_simp; exact ⟨Hx.out, hR⟩) | (go_simp; exact Hx.out)
    | 8, ho =>
      cases ho
      refine .inl ⟨by kernel_rfl, fun w hR => ?_⟩
      first | (go_simp; done) | (go_simp; exact ⟨rfl, hR⟩) | (go_simp; exact ⟨Hx.out, hR⟩) | (go_simp; exact Hx.out)
    | 9, ho =>
      cases ho
      refine .inl ⟨by kernel_rfl, fun w hR => ?_⟩
      first | (go_simp; done) | (go_simp; exact ⟨rfl, hR⟩) | (go_simp; exact ⟨Hx.out, hR⟩) | (go_simp; exact Hx.out)
    | 10, ho =>
      cases ho
      refine .inl ⟨by kernel_rfl, fun w hR => ?_⟩
      exact ow_hxf _ _ rfl hR (cs := #[.int .i64 op, .slice A n c]) (by simp) 1 (.slice A n c) rfl rfl (by decide +kernel) ⟨rfl, hR⟩
    | 11, ho =>
      cases ho
      refine .inl ⟨by kernel_rfl, fun w hR => ?_⟩
      first | (go_simp; done) | (go_simp; exact ⟨rfl, hR⟩) | (go_simp; exact ⟨Hx.out, hR⟩) | (go_simp; exact Hx.out)
    | 12, ho =>
      cases ho
      refine .inl ⟨by kernel_rfl, fun w hR => ?_⟩
      first | (go_simp; done) | (go_simp; exact ⟨rfl, hR⟩) | (go_simp; exact ⟨Hx.out, hR⟩) | (go_simp; exact Hx.out)
    | 13, ho =>
      cases ho
      refine .inl ⟨by kernel_rfl, fun w hR => ?_⟩
      exact ow_hxf _ _ rfl hR (cs := #[.int .i64 op, .slice A n c]) (by simp) 0 (.int .i64 op) rfl rfl (by decide +kernel) ⟨rfl, hR⟩
    | 14, ho =>
      cases ho
      refine .inl ⟨by kernel_rfl, fun w hR => ?_⟩
      go_simp
      go_wp2_with fail
      refine (arityS_any op w).mono ?_
      rintro e w4 ⟨rfl, h5⟩
      exact ⟨rfl, hR.below h5⟩
    | 15, ho =>
      cases ho
      refine .inl ⟨by kernel_rfl, fun w hR => ?_⟩
      first | (go_simp; done) | (go_simp; exact ⟨rfl, hR⟩) | (go_simp; exact ⟨Hne.out, hR⟩) | (go_simp; exact Hne.out)
    | 16, ho =>
      cases ho
      refine .inl ⟨by kernel_rfl, fun w hR => ?_⟩
      first | (go_simp; done) | (go_simp; exact ⟨rfl, hR⟩) | (go_simp; exact ⟨Hx.out, hR⟩) | (go_simp; exact Hx.out)
    | i + 17, ho => simp at ho
  case hR3 => exact H1.out.drew
  case fin3 =>
    intro w2 h2
    have H2 := Lib.hid h2
    clear h2 H1
    go_wp2_with fail
    go_ret
    exact ⟨rfl, H2.out.1⟩
end Go.Proofs.YtgmdpgchffapoaaDoor.dev
