/-
  The walk of 'FnRealWhole': it returns true.
  Conditions: none.
-/
import Derived.Test.YtfppeppngodjjaaOpen
import Derived.Test.YtfppeppngodjjaaFlSub
namespace Go.Proofs.Ytfppeppngodjjaa.fnRealWhole
open Go.RowKit Go.Proofs.YtfppeppngodjjaaW.PrintWords Go.Proofs.Ytfppeppngodjjaa.draws Go.Proofs.Ytfppeppngodjjaa.flo
set_option linter.unusedVariables false
set_option linter.unusedSimpArgs false

/-- Whether a word lies between the two bounds, by the two tests. -/
theorem bounds (x : Nat) : ∃ p q, FloatKind.f64.format.order x 13898108587504304128 = p ∧ FloatKind.f64.format.order x 4674736413210574848 = q ∧ wholeOk x = (p == some .gt && q == some .lt) := by
  refine ⟨_, _, rfl, rfl, ?_⟩
  rcases cases_word x with h | h | h
  · have oa := ord_fin h c_a.2 c_a.1
    have ob := ord_fin h c_b.2 c_b.1
    rw [oa, ob]
    by_cases h1 : -32769 < fl.tr x
    · rw [comp_gt ((fl.lt_sv (by omega)).2 h1)]
      by_cases h2 : fl.tr x < 32768
      · rw [(whole_in h (by omega) (by omega)).1, comp_lt ((fl.sv_lt (by omega)).2 h2)]; rfl
      · rw [(whole_out (x := x) (by omega)).1]
        have hg : ¬ fl.sv x < 32768 * (fl.ONE : Int) := fun hh => h2 ((fl.sv_lt (by omega)).1 hh)
        rcases comp_ge hg with hh | hh <;> rw [hh] <;> rfl
    · rw [(whole_out (x := x) (by omega)).1]
      have hg : ¬ -32769 * (fl.ONE : Int) < fl.sv x := fun hh => h1 ((fl.lt_sv (by omega)).1 hh)
      rcases comp_le hg with hh | hh <;> rw [hh] <;> rfl
  · rw [ord_inf h c_a.2, ord_inf h c_b.2, (whole_out (x := x) (by intro hh; obtain ⟨m, e, e1, _⟩ := fl.read_fin hh.1; rw [e1] at h; cases h)).1]
    cases fl.neg x <;> rfl
  · rw [order_nan_left (y := 13898108587504304128) h, (whole_out (x := x) (by intro hh; obtain ⟨m, e, e1, _⟩ := fl.read_fin hh.1; rw [isNan, e1] at h; cases h)).1]
    rfl

theorem c_0 : fl.sv 0 = 0 * (fl.ONE : Int) ∧ fl.mag 0 < fl.INF := by decide +kernel
theorem c_1 : fl.sv 4607182418800017408 = 1 * (fl.ONE : Int) ∧ fl.mag 4607182418800017408 < fl.INF := by decide +kernel
theorem c_m : fl.sv 13830554455654793216 = -1 * (fl.ONE : Int) ∧ fl.mag 13830554455654793216 < fl.INF := by decide +kernel

/-- A word within the bounds, without its whole part. -/
theorem rest {x : Nat} (h : wholeOk x = true) : ∃ z o1 o2, floatBits .sub .f64 x (floatOfInt .f64 (whole x)) = some z ∧
    FloatKind.f64.format.order z 13830554455654793216 = some .gt ∧ FloatKind.f64.format.order z 4607182418800017408 = some .lt ∧
    FloatKind.f64.format.order x 0 = some o1 ∧ FloatKind.f64.format.order z 0 = some o2 ∧ (o1 = .lt ∧ (o2 = .lt ∨ o2 = .eq) ∨ o1 = .eq ∧ o2 = .eq ∨ o1 = .gt ∧ (o2 = .gt ∨ o2 = .eq)) := by
  have h0 : fl.mag x < fl.INF ∧ -32768 ≤ fl.tr x ∧ fl.tr x ≤ 32767 := of_decide_eq_true h
  obtain ⟨hx, ha, hb⟩ := h0
  rw [(whole_in hx ha hb).2]
  obtain ⟨hy, hs, _⟩ := fl.int_float (fl.tr x) (by omega)
  obtain ⟨r, hr, hv⟩ := fl.part_rung hx
  have hp := fl.sv_part x
  have hone := fl.ONE_pos
  have hlt : fl.V (fl.mag x) % fl.ONE < fl.ONE := Nat.mod_lt _ hone
  have hle : fl.V (fl.mag x) % fl.ONE ≤ fl.V (fl.mag x) := Nat.mod_le _ _
  obtain ⟨z, hz, hzm, hzs⟩ := fl.sub_exact hx hy (t := fl.sv x - fl.tr x * fl.ONE) (by rw [hs]) hr (by rw [hv, hp]; split <;> omega)
  rw [hp] at hzs
  have om := ord_fin hzm c_m.2 c_m.1
  have o1 := ord_fin hzm c_1.2 c_1.1
  have oz := ord_fin hzm c_0.2 c_0.1
  have ox := ord_fin hx c_0.2 c_0.1
  rw [hzs] at om o1 oz
  refine ⟨z, _, _, hz, ?_, ?_, ox, oz, ?_⟩
  · rw [om, comp_gt (by split <;> omega)]
  · rw [o1, comp_lt (by split <;> omega)]
  · unfold fl.sv
    generalize fl.V (fl.mag x) % fl.ONE = b at *
    generalize fl.V (fl.mag x) = v at *
    cases fl.neg x
    · simp only [Bool.false_eq_true, if_false, Int.zero_mul]
      by_cases hv0 : v = 0
      · have hb0 : b = 0 := by omega
        subst hv0 hb0
        exact .inr (.inl ⟨rfl, rfl⟩)
      · rw [comp_gt (show (0 : Int) < v by omega)]
        right; right
        refine ⟨rfl, ?_⟩
        rcases comp_ge (show ¬ (b : Int) < 0 by omega) with e | e
        · exact .inl e
        · exact .inr e
    · simp only [if_true, Int.zero_mul]
      by_cases hv0 : v = 0
      · have hb0 : b = 0 := by omega
        subst hv0 hb0
        exact .inr (.inl ⟨rfl, rfl⟩)
      · rw [comp_lt (show -(v : Int) < 0 by omega)]
        left
        refine ⟨rfl, ?_⟩
        rcases comp_le (show ¬ (0 : Int) < -(b : Int) by omega) with e | e
        · exact .inl e
        · exact .inr e

theorem walk (W : World) (base : Nat) (v0 : Value) (o0 : Value.okWide Try.prog W .any base 30 v0) (b0 : kit.Bytes W v0) :
    Calls Try.prog 6 #[v0] W fun e w' => e = .returned (.bool true) ∧ Below W.heap.size W w' := by
  clear o0
  obtain ⟨A, len, cap, zs, rfl, h, y⟩ := b0
  obtain ⟨l, rfl, hr, hm, hw, hc⟩ := ReadsInt.ofRowC h
  have HR := Lib.hid hr
  have HC := Lib.hid hc
  have HW := Lib.hid hw
  clear h y hr hw hc
  by_cases hl : (l.length : Int) > 1048576
  · clear HR HC HW
    go_enter Try.func6, Try.ntmps6
    go_wp2
    go_ret
    exact ⟨rfl, Below.refl _ _⟩
  have HL : Hid (l.length ≤ 1048576) := Lib.hid (by omega)
  go_enter Try.func6, Try.ntmps6
  go_wp2_with fail
  refine (drawWhole HR.out HC.out HL.out HW.out).mono ?_
  rintro e w1 ⟨o, a, b, rfl, ha, h1⟩
  have H1 := Lib.hid h1
  have hfl := fl.int_float a (by omega)
  have hwi := whole_in hfl.1 (by rw [hfl.2.2]; omega) (by rw [hfl.2.2]; omega)
  rw [hfl.2.2] at hwi
  have Hwi := Lib.hid hwi
  clear h1 ha hfl hwi
  go_wp2_with fail
  refine (impl_whole _ _).mono ?_
  rintro e w2 ⟨rfl, h2⟩
  rw [Hwi.out.1, Hwi.out.2]
  have H2 := Lib.hid (below_step H1.out h2)
  clear h2 H1 Hwi
  go_wp2_with fail
  refine (drawRealWhole (HR.out.below H2.out) HC.out HL.out HW.out).mono ?_
  rintro e w3 ⟨x, rfl, h3⟩
  have H3 := Lib.hid (below_step H2.out h3)
  clear h3 H2 HR HC HW HL hl
  go_wp2_with fail
  refine (impl_whole _ _).mono ?_
  rintro e w4 ⟨rfl, h4⟩
  have H4 := Lib.hid (below_step H3.out h4)
  clear h4 H3
  cases hok : wholeOk x with
  | false =>
    have hwz : flo.whole x = 0 := by unfold flo.whole; rw [hok]; rfl
    rw [hwz]
    obtain ⟨p, q, hp, hq, hpq⟩ := bounds x
    rw [hok] at hpq
    have Hpq := Lib.hid hpq
    clear hok hwz hpq
    rcases p with _ | _ | _ | _
    all_goals
      rcases q with _ | _ | _ | _
      all_goals
        first
        | (exfalso; exact absurd Hpq.out (by decide))
        | (go_wp2_with fail
           go_ret
           exact ⟨rfl, H4.out⟩)
  | true =>
    obtain ⟨z, o1, o2, hz, hm1, hp1, ho1, ho2, hcase⟩ := rest hok
    have hrun := fun w => run_float_arith (P := Try.prog) w .sub 22 .f64 _ _ _ hz
    have Hcase := Lib.hid hcase
    clear hcase hz hok
    generalize flo.whole x = n at *
    cases o1
    all_goals
      cases o2
      all_goals
        first
        | (exfalso; exact absurd Hcase.out (by decide))
        | (go_wp2_with fail
           go_ret
           exact ⟨rfl, H4.out⟩)
end Go.Proofs.Ytfppeppngodjjaa.fnRealWhole
