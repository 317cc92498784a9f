-- PRINTED BY print.sh 35421559b90ae4d0a3588c463048766b98c2df88dd9212a6774a882060cdf62d: not written by this session
import Derived.Test.YtfppeppngodjjaaPFnWrapx0
import Derived.Test.YtfppeppngodjjaaPFnWrapx1
namespace Go.Proofs.Ytfppeppngodjjaa.PFnWrap
open Go.RowKit Go.Proofs.YtfppeppngodjjaaW.PrintWords Go.Proofs.YtfppeppngodjjaaW.PrintLast Go.Proofs.YtfppeppngodjjaaW.PrintMore
attribute [local go_sem] max2_int min2_int max_two min_two max_three min_three max_four min_four   -- for this text's walks alone
set_option linter.unusedVariables false
set_option linter.unusedSimpArgs false

/-! ### laws_FnWrap: function 5 -/
mutual
def laws_FnWrap.j0 : Nat → Int → Int → Int → Bool → Option (Bool)
  | 0, _, _, _, _ => none
  | k + 1, x4, x5, x6, x55 => if x55 = true then (some false) else ((impl_WholeCalc.f k 1 x5 x4).bind fun bt148 => ((impl_WholeCalc.f k 3 x4 x5).bind fun bt150 => ((impl_WholeCalc.f k 3 x5 x4).bind fun bt152 => ((impl_WholeCalc.f k 4 x4 x5).bind fun bt154 => ((impl_WholeCalc.f k 5 x4 x5).bind fun bt156 => (if x6 = bt148.1 then (if bt150.1 = bt152.1 then (if (bt154.2 != (x5 != 0)) = true then (laws_FnWrap.j1 k x4 x5 bt154.1 bt154.2 bt156.1 true) else (laws_FnWrap.j1 k x4 x5 bt154.1 bt154.2 bt156.1 (bt156.2 != bt154.2))) else (laws_FnWrap.j1 k x4 x5 bt154.1 bt154.2 bt156.1 true)) else (laws_FnWrap.j1 k x4 x5 bt154.1 bt154.2 bt156.1 true)))))))
def laws_FnWrap.j1 : Nat → Int → Int → Int → Bool → Int → Bool → Option (Bool)
  | 0, _, _, _, _, _, _ => none
  | k + 1, x4, x5, x16, x17, x18, x104 => if x104 = true then (some false) else ((impl_WholeCalc.f k 3 x16 x5).bind fun bt158 => ((impl_WholeCalc.f k 1 bt158.1 x18).bind fun bt160 => (if x17 = true then (some (bt160.1 == x4)) else (some true))))
end
def laws_FnWrap.f (k : Nat) (l0 : List Int) : Option (Bool) := if (l0.length : Int) > 1048576 then (some true) else ((spec_DrawWholeCalc.f k l0).bind fun bt141 => ((impl_WholeCalc.f k 1 bt141.2.1 bt141.2.2).bind fun bt144 => ((impl_WholeCalc.f k 2 bt144.1 bt141.2.2).bind fun bt146 => (if bt144.2 = true then (if bt146.2 = true then (laws_FnWrap.j0 k bt141.2.1 bt141.2.2 bt144.1 (bt146.1 != bt141.2.1)) else (laws_FnWrap.j0 k bt141.2.1 bt141.2.2 bt144.1 true)) else (laws_FnWrap.j0 k bt141.2.1 bt141.2.2 bt144.1 true)))))
theorem laws_FnWrap.mono_l : ∀ k, (∀ y0 y1 y2 y3, LeO (laws_FnWrap.j0 k y0 y1 y2 y3) (laws_FnWrap.j0 (k + 1) y0 y1 y2 y3)) ∧ (∀ y0 y1 y2 y3 y4 y5, LeO (laws_FnWrap.j1 k y0 y1 y2 y3 y4 y5) (laws_FnWrap.j1 (k + 1) y0 y1 y2 y3 y4 y5))
  | 0 => ⟨fun _ _ _ _ r h => by simp [laws_FnWrap.j0] at h, fun _ _ _ _ _ _ r h => by simp [laws_FnWrap.j1] at h⟩
  | k + 1 => by
    obtain ⟨ih0, ih1⟩ := laws_FnWrap.mono_l k
    refine ⟨?_, ?_⟩
    · intro y0 y1 y2 y3
      unfold laws_FnWrap.j0
      repeat' first
      | (with_reducible exact ih0 _ _ _ _)
      | (with_reducible exact ih1 _ _ _ _ _ _)
      | (with_reducible exact impl_WholeCalc.mono _ _ _ _)
      | (with_reducible exact spec_DrawWholeCalc.mono _ _)
      | (with_reducible exact LeO.refl _)
      | (with_reducible exact LeO.none _)
      | (with_reducible refine LeO.ite ?_ ?_)
      | (with_reducible refine LeO.bind ?_ (fun _ => ?_))
      | exact ih0 _ _ _ _
      | exact ih1 _ _ _ _ _ _
      | exact impl_WholeCalc.mono _ _ _ _
      | exact spec_DrawWholeCalc.mono _ _
      | exact LeO.none _
      | refine LeO.ite ?_ ?_
      | refine LeO.bind ?_ (fun _ => ?_)
    · intro y0 y1 y2 y3 y4 y5
      unfold laws_FnWrap.j1
      repeat' first
      | (with_reducible exact ih0 _ _ _ _)
      | (with_reducible exact ih1 _ _ _ _ _ _)
      | (with_reducible exact impl_WholeCalc.mono _ _ _ _)
      | (with_reducible exact spec_DrawWholeCalc.mono _ _)
      | (with_reducible exact LeO.refl _)
      | (with_reducible exact LeO.none _)
      | (with_reducible refine LeO.ite ?_ ?_)
      | (with_reducible refine LeO.bind ?_ (fun _ => ?_))
      | exact ih0 _ _ _ _
      | exact ih1 _ _ _ _ _ _
      | exact impl_WholeCalc.mono _ _ _ _
      | exact spec_DrawWholeCalc.mono _ _
      | exact LeO.none _
      | refine LeO.ite ?_ ?_
      | refine LeO.bind ?_ (fun _ => ?_)
theorem laws_FnWrap.mono : ∀ a0 k, LeO (laws_FnWrap.f k a0) (laws_FnWrap.f (k + 1) a0) := by
  intro a0 k
  obtain ⟨ih0, ih1⟩ := laws_FnWrap.mono_l k
  unfold laws_FnWrap.f
  repeat' first
      | (with_reducible exact ih0 _ _ _ _)
      | (with_reducible exact ih1 _ _ _ _ _ _)
      | (with_reducible exact impl_WholeCalc.mono _ _ _ _)
      | (with_reducible exact spec_DrawWholeCalc.mono _ _)
      | (with_reducible exact LeO.refl _)
      | (with_reducible exact LeO.none _)
      | (with_reducible refine LeO.ite ?_ ?_)
      | (with_reducible refine LeO.bind ?_ (fun _ => ?_))
      | exact ih0 _ _ _ _
      | exact ih1 _ _ _ _ _ _
      | exact impl_WholeCalc.mono _ _ _ _
      | exact spec_DrawWholeCalc.mono _ _
      | exact LeO.none _
      | refine LeO.ite ?_ ?_
      | refine LeO.bind ?_ (fun _ => ?_)
set_option maxHeartbeats 8000000 in
set_option maxRecDepth 100000 in
theorem laws_FnWrap.calls (k : Nat) (A0 : Option Addr) (c0 : Nat) (l0 : List Int) (r : Bool) (w : World) (hr0 : Kd.C (Kd.int .u8) w A0 l0.length l0) (hc0 : l0.length ≤ c0) (h : laws_FnWrap.f k l0 = some r) :
    Calls Try.prog 5 #[.slice A0 l0.length c0] w fun e w' => e = .returned (.bool r) ∧ Below w.heap.size w w' := by
  have HR0 := Aside0.mk hr0
  have HC0 := Aside0.mk hc0
  clear hr0 hc0
  have HB := Aside0.mk (Below.refl w.heap.size w)
  have H : (if (l0.length : Int) > 1048576 then (some true) else ((spec_DrawWholeCalc.f k l0).bind fun bt141 => ((impl_WholeCalc.f k 1 bt141.2.1 bt141.2.2).bind fun bt144 => ((impl_WholeCalc.f k 2 bt144.1 bt141.2.2).bind fun bt146 => (if bt144.2 = true then (if bt146.2 = true then (laws_FnWrap.j0 k bt141.2.1 bt141.2.2 bt144.1 (bt146.1 != bt141.2.1)) else (laws_FnWrap.j0 k bt141.2.1 bt141.2.2 bt144.1 true)) else (laws_FnWrap.j0 k bt141.2.1 bt141.2.2 bt144.1 true)))))) = some r := h
  clear h
  by_cases c2 : (l0.length : Int) > 1048576
  · rw [if_pos c2] at H
    have c2b0 : decide (1048576 < (l0.length : Int)) = true := decide_eq_true c2
    have c2b1 : decide (1048576 < l0.length) = true := decide_eq_true (by omega)
    clear c2
    obtain rfl := Option.some.inj H
    go_enter Try.func5, Try.ntmps5
    go_wp2
    go_ret
    exact ⟨by first | rfl | (simp [errW_none, errW_some] <;> rfl) | (simp [*, errW_none, errW_some] <;> rfl), by repeat (first | (with_reducible first | exact HB.out | apply below_alloc | apply pw_below_drewN | apply below_drew1) | exact HB.out)⟩
  · rw [if_neg c2] at H
    have c2b0 : decide (1048576 < (l0.length : Int)) = false := decide_eq_false c2
    have c2b1 : decide (1048576 < l0.length) = false := decide_eq_false (by omega)
    clear c2
    replace H := Option.bind_eq_some_iff.mp H
    obtain ⟨⟨t141, t142, t143⟩, A30, H⟩ := H
    replace H : ((impl_WholeCalc.f k 1 t142 t143).bind fun bt144 => ((impl_WholeCalc.f k 2 bt144.1 t143).bind fun bt146 => (if bt144.2 = true then (if bt146.2 = true then (laws_FnWrap.j0 k t142 t143 bt144.1 (bt146.1 != t142)) else (laws_FnWrap.j0 k t142 t143 bt144.1 true)) else (laws_FnWrap.j0 k t142 t143 bt144.1 true)))) = some r := H
    have A3 := Aside0.mk A30
    clear A30
    replace H := Option.bind_eq_some_iff.mp H
    obtain ⟨⟨t144, t145⟩, A40, H⟩ := H
    replace H : ((impl_WholeCalc.f k 2 t144 t143).bind fun bt146 => (if t145 = true then (if bt146.2 = true then (laws_FnWrap.j0 k t142 t143 t144 (bt146.1 != t142)) else (laws_FnWrap.j0 k t142 t143 t144 true)) else (laws_FnWrap.j0 k t142 t143 t144 true))) = some r := H
    have A4 := Aside0.mk A40
    clear A40
    replace H := Option.bind_eq_some_iff.mp H
    obtain ⟨⟨t146, t147⟩, A50, H⟩ := H
    replace H : (if t145 = true then (if t147 = true then (laws_FnWrap.j0 k t142 t143 t144 (t146 != t142)) else (laws_FnWrap.j0 k t142 t143 t144 true)) else (laws_FnWrap.j0 k t142 t143 t144 true)) = some r := H
    have A5 := Aside0.mk A50
    clear A50
    have HC6 := Aside0.mk H
    clear H
    go_enter Try.func5, Try.ntmps5
    go_upto_region 6 with (first | ((with_reducible refine gate_callee (f := 12) rfl ?_); refine goesL_ (some 29) rfl rfl Try.func12 (by kernel_rfl) rfl #[.slice A0 l0.length c0] rfl (by (try simp only [List.map_toArray, List.map_cons, List.map_nil]); first | done | rfl | (simp only [List.length_drop, List.length_take]; rfl)) ?_; (with_reducible refine (spec_DrawWholeCalc.calls k _ _ l0 t141 t142 t143 _ ?side1 ?side2 A3.out).mono ?_); (case side1 => repeat (first | exact HR0.out | (with_reducible refine Kd.C_alloc ?_ _) | (with_reducible refine Kd.C_drewN ?_ _) | (with_reducible refine Kd.C_drew ?_))); (case side2 => exact HC0.out); rintro e w7 ⟨rfl, hb⟩; refine ⟨_, rfl, ?_⟩; have n0_ := Aside0.mk (below_step (by repeat (first | (with_reducible first | exact HB.out | apply below_alloc | apply pw_below_drewN | apply below_drew1) | exact HB.out)) hb); clear HB; have HB := n0_; clear n0_; (try clear hb); (try clear hb2); (try clear hk); (try clear hi)) | ((with_reducible refine gate_callee (f := 13) rfl ?_); refine goesL_ (some 36) rfl rfl Try.func13 (by kernel_rfl) rfl #[.int .i64 1, .int .i16 t142, .int .i16 t143] rfl (by (try simp only [List.map_toArray, List.map_cons, List.map_nil]); first | done | rfl | (simp only [List.length_drop, List.length_take]; rfl)) ?_; (with_reducible refine (impl_WholeCalc.calls k 1 t142 t143 t144 t145 _ A4.out).mono ?_); rintro e w' ⟨rfl, ⟨nd, rfl⟩⟩; refine ⟨_, rfl, ?_⟩) | ((with_reducible refine gate_callee (f := 13) rfl ?_); refine goesL_ (some 42) rfl rfl Try.func13 (by kernel_rfl) rfl #[.int .i64 2, .int .i16 t144, .int .i16 t143] rfl (by (try simp only [List.map_toArray, List.map_cons, List.map_nil]); first | done | rfl | (simp only [List.length_drop, List.length_take]; rfl)) ?_; (with_reducible refine (impl_WholeCalc.calls k 2 t144 t143 t146 t147 _ A5.out).mono ?_); rintro e w' ⟨rfl, ⟨nd, rfl⟩⟩; refine ⟨_, rfl, ?_⟩))
    (try simp only [Act.put, List.setIfInBounds_toArray, List.set_cons_zero, List.set_cons_succ])
    go_cut [55] (fun v55 wc => ∃ (kq : Nat) (x55_5 : Bool), v55 = .bool x55_5 ∧ Aside0 (laws_FnWrap.j0 kq t142 t143 t144 x55_5 = some r) ∧ Aside0 (kq ≤ k) ∧ Aside0 (Below w.heap.size w wc))
    case first =>
      have H := HC6.out
      clear HC6
      by_cases c8 : t145 = true
      · subst c8
        have H1 : (if t147 = true then (laws_FnWrap.j0 k t142 t143 t144 (t146 != t142)) else (laws_FnWrap.j0 k t142 t143 t144 true)) = some r := by rw [if_pos rfl] at H; exact H
        clear H
        have H := H1
        clear H1
        by_cases c9 : t147 = true
        · subst c9
          have H1 : (laws_FnWrap.j0 k t142 t143 t144 (t146 != t142)) = some r := by rw [if_pos rfl] at H; exact H
          clear H
          have H := H1
          clear H1
          have H' := Aside0.mk H
          clear H
          go_wp2
          go_meet
          case rel => exact ⟨_, ((t146 != t142)), (by first | rfl | (simp; done) | (simp [*]; done)), H', ⟨by first | omega | exact Nat.le_refl _⟩, ⟨by repeat (first | (with_reducible first | exact HB.out | apply below_alloc | apply pw_below_drewN | apply below_drew1) | exact HB.out)⟩⟩
        · replace c9 := Bool.eq_false_iff.mpr c9
          subst c9
          have H1 : (laws_FnWrap.j0 k t142 t143 t144 true) = some r := by rw [if_neg (show ¬ (false = true) by decide)] at H; exact H
          clear H
          have H := H1
          clear H1
          have H' := Aside0.mk H
          clear H
          go_wp2
          go_meet
          case rel => exact ⟨_, (true), (by first | rfl | (simp; done) | (simp [*]; done)), H', ⟨by first | omega | exact Nat.le_refl _⟩, ⟨by repeat (first | (with_reducible first | exact HB.out | apply below_alloc | apply pw_below_drewN | apply below_drew1) | exact HB.out)⟩⟩
      · replace c8 := Bool.eq_false_iff.mpr c8
        subst c8
        have H1 : (laws_FnWrap.j0 k t142 t143 t144 true) = some r := by rw [if_neg (show ¬ (false = true) by decide)] at H; exact H
        clear H
        have H := H1
        clear H1
        have H' := Aside0.mk H
        clear H
        go_wp2
        go_meet
        case rel => exact ⟨_, (true), (by first | rfl | (simp; done) | (simp [*]; done)), H', ⟨by first | omega | exact Nat.le_refl _⟩, ⟨by repeat (first | (with_reducible first | exact HB.out | apply below_alloc | apply pw_below_drewN | apply below_drew1) | exact HB.out)⟩⟩
    case rest =>
      clear HC6
      try clear c1
      try clear c2
      try clear c2b0
      try clear c2b1
      try clear p2
      try clear c5
      try clear c8
      try clear c9
      obtain ⟨kq, x55_5, rfl, HA, HJ5, HB⟩ := hcut
      cases kq with
      | zero => exact absurd HA.out (by simp [laws_FnWrap.j0])
      | succ kj5 =>
        have H := HA.out
        clear HA
        simp only [laws_FnWrap.j0] at H
        by_cases c10 : x55_5 = true
        · subst c10
          have H1 : (some false) = some r := by rw [if_pos rfl] at H; exact H
          clear H
          have H := H1
          clear H1
          obtain rfl := Option.some.inj H
          go_wp2
          go_ret
          exact ⟨by first | rfl | (simp [errW_none, errW_some] <;> rfl) | (simp [*, errW_none, errW_some] <;> rfl), by repeat (first | (with_reducible first | exact HB.out | apply below_alloc | apply pw_below_drewN | apply below_drew1) | exact HB.out)⟩
        · replace c10 := Bool.eq_false_iff.mpr c10
          subst c10
          have H1 : ((impl_WholeCalc.f kj5 1 t143 t142).bind fun bt148 => ((impl_WholeCalc.f kj5 3 t142 t143).bind fun bt150 => ((impl_WholeCalc.f kj5 3 t143 t142).bind fun bt152 => ((impl_WholeCalc.f kj5 4 t142 t143).bind fun bt154 => ((impl_WholeCalc.f kj5 5 t142 t143).bind fun bt156 => (if t144 = bt148.1 then (if bt150.1 = bt152.1 then (if (bt154.2 != (t143 != 0)) = true then (laws_FnWrap.j1 kj5 t142 t143 bt154.1 bt154.2 bt156.1 true) else (laws_FnWrap.j1 kj5 t142 t143 bt154.1 bt154.2 bt156.1 (bt156.2 != bt154.2))) else (laws_FnWrap.j1 kj5 t142 t143 bt154.1 bt154.2 bt156.1 true)) else (laws_FnWrap.j1 kj5 t142 t143 bt154.1 bt154.2 bt156.1 true))))))) = some r := by rw [if_neg (show ¬ (false = true) by decide)] at H; exact H
          clear H
          have H := H1
          clear H1
          replace H := Option.bind_eq_some_iff.mp H
          obtain ⟨⟨t148, t149⟩, A110, H⟩ := H
          replace H : ((impl_WholeCalc.f kj5 3 t142 t143).bind fun bt150 => ((impl_WholeCalc.f kj5 3 t143 t142).bind fun bt152 => ((impl_WholeCalc.f kj5 4 t142 t143).bind fun bt154 => ((impl_WholeCalc.f kj5 5 t142 t143).bind fun bt156 => (if t144 = t148 then (if bt150.1 = bt152.1 then (if (bt154.2 != (t143 != 0)) = true then (laws_FnWrap.j1 kj5 t142 t143 bt154.1 bt154.2 bt156.1 true) else (laws_FnWrap.j1 kj5 t142 t143 bt154.1 bt154.2 bt156.1 (bt156.2 != bt154.2))) else (laws_FnWrap.j1 kj5 t142 t143 bt154.1 bt154.2 bt156.1 true)) else (laws_FnWrap.j1 kj5 t142 t143 bt154.1 bt154.2 bt156.1 true)))))) = some r := H
          have A11 := Aside0.mk A110
          clear A110
          replace H := Option.bind_eq_some_iff.mp H
          obtain ⟨⟨t150, t151⟩, A120, H⟩ := H
          replace H : ((impl_WholeCalc.f kj5 3 t143 t142).bind fun bt152 => ((impl_WholeCalc.f kj5 4 t142 t143).bind fun bt154 => ((impl_WholeCalc.f kj5 5 t142 t143).bind fun bt156 => (if t144 = t148 then (if t150 = bt152.1 then (if (bt154.2 != (t143 != 0)) = true then (laws_FnWrap.j1 kj5 t142 t143 bt154.1 bt154.2 bt156.1 true) else (laws_FnWrap.j1 kj5 t142 t143 bt154.1 bt154.2 bt156.1 (bt156.2 != bt154.2))) else (laws_FnWrap.j1 kj5 t142 t143 bt154.1 bt154.2 bt156.1 true)) else (laws_FnWrap.j1 kj5 t142 t143 bt154.1 bt154.2 bt156.1 true))))) = some r := H
          have A12 := Aside0.mk A120
          clear A120
          replace H := Option.bind_eq_some_iff.mp H
          obtain ⟨⟨t152, t153⟩, A130, H⟩ := H
          replace H : ((impl_WholeCalc.f kj5 4 t142 t143).bind fun bt154 => ((impl_WholeCalc.f kj5 5 t142 t143).bind fun bt156 => (if t144 = t148 then (if t150 = t152 then (if (bt154.2 != (t143 != 0)) = true then (laws_FnWrap.j1 kj5 t142 t143 bt154.1 bt154.2 bt156.1 true) else (laws_FnWrap.j1 kj5 t142 t143 bt154.1 bt154.2 bt156.1 (bt156.2 != bt154.2))) else (laws_FnWrap.j1 kj5 t142 t143 bt154.1 bt154.2 bt156.1 true)) else (laws_FnWrap.j1 kj5 t142 t143 bt154.1 bt154.2 bt156.1 true)))) = some r := H
          have A13 := Aside0.mk A130
          clear A130
          replace H := Option.bind_eq_some_iff.mp H
          obtain ⟨⟨t154, t155⟩, A140, H⟩ := H
          replace H : ((impl_WholeCalc.f kj5 5 t142 t143).bind fun bt156 => (if t144 = t148 then (if t150 = t152 then (if (t155 != (t143 != 0)) = true then (laws_FnWrap.j1 kj5 t142 t143 t154 t155 bt156.1 true) else (laws_FnWrap.j1 kj5 t142 t143 t154 t155 bt156.1 (bt156.2 != t155))) else (laws_FnWrap.j1 kj5 t142 t143 t154 t155 bt156.1 true)) else (laws_FnWrap.j1 kj5 t142 t143 t154 t155 bt156.1 true))) = some r := H
          have A14 := Aside0.mk A140
          clear A140
          replace H := Option.bind_eq_some_iff.mp H
          obtain ⟨⟨t156, t157⟩, A150, H⟩ := H
          replace H : (if t144 = t148 then (if t150 = t152 then (if (t155 != (t143 != 0)) = true then (laws_FnWrap.j1 kj5 t142 t143 t154 t155 t156 true) else (laws_FnWrap.j1 kj5 t142 t143 t154 t155 t156 (t157 != t155))) else (laws_FnWrap.j1 kj5 t142 t143 t154 t155 t156 true)) else (laws_FnWrap.j1 kj5 t142 t143 t154 t155 t156 true)) = some r := H
          have A15 := Aside0.mk A150
          clear A150
          have HC16 := Aside0.mk H
          clear H
          go_upto_region 13 with (first | ((with_reducible refine gate_callee (f := 13) rfl ?_); refine goesL_ (some 59) rfl rfl Try.func13 (by kernel_rfl) rfl #[.int .i64 1, .int .i16 t143, .int .i16 t142] rfl (by (try simp only [List.map_toArray, List.map_cons, List.map_nil]); first | done | rfl | (simp only [List.length_drop, List.length_take]; rfl)) ?_; (with_reducible refine (impl_WholeCalc.calls kj5 1 t143 t142 t148 t149 _ A11.out).mono ?_); rintro e w' ⟨rfl, ⟨nd, rfl⟩⟩; refine ⟨_, rfl, ?_⟩) | ((with_reducible refine gate_callee (f := 13) rfl ?_); refine goesL_ (some 65) rfl rfl Try.func13 (by kernel_rfl) rfl #[.int .i64 3, .int .i16 t142, .int .i16 t143] rfl (by (try simp only [List.map_toArray, List.map_cons, List.map_nil]); first | done | rfl | (simp only [List.length_drop, List.length_take]; rfl)) ?_; (with_reducible refine (impl_WholeCalc.calls kj5 3 t142 t143 t150 t151 _ A12.out).mono ?_); rintro e w' ⟨rfl, ⟨nd, rfl⟩⟩; refine ⟨_, rfl, ?_⟩) | ((with_reducible refine gate_callee (f := 13) rfl ?_); refine goesL_ (some 71) rfl rfl Try.func13 (by kernel_rfl) rfl #[.int .i64 3, .int .i16 t143, .int .i16 t142] rfl (by (try simp only [List.map_toArray, List.map_cons, List.map_nil]); first | done | rfl | (simp only [List.length_drop, List.length_take]; rfl)) ?_; (with_reducible refine (impl_WholeCalc.calls kj5 3 t143 t142 t152 t153 _ A13.out).mono ?_); rintro e w' ⟨rfl, ⟨nd, rfl⟩⟩; refine ⟨_, rfl, ?_⟩) | ((with_reducible refine gate_callee (f := 13) rfl ?_); refine goesL_ (some 77) rfl rfl Try.func13 (by kernel_rfl) rfl #[.int .i64 4, .int .i16 t142, .int .i16 t143] rfl (by (try simp only [List.map_toArray, List.map_cons, List.map_nil]); first | done | rfl | (simp only [List.length_drop, List.length_take]; rfl)) ?_; (with_reducible refine (impl_WholeCalc.calls kj5 4 t142 t143 t154 t155 _ A14.out).mono ?_); rintro e w' ⟨rfl, ⟨nd, rfl⟩⟩; refine ⟨_, rfl, ?_⟩) | ((with_reducible refine gate_callee (f := 13) rfl ?_); refine goesL_ (some 83) rfl rfl Try.func13 (by kernel_rfl) rfl #[.int .i64 5, .int .i16 t142, .int .i16 t143] rfl (by (try simp only [List.map_toArray, List.map_cons, List.map_nil]); first | done | rfl | (simp only [List.length_drop, List.length_take]; rfl)) ?_; (with_reducible refine (impl_WholeCalc.calls kj5 5 t142 t143 t156 t157 _ A15.out).mono ?_); rintro e w' ⟨rfl, ⟨nd, rfl⟩⟩; refine ⟨_, rfl, ?_⟩))
          (try simp only [Act.put, List.setIfInBounds_toArray, List.set_cons_zero, List.set_cons_succ])
          go_cut [104] (fun v104 wc => ∃ (kq : Nat) (x104_15 : Bool), v104 = .bool x104_15 ∧ Aside0 (laws_FnWrap.j1 kq t142 t143 t154 t155 t156 x104_15 = some r) ∧ Aside0 (kq ≤ kj5) ∧ Aside0 (Below w.heap.size w wc))
          case first =>
            have H := HC16.out
            clear HC16
            by_cases c17 : t144 = t148
            · rw [if_pos c17] at H
              have c17b0 : (t144 == t148) = true := beq_iff_eq.mpr c17
              have c17b1 : (t144 != t148) = false := bne_eq_false_iff_eq.mpr c17
              clear c17
              (first | rw [c17b0] | (simp only [i64_w, i32_w]; rw [c17b0]) | skip)
              by_cases c18 : t150 = t152
              · rw [if_pos c18] at H
                have c18b0 : (t150 == t152) = true := beq_iff_eq.mpr c18
                have c18b1 : (t150 != t152) = false := bne_eq_false_iff_eq.mpr c18
                clear c18
                by_cases c19 : (t155 != (t143 != 0)) = true
                · rw [if_pos c19] at H
                  have c19b0 : (t155 != (t143 != 0)) = true := c19
                  (try (have c19b1 : decide (t155 = (t143 != 0)) = false := by simpa using c19))
                  (try (have c19b2 : (t155 == (t143 != 0)) = false := by simpa using c19))
                  (try (have c19b3 : ¬ (t155 = (t143 != 0)) := by simpa using c19))
                  clear c19
                  have H' := Aside0.mk H
                  clear H
                  go_wp2
                  go_meet
                  case rel => exact ⟨_, (true), (by first | rfl | (simp; done) | (simp [*]; done)), H', ⟨by have := HJ5.out; first | omega | exact Nat.le_refl _⟩, ⟨by repeat (first | (with_reducible first | exact HB.out | apply below_alloc | apply pw_below_drewN | apply below_drew1) | exact HB.out)⟩⟩
                · rw [if_neg c19] at H
                  have c19b0 : (t155 != (t143 != 0)) = false := by simpa using c19
                  (try (have c19b1 : decide (t155 = (t143 != 0)) = true := by simpa using c19))
                  (try (have c19b2 : (t155 == (t143 != 0)) = true := by simpa using c19))
                  clear c19
                  have H' := Aside0.mk H
                  clear H
                  go_wp2
                  go_meet
                  case rel => exact ⟨_, ((t157 != t155)), (by first | rfl | (simp; done) | (simp [*]; done)), H', ⟨by have := HJ5.out; first | omega | exact Nat.le_refl _⟩, ⟨by repeat (first | (with_reducible first | exact HB.out | apply below_alloc | apply pw_below_drewN | apply below_drew1) | exact HB.out)⟩⟩
              · rw [if_neg c18] at H
                have c18b0 : (t150 == t152) = false := beq_eq_false_iff_ne.mpr c18
                have c18b1 : (t150 != t152) = true := bne_iff_ne.mpr c18
                have H' := Aside0.mk H
                clear H
                go_wp2
                go_meet
                case rel => exact ⟨_, (true), (by first | rfl | (simp; done) | (simp [*]; done)), H', ⟨by have := HJ5.out; first | omega | exact Nat.le_refl _⟩, ⟨by repeat (first | (with_reducible first | exact HB.out | apply below_alloc | apply pw_below_drewN | apply below_drew1) | exact HB.out)⟩⟩
            · rw [if_neg c17] at H
              have c17b0 : (t144 == t148) = false := beq_eq_false_iff_ne.mpr c17
              have c17b1 : (t144 != t148) = true := bne_iff_ne.mpr c17
              (first | rw [c17b0] | (simp only [i64_w, i32_w]; rw [c17b0]) | skip)
              have H' := Aside0.mk H
              clear H
              go_wp2
              go_meet
              case rel => exact ⟨_, (true), (by first | rfl | (simp; done) | (simp [*]; done)), H', ⟨by have := HJ5.out; first | omega | exact Nat.le_refl _⟩, ⟨by repeat (first | (with_reducible first | exact HB.out | apply below_alloc | apply pw_below_drewN | apply below_drew1) | exact HB.out)⟩⟩
          case rest =>
            clear HC16
            try clear c1
            try clear c2
            try clear c2b0
            try clear c2b1
            try clear p2
            try clear c5
            try clear c8
            try clear c9
            try clear c10
            try clear c12
            try clear c13
            try clear c17
            try clear c17b0
            try clear c17b1
            try clear c18
            try clear c18b0
            try clear c18b1
            try clear c19
            try clear c19b0
            try clear c19b1
            try clear c19b2
            try clear p2
            obtain ⟨kq, x104_15, rfl, HA, HJ15, HB⟩ := hcut
            cases kq with
            | zero => exact absurd HA.out (by simp [laws_FnWrap.j1])
            | succ kj15 =>
              have H := HA.out
              clear HA
              simp only [laws_FnWrap.j1] at H
              by_cases c20 : x104_15 = true
              · subst c20
                have H1 : (some false) = some r := by rw [if_pos rfl] at H; exact H
                clear H
                have H := H1
                clear H1
                obtain rfl := Option.some.inj H
                go_wp2
                go_ret
                exact ⟨by first | rfl | (simp [errW_none, errW_some] <;> rfl) | (simp [*, errW_none, errW_some] <;> rfl), by repeat (first | (with_reducible first | exact HB.out | apply below_alloc | apply pw_below_drewN | apply below_drew1) | exact HB.out)⟩
              · replace c20 := Bool.eq_false_iff.mpr c20
                subst c20
                have H1 : ((impl_WholeCalc.f kj15 3 t154 t143).bind fun bt158 => ((impl_WholeCalc.f kj15 1 bt158.1 t156).bind fun bt160 => (if t155 = true then (some (bt160.1 == t142)) else (some true)))) = some r := by rw [if_neg (show ¬ (false = true) by decide)] at H; exact H
                clear H
                have H := H1
                clear H1
                replace H := Option.bind_eq_some_iff.mp H
                obtain ⟨⟨t158, t159⟩, A210, H⟩ := H
                replace H : ((impl_WholeCalc.f kj15 1 t158 t156).bind fun bt160 => (if t155 = true then (some (bt160.1 == t142)) else (some true))) = some r := H
                have A21 := Aside0.mk A210
                clear A210
                replace H := Option.bind_eq_some_iff.mp H
                obtain ⟨⟨t160, t161⟩, A220, H⟩ := H
                replace H : (if t155 = true then (some (t160 == t142)) else (some true)) = some r := H
                have A22 := Aside0.mk A220
                clear A220
                by_cases c23 : t155 = true
                · subst c23
                  have H1 : (some (t160 == t142)) = some r := by rw [if_pos rfl] at H; exact H
                  clear H
                  have H := H1
                  clear H1
                  obtain rfl := Option.some.inj H
                  go_wp2_with (first | ((with_reducible refine gate_callee (f := 13) rfl ?_); refine goesL_ (some 108) rfl rfl Try.func13 (by kernel_rfl) rfl #[.int .i64 3, .int .i16 t154, .int .i16 t143] rfl (by (try simp only [List.map_toArray, List.map_cons, List.map_nil]); first | done | rfl | (simp only [List.length_drop, List.length_take]; rfl)) ?_; (with_reducible refine (impl_WholeCalc.calls kj15 3 t154 t143 t158 t159 _ A21.out).mono ?_); rintro e w' ⟨rfl, ⟨nd, rfl⟩⟩; refine ⟨_, rfl, ?_⟩) | ((with_reducible refine gate_callee (f := 13) rfl ?_); refine goesL_ (some 114) rfl rfl Try.func13 (by kernel_rfl) rfl #[.int .i64 1, .int .i16 t158, .int .i16 t156] rfl (by (try simp only [List.map_toArray, List.map_cons, List.map_nil]); first | done | rfl | (simp only [List.length_drop, List.length_take]; rfl)) ?_; (with_reducible refine (impl_WholeCalc.calls kj15 1 t158 t156 t160 t161 _ A22.out).mono ?_); rintro e w' ⟨rfl, ⟨nd, rfl⟩⟩; refine ⟨_, rfl, ?_⟩))
                  go_ret
                  exact ⟨by first | rfl | (simp [errW_none, errW_some] <;> rfl) | (simp [*, errW_none, errW_some] <;> rfl), by repeat (first | (with_reducible first | exact HB.out | apply below_alloc | apply pw_below_drewN | apply below_drew1) | exact HB.out)⟩
                · replace c23 := Bool.eq_false_iff.mpr c23
                  subst c23
                  have H1 : (some true) = some r := by rw [if_neg (show ¬ (false = true) by decide)] at H; exact H
                  clear H
                  have H := H1
                  clear H1
                  obtain rfl := Option.some.inj H
                  go_wp2_with (first | ((with_reducible refine gate_callee (f := 13) rfl ?_); refine goesL_ (some 108) rfl rfl Try.func13 (by kernel_rfl) rfl #[.int .i64 3, .int .i16 t154, .int .i16 t143] rfl (by (try simp only [List.map_toArray, List.map_cons, List.map_nil]); first | done | rfl | (simp only [List.length_drop, List.length_take]; rfl)) ?_; (with_reducible refine (impl_WholeCalc.calls kj15 3 t154 t143 t158 t159 _ A21.out).mono ?_); rintro e w' ⟨rfl, ⟨nd, rfl⟩⟩; refine ⟨_, rfl, ?_⟩) | ((with_reducible refine gate_callee (f := 13) rfl ?_); refine goesL_ (some 114) rfl rfl Try.func13 (by kernel_rfl) rfl #[.int .i64 1, .int .i16 t158, .int .i16 t156] rfl (by (try simp only [List.map_toArray, List.map_cons, List.map_nil]); first | done | rfl | (simp only [List.length_drop, List.length_take]; rfl)) ?_; (with_reducible refine (impl_WholeCalc.calls kj15 1 t158 t156 t160 t161 _ A22.out).mono ?_); rintro e w' ⟨rfl, ⟨nd, rfl⟩⟩; refine ⟨_, rfl, ?_⟩))
                  go_ret
                  exact ⟨by first | rfl | (simp [errW_none, errW_some] <;> rfl) | (simp [*, errW_none, errW_some] <;> rfl), by repeat (first | (with_reducible first | exact HB.out | apply below_alloc | apply pw_below_drewN | apply below_drew1) | exact HB.out)⟩

/-- THE ONE PURE STATEMENT of laws_FnWrap: yours. -/
def laws_FnWrap.Pure : Prop := ∀ (l0 : List Int), l0.length ≤ maxLen → l0.length * 1 ≤ 140737488351232 → (∀ x ∈ l0, (Lit.int .u8 x).wf = true) → ∃ k, laws_FnWrap.f k l0 = some true
theorem laws_FnWrap.walk (P : laws_FnWrap.Pure) (a0 : Option Addr) (len0 cap0 : Nat) (z0 : List Int) (w : World) (w0 : (a0 = none ∧ len0 = 0 ∧ cap0 = 0 ∧ z0 = []) ∨ ∃ x, a0 = some x ∧ len0 ≤ cap0 ∧ cap0 ≤ maxLen ∧ z0.length = cap0 ∧ (∀ i, i < z0.length → w.cell? (x.add i) = some (.int .u8 (z0.getD i 0))) ∧ ∀ n ∈ z0, (Lit.int .u8 n).wf = true) (y0 : len0 * 1 ≤ 140737488351232) :
    Calls Try.prog 5 #[.slice a0 len0 cap0] w fun e w' => e = .returned (.bool true) ∧ Below w.heap.size w w' := by
  obtain ⟨l0, rfl, hr0, hm0, hw0, hc0⟩ := ReadsInt.ofRowC w0
  obtain ⟨k, h⟩ := P l0 hm0 y0 hw0
  refine (laws_FnWrap.calls k _ _ l0 true w (Kd.C_of_reads (d := (0 : Int)) (h1 := fun _ => rfl) hr0) hc0 h).mono ?_
  rintro e w' ⟨rfl, hd⟩
  exact ⟨rfl, hd⟩

end Go.Proofs.Ytfppeppngodjjaa.PFnWrap
