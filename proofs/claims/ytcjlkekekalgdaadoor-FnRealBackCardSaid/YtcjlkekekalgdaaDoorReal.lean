/-
  'l3Real': it returns a float and moves the reader on.
  Conditions: the reader has read fewer than 90000 bytes.
-/
import Derived.Test.YtcjlkekekalgdaaDoorDraws
namespace Go.Proofs.YtcjlkekekalgdaaDoor.draws
open Go.RowKit Go.Proofs.YtcjlkekekalgdaaDoorW.PrintWords
set_option linter.unusedVariables false
set_option linter.unusedSimpArgs false

theorem l3Real_w {w0 w : World} {g : Nat} {n : Int} (hr : Rd w0 w g n) (hn : n < 90000) :
    Calls Tryd.prog 32 #[.pointer (some ⟨g, 0, none⟩)] w (Real w0 g (n + 12)) := by
  have A := Lib.hid arith_any
  have n3 := flo.run_neg
  have hn1 : n < 100000 := by omega
  have Hn := Lib.hid hn
  clear hn
  have Hr := Lib.hid hr
  clear hr
  go_enter Tryd.func32, Tryd.ntmps32
  go_wp2_with fail
  refine (pick_w Hr.out hn1 16 (by decide)).mono ?_
  rintro e w1 ⟨r, rfl, g1, g2, h1⟩
  have H1 := Lib.hid h1
  have hlt := h1.lt
  clear h1 Hr
  have hcase : r = 0 ∨ r = 1 ∨ r = 2 ∨ r = 3 ∨ r = 4 ∨ r = 5 ∨ r = 6 ∨ r = 7 ∨ r = 8 ∨ r = 9 ∨ r = 10 ∨ r = 11 ∨ 12 ≤ r := by omega
  clear g1 g2
  rcases hcase with rfl | rfl | rfl | rfl | rfl | rfl | rfl | rfl | rfl | rfl | rfl | rfl | g12
  · go_wp2_with fail
    refine (flo.l3Nan_any _).mono ?_
    rintro e w2 ⟨x, rfl, hnn, hb⟩
    have HNN : Hid (Wd x) := Lib.hid (.inl hnn)
    clear hnn
    go_wp2_with fail
    go_ret
    exact ⟨_, rfl, (by first | exact HNN.out | exact hz.out | exact hy.out | exact .inl (flo.nanAt_nan _ _ _) | exact wd_ar _ (by decide) _ _ _ | exact wd_int _ | exact .inr (by decide) | exact .inr (by decide +kernel)), (H1.out.below hb).le (by omega)⟩
  · go_wp2_with fail
    refine (flo.l3Inf_any _).mono ?_
    rintro e w2 ⟨rfl, rfl⟩
    go_wp2_with fail
    go_ret
    exact ⟨_, rfl, (by first | exact HNN.out | exact hz.out | exact hy.out | exact .inl (flo.nanAt_nan _ _ _) | exact wd_ar _ (by decide) _ _ _ | exact wd_int _ | exact .inr (by decide) | exact .inr (by decide +kernel)), H1.out.le (by omega)⟩
  · go_wp2_with fail
    refine (flo.l3Inf_any _).mono ?_
    rintro e w2 ⟨rfl, rfl⟩
    go_wp2_with fail
    go_ret
    exact ⟨_, rfl, (by first | exact HNN.out | exact hz.out | exact hy.out | exact .inl (flo.nanAt_nan _ _ _) | exact wd_ar _ (by decide) _ _ _ | exact wd_int _ | exact .inr (by decide) | exact .inr (by decide +kernel)), H1.out.le (by omega)⟩
  · go_wp2_with fail
    go_ret
    exact ⟨_, rfl, (by first | exact HNN.out | exact hz.out | exact hy.out | exact .inl (flo.nanAt_nan _ _ _) | exact wd_ar _ (by decide) _ _ _ | exact wd_int _ | exact .inr (by decide) | exact .inr (by decide +kernel)), H1.out.le (by omega)⟩
  · go_wp2_with fail
    go_ret
    exact ⟨_, rfl, (by first | exact HNN.out | exact hz.out | exact hy.out | exact .inl (flo.nanAt_nan _ _ _) | exact wd_ar _ (by decide) _ _ _ | exact wd_int _ | exact .inr (by decide) | exact .inr (by decide +kernel)), H1.out.le (by omega)⟩
  · go_wp2_with fail
    refine (pick_w H1.out (by have := Hn.out; omega) 40 (by decide)).mono ?_
    rintro e w2 ⟨q2, rfl, a2, b2, h2⟩
    have H2 := Lib.hid h2
    clear h2
    rcases A.out .mul (by decide) 1 (floatOfInt .f64 (1 + q2)) with ⟨y, hy, rq⟩ | rq
    · go_wp2_with fail
      go_ret
      exact ⟨_, rfl, (by first | exact HNN.out | exact hz.out | exact hy.out | exact .inl (flo.nanAt_nan _ _ _) | exact wd_ar _ (by decide) _ _ _ | exact wd_int _ | exact .inr (by decide) | exact .inr (by decide +kernel)), H2.out.le (by omega)⟩
    · go_wp2_with fail
      go_ret
      exact ⟨_, rfl, (by first | exact HNN.out | exact hz.out | exact hy.out | exact .inl (flo.nanAt_nan _ _ _) | exact wd_ar _ (by decide) _ _ _ | exact wd_int _ | exact .inr (by decide) | exact .inr (by decide +kernel)), H2.out.drew.le (by omega)⟩
  · go_wp2_with fail
    go_ret
    exact ⟨_, rfl, (by first | exact HNN.out | exact hz.out | exact hy.out | exact .inl (flo.nanAt_nan _ _ _) | exact wd_ar _ (by decide) _ _ _ | exact wd_int _ | exact .inr (by decide) | exact .inr (by decide +kernel)), H1.out.le (by omega)⟩
  · go_wp2_with fail
    go_ret
    exact ⟨_, rfl, (by first | exact HNN.out | exact hz.out | exact hy.out | exact .inl (flo.nanAt_nan _ _ _) | exact wd_ar _ (by decide) _ _ _ | exact wd_int _ | exact .inr (by decide) | exact .inr (by decide +kernel)), H1.out.le (by omega)⟩
  · go_wp2_with fail
    refine (pick_w H1.out (by have := Hn.out; omega) 9 (by decide)).mono ?_
    rintro e w2 ⟨q2, rfl, a2, b2, h2⟩
    have H2 := Lib.hid h2
    clear h2
    rcases A.out .mul (by decide) 1 (floatOfInt .f64 (q2 - 4)) with ⟨y, hy, rq⟩ | rq
    · rcases A.out .add (by decide) 4503599627370496 y with ⟨z, hz, rz⟩ | rz
      · go_wp2_with fail
        go_ret
        exact ⟨_, rfl, (by first | exact HNN.out | exact hz.out | exact hy.out | exact .inl (flo.nanAt_nan _ _ _) | exact wd_ar _ (by decide) _ _ _ | exact wd_int _ | exact .inr (by decide) | exact .inr (by decide +kernel)), H2.out.le (by omega)⟩
      · go_wp2_with fail
        go_ret
        exact ⟨_, rfl, (by first | exact HNN.out | exact hz.out | exact hy.out | exact .inl (flo.nanAt_nan _ _ _) | exact wd_ar _ (by decide) _ _ _ | exact wd_int _ | exact .inr (by decide) | exact .inr (by decide +kernel)), H2.out.drew.le (by omega)⟩
    · rcases A.out .add (by decide) 4503599627370496 (flo.nanAt 1 (floatOfInt .f64 (q2 - 4)) w2) with ⟨z, hz, rz⟩ | rz
      · go_wp2_with fail
        go_ret
        exact ⟨_, rfl, (by first | exact HNN.out | exact hz.out | exact hy.out | exact .inl (flo.nanAt_nan _ _ _) | exact wd_ar _ (by decide) _ _ _ | exact wd_int _ | exact .inr (by decide) | exact .inr (by decide +kernel)), H2.out.drew.le (by omega)⟩
      · go_wp2_with fail
        go_ret
        exact ⟨_, rfl, (by first | exact HNN.out | exact hz.out | exact hy.out | exact .inl (flo.nanAt_nan _ _ _) | exact wd_ar _ (by decide) _ _ _ | exact wd_int _ | exact .inr (by decide) | exact .inr (by decide +kernel)), H2.out.drew.drew.le (by omega)⟩
  · have rm := ar_run .mul (by decide)
    have rq := ar_run .quo (by decide)
    go_wp2_with fail
    refine (word_w H1.out (by have := Hn.out; omega)).mono ?_
    rintro e w2 ⟨q2, rfl, h2⟩
    have H2 := Lib.hid h2
    clear h2
    go_wp2_with fail
    refine (pick_w H2.out (by have := Hn.out; omega) 200 (by decide)).mono ?_
    rintro e w3 ⟨q3, rfl, a3, b3, h3⟩
    have H3 := Lib.hid h3
    clear h3
    go_wp2_with fail
    refine (pick_w (H3.out.ar _ _ _) (by have := Hn.out; omega) 100 (by decide)).mono ?_
    rintro e w4 ⟨q4, rfl, a4, b4, h4⟩
    have H4 := Lib.hid h4
    clear h4
    obtain ⟨k, rfl⟩ := Int.eq_ofNat_of_zero_le a4
    go_wp2_with fail
    go_loopg [4, 5] k (fun kq v4 v5 w' => ∃ (x : Nat), v4 = .float .f64 x ∧ v5 = .int .i64 (kq : Int) ∧ Hid (kq ≤ k) ∧ Hid (Wd x) ∧ Hid (Rd w0 w' g (n + 1 + 8 + 1 + 1)))
    case atStart => exact ⟨_, rfl, rfl, Lib.hid (Nat.le_refl _), Lib.hid (wd_ar _ (by decide) _ _ _), H4⟩
    case round =>
      obtain ⟨x, rfl, rfl, hk, HNN, HR⟩ := hrel
      cases gk with
      | zero =>
        go_wp2_with fail
        go_ret
        exact ⟨_, rfl, (by first | exact HNN.out | exact hz.out | exact hy.out | exact .inl (flo.nanAt_nan _ _ _) | exact wd_ar _ (by decide) _ _ _ | exact wd_int _ | exact .inr (by decide) | exact .inr (by decide +kernel)), HR.out.le (by omega)⟩
      | succ k1 =>
        go_wp2_with fail
        go_roundg k1
        case measure => have := hk.out; omega
        case rel => exact ⟨_, rfl, by have := hk.out; rw [w64 _ (by omega)], Lib.hid (by have := hk.out; omega), Lib.hid (wd_ar _ (by decide) _ _ _), Lib.hid (HR.out.ar _ _ _)⟩
  · have rm := ar_run .mul (by decide)
    have ra := ar_run .add (by decide)
    go_wp2_with fail
    refine (num_w (xs := [32767, 32768, -32768, -32769, 32766]) (H1.out.below ((Below.refl _ _).alloc (Nat.le_refl _) _)) (by have := Hn.out; omega) _ _ _ _ (by decide) (by decide) (kit.box_new _ _ _) (by intro j hj; match j, hj with | 0, _ => rfl | 1, _ => rfl | 2, _ => rfl | 3, _ => rfl | 4, _ => rfl) (by omega)).mono ?_
    rintro e w2 ⟨q2, rfl, _, h2⟩
    have H2 := Lib.hid h2
    clear h2
    go_wp2_with fail
    refine (pick_w H2.out (by have := Hn.out; omega) 5 (by decide)).mono ?_
    rintro e w3 ⟨q3, rfl, a3, b3, h3⟩
    have H3 := Lib.hid h3
    clear h3
    go_wp2_with fail
    go_ret
    exact ⟨_, rfl, (by first | exact HNN.out | exact hz.out | exact hy.out | exact .inl (flo.nanAt_nan _ _ _) | exact wd_ar _ (by decide) _ _ _ | exact wd_int _ | exact .inr (by decide) | exact .inr (by decide +kernel)), ((H3.out.ar _ _ _).ar _ _ _).le (by omega)⟩
  · go_wp2_with fail
    refine (word_w H1.out (by have := Hn.out; omega)).mono ?_
    rintro e w2 ⟨q2, rfl, h2⟩
    have H2 := Lib.hid h2
    clear h2
    go_wp2_with fail
    go_ret
    exact ⟨_, rfl, (by first | exact HNN.out | exact hz.out | exact hy.out | exact .inl (flo.nanAt_nan _ _ _) | exact wd_ar _ (by decide) _ _ _ | exact wd_int _ | exact .inr (by decide) | exact .inr (by decide +kernel)), H2.out.le (by omega)⟩
  · have c0 : (r == 0) = false := beq_eq_false_iff_ne.2 (by omega)
    have c1 : (r == 1) = false := beq_eq_false_iff_ne.2 (by omega)
    have c2 : (r == 2) = false := beq_eq_false_iff_ne.2 (by omega)
    have c3 : (r == 3) = false := beq_eq_false_iff_ne.2 (by omega)
    have c4 : (r == 4) = false := beq_eq_false_iff_ne.2 (by omega)
    have c5 : (r == 5) = false := beq_eq_false_iff_ne.2 (by omega)
    have c6 : (r == 6) = false := beq_eq_false_iff_ne.2 (by omega)
    have c7 : (r == 7) = false := beq_eq_false_iff_ne.2 (by omega)
    have c8 : (r == 8) = false := beq_eq_false_iff_ne.2 (by omega)
    have c9 : (r == 9) = false := beq_eq_false_iff_ne.2 (by omega)
    have c10 : (r == 10) = false := beq_eq_false_iff_ne.2 (by omega)
    have c11 : (r == 11) = false := beq_eq_false_iff_ne.2 (by omega)
    clear g12
    go_wp2_with fail
    refine (pick_w H1.out (by have := Hn.out; omega) 41 (by decide)).mono ?_
    rintro e w2 ⟨q2, rfl, a2, b2, h2⟩
    have H2 := Lib.hid h2
    clear h2
    rcases A.out .mul (by decide) (floatOfInt .f64 (q2 - 20)) 4598175219545276416 with ⟨y, hy, rq⟩ | rq
    · go_wp2_with fail
      go_ret
      exact ⟨_, rfl, (by first | exact HNN.out | exact hz.out | exact hy.out | exact .inl (flo.nanAt_nan _ _ _) | exact wd_ar _ (by decide) _ _ _ | exact wd_int _ | exact .inr (by decide) | exact .inr (by decide +kernel)), H2.out.le (by omega)⟩
    · go_wp2_with fail
      go_ret
      exact ⟨_, rfl, (by first | exact HNN.out | exact hz.out | exact hy.out | exact .inl (flo.nanAt_nan _ _ _) | exact wd_ar _ (by decide) _ _ _ | exact wd_int _ | exact .inr (by decide) | exact .inr (by decide +kernel)), H2.out.drew.le (by omega)⟩
end Go.Proofs.YtcjlkekekalgdaaDoor.draws
