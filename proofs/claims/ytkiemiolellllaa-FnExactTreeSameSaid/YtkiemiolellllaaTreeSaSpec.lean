/-
  'spec.TreeSame' and 'spec.l7ArmSame': the document's answer on two ladders.
  Conditions: a first ladder of at most 1000000000 parts.
-/

import Derived.Test.YtkiemiolellllaaTreeSa
import Derived.Test.YtkiemiolellllaaHxG
import Derived.Deep.RegionWith
namespace Go.Proofs.Ytkiemiolellllaa.tree
open Go Go.RowKit Go.Proofs.Ytkiemiolellllaa.part Go.Proofs.Ytkiemiolellllaa.CutTr Go.Proofs.YtkiemiolellllaaW.PrintWords
set_option linter.unusedVariables false
set_option linter.unusedSimpArgs false
set_option maxRecDepth 100000
set_option maxHeartbeats 4000000 in
theorem specAs_of (X Y : List JA) (ih : ∀ x ∈ X, ∀ y ∈ Y, SaA 26 x y) : SaAs 14 X Y := by
  intro b hb A B c d w hC hc hD hd
  have HB0 := Lib.hid (Below.refl w.heap.size w)
  by_cases hl : X.length = Y.length
  · have HC := Lib.hid hC
    have Hc := Lib.hid hc
    have HD := Lib.hid hD
    rw [← hl] at hd
    have Hd := Lib.hid hd
    have hmax := Kd.C_max hC
    have Hm := Lib.hid hmax
    have IH := Lib.hid ih
    have HL := Lib.hid hl
    have HS0 : Hid (sm2 sA (X.drop 0) (Y.drop 0) = b) := Lib.hid (by rw [List.drop_zero, List.drop_zero]; exact hb)
    rw [← hl]
    clear hC hc hD hd hmax ih hl hb
    go_enter Try.func14, Try.ntmps14
    go_wp2_with fail
    go_loopg [5] X.length (fun gg s5 wr => ∃ kk : Nat, kk ≤ X.length ∧ X.length - kk ≤ gg ∧ s5 = .int .i64 kk ∧ Hid (sm2 sA (X.drop kk) (Y.drop kk) = b) ∧ Hid (Below w.heap.size w wr))
    case atStart => exact ⟨0, Nat.zero_le _, by omega, rfl, HS0, HB0⟩
    case round =>
      clear HS0 HB0
      obtain ⟨kk, hk1, hgg, rfl, HS, HB⟩ := hrel
      by_cases hlt : kk < X.length
      · have hlt2 : kk < Y.length := by rw [← HL.out]; exact hlt
        obtain ⟨ada, A2, a2, A3, a3, A4, a4, A5, a5, ea, y0, y1, y2, y3, y4, y5, la2, ga2, la3, ga3, la4, ga4, la5, ga5⟩ := at_T55 HC.out (kk : Int) (by omega) (by omega)
        obtain ⟨adb, B2, b2, B3, b3, B4, b4, B5, b5, eb, z0, z1, z2, z3, z4, z5, lb2, gb2, lb3, gb3, lb4, gb4, lb5, gb5⟩ := at_T55 (show Kd.C k55 w B Y.length Y from HD.out) (kk : Int) (by omega) (by have := hlt2; omega)
        subst ea
        subst eb
        rw [rdA _ _ hlt] at y0 y1 y2 y3 y4 y5 la2 ga2 la3 ga3 la4 ga4 la5 ga5
        rw [rdA _ _ hlt2] at z0 z1 z2 z3 z4 z5 lb2 gb2 lb3 gb3 lb4 gb4 lb5 gb5
        rw [Int.toNat_natCast] at y0 y1 y2 y3 y4 y5 z0 z1 z2 z3 z4 z5
        have Ga2 := Lib.hid ga2
        have La2 := Lib.hid la2
        have Ga3 := Lib.hid ga3
        have La3 := Lib.hid la3
        have Ga4 := Lib.hid ga4
        have La4 := Lib.hid la4
        have Ga5 := Lib.hid ga5
        have La5 := Lib.hid la5
        have Gb2 := Lib.hid gb2
        have Lb2 := Lib.hid lb2
        have Gb3 := Lib.hid gb3
        have Lb3 := Lib.hid lb3
        have Gb4 := Lib.hid gb4
        have Lb4 := Lib.hid lb4
        have Gb5 := Lib.hid gb5
        have Lb5 := Lib.hid lb5
        have Ix := Lib.hid (IH.out X[kk] (List.getElem_mem hlt) Y[kk] (List.getElem_mem hlt2))
        have hs := HS.out
        rw [sm2_at sA X Y kk hlt hlt2] at hs
        clear HS
        generalize X[kk] = x at *
        generalize Y[kk] = y at *
        clear la2 ga2 la3 ga3 la4 ga4 la5 ga5 lb2 gb2 lb3 gb3 lb4 gb4 lb5 gb5 hlt2
        replace y0 := (HB.out.cell (World.block_lt_of_cell? w _ y0)).trans y0
        replace y1 := (HB.out.cell (World.block_lt_of_cell? w _ y1)).trans y1
        replace y2 := (HB.out.cell (World.block_lt_of_cell? w _ y2)).trans y2
        replace y3 := (HB.out.cell (World.block_lt_of_cell? w _ y3)).trans y3
        replace y4 := (HB.out.cell (World.block_lt_of_cell? w _ y4)).trans y4
        replace y5 := (HB.out.cell (World.block_lt_of_cell? w _ y5)).trans y5
        replace z0 := (HB.out.cell (World.block_lt_of_cell? w _ z0)).trans z0
        replace z1 := (HB.out.cell (World.block_lt_of_cell? w _ z1)).trans z1
        replace z2 := (HB.out.cell (World.block_lt_of_cell? w _ z2)).trans z2
        replace z3 := (HB.out.cell (World.block_lt_of_cell? w _ z3)).trans z3
        replace z4 := (HB.out.cell (World.block_lt_of_cell? w _ z4)).trans z4
        replace z5 := (HB.out.cell (World.block_lt_of_cell? w _ z5)).trans z5
        cases hq : sA x y with
        | false =>
          rw [hq, Bool.false_and] at hs
          subst hs
          have Iq := Lib.hid (Ix.out false hq)
          clear Ix hq
          go_wp2_with fail
          go_region_with (go_at_call 26; refine (Iq.out A2 A3 A4 A5 B2 B3 B4 B5 a2 a3 a4 a5 b2 b3 b4 b5 _ (Kd.C_drew (Kd.C_below Ga2.out HB.out)) La2.out (Kd.C_drew (Kd.C_below Ga3.out HB.out)) La3.out (Kd.C_drew (Kd.C_below Ga4.out HB.out)) La4.out (Kd.C_drew (Kd.C_below Ga5.out HB.out)) La5.out (Kd.C_drew (Kd.C_below Gb2.out HB.out)) Lb2.out (Kd.C_drew (Kd.C_below Gb3.out HB.out)) Lb3.out (Kd.C_drew (Kd.C_below Gb4.out HB.out)) Lb4.out (Kd.C_drew (Kd.C_below Gb5.out HB.out)) Lb5.out).mono ?_; rintro e w1 ⟨rfl, hb⟩; have HB1 := Lib.hid (Below.trans (Below.trans HB.out (⟨rfl, rfl, rfl, Nat.le_refl _, fun _ _ => rfl⟩ : Below w.heap.size wr wr.drew)) (hb.mono HB.out.size)); clear hb)
          all_goals
            go_wp2_with fail
            go_ret
            exact ⟨rfl, HB1.out⟩
        | true =>
          rw [hq, Bool.true_and] at hs
          have HS2 := Lib.hid hs
          have Iq := Lib.hid (Ix.out true hq)
          clear Ix hq hs
          go_wp2_with fail
          go_region_with (go_at_call 26; refine (Iq.out A2 A3 A4 A5 B2 B3 B4 B5 a2 a3 a4 a5 b2 b3 b4 b5 _ (Kd.C_drew (Kd.C_below Ga2.out HB.out)) La2.out (Kd.C_drew (Kd.C_below Ga3.out HB.out)) La3.out (Kd.C_drew (Kd.C_below Ga4.out HB.out)) La4.out (Kd.C_drew (Kd.C_below Ga5.out HB.out)) La5.out (Kd.C_drew (Kd.C_below Gb2.out HB.out)) Lb2.out (Kd.C_drew (Kd.C_below Gb3.out HB.out)) Lb3.out (Kd.C_drew (Kd.C_below Gb4.out HB.out)) Lb4.out (Kd.C_drew (Kd.C_below Gb5.out HB.out)) Lb5.out).mono ?_; rintro e w1 ⟨rfl, hb⟩; have HB1 := Lib.hid (Below.trans (Below.trans HB.out (⟨rfl, rfl, rfl, Nat.le_refl _, fun _ _ => rfl⟩ : Below w.heap.size wr wr.drew)) (hb.mono HB.out.size)); clear hb)
          all_goals
            go_wp2_with fail
            go_roundg (X.length - (kk + 1))
            case measure => omega
            case rel => exact ⟨kk + 1, by omega, Nat.le_refl _, (by rw [show wrap64 ((kk : Int) + 1) = ((kk + 1 : Nat) : Int) by unfold wrap64; have := Hm.out; omega]), HS2, HB1⟩
      · have hs := HS.out
        rw [sm2_end sA X Y HL.out kk (by omega)] at hs
        subst hs
        go_wp2_with fail
        go_ret
        exact ⟨rfl, HB.out⟩
  · have e0 : ((X.length : Int) != (Y.length : Int)) = true := by rw [ne_len, decide_eq_false hl]; rfl
    rw [sm2_ne _ _ _ hl] at hb
    subst hb
    clear hC hc hD hd ih hl
    go_enter Try.func14, Try.ntmps14
    go_wp2_with fail
    go_ret
    exact ⟨rfl, HB0.out⟩
set_option maxHeartbeats 8000000 in
theorem specA_of (x y : JA) (hw : bA x ≤ 1000000000) (ih : SaAs 14 x.f2 y.f2) : SaA 26 x y := by
  intro b hb A2 A3 A4 A5 B2 B3 B4 B5 a2 a3 a4 a5 b2 b3 b4 b5 w ga2 la2 ga3 la3 ga4 la4 ga5 la5 gb2 lb2 gb3 lb3 gb4 lb4 gb5 lb5
  rw [sA_eq] at hb
  have hbA := bA_eq x
  have IN := Lib.hid (specN_sa x.f0 y.f0 (by omega))
  have IE : Hid (∀ e ∈ x.f1, ∀ e' : JE, SaE 42 e e') := Lib.hid (fun e he e' => specE_sa e e' (by have h4 : e.f1.length ≤ sm lE x.f1 := sm_mem lE x.f1 e he; omega))
  have IH := Lib.hid ih
  have Ga2 := Lib.hid ga2
  have La2 := Lib.hid la2
  have Ga3 := Lib.hid ga3
  have La3 := Lib.hid la3
  have Ga4 := Lib.hid ga4
  have La4 := Lib.hid la4
  have Ga5 := Lib.hid ga5
  have La5 := Lib.hid la5
  have Gb2 := Lib.hid gb2
  have Lb2 := Lib.hid lb2
  have Gb3 := Lib.hid gb3
  have Lb3 := Lib.hid lb3
  have Gb4 := Lib.hid gb4
  have Lb4 := Lib.hid lb4
  have Gb5 := Lib.hid gb5
  have Lb5 := Lib.hid lb5
  have hm := Kd.C_max ga4
  have Hm := Lib.hid hm
  clear ih hm hw hbA ga2 la2 ga3 la3 ga4 la4 ga5 la5 gb2 lb2 gb3 lb3 gb4 lb4 gb5 lb5
  have H0 := Hx.box (Hx.nil (Below.refl w.heap.size w)) #[.int .i64 x.f0.f0, .int .i64 x.f0.f1.f0, .slice A2 x.f0.f1.f1.length a2, .slice A3 x.f0.f2.length a3, .slice A4 x.f1.length a4, .slice A5 x.f2.length a5] 55
  have H1 := Lib.hid (H0.box #[.int .i64 y.f0.f0, .int .i64 y.f0.f1.f0, .slice B2 y.f0.f1.f1.length b2, .slice B3 y.f0.f2.length b3, .slice B4 y.f1.length b4, .slice B5 y.f2.length b5] 55)
  have E1 := size_alloc w (.cells #[.int .i64 x.f0.f0, .int .i64 x.f0.f1.f0, .slice A2 x.f0.f1.f1.length a2, .slice A3 x.f0.f2.length a3, .slice A4 x.f1.length a4, .slice A5 x.f2.length a5] 55)
  rw [E1] at H1
  have EH := Lib.hid E1
  clear H0 E1
  have p0 := H1.out.cell (g := w.heap.size) (cs := #[.int .i64 x.f0.f0, .int .i64 x.f0.f1.f0, .slice A2 x.f0.f1.f1.length a2, .slice A3 x.f0.f2.length a3, .slice A4 x.f1.length a4, .slice A5 x.f2.length a5]) (by simp) 0 rfl
  have q0 := H1.out.cell (g := w.heap.size + 1) (cs := #[.int .i64 y.f0.f0, .int .i64 y.f0.f1.f0, .slice B2 y.f0.f1.f1.length b2, .slice B3 y.f0.f2.length b3, .slice B4 y.f1.length b4, .slice B5 y.f2.length b5]) (by simp) 0 rfl
  have p1 := H1.out.cell (g := w.heap.size) (cs := #[.int .i64 x.f0.f0, .int .i64 x.f0.f1.f0, .slice A2 x.f0.f1.f1.length a2, .slice A3 x.f0.f2.length a3, .slice A4 x.f1.length a4, .slice A5 x.f2.length a5]) (by simp) 1 rfl
  have q1 := H1.out.cell (g := w.heap.size + 1) (cs := #[.int .i64 y.f0.f0, .int .i64 y.f0.f1.f0, .slice B2 y.f0.f1.f1.length b2, .slice B3 y.f0.f2.length b3, .slice B4 y.f1.length b4, .slice B5 y.f2.length b5]) (by simp) 1 rfl
  have p2 := H1.out.cell (g := w.heap.size) (cs := #[.int .i64 x.f0.f0, .int .i64 x.f0.f1.f0, .slice A2 x.f0.f1.f1.length a2, .slice A3 x.f0.f2.length a3, .slice A4 x.f1.length a4, .slice A5 x.f2.length a5]) (by simp) 2 rfl
  have q2 := H1.out.cell (g := w.heap.size + 1) (cs := #[.int .i64 y.f0.f0, .int .i64 y.f0.f1.f0, .slice B2 y.f0.f1.f1.length b2, .slice B3 y.f0.f2.length b3, .slice B4 y.f1.length b4, .slice B5 y.f2.length b5]) (by simp) 2 rfl
  have p3 := H1.out.cell (g := w.heap.size) (cs := #[.int .i64 x.f0.f0, .int .i64 x.f0.f1.f0, .slice A2 x.f0.f1.f1.length a2, .slice A3 x.f0.f2.length a3, .slice A4 x.f1.length a4, .slice A5 x.f2.length a5]) (by simp) 3 rfl
  have q3 := H1.out.cell (g := w.heap.size + 1) (cs := #[.int .i64 y.f0.f0, .int .i64 y.f0.f1.f0, .slice B2 y.f0.f1.f1.length b2, .slice B3 y.f0.f2.length b3, .slice B4 y.f1.length b4, .slice B5 y.f2.length b5]) (by simp) 3 rfl
  cases hq : sN x.f0 y.f0 with
  | false =>
    rw [hq, Bool.false_and, Bool.false_and] at hb
    subst hb
    have Iq := Lib.hid (IN.out false hq)
    clear IN hq
    go_enter Try.func26, Try.ntmps26
    go_wp2_with fail
    refine (Iq.out A2 A3 B2 B3 a2 a3 b2 b3 _ (Kd.C_below Ga2.out H1.out.1) La2.out (Kd.C_below Ga3.out H1.out.1) La3.out (Kd.C_below Gb2.out H1.out.1) Lb2.out (Kd.C_below Gb3.out H1.out.1) Lb3.out).mono ?_
    rintro e w1 ⟨rfl, hb⟩
    have H2 := Lib.hid (H1.out.below (by first | exact hb | exact hb.below | (obtain ⟨nd, rfl⟩ := hb; exact ⟨rfl, rfl, rfl, Nat.le_refl _, fun _ _ => rfl⟩)))
    clear hb H1 p0 q0 p1 q1 p2 q2 p3 q3
    have p4 := H2.out.cell (g := w.heap.size) (cs := #[.int .i64 x.f0.f0, .int .i64 x.f0.f1.f0, .slice A2 x.f0.f1.f1.length a2, .slice A3 x.f0.f2.length a3, .slice A4 x.f1.length a4, .slice A5 x.f2.length a5]) (by simp) 4 rfl
    have q4 := H2.out.cell (g := w.heap.size + 1) (cs := #[.int .i64 y.f0.f0, .int .i64 y.f0.f1.f0, .slice B2 y.f0.f1.f1.length b2, .slice B3 y.f0.f2.length b3, .slice B4 y.f1.length b4, .slice B5 y.f2.length b5]) (by simp) 4 rfl
    go_wp2_with fail
    go_ret
    exact ⟨rfl, H2.out.1⟩
  | true =>
    rw [hq, Bool.true_and] at hb
    have Iq := Lib.hid (IN.out true hq)
    clear IN hq
    by_cases hl : x.f1.length = y.f1.length
    · have e0 : ((x.f1.length : Int) != (y.f1.length : Int)) = false := by rw [ne_len, decide_eq_true hl]; rfl
      have HL := Lib.hid hl
      have HS0 : Hid ((sm2 sE (x.f1.drop 0) (y.f1.drop 0) && sm2 sA x.f2 y.f2) = b) := Lib.hid (by rw [List.drop_zero, List.drop_zero]; exact hb)
      clear hl hb
      go_enter Try.func26, Try.ntmps26
      go_wp2_with fail
      refine (Iq.out A2 A3 B2 B3 a2 a3 b2 b3 _ (Kd.C_below Ga2.out H1.out.1) La2.out (Kd.C_below Ga3.out H1.out.1) La3.out (Kd.C_below Gb2.out H1.out.1) Lb2.out (Kd.C_below Gb3.out H1.out.1) Lb3.out).mono ?_
      rintro e w1 ⟨rfl, hb⟩
      have H2 := Lib.hid (H1.out.below (by first | exact hb | exact hb.below | (obtain ⟨nd, rfl⟩ := hb; exact ⟨rfl, rfl, rfl, Nat.le_refl _, fun _ _ => rfl⟩)))
      clear hb H1 p0 q0 p1 q1 p2 q2 p3 q3
      have p4 := H2.out.cell (g := w.heap.size) (cs := #[.int .i64 x.f0.f0, .int .i64 x.f0.f1.f0, .slice A2 x.f0.f1.f1.length a2, .slice A3 x.f0.f2.length a3, .slice A4 x.f1.length a4, .slice A5 x.f2.length a5]) (by simp) 4 rfl
      have q4 := H2.out.cell (g := w.heap.size + 1) (cs := #[.int .i64 y.f0.f0, .int .i64 y.f0.f1.f0, .slice B2 y.f0.f1.f1.length b2, .slice B3 y.f0.f2.length b3, .slice B4 y.f1.length b4, .slice B5 y.f2.length b5]) (by simp) 4 rfl
      go_wp2_with fail
      clear p4 q4 e0
      go_loopg [5] x.f1.length (fun gg s5 wr => ∃ kk : Nat, kk ≤ x.f1.length ∧ x.f1.length - kk ≤ gg ∧ s5 = .int .i64 kk ∧ Hid ((sm2 sE (x.f1.drop kk) (y.f1.drop kk) && sm2 sA x.f2 y.f2) = b) ∧ Hid (Hx w [(w.heap.size + 1, #[.int .i64 y.f0.f0, .int .i64 y.f0.f1.f0, .slice B2 y.f0.f1.f1.length b2, .slice B3 y.f0.f2.length b3, .slice B4 y.f1.length b4, .slice B5 y.f2.length b5]), (w.heap.size, #[.int .i64 x.f0.f0, .int .i64 x.f0.f1.f0, .slice A2 x.f0.f1.f1.length a2, .slice A3 x.f0.f2.length a3, .slice A4 x.f1.length a4, .slice A5 x.f2.length a5])] wr))
      case atStart => exact ⟨0, Nat.zero_le _, by omega, rfl, HS0, H2⟩
      case round =>
        clear HS0 H2
        obtain ⟨kk, hk1, hgg, rfl, HS, HX⟩ := hrel
        by_cases hlt : kk < x.f1.length
        · have hlt2 : kk < y.f1.length := by rw [← HL.out]; exact hlt
          have p4 := HX.out.cell (g := w.heap.size) (cs := #[.int .i64 x.f0.f0, .int .i64 x.f0.f1.f0, .slice A2 x.f0.f1.f1.length a2, .slice A3 x.f0.f2.length a3, .slice A4 x.f1.length a4, .slice A5 x.f2.length a5]) (by simp) 4 rfl
          have q4 := HX.out.cell (g := w.heap.size + 1) (cs := #[.int .i64 y.f0.f0, .int .i64 y.f0.f1.f0, .slice B2 y.f0.f1.f1.length b2, .slice B3 y.f0.f2.length b3, .slice B4 y.f1.length b4, .slice B5 y.f2.length b5]) (by simp) 4 rfl
          obtain ⟨ada, A1, a1, ea, y0, y1, la1, ga1⟩ := at_T49 Ga4.out (kk : Int) (by omega) (by omega)
          obtain ⟨adb, B1, b1, eb, z0, z1, lb1, gb1⟩ := at_T49 Gb4.out (kk : Int) (by omega) (by have := hlt2; omega)
          subst ea
          subst eb
          rw [rdE _ _ hlt] at y0 y1 la1 ga1
          rw [rdE _ _ hlt2] at z0 z1 lb1 gb1
          rw [Int.toNat_natCast] at y0 y1 z0 z1
          have Ga1 := Lib.hid ga1
          have La1 := Lib.hid la1
          have Gb1 := Lib.hid gb1
          have Lb1 := Lib.hid lb1
          have Ix := Lib.hid (IE.out x.f1[kk] (List.getElem_mem hlt) y.f1[kk])
          have hs := HS.out
          rw [sm2_at sE x.f1 y.f1 kk hlt hlt2] at hs
          have d1 : decide ((kk : Int) < (x.f1.length : Int)) = true := decide_eq_true (by omega)
          have d2 : decide ((kk : Int) < (y.f1.length : Int)) = true := decide_eq_true (by omega)
          clear HS
          generalize x.f1[kk] = u at *
          generalize y.f1[kk] = v at *
          clear la1 ga1 lb1 gb1
          replace y0 := (HX.out.1.cell (World.block_lt_of_cell? w _ y0)).trans y0
          replace y1 := (HX.out.1.cell (World.block_lt_of_cell? w _ y1)).trans y1
          replace z0 := (HX.out.1.cell (World.block_lt_of_cell? w _ z0)).trans z0
          replace z1 := (HX.out.1.cell (World.block_lt_of_cell? w _ z1)).trans z1
          cases hq : sE u v with
          | false =>
            rw [hq, Bool.false_and, Bool.false_and] at hs
            subst hs
            have Iq2 := Lib.hid (Ix.out false hq)
            clear Ix hq
            go_wp2_with fail
            go_region_with (go_at_call 42; refine (Iq2.out A1 B1 a1 b1 _ (Kd.C_drew (Kd.C_below Ga1.out HX.out.1)) La1.out (Kd.C_drew (Kd.C_below Gb1.out HX.out.1)) Lb1.out).mono ?_; rintro e w2 ⟨rfl, hb⟩; have HX1 := Lib.hid (HX.out.drew.below hb); clear hb)
            all_goals
              go_wp2_with fail
              go_ret
              exact ⟨rfl, HX1.out.1⟩
          | true =>
            rw [hq, Bool.true_and] at hs
            have HS2 := Lib.hid hs
            have Iq2 := Lib.hid (Ix.out true hq)
            clear Ix hq hs
            go_wp2_with fail
            go_region_with (go_at_call 42; refine (Iq2.out A1 B1 a1 b1 _ (Kd.C_drew (Kd.C_below Ga1.out HX.out.1)) La1.out (Kd.C_drew (Kd.C_below Gb1.out HX.out.1)) Lb1.out).mono ?_; rintro e w2 ⟨rfl, hb⟩; have HX1 := Lib.hid (HX.out.drew.below hb); clear hb)
            all_goals
              go_wp2_with fail
              go_roundg (x.f1.length - (kk + 1))
              case measure => omega
              case rel => exact ⟨kk + 1, by omega, Nat.le_refl _, (by rw [show wrap64 ((kk : Int) + 1) = ((kk + 1 : Nat) : Int) by unfold wrap64; have := Hm.out; omega]), HS2, HX1⟩
        · have hs := HS.out
          rw [sm2_end sE x.f1 y.f1 HL.out kk (by omega), Bool.true_and] at hs
          have p4 := HX.out.cell (g := w.heap.size) (cs := #[.int .i64 x.f0.f0, .int .i64 x.f0.f1.f0, .slice A2 x.f0.f1.f1.length a2, .slice A3 x.f0.f2.length a3, .slice A4 x.f1.length a4, .slice A5 x.f2.length a5]) (by simp) 4 rfl
          have q4 := HX.out.cell (g := w.heap.size + 1) (cs := #[.int .i64 y.f0.f0, .int .i64 y.f0.f1.f0, .slice B2 y.f0.f1.f1.length b2, .slice B3 y.f0.f2.length b3, .slice B4 y.f1.length b4, .slice B5 y.f2.length b5]) (by simp) 4 rfl
          have p5 := HX.out.cell (g := w.heap.size) (cs := #[.int .i64 x.f0.f0, .int .i64 x.f0.f1.f0, .slice A2 x.f0.f1.f1.length a2, .slice A3 x.f0.f2.length a3, .slice A4 x.f1.length a4, .slice A5 x.f2.length a5]) (by simp) 5 rfl
          have q5 := HX.out.cell (g := w.heap.size + 1) (cs := #[.int .i64 y.f0.f0, .int .i64 y.f0.f1.f0, .slice B2 y.f0.f1.f1.length b2, .slice B3 y.f0.f2.length b3, .slice B4 y.f1.length b4, .slice B5 y.f2.length b5]) (by simp) 5 rfl
          have Iq2 := Lib.hid (IH.out b hs)
          have d1 : decide ((kk : Int) < (x.f1.length : Int)) = false := decide_eq_false (by omega)
          clear hs
          go_wp2_with fail
          refine (Iq2.out A5 B5 a5 b5 _ (Kd.C_below Ga5.out HX.out.1) La5.out (Kd.C_below Gb5.out HX.out.1) Lb5.out).mono ?_
          rintro e w2 ⟨rfl, hb⟩
          have HX1 := Lib.hid (HX.out.below hb)
          clear hb
          go_wp2_with fail
          go_ret
          exact ⟨rfl, HX1.out.1⟩
    · have e0 : ((x.f1.length : Int) != (y.f1.length : Int)) = true := by rw [ne_len, decide_eq_false hl]; rfl
      rw [sm2_ne _ _ _ hl, Bool.false_and] at hb
      subst hb
      clear hl
      go_enter Try.func26, Try.ntmps26
      go_wp2_with fail
      refine (Iq.out A2 A3 B2 B3 a2 a3 b2 b3 _ (Kd.C_below Ga2.out H1.out.1) La2.out (Kd.C_below Ga3.out H1.out.1) La3.out (Kd.C_below Gb2.out H1.out.1) Lb2.out (Kd.C_below Gb3.out H1.out.1) Lb3.out).mono ?_
      rintro e w1 ⟨rfl, hb⟩
      have H2 := Lib.hid (H1.out.below (by first | exact hb | exact hb.below | (obtain ⟨nd, rfl⟩ := hb; exact ⟨rfl, rfl, rfl, Nat.le_refl _, fun _ _ => rfl⟩)))
      clear hb H1 p0 q0 p1 q1 p2 q2 p3 q3
      have p4 := H2.out.cell (g := w.heap.size) (cs := #[.int .i64 x.f0.f0, .int .i64 x.f0.f1.f0, .slice A2 x.f0.f1.f1.length a2, .slice A3 x.f0.f2.length a3, .slice A4 x.f1.length a4, .slice A5 x.f2.length a5]) (by simp) 4 rfl
      have q4 := H2.out.cell (g := w.heap.size + 1) (cs := #[.int .i64 y.f0.f0, .int .i64 y.f0.f1.f0, .slice B2 y.f0.f1.f1.length b2, .slice B3 y.f0.f2.length b3, .slice B4 y.f1.length b4, .slice B5 y.f2.length b5]) (by simp) 4 rfl
      go_wp2_with fail
      go_ret
      exact ⟨rfl, H2.out.1⟩
theorem specAs_all (X Y : List JA) (hb : sm bA X ≤ 1000000000) : SaAs 14 X Y := by
  have : ∀ (N : Nat) (X Y : List JA), SizeOf.sizeOf X ≤ N → sm bA X ≤ 1000000000 → SaAs 14 X Y := by
    intro N
    induction N with
    | zero => intro X Y h; cases X <;> simp at h
    | succ N ih =>
      intro X Y h hb
      refine specAs_of X Y fun x hx y hy => ?_
      have h0 := sm_mem bA X x hx
      refine specA_of x y (by omega) (ih _ _ ?_ ?_)
      · have h1 := List.sizeOf_lt_of_mem hx
        have h2 : SizeOf.sizeOf x.f2 < SizeOf.sizeOf x := by obtain ⟨a, b, d⟩ := x; simp; omega
        omega
      · have := bA_eq x
        omega
  exact this _ X Y (Nat.le_refl _) hb
end Go.Proofs.Ytkiemiolellllaa.tree
