/-
  'szNet', 'szNetS', 'szArm', 'szArmS' of the laws: what they return.
  Conditions: a budget of at most 1048576.
-/
import Derived.Test.YtkiemiolellllaaTreeW
import Derived.Test.YtkiemiolellllaaHxG
namespace Go.Proofs.Ytkiemiolellllaa.tree
open Go Go.RowKit Go.Proofs.Ytkiemiolellllaa.part Go.Proofs.Ytkiemiolellllaa.CutTr Go.Proofs.YtkiemiolellllaaW.PrintWords
set_option linter.unusedVariables false
set_option linter.unusedSimpArgs false
set_option maxRecDepth 100000

def SzN (x : EN) : Prop := ∀ (A2 A3 : Option Addr) (c2 c3 : Nat) (l : Int) (w : World), Kd.C k30 w A2 x.f1.f1.length x.f1.f1 → x.f1.f1.length ≤ c2 → Kd.C k42 w A3 x.f2.length x.f2 → x.f2.length ≤ c3 → 0 ≤ l ∧ l ≤ 1048576 →
    Calls Try.prog 32 #[.agg #[.int .i64 x.f0, .int .i64 x.f1.f0, .slice A2 x.f1.f1.length c2, .slice A3 x.f2.length c3], .int .i64 l] w fun e w' => e = .returned (.int .i64 (sub l (wN x))) ∧ Below w.heap.size w w'
def SzNs (Y : List EN) : Prop := ∀ (A : Option Addr) (c : Nat) (l : Int) (w : World), Kd.C k42 w A Y.length Y → Y.length ≤ c → 0 ≤ l ∧ l ≤ 1048576 →
    Calls Try.prog 46 #[.slice A Y.length c, .int .i64 l] w fun e w' => e = .returned (.int .i64 (sub l (wNs Y))) ∧ Below w.heap.size w w'
set_option maxHeartbeats 4000000 in
theorem szNs_of (Y : List EN) (ih : ∀ x ∈ Y, SzN x) : SzNs Y := by
  intro A c l w hC hc hl
  have HC := Lib.hid hC
  have Hc := Lib.hid hc
  have HL := Lib.hid hl
  have hmax := Kd.C_max hC
  have Hm := Lib.hid hmax
  have IH := Lib.hid ih
  obtain ⟨v, hv⟩ : ∃ v, l - (Y.length : Int) = v := ⟨_, rfl⟩
  have e1 : wrap64 (l - (Y.length : Int)) = v := by rw [← hv]; unfold wrap64; omega
  have HV := Lib.hid hv
  clear hv hC hc hl hmax ih
  have hS := wNs_eq Y
  have HS := Lib.hid hS
  clear hS
  by_cases h0 : v < 0
  · have b0 : decide (v < 0) = true := decide_eq_true h0
    have hr : sub l (wNs Y) = -1 := sub_no (by rw [HS.out]; have := HV.out; omega)
    have Hr := Lib.hid hr
    clear hr h0
    go_enter Try.func46, Try.ntmps46
    go_wp2_with fail
    go_ret
    exact ⟨kit.ret_int Hr.out.symm, Below.refl _ _⟩
  have b0 : decide (v < 0) = false := decide_eq_false h0
  have H0 := Lib.hid h0
  clear h0
  go_enter Try.func46, Try.ntmps46
  go_wp2_with fail
  go_loopg [1, 5] Y.length (fun gg s1 s5 wr => ∃ kk : Nat, ∃ u : Int, kk ≤ Y.length ∧ Y.length - kk ≤ gg ∧ s5 = .int .i64 kk ∧ s1 = .int .i64 u ∧ Hid (u = v - (sm wN (Y.take kk) : Nat) ∧ 0 ≤ u) ∧ Hid (Below w.heap.size w wr))
  case atStart => exact ⟨0, v, Nat.zero_le _, by omega, rfl, rfl, Lib.hid ⟨by simp [sm], by have := H0.out; omega⟩, Lib.hid (Below.refl _ _)⟩
  case round =>
    clear b0 e1
    obtain ⟨kk, u, hk1, hgg, rfl, rfl, HU, HB⟩ := hrel
    by_cases hlt : kk < Y.length
    · obtain ⟨ad, A2, c2, A3, c3, e, y0, y1, y2, y3, l2, g2, l3, g3⟩ := at_T42 HC.out (kk : Int) (by omega) (by omega)
      subst e
      have ev : rd_T42 Y (kk : Int) = Y[kk] := by
        show Y.getD (kk : Int).toNat z42 = _
        simp [hlt]
      rw [ev] at y0 y1 y2 y3 l2 g2 l3 g3
      rw [Int.toNat_natCast] at y0 y1 y2 y3
      have G2 := Lib.hid g2
      have L2 := Lib.hid l2
      have G3 := Lib.hid g3
      have L3 := Lib.hid l3
      have Ix := Lib.hid (IH.out Y[kk] (List.getElem_mem hlt))
      have Ht := Lib.hid (sm_take wN Y kk hlt)
      have Hle := Lib.hid (sm_le wN Y (kk + 1))
      generalize Y[kk] = y at *
      clear g2 l2 g3 l3 ev
      replace y0 := (HB.out.cell (World.block_lt_of_cell? w _ y0)).trans y0
      replace y1 := (HB.out.cell (World.block_lt_of_cell? w _ y1)).trans y1
      replace y2 := (HB.out.cell (World.block_lt_of_cell? w _ y2)).trans y2
      replace y3 := (HB.out.cell (World.block_lt_of_cell? w _ y3)).trans y3
      obtain ⟨t, ht⟩ : ∃ t, sub u (wN y) = t := ⟨_, rfl⟩
      have HT := Lib.hid ht
      clear ht
      have Hk := Lib.hid (⟨hk1, hgg, hlt⟩ : _ ∧ _ ∧ _)
      go_wp2_with fail
      refine (Ix.out A2 A3 c2 c3 u _ (Kd.C_below G2.out HB.out) L2.out (Kd.C_below G3.out HB.out) L3.out (by have := HU.out; have := HL.out; have := HV.out; omega)).mono ?_
      rw [HT.out]
      rintro e w1 ⟨rfl, hb⟩
      have HB1 := Lib.hid (HB.out.trans (hb.mono HB.out.size))
      clear hb HB 
      by_cases ht0 : t < 0
      · have b1 : decide (t < 0) = true := decide_eq_true ht0
        have hr : sub l (wNs Y) = -1 := by
          apply sub_no
          rw [HS.out]
          intro hh
          have h1 := HT.out
          rw [sub_ok (by have := HU.out; have := HV.out; have := Ht.out; have := Hle.out; omega)] at h1
          have := HU.out; have := HV.out; have := Ht.out; have := Hle.out
          omega
        have Hr := Lib.hid hr
        clear hr ht0
        go_wp2_with fail
        go_ret
        exact ⟨kit.ret_int Hr.out.symm, HB1.out⟩
      · have b1 : decide (t < 0) = false := decide_eq_false ht0
        have H1 := Lib.hid ht0
        clear ht0
        go_wp2_with fail
        go_roundg (Y.length - (kk + 1))
        case measure => omega
        case rel =>
          refine ⟨kk + 1, t, by omega, Nat.le_refl _, ?_, rfl, Lib.hid ⟨?_, by have := H1.out; omega⟩, HB1⟩
          · rw [show wrap64 ((kk : Int) + 1) = ((kk + 1 : Nat) : Int) by unfold wrap64; have := Hm.out; omega]
          · have h1 := HT.out
            have h2 : ((wN y : Nat) : Int) ≤ u := by
              rcases (show u < ((wN y : Nat) : Int) ∨ ((wN y : Nat) : Int) ≤ u by omega) with h | h
              · rw [sub_no (by omega)] at h1
                have := H1.out
                omega
              · exact h
            rw [sub_ok h2] at h1
            have := HU.out; have := Ht.out
            omega
    · have hke : kk = Y.length := by omega
      subst hke
      have hr : sub l (wNs Y) = u := by
        have h1 := HU.out
        rw [List.take_length] at h1
        rw [sub_ok (by rw [HS.out]; have := HV.out; omega), HS.out]
        have := HV.out
        omega
      have Hr := Lib.hid hr
      clear hr
      go_wp2_with fail
      go_ret
      exact ⟨kit.ret_int Hr.out.symm, HB.out⟩
set_option maxHeartbeats 4000000 in
theorem szN_of (x : EN) (ih : SzNs x.f2) : SzN x := by
  intro A2 A3 c2 c3 l w g2 l2 g3 l3 hl
  have IH := Lib.hid ih
  have G2 := Lib.hid g2
  have L2 := Lib.hid l2
  have G3 := Lib.hid g3
  have L3 := Lib.hid l3
  have HL := Lib.hid hl
  have hm := Kd.C_max g2
  have Hm := Lib.hid hm
  clear ih g2 l2 g3 l3 hl hm
  have HW := Lib.hid (wN_eq x)
  obtain ⟨t, ht⟩ : ∃ t, sub l x.f1.f1.length = t := ⟨_, rfl⟩
  have HT := Lib.hid ht
  clear ht
  have H1 := Lib.hid (Hx.box (Hx.nil (Below.refl w.heap.size w)) #[.int .i64 x.f0, .int .i64 x.f1.f0, .slice A2 x.f1.f1.length c2, .slice A3 x.f2.length c3] 42)
  go_enter Try.func32, Try.ntmps32
  go_wp2_with fail
  refine (laws_szElem.calls x.f1.f0 A2 c2 x.f1.f1 l t _ (Kd.C_below G2.out H1.out.1) L2.out (by rw [szElem_f _ _ _ Hm.out HL.out, HT.out])).mono ?_
  rintro e w1 ⟨rfl, hb⟩
  have H2 := Lib.hid (H1.out.below (by first | exact hb | exact hb.below))
  clear hb H1
  by_cases h0 : t < 0
  · have b0 : decide (t < 0) = true := decide_eq_true h0
    have hr : sub l (wN x) = -1 := by
      apply sub_no
      rw [HW.out]
      intro hh
      have h1 := HT.out
      rw [sub_ok (by omega)] at h1
      omega
    have Hr := Lib.hid hr
    clear hr h0
    go_wp2_with fail
    go_ret
    exact ⟨kit.ret_int Hr.out.symm, H2.out.1⟩
  have b0 : decide (t < 0) = false := decide_eq_false h0
  have HP := Lib.hid (show t = l - x.f1.f1.length ∧ 0 ≤ t from by
    have h1 := HT.out
    rcases (show l < ((x.f1.f1.length : Nat) : Int) ∨ ((x.f1.f1.length : Nat) : Int) ≤ l by omega) with h | h
    · rw [sub_no (by omega)] at h1
      omega
    · rw [sub_ok h] at h1
      omega)
  clear h0
  obtain ⟨q, hq⟩ : ∃ q, sub t (wNs x.f2) = q := ⟨_, rfl⟩
  have HQ := Lib.hid hq
  clear hq
  have c3' := H2.out.cell (g := w.heap.size) (cs := #[.int .i64 x.f0, .int .i64 x.f1.f0, .slice A2 x.f1.f1.length c2, .slice A3 x.f2.length c3]) (by simp) 3 rfl
  go_wp2_with fail
  refine (IH.out A3 c3 t _ (Kd.C_below G3.out H2.out.1) L3.out (by have := HP.out; have := HL.out; omega)).mono ?_
  rw [HQ.out]
  rintro e w2 ⟨rfl, hb⟩
  have H3 := Lib.hid (H2.out.below hb)
  clear hb H2 c3'
  have hr : sub l (wN x) = q := by
    rw [← HQ.out, HW.out]
    have := HP.out
    unfold sub
    by_cases h : ((wNs x.f2 : Nat) : Int) ≤ t
    · rw [if_pos h, if_pos (by omega)]; omega
    · rw [if_neg h, if_neg (by omega)]
  have Hr := Lib.hid hr
  clear hr b0
  have hq1 : Hid (-1 ≤ q) := Lib.hid (by rw [← HQ.out]; exact sub_lo)
  by_cases h0 : q < 0
  · have b0 : decide (q < 0) = true := decide_eq_true h0
    have hq2 : Hid (q = -1) := Lib.hid (by have := hq1.out; omega)
    clear h0
    go_wp2_with fail
    go_ret
    exact ⟨kit.ret_int (by rw [Hr.out, hq2.out]), H3.out.1⟩
  · have b0 : decide (q < 0) = false := decide_eq_false h0
    clear h0
    go_wp2_with fail
    go_ret
    exact ⟨kit.ret_int Hr.out.symm, H3.out.1⟩
theorem szNs_all (Y : List EN) : SzNs Y := by
  have : ∀ (N : Nat) (Y : List EN), SizeOf.sizeOf Y ≤ N → SzNs Y := by
    intro N
    induction N with
    | zero => intro Y h; cases Y <;> simp at h
    | succ N ih =>
      intro Y h
      refine szNs_of Y fun x hx => szN_of x (ih _ ?_)
      have h1 := List.sizeOf_lt_of_mem hx
      have h2 : SizeOf.sizeOf x.f2 < SizeOf.sizeOf x := by obtain ⟨a, b, d⟩ := x; simp; omega
      omega
  exact this _ Y (Nat.le_refl _)
theorem szN_all (x : EN) : SzN x := szN_of x (szNs_all x.f2)
theorem el_max {w : World} {A : Option Addr} {Y : List EE} (h : Kd.C k39 w A Y.length Y) : ∀ x ∈ Y, x.f1.length ≤ 9223372036854775807 := by
  intro x hx
  obtain ⟨i, hi, rfl⟩ := List.getElem_of_mem hx
  obtain ⟨ad, A1, c1, e, _, _, _, g⟩ := at_T39 h (i : Int) (by omega) (by omega)
  have := Kd.C_max g
  have ev : rd_T39 Y (i : Int) = Y[i] := by
    show Y.getD (i : Int).toNat z39 = _
    simp [hi]
  rwa [ev] at this
def SzA (x : EA) : Prop := ∀ (A2 A3 A4 A5 : Option Addr) (c2 c3 c4 c5 : Nat) (l : Int) (w : World), Kd.C k30 w A2 x.f0.f1.f1.length x.f0.f1.f1 → x.f0.f1.f1.length ≤ c2 → Kd.C k42 w A3 x.f0.f2.length x.f0.f2 → x.f0.f2.length ≤ c3 → Kd.C k39 w A4 x.f1.length x.f1 → x.f1.length ≤ c4 → Kd.C k45 w A5 x.f2.length x.f2 → x.f2.length ≤ c5 → 0 ≤ l ∧ l ≤ 1048576 →
    Calls Try.prog 16 #[.agg #[.int .i64 x.f0.f0, .int .i64 x.f0.f1.f0, .slice A2 x.f0.f1.f1.length c2, .slice A3 x.f0.f2.length c3, .slice A4 x.f1.length c4, .slice A5 x.f2.length c5], .int .i64 l] w fun e w' => e = .returned (.int .i64 (sub l (wA x))) ∧ Below w.heap.size w w'
def SzAs (Y : List EA) : Prop := ∀ (A : Option Addr) (c : Nat) (l : Int) (w : World), Kd.C k45 w A Y.length Y → Y.length ≤ c → 0 ≤ l ∧ l ≤ 1048576 →
    Calls Try.prog 6 #[.slice A Y.length c, .int .i64 l] w fun e w' => e = .returned (.int .i64 (sub l (wAs Y))) ∧ Below w.heap.size w w'
set_option maxHeartbeats 4000000 in
theorem szAs_of (Y : List EA) (ih : ∀ x ∈ Y, SzA x) : SzAs Y := by
  intro A c l w hC hc hl
  have HC := Lib.hid hC
  have Hc := Lib.hid hc
  have HL := Lib.hid hl
  have hmax := Kd.C_max hC
  have Hm := Lib.hid hmax
  have IH := Lib.hid ih
  obtain ⟨v, hv⟩ : ∃ v, l - (Y.length : Int) = v := ⟨_, rfl⟩
  have e1 : wrap64 (l - (Y.length : Int)) = v := by rw [← hv]; unfold wrap64; omega
  have HV := Lib.hid hv
  clear hv hC hc hl hmax ih
  have hS := wAs_eq Y
  have HS := Lib.hid hS
  clear hS
  by_cases h0 : v < 0
  · have b0 : decide (v < 0) = true := decide_eq_true h0
    have hr : sub l (wAs Y) = -1 := sub_no (by rw [HS.out]; have := HV.out; omega)
    have Hr := Lib.hid hr
    clear hr h0
    go_enter Try.func6, Try.ntmps6
    go_wp2_with fail
    go_ret
    exact ⟨kit.ret_int Hr.out.symm, Below.refl _ _⟩
  have b0 : decide (v < 0) = false := decide_eq_false h0
  have H0 := Lib.hid h0
  clear h0
  go_enter Try.func6, Try.ntmps6
  go_wp2_with fail
  go_loopg [1, 5] Y.length (fun gg s1 s5 wr => ∃ kk : Nat, ∃ u : Int, kk ≤ Y.length ∧ Y.length - kk ≤ gg ∧ s5 = .int .i64 kk ∧ s1 = .int .i64 u ∧ Hid (u = v - (sm wA (Y.take kk) : Nat) ∧ 0 ≤ u) ∧ Hid (Below w.heap.size w wr))
  case atStart => exact ⟨0, v, Nat.zero_le _, by omega, rfl, rfl, Lib.hid ⟨by simp [sm], by have := H0.out; omega⟩, Lib.hid (Below.refl _ _)⟩
  case round =>
    clear b0 e1
    obtain ⟨kk, u, hk1, hgg, rfl, rfl, HU, HB⟩ := hrel
    by_cases hlt : kk < Y.length
    · obtain ⟨ad, A2, c2, A3, c3, A4, c4, A5, c5, e, y0, y1, y2, y3, y4, y5, l2, g2, l3, g3, l4, g4, l5, g5⟩ := at_T45 HC.out (kk : Int) (by omega) (by omega)
      subst e
      have ev : rd_T45 Y (kk : Int) = Y[kk] := by
        show Y.getD (kk : Int).toNat z45 = _
        simp [hlt]
      rw [ev] at y0 y1 y2 y3 y4 y5 l2 g2 l3 g3 l4 g4 l5 g5
      rw [Int.toNat_natCast] at y0 y1 y2 y3 y4 y5
      have G2 := Lib.hid g2
      have L2 := Lib.hid l2
      have G3 := Lib.hid g3
      have L3 := Lib.hid l3
      have G4 := Lib.hid g4
      have L4 := Lib.hid l4
      have G5 := Lib.hid g5
      have L5 := Lib.hid l5
      have Ix := Lib.hid (IH.out Y[kk] (List.getElem_mem hlt))
      have Ht := Lib.hid (sm_take wA Y kk hlt)
      have Hle := Lib.hid (sm_le wA Y (kk + 1))
      generalize Y[kk] = y at *
      clear g2 l2 g3 l3 g4 l4 g5 l5 ev
      replace y0 := (HB.out.cell (World.block_lt_of_cell? w _ y0)).trans y0
      replace y1 := (HB.out.cell (World.block_lt_of_cell? w _ y1)).trans y1
      replace y2 := (HB.out.cell (World.block_lt_of_cell? w _ y2)).trans y2
      replace y3 := (HB.out.cell (World.block_lt_of_cell? w _ y3)).trans y3
      replace y4 := (HB.out.cell (World.block_lt_of_cell? w _ y4)).trans y4
      replace y5 := (HB.out.cell (World.block_lt_of_cell? w _ y5)).trans y5
      obtain ⟨t, ht⟩ : ∃ t, sub u (wA y) = t := ⟨_, rfl⟩
      have HT := Lib.hid ht
      clear ht
      have Hk := Lib.hid (⟨hk1, hgg, hlt⟩ : _ ∧ _ ∧ _)
      go_wp2_with fail
      refine (Ix.out A2 A3 A4 A5 c2 c3 c4 c5 u _ (Kd.C_below G2.out HB.out) L2.out (Kd.C_below G3.out HB.out) L3.out (Kd.C_below G4.out HB.out) L4.out (Kd.C_below G5.out HB.out) L5.out (by have := HU.out; have := HL.out; have := HV.out; omega)).mono ?_
      rw [HT.out]
      rintro e w1 ⟨rfl, hb⟩
      have HB1 := Lib.hid (HB.out.trans (hb.mono HB.out.size))
      clear hb HB 
      by_cases ht0 : t < 0
      · have b1 : decide (t < 0) = true := decide_eq_true ht0
        have hr : sub l (wAs Y) = -1 := by
          apply sub_no
          rw [HS.out]
          intro hh
          have h1 := HT.out
          rw [sub_ok (by have := HU.out; have := HV.out; have := Ht.out; have := Hle.out; omega)] at h1
          have := HU.out; have := HV.out; have := Ht.out; have := Hle.out
          omega
        have Hr := Lib.hid hr
        clear hr ht0
        go_wp2_with fail
        go_ret
        exact ⟨kit.ret_int Hr.out.symm, HB1.out⟩
      · have b1 : decide (t < 0) = false := decide_eq_false ht0
        have H1 := Lib.hid ht0
        clear ht0
        go_wp2_with fail
        go_roundg (Y.length - (kk + 1))
        case measure => omega
        case rel =>
          refine ⟨kk + 1, t, by omega, Nat.le_refl _, ?_, rfl, Lib.hid ⟨?_, by have := H1.out; omega⟩, HB1⟩
          · rw [show wrap64 ((kk : Int) + 1) = ((kk + 1 : Nat) : Int) by unfold wrap64; have := Hm.out; omega]
          · have h1 := HT.out
            have h2 : ((wA y : Nat) : Int) ≤ u := by
              rcases (show u < ((wA y : Nat) : Int) ∨ ((wA y : Nat) : Int) ≤ u by omega) with h | h
              · rw [sub_no (by omega)] at h1
                have := H1.out
                omega
              · exact h
            rw [sub_ok h2] at h1
            have := HU.out; have := Ht.out
            omega
    · have hke : kk = Y.length := by omega
      subst hke
      have hr : sub l (wAs Y) = u := by
        have h1 := HU.out
        rw [List.take_length] at h1
        rw [sub_ok (by rw [HS.out]; have := HV.out; omega), HS.out]
        have := HV.out
        omega
      have Hr := Lib.hid hr
      clear hr
      go_wp2_with fail
      go_ret
      exact ⟨kit.ret_int Hr.out.symm, HB.out⟩
set_option maxHeartbeats 4000000 in
theorem szA_of (x : EA) (ih : SzAs x.f2) : SzA x := by
  intro A2 A3 A4 A5 c2 c3 c4 c5 l w g2 l2 g3 l3 g4 l4 g5 l5 hl
  have IH := Lib.hid ih
  have G2 := Lib.hid g2
  have L2 := Lib.hid l2
  have G3 := Lib.hid g3
  have L3 := Lib.hid l3
  have G4 := Lib.hid g4
  have L4 := Lib.hid l4
  have G5 := Lib.hid g5
  have L5 := Lib.hid l5
  have HL := Lib.hid hl
  have hm := Kd.C_max g4
  have Hm := Lib.hid hm
  clear ih g2 l2 g3 l3 g4 l4 g5 l5 hl hm
  have HW := Lib.hid (wA_eq x)
  obtain ⟨t, ht⟩ : ∃ t, sub l (wN x.f0) = t := ⟨_, rfl⟩
  have HT := Lib.hid ht
  clear ht
  have H1 := Lib.hid (Hx.box (Hx.nil (Below.refl w.heap.size w)) #[.int .i64 x.f0.f0, .int .i64 x.f0.f1.f0, .slice A2 x.f0.f1.f1.length c2, .slice A3 x.f0.f2.length c3, .slice A4 x.f1.length c4, .slice A5 x.f2.length c5] 45)
  go_enter Try.func16, Try.ntmps16
  go_wp2_with fail
  refine (szN_all x.f0 A2 A3 c2 c3 l _ (Kd.C_below G2.out H1.out.1) L2.out (Kd.C_below G3.out H1.out.1) L3.out HL.out).mono ?_
  rw [HT.out]
  rintro e w1 ⟨rfl, hb⟩
  have H2 := Lib.hid (H1.out.below hb)
  clear hb H1
  by_cases h0 : t < 0
  · have b0 : decide (t < 0) = true := decide_eq_true h0
    have hr : sub l (wA x) = -1 := by
      apply sub_no
      rw [HW.out]
      intro hh
      have h1 := HT.out
      rw [sub_ok (by omega)] at h1
      omega
    have Hr := Lib.hid hr
    clear hr h0
    go_wp2_with fail
    go_ret
    exact ⟨kit.ret_int Hr.out.symm, H2.out.1⟩
  have b0 : decide (t < 0) = false := decide_eq_false h0
  have HP := Lib.hid (show t = l - (wN x.f0 : Nat) ∧ 0 ≤ t from by
    have h1 := HT.out
    rcases (show l < ((wN x.f0 : Nat) : Int) ∨ ((wN x.f0 : Nat) : Int) ≤ l by omega) with h | h
    · rw [sub_no (by omega)] at h1
      omega
    · rw [sub_ok h] at h1
      omega)
  clear h0
  obtain ⟨p, hp⟩ : ∃ p, sub t (wEs x.f1) = p := ⟨_, rfl⟩
  have HPp := Lib.hid hp
  clear hp
  have d4 := H2.out.cell (g := w.heap.size) (cs := #[.int .i64 x.f0.f0, .int .i64 x.f0.f1.f0, .slice A2 x.f0.f1.f1.length c2, .slice A3 x.f0.f2.length c3, .slice A4 x.f1.length c4, .slice A5 x.f2.length c5]) (by simp) 4 rfl
  go_wp2_with fail
  refine (laws_szElemS.calls (x.f1.length + 1) A4 c4 x.f1 t p _ (Kd.C_below G4.out H2.out.1) L4.out (by rw [szElemS_f _ _ Hm.out (el_max G4.out) (by have := HP.out; have := HL.out; omega), HPp.out])).mono ?_
  rintro e w2 ⟨rfl, hb⟩
  have H3 := Lib.hid (H2.out.below (by first | exact hb | exact hb.below))
  clear hb H2 d4 b0
  by_cases h0 : p < 0
  · have b0 : decide (p < 0) = true := decide_eq_true h0
    have hr : sub l (wA x) = -1 := by
      apply sub_no
      rw [HW.out]
      intro hh
      have h1 := HPp.out
      rw [sub_ok (by have := HP.out; omega)] at h1
      have := HP.out
      omega
    have Hr := Lib.hid hr
    clear hr h0
    go_wp2_with fail
    go_ret
    exact ⟨kit.ret_int Hr.out.symm, H3.out.1⟩
  have b0 : decide (p < 0) = false := decide_eq_false h0
  have HP2 := Lib.hid (show p = t - (wEs x.f1 : Nat) ∧ 0 ≤ p from by
    have h1 := HPp.out
    rcases (show t < ((wEs x.f1 : Nat) : Int) ∨ ((wEs x.f1 : Nat) : Int) ≤ t by omega) with h | h
    · rw [sub_no (by omega)] at h1
      omega
    · rw [sub_ok h] at h1
      omega)
  clear h0
  obtain ⟨q, hq⟩ : ∃ q, sub p (wAs x.f2) = q := ⟨_, rfl⟩
  have HQ := Lib.hid hq
  clear hq
  have d5 := H3.out.cell (g := w.heap.size) (cs := #[.int .i64 x.f0.f0, .int .i64 x.f0.f1.f0, .slice A2 x.f0.f1.f1.length c2, .slice A3 x.f0.f2.length c3, .slice A4 x.f1.length c4, .slice A5 x.f2.length c5]) (by simp) 5 rfl
  go_wp2_with fail
  refine (IH.out A5 c5 p _ (Kd.C_below G5.out H3.out.1) L5.out (by have := HP.out; have := HP2.out; have := HL.out; omega)).mono ?_
  rw [HQ.out]
  rintro e w3 ⟨rfl, hb⟩
  have H4 := Lib.hid (H3.out.below hb)
  clear hb H3 d5
  have hr : sub l (wA x) = q := by
    rw [← HQ.out, HW.out]
    have := HP.out; have := HP2.out
    unfold sub
    by_cases h : ((wAs x.f2 : Nat) : Int) ≤ p
    · rw [if_pos h, if_pos (by omega)]; omega
    · rw [if_neg h, if_neg (by omega)]
  have Hr := Lib.hid hr
  clear hr b0
  have hq1 : Hid (-1 ≤ q) := Lib.hid (by rw [← HQ.out]; exact sub_lo)
  by_cases h0 : q < 0
  · have b0 : decide (q < 0) = true := decide_eq_true h0
    have hq2 : Hid (q = -1) := Lib.hid (by have := hq1.out; omega)
    clear h0
    go_wp2_with fail
    go_ret
    exact ⟨kit.ret_int (by rw [Hr.out, hq2.out]), H4.out.1⟩
  · have b0 : decide (q < 0) = false := decide_eq_false h0
    clear h0
    go_wp2_with fail
    go_ret
    exact ⟨kit.ret_int Hr.out.symm, H4.out.1⟩
theorem szAs_all (Y : List EA) : SzAs Y := by
  have : ∀ (N : Nat) (Y : List EA), SizeOf.sizeOf Y ≤ N → SzAs Y := by
    intro N
    induction N with
    | zero => intro Y h; cases Y <;> simp at h
    | succ N ih =>
      intro Y h
      refine szAs_of Y fun x hx => szA_of x (ih _ ?_)
      have h1 := List.sizeOf_lt_of_mem hx
      have h2 : SizeOf.sizeOf x.f2 < SizeOf.sizeOf x := by obtain ⟨a, b, d⟩ := x; simp; omega
      omega
  exact this _ Y (Nat.le_refl _)
end Go.Proofs.Ytkiemiolellllaa.tree
