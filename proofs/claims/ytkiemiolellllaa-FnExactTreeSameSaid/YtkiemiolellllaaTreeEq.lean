/-
  'eqNet', 'eqNetS', 'eqArm', 'eqArmS' of the laws: equal ladders are found equal.
  Conditions: none.
-/
import Derived.Test.YtkiemiolellllaaKit
import Derived.Test.YtkiemiolellllaaCutTrx4
import Derived.Test.YtkiemiolellllaaHxG
import Derived.Deep.RegionWith
namespace Go.Proofs.Ytkiemiolellllaa.tree
open Go Go.RowKit Go.Proofs.Ytkiemiolellllaa.part Go.Proofs.Ytkiemiolellllaa.CutTr Go.Proofs.YtkiemiolellllaaW.PrintWords
set_option linter.unusedVariables false
set_option linter.unusedSimpArgs false
set_option maxRecDepth 100000

abbrev ID := S32
abbrev IE := S49
abbrev IN := S52
abbrev IA := S55
theorem eqDs_l0 (Y : List ID) (hY : Y.length ≤ 9223372036854775807) : ∀ (k i : Nat), i ≤ Y.length → Y.length - i < k → laws_eqDevArgS.l0 k Y Y i = some true
  | 0, i, _, h => absurd h (Nat.not_lt_zero _)
  | k + 1, i, hi, hk => by
    rw [laws_eqDevArgS.l0]
    by_cases h : i < Y.length
    · have hw : wrap64 ((i : Int) + 1) = ((i + 1 : Nat) : Int) := by unfold wrap64; omega
      rw [if_pos (by omega), if_pos (by omega), if_pos (by omega), hw, eqDs_l0 Y hY k (i + 1) (by omega) (by omega)]
      simp [laws_eqDevArg.f]
    · rw [if_neg (by omega)]
theorem eqElem_f (op : Int) (Y : List ID) (hY : Y.length ≤ 9223372036854775807) (k : Nat) (hk : Y.length < k) : laws_eqElem.f k op Y op Y = some true := by
  unfold laws_eqElem.f laws_eqDevArgS.f
  rw [if_pos rfl, if_pos rfl, show (0 : Int) = ((0 : Nat) : Int) from rfl, eqDs_l0 Y hY k 0 (Nat.zero_le _) (by omega)]
  rfl
theorem eqEs_l0 (Y : List IE) (hY : Y.length ≤ 9223372036854775807) (M : Nat) (hE : ∀ x ∈ Y, x.f1.length ≤ M ∧ x.f1.length ≤ 9223372036854775807) : ∀ (k i : Nat), i ≤ Y.length → Y.length - i + M < k → laws_eqElemS.l0 k Y Y i = some true
  | 0, i, _, h => absurd h (Nat.not_lt_zero _)
  | k + 1, i, hi, hk => by
    rw [laws_eqElemS.l0]
    by_cases h : i < Y.length
    · have hw : wrap64 ((i : Int) + 1) = ((i + 1 : Nat) : Int) := by unfold wrap64; omega
      have e2 : rd_T49 Y (i : Int) = Y[i] := by
        show Y.getD (i : Int).toNat z49 = _
        simp [h]
      have hm := hE _ (List.getElem_mem h)
      rw [if_pos (by omega), if_pos (by omega), if_pos (by omega), e2, eqElem_f _ _ hm.2 _ (by omega), Option.bind_some, if_pos rfl, hw, eqEs_l0 Y hY M hE k (i + 1) (by omega) (by omega)]
    · rw [if_neg (by omega)]
theorem maxE : ∀ (Y : List IE), ∃ M, ∀ x ∈ Y, x.f1.length ≤ M
  | [] => ⟨0, fun x h => by cases h⟩
  | x :: r => by
    obtain ⟨M, hM⟩ := maxE r
    refine ⟨M + x.f1.length, fun y hy => ?_⟩
    rcases List.mem_cons.1 hy with rfl | hy
    · omega
    · have := hM y hy; omega
theorem eqElemS_f (Y : List IE) (hY : Y.length ≤ 9223372036854775807) (hE : ∀ x ∈ Y, x.f1.length ≤ 9223372036854775807) : ∃ k, laws_eqElemS.f k Y Y = some true := by
  obtain ⟨M, hM⟩ := maxE Y
  refine ⟨Y.length + M + 1, ?_⟩
  unfold laws_eqElemS.f
  rw [if_pos rfl, show (0 : Int) = ((0 : Nat) : Int) from rfl]
  exact eqEs_l0 Y hY M (fun x hx => ⟨hM x hx, hE x hx⟩) _ 0 (Nat.zero_le _) (by omega)
theorem il_max {w : World} {A : Option Addr} {Y : List IE} (h : Kd.C k49 w A Y.length Y) : ∀ x ∈ Y, x.f1.length ≤ 9223372036854775807 := by
  intro x hx
  obtain ⟨i, hi, rfl⟩ := List.getElem_of_mem hx
  obtain ⟨ad, A1, c1, e, _, _, _, g⟩ := at_T49 h (i : Int) (by omega) (by omega)
  have := Kd.C_max g
  have ev : rd_T49 Y (i : Int) = Y[i] := by
    show Y.getD (i : Int).toNat z49 = _
    simp [hi]
  rwa [ev] at this
def EqN (x : IN) : Prop := ∀ (A2 A3 B2 B3 : Option Addr) (a2 a3 b2 b3 : Nat) (w : World), Kd.C k32 w A2 x.f1.f1.length x.f1.f1 → x.f1.f1.length ≤ a2 → Kd.C k52 w A3 x.f2.length x.f2 → x.f2.length ≤ a3 → Kd.C k32 w B2 x.f1.f1.length x.f1.f1 → x.f1.f1.length ≤ b2 → Kd.C k52 w B3 x.f2.length x.f2 → x.f2.length ≤ b3 →
    Calls Try.prog 39 #[.agg #[.int .i64 x.f0, .int .i64 x.f1.f0, .slice A2 x.f1.f1.length a2, .slice A3 x.f2.length a3], .agg #[.int .i64 x.f0, .int .i64 x.f1.f0, .slice B2 x.f1.f1.length b2, .slice B3 x.f2.length b3]] w fun e w' => e = .returned (.bool true) ∧ Below w.heap.size w w'
def EqNs (Y : List IN) : Prop := ∀ (A A' : Option Addr) (c c' : Nat) (w : World), Kd.C k52 w A Y.length Y → Y.length ≤ c → Kd.C k52 w A' Y.length Y → Y.length ≤ c' →
    Calls Try.prog 50 #[.slice A Y.length c, .slice A' Y.length c'] w fun e w' => e = .returned (.bool true) ∧ Below w.heap.size w w'
set_option maxHeartbeats 4000000 in
theorem eqNs_of (Y : List IN) (ih : ∀ x ∈ Y, EqN x) : EqNs Y := by
  intro A A' c c' w hC hc hC' hc'
  have HC := Lib.hid hC
  have Hc := Lib.hid hc
  have HC' := Lib.hid hC'
  have Hc' := Lib.hid hc'
  have hmax := Kd.C_max hC
  have Hm := Lib.hid hmax
  have IH := Lib.hid ih
  clear hC hc hC' hc' hmax ih
  go_enter Try.func50, Try.ntmps50
  go_wp2_with fail
  go_loopg [5] Y.length (fun gg s5 wr => ∃ kk : Nat, kk ≤ Y.length ∧ Y.length - kk ≤ gg ∧ s5 = .int .i64 kk ∧ Hid (Below w.heap.size w wr))
  case atStart => exact ⟨0, Nat.zero_le _, by omega, rfl, Lib.hid (Below.refl _ _)⟩
  case round =>
    obtain ⟨kk, hk1, hgg, rfl, HB⟩ := hrel
    by_cases hlt : kk < Y.length
    · obtain ⟨ada, A2, a2, A3, a3, ea, y0, y1, y2, y3, la2, ga2, la3, ga3⟩ := at_T52 HC.out (kk : Int) (by omega) (by omega)
      obtain ⟨adb, B2, b2, B3, b3, eb, z0, z1, z2, z3, lb2, gb2, lb3, gb3⟩ := at_T52 HC'.out (kk : Int) (by omega) (by omega)
      subst ea
      subst eb
      have ev : rd_T52 Y (kk : Int) = Y[kk] := by
        show Y.getD (kk : Int).toNat z52 = _
        simp [hlt]
      rw [ev] at y0 y1 y2 y3 la2 ga2 la3 ga3 z0 z1 z2 z3 lb2 gb2 lb3 gb3
      rw [Int.toNat_natCast] at y0 y1 y2 y3 z0 z1 z2 z3
      have Ga2 := Lib.hid ga2
      have La2 := Lib.hid la2
      have Ga3 := Lib.hid ga3
      have La3 := Lib.hid la3
      have Gb2 := Lib.hid gb2
      have Lb2 := Lib.hid lb2
      have Gb3 := Lib.hid gb3
      have Lb3 := Lib.hid lb3
      have Ix := Lib.hid (IH.out Y[kk] (List.getElem_mem hlt))
      generalize Y[kk] = y at *
      clear la2 ga2 la3 ga3 lb2 gb2 lb3 gb3 ev
      replace y0 := (HB.out.cell (World.block_lt_of_cell? w _ y0)).trans y0
      replace y1 := (HB.out.cell (World.block_lt_of_cell? w _ y1)).trans y1
      replace y2 := (HB.out.cell (World.block_lt_of_cell? w _ y2)).trans y2
      replace y3 := (HB.out.cell (World.block_lt_of_cell? w _ y3)).trans y3
      replace z0 := (HB.out.cell (World.block_lt_of_cell? w _ z0)).trans z0
      replace z1 := (HB.out.cell (World.block_lt_of_cell? w _ z1)).trans z1
      replace z2 := (HB.out.cell (World.block_lt_of_cell? w _ z2)).trans z2
      replace z3 := (HB.out.cell (World.block_lt_of_cell? w _ z3)).trans z3
      go_wp2_with fail
      go_region_with (go_at_call 39; refine (Ix.out A2 A3 B2 B3 a2 a3 b2 b3 _ (Kd.C_drew (Kd.C_below Ga2.out HB.out)) La2.out (Kd.C_drew (Kd.C_below Ga3.out HB.out)) La3.out (Kd.C_drew (Kd.C_below Gb2.out HB.out)) Lb2.out (Kd.C_drew (Kd.C_below Gb3.out HB.out)) Lb3.out).mono ?_; rintro e w1 ⟨rfl, hb⟩; have HB1 := Lib.hid (Below.trans (Below.trans HB.out (⟨rfl, rfl, rfl, Nat.le_refl _, fun _ _ => rfl⟩ : Below w.heap.size wr wr.drew)) (hb.mono HB.out.size)); clear hb)
      all_goals
        go_wp2_with fail
        go_roundg (Y.length - (kk + 1))
        case measure => omega
        case rel => exact ⟨kk + 1, by omega, Nat.le_refl _, (by rw [show wrap64 ((kk : Int) + 1) = ((kk + 1 : Nat) : Int) by unfold wrap64; have := Hm.out; omega]), HB1⟩
    · go_wp2_with fail
      go_ret
      exact ⟨rfl, HB.out⟩
set_option maxHeartbeats 4000000 in
theorem eqN_of (x : IN) (ih : EqNs x.f2) : EqN x := by
  intro A2 A3 B2 B3 a2 a3 b2 b3 w ga2 la2 ga3 la3 gb2 lb2 gb3 lb3
  have IH := Lib.hid ih
  have Ga2 := Lib.hid ga2
  have La2 := Lib.hid la2
  have Ga3 := Lib.hid ga3
  have La3 := Lib.hid la3
  have Gb2 := Lib.hid gb2
  have Lb2 := Lib.hid lb2
  have Gb3 := Lib.hid gb3
  have Lb3 := Lib.hid lb3
  have hm := Kd.C_max ga2
  have Hm := Lib.hid hm
  clear ih hm ga2 la2 ga3 la3 gb2 lb2 gb3 lb3
  have H0 := Hx.box (Hx.nil (Below.refl w.heap.size w)) #[.int .i64 x.f0, .int .i64 x.f1.f0, .slice A2 x.f1.f1.length a2, .slice A3 x.f2.length a3] 52
  have H1 := Lib.hid (H0.box #[.int .i64 x.f0, .int .i64 x.f1.f0, .slice B2 x.f1.f1.length b2, .slice B3 x.f2.length b3] 52)
  have E1 := size_alloc w (.cells #[.int .i64 x.f0, .int .i64 x.f1.f0, .slice A2 x.f1.f1.length a2, .slice A3 x.f2.length a3] 52)
  rw [E1] at H1
  have EH := Lib.hid E1
  clear H0 E1
  go_enter Try.func39, Try.ntmps39
  have p0 := H1.out.cell (g := w.heap.size) (cs := #[.int .i64 x.f0, .int .i64 x.f1.f0, .slice A2 x.f1.f1.length a2, .slice A3 x.f2.length a3]) (by simp) 0 rfl
  have q0 := H1.out.cell (g := w.heap.size + 1) (cs := #[.int .i64 x.f0, .int .i64 x.f1.f0, .slice B2 x.f1.f1.length b2, .slice B3 x.f2.length b3]) (by simp) 0 rfl
  have p1 := H1.out.cell (g := w.heap.size) (cs := #[.int .i64 x.f0, .int .i64 x.f1.f0, .slice A2 x.f1.f1.length a2, .slice A3 x.f2.length a3]) (by simp) 1 rfl
  have q1 := H1.out.cell (g := w.heap.size + 1) (cs := #[.int .i64 x.f0, .int .i64 x.f1.f0, .slice B2 x.f1.f1.length b2, .slice B3 x.f2.length b3]) (by simp) 1 rfl
  have p2 := H1.out.cell (g := w.heap.size) (cs := #[.int .i64 x.f0, .int .i64 x.f1.f0, .slice A2 x.f1.f1.length a2, .slice A3 x.f2.length a3]) (by simp) 2 rfl
  have q2 := H1.out.cell (g := w.heap.size + 1) (cs := #[.int .i64 x.f0, .int .i64 x.f1.f0, .slice B2 x.f1.f1.length b2, .slice B3 x.f2.length b3]) (by simp) 2 rfl
  go_wp2_with fail
  refine (laws_eqElem.calls (x.f1.f1.length + 1) x.f1.f0 A2 a2 x.f1.f1 x.f1.f0 B2 b2 x.f1.f1 true _ (Kd.C_below Ga2.out H1.out.1) La2.out (Kd.C_below Gb2.out H1.out.1) Lb2.out (eqElem_f _ _ Hm.out _ (Nat.lt_succ_self _))).mono ?_
  rintro e w1 ⟨rfl, hb⟩
  have H2 := Lib.hid (H1.out.below (by first | exact hb | exact hb.below | (obtain ⟨nd, rfl⟩ := hb; exact ⟨rfl, rfl, rfl, Nat.le_refl _, fun _ _ => rfl⟩)))
  clear hb H1 p0 q0 p1 q1 p2 q2
  have p3 := H2.out.cell (g := w.heap.size) (cs := #[.int .i64 x.f0, .int .i64 x.f1.f0, .slice A2 x.f1.f1.length a2, .slice A3 x.f2.length a3]) (by simp) 3 rfl
  have q3 := H2.out.cell (g := w.heap.size + 1) (cs := #[.int .i64 x.f0, .int .i64 x.f1.f0, .slice B2 x.f1.f1.length b2, .slice B3 x.f2.length b3]) (by simp) 3 rfl
  go_wp2_with fail
  refine (IH.out A3 B3 a3 b3 _ (Kd.C_below Ga3.out H2.out.1) La3.out (Kd.C_below Gb3.out H2.out.1) Lb3.out).mono ?_
  rintro e w2 ⟨rfl, hb⟩
  have H3 := Lib.hid (H2.out.below (by first | exact hb | exact hb.below | (obtain ⟨nd, rfl⟩ := hb; exact ⟨rfl, rfl, rfl, Nat.le_refl _, fun _ _ => rfl⟩)))
  clear hb H2 p3 q3
  go_wp2_with fail
  go_ret
  exact ⟨rfl, H3.out.1⟩
theorem eqNs_all (Y : List IN) : EqNs Y := by
  have : ∀ (N : Nat) (Y : List IN), SizeOf.sizeOf Y ≤ N → EqNs Y := by
    intro N
    induction N with
    | zero => intro Y h; cases Y <;> simp at h
    | succ N ih =>
      intro Y h
      refine eqNs_of Y fun x hx => eqN_of x (ih _ ?_)
      have h1 := List.sizeOf_lt_of_mem hx
      have h2 : SizeOf.sizeOf x.f2 < SizeOf.sizeOf x := by obtain ⟨a, b, d⟩ := x; simp; omega
      omega
  exact this _ Y (Nat.le_refl _)
theorem eqN_all (x : IN) : EqN x := eqN_of x (eqNs_all x.f2)
def EqA (x : IA) : Prop := ∀ (A2 A3 A4 A5 B2 B3 B4 B5 : Option Addr) (a2 a3 a4 a5 b2 b3 b4 b5 : Nat) (w : World), Kd.C k32 w A2 x.f0.f1.f1.length x.f0.f1.f1 → x.f0.f1.f1.length ≤ a2 → Kd.C k52 w A3 x.f0.f2.length x.f0.f2 → x.f0.f2.length ≤ a3 → Kd.C k49 w A4 x.f1.length x.f1 → x.f1.length ≤ a4 → Kd.C k55 w A5 x.f2.length x.f2 → x.f2.length ≤ a5 → Kd.C k32 w B2 x.f0.f1.f1.length x.f0.f1.f1 → x.f0.f1.f1.length ≤ b2 → Kd.C k52 w B3 x.f0.f2.length x.f0.f2 → x.f0.f2.length ≤ b3 → Kd.C k49 w B4 x.f1.length x.f1 → x.f1.length ≤ b4 → Kd.C k55 w B5 x.f2.length x.f2 → x.f2.length ≤ b5 →
    Calls Try.prog 21 #[.agg #[.int .i64 x.f0.f0, .int .i64 x.f0.f1.f0, .slice A2 x.f0.f1.f1.length a2, .slice A3 x.f0.f2.length a3, .slice A4 x.f1.length a4, .slice A5 x.f2.length a5], .agg #[.int .i64 x.f0.f0, .int .i64 x.f0.f1.f0, .slice B2 x.f0.f1.f1.length b2, .slice B3 x.f0.f2.length b3, .slice B4 x.f1.length b4, .slice B5 x.f2.length b5]] w fun e w' => e = .returned (.bool true) ∧ Below w.heap.size w w'
def EqAs (Y : List IA) : Prop := ∀ (A A' : Option Addr) (c c' : Nat) (w : World), Kd.C k55 w A Y.length Y → Y.length ≤ c → Kd.C k55 w A' Y.length Y → Y.length ≤ c' →
    Calls Try.prog 10 #[.slice A Y.length c, .slice A' Y.length c'] w fun e w' => e = .returned (.bool true) ∧ Below w.heap.size w w'
set_option maxHeartbeats 4000000 in
theorem eqAs_of (Y : List IA) (ih : ∀ x ∈ Y, EqA x) : EqAs Y := by
  intro A A' c c' w hC hc hC' hc'
  have HC := Lib.hid hC
  have Hc := Lib.hid hc
  have HC' := Lib.hid hC'
  have Hc' := Lib.hid hc'
  have hmax := Kd.C_max hC
  have Hm := Lib.hid hmax
  have IH := Lib.hid ih
  clear hC hc hC' hc' hmax ih
  go_enter Try.func10, Try.ntmps10
  go_wp2_with fail
  go_loopg [5] Y.length (fun gg s5 wr => ∃ kk : Nat, kk ≤ Y.length ∧ Y.length - kk ≤ gg ∧ s5 = .int .i64 kk ∧ Hid (Below w.heap.size w wr))
  case atStart => exact ⟨0, Nat.zero_le _, by omega, rfl, Lib.hid (Below.refl _ _)⟩
  case round =>
    obtain ⟨kk, hk1, hgg, rfl, HB⟩ := hrel
    by_cases hlt : kk < Y.length
    · obtain ⟨ada, A2, a2, A3, a3, A4, a4, A5, a5, ea, y0, y1, y2, y3, y4, y5, la2, ga2, la3, ga3, la4, ga4, la5, ga5⟩ := at_T55 HC.out (kk : Int) (by omega) (by omega)
      obtain ⟨adb, B2, b2, B3, b3, B4, b4, B5, b5, eb, z0, z1, z2, z3, z4, z5, lb2, gb2, lb3, gb3, lb4, gb4, lb5, gb5⟩ := at_T55 HC'.out (kk : Int) (by omega) (by omega)
      subst ea
      subst eb
      have ev : rd_T55 Y (kk : Int) = Y[kk] := by
        show Y.getD (kk : Int).toNat z55 = _
        simp [hlt]
      rw [ev] at y0 y1 y2 y3 y4 y5 la2 ga2 la3 ga3 la4 ga4 la5 ga5 z0 z1 z2 z3 z4 z5 lb2 gb2 lb3 gb3 lb4 gb4 lb5 gb5
      rw [Int.toNat_natCast] at y0 y1 y2 y3 y4 y5 z0 z1 z2 z3 z4 z5
      have Ga2 := Lib.hid ga2
      have La2 := Lib.hid la2
      have Ga3 := Lib.hid ga3
      have La3 := Lib.hid la3
      have Ga4 := Lib.hid ga4
      have La4 := Lib.hid la4
      have Ga5 := Lib.hid ga5
      have La5 := Lib.hid la5
      have Gb2 := Lib.hid gb2
      have Lb2 := Lib.hid lb2
      have Gb3 := Lib.hid gb3
      have Lb3 := Lib.hid lb3
      have Gb4 := Lib.hid gb4
      have Lb4 := Lib.hid lb4
      have Gb5 := Lib.hid gb5
      have Lb5 := Lib.hid lb5
      have Ix := Lib.hid (IH.out Y[kk] (List.getElem_mem hlt))
      generalize Y[kk] = y at *
      clear la2 ga2 la3 ga3 la4 ga4 la5 ga5 lb2 gb2 lb3 gb3 lb4 gb4 lb5 gb5 ev
      replace y0 := (HB.out.cell (World.block_lt_of_cell? w _ y0)).trans y0
      replace y1 := (HB.out.cell (World.block_lt_of_cell? w _ y1)).trans y1
      replace y2 := (HB.out.cell (World.block_lt_of_cell? w _ y2)).trans y2
      replace y3 := (HB.out.cell (World.block_lt_of_cell? w _ y3)).trans y3
      replace y4 := (HB.out.cell (World.block_lt_of_cell? w _ y4)).trans y4
      replace y5 := (HB.out.cell (World.block_lt_of_cell? w _ y5)).trans y5
      replace z0 := (HB.out.cell (World.block_lt_of_cell? w _ z0)).trans z0
      replace z1 := (HB.out.cell (World.block_lt_of_cell? w _ z1)).trans z1
      replace z2 := (HB.out.cell (World.block_lt_of_cell? w _ z2)).trans z2
      replace z3 := (HB.out.cell (World.block_lt_of_cell? w _ z3)).trans z3
      replace z4 := (HB.out.cell (World.block_lt_of_cell? w _ z4)).trans z4
      replace z5 := (HB.out.cell (World.block_lt_of_cell? w _ z5)).trans z5
      go_wp2_with fail
      go_region_with (go_at_call 21; refine (Ix.out A2 A3 A4 A5 B2 B3 B4 B5 a2 a3 a4 a5 b2 b3 b4 b5 _ (Kd.C_drew (Kd.C_below Ga2.out HB.out)) La2.out (Kd.C_drew (Kd.C_below Ga3.out HB.out)) La3.out (Kd.C_drew (Kd.C_below Ga4.out HB.out)) La4.out (Kd.C_drew (Kd.C_below Ga5.out HB.out)) La5.out (Kd.C_drew (Kd.C_below Gb2.out HB.out)) Lb2.out (Kd.C_drew (Kd.C_below Gb3.out HB.out)) Lb3.out (Kd.C_drew (Kd.C_below Gb4.out HB.out)) Lb4.out (Kd.C_drew (Kd.C_below Gb5.out HB.out)) Lb5.out).mono ?_; rintro e w1 ⟨rfl, hb⟩; have HB1 := Lib.hid (Below.trans (Below.trans HB.out (⟨rfl, rfl, rfl, Nat.le_refl _, fun _ _ => rfl⟩ : Below w.heap.size wr wr.drew)) (hb.mono HB.out.size)); clear hb)
      all_goals
        go_wp2_with fail
        go_roundg (Y.length - (kk + 1))
        case measure => omega
        case rel => exact ⟨kk + 1, by omega, Nat.le_refl _, (by rw [show wrap64 ((kk : Int) + 1) = ((kk + 1 : Nat) : Int) by unfold wrap64; have := Hm.out; omega]), HB1⟩
    · go_wp2_with fail
      go_ret
      exact ⟨rfl, HB.out⟩
set_option maxHeartbeats 4000000 in
theorem eqA_of (x : IA) (ih : EqAs x.f2) : EqA x := by
  intro A2 A3 A4 A5 B2 B3 B4 B5 a2 a3 a4 a5 b2 b3 b4 b5 w ga2 la2 ga3 la3 ga4 la4 ga5 la5 gb2 lb2 gb3 lb3 gb4 lb4 gb5 lb5
  have IH := Lib.hid ih
  have Ga2 := Lib.hid ga2
  have La2 := Lib.hid la2
  have Ga3 := Lib.hid ga3
  have La3 := Lib.hid la3
  have Ga4 := Lib.hid ga4
  have La4 := Lib.hid la4
  have Ga5 := Lib.hid ga5
  have La5 := Lib.hid la5
  have Gb2 := Lib.hid gb2
  have Lb2 := Lib.hid lb2
  have Gb3 := Lib.hid gb3
  have Lb3 := Lib.hid lb3
  have Gb4 := Lib.hid gb4
  have Lb4 := Lib.hid lb4
  have Gb5 := Lib.hid gb5
  have Lb5 := Lib.hid lb5
  have hm := Kd.C_max ga4
  have Hm := Lib.hid hm
  clear ih hm ga2 la2 ga3 la3 ga4 la4 ga5 la5 gb2 lb2 gb3 lb3 gb4 lb4 gb5 lb5
  have H0 := Hx.box (Hx.nil (Below.refl w.heap.size w)) #[.int .i64 x.f0.f0, .int .i64 x.f0.f1.f0, .slice A2 x.f0.f1.f1.length a2, .slice A3 x.f0.f2.length a3, .slice A4 x.f1.length a4, .slice A5 x.f2.length a5] 55
  have H1 := Lib.hid (H0.box #[.int .i64 x.f0.f0, .int .i64 x.f0.f1.f0, .slice B2 x.f0.f1.f1.length b2, .slice B3 x.f0.f2.length b3, .slice B4 x.f1.length b4, .slice B5 x.f2.length b5] 55)
  have E1 := size_alloc w (.cells #[.int .i64 x.f0.f0, .int .i64 x.f0.f1.f0, .slice A2 x.f0.f1.f1.length a2, .slice A3 x.f0.f2.length a3, .slice A4 x.f1.length a4, .slice A5 x.f2.length a5] 55)
  rw [E1] at H1
  have EH := Lib.hid E1
  clear H0 E1
  go_enter Try.func21, Try.ntmps21
  obtain ⟨ke, hke⟩ := eqElemS_f x.f1 Hm.out (il_max Ga4.out)
  have p0 := H1.out.cell (g := w.heap.size) (cs := #[.int .i64 x.f0.f0, .int .i64 x.f0.f1.f0, .slice A2 x.f0.f1.f1.length a2, .slice A3 x.f0.f2.length a3, .slice A4 x.f1.length a4, .slice A5 x.f2.length a5]) (by simp) 0 rfl
  have q0 := H1.out.cell (g := w.heap.size + 1) (cs := #[.int .i64 x.f0.f0, .int .i64 x.f0.f1.f0, .slice B2 x.f0.f1.f1.length b2, .slice B3 x.f0.f2.length b3, .slice B4 x.f1.length b4, .slice B5 x.f2.length b5]) (by simp) 0 rfl
  have p1 := H1.out.cell (g := w.heap.size) (cs := #[.int .i64 x.f0.f0, .int .i64 x.f0.f1.f0, .slice A2 x.f0.f1.f1.length a2, .slice A3 x.f0.f2.length a3, .slice A4 x.f1.length a4, .slice A5 x.f2.length a5]) (by simp) 1 rfl
  have q1 := H1.out.cell (g := w.heap.size + 1) (cs := #[.int .i64 x.f0.f0, .int .i64 x.f0.f1.f0, .slice B2 x.f0.f1.f1.length b2, .slice B3 x.f0.f2.length b3, .slice B4 x.f1.length b4, .slice B5 x.f2.length b5]) (by simp) 1 rfl
  have p2 := H1.out.cell (g := w.heap.size) (cs := #[.int .i64 x.f0.f0, .int .i64 x.f0.f1.f0, .slice A2 x.f0.f1.f1.length a2, .slice A3 x.f0.f2.length a3, .slice A4 x.f1.length a4, .slice A5 x.f2.length a5]) (by simp) 2 rfl
  have q2 := H1.out.cell (g := w.heap.size + 1) (cs := #[.int .i64 x.f0.f0, .int .i64 x.f0.f1.f0, .slice B2 x.f0.f1.f1.length b2, .slice B3 x.f0.f2.length b3, .slice B4 x.f1.length b4, .slice B5 x.f2.length b5]) (by simp) 2 rfl
  have p3 := H1.out.cell (g := w.heap.size) (cs := #[.int .i64 x.f0.f0, .int .i64 x.f0.f1.f0, .slice A2 x.f0.f1.f1.length a2, .slice A3 x.f0.f2.length a3, .slice A4 x.f1.length a4, .slice A5 x.f2.length a5]) (by simp) 3 rfl
  have q3 := H1.out.cell (g := w.heap.size + 1) (cs := #[.int .i64 x.f0.f0, .int .i64 x.f0.f1.f0, .slice B2 x.f0.f1.f1.length b2, .slice B3 x.f0.f2.length b3, .slice B4 x.f1.length b4, .slice B5 x.f2.length b5]) (by simp) 3 rfl
  go_wp2_with fail
  refine (eqN_all x.f0 A2 A3 B2 B3 a2 a3 b2 b3 _ (Kd.C_below Ga2.out H1.out.1) La2.out (Kd.C_below Ga3.out H1.out.1) La3.out (Kd.C_below Gb2.out H1.out.1) Lb2.out (Kd.C_below Gb3.out H1.out.1) Lb3.out).mono ?_
  rintro e w1 ⟨rfl, hb⟩
  have H2 := Lib.hid (H1.out.below (by first | exact hb | exact hb.below | (obtain ⟨nd, rfl⟩ := hb; exact ⟨rfl, rfl, rfl, Nat.le_refl _, fun _ _ => rfl⟩)))
  clear hb H1 p0 q0 p1 q1 p2 q2 p3 q3
  have p4 := H2.out.cell (g := w.heap.size) (cs := #[.int .i64 x.f0.f0, .int .i64 x.f0.f1.f0, .slice A2 x.f0.f1.f1.length a2, .slice A3 x.f0.f2.length a3, .slice A4 x.f1.length a4, .slice A5 x.f2.length a5]) (by simp) 4 rfl
  have q4 := H2.out.cell (g := w.heap.size + 1) (cs := #[.int .i64 x.f0.f0, .int .i64 x.f0.f1.f0, .slice B2 x.f0.f1.f1.length b2, .slice B3 x.f0.f2.length b3, .slice B4 x.f1.length b4, .slice B5 x.f2.length b5]) (by simp) 4 rfl
  go_wp2_with fail
  refine (laws_eqElemS.calls ke A4 a4 x.f1 B4 b4 x.f1 true _ (Kd.C_below Ga4.out H2.out.1) La4.out (Kd.C_below Gb4.out H2.out.1) Lb4.out hke).mono ?_
  rintro e w2 ⟨rfl, hb⟩
  have H3 := Lib.hid (H2.out.below (by first | exact hb | exact hb.below | (obtain ⟨nd, rfl⟩ := hb; exact ⟨rfl, rfl, rfl, Nat.le_refl _, fun _ _ => rfl⟩)))
  clear hb H2 p4 q4
  have p5 := H3.out.cell (g := w.heap.size) (cs := #[.int .i64 x.f0.f0, .int .i64 x.f0.f1.f0, .slice A2 x.f0.f1.f1.length a2, .slice A3 x.f0.f2.length a3, .slice A4 x.f1.length a4, .slice A5 x.f2.length a5]) (by simp) 5 rfl
  have q5 := H3.out.cell (g := w.heap.size + 1) (cs := #[.int .i64 x.f0.f0, .int .i64 x.f0.f1.f0, .slice B2 x.f0.f1.f1.length b2, .slice B3 x.f0.f2.length b3, .slice B4 x.f1.length b4, .slice B5 x.f2.length b5]) (by simp) 5 rfl
  go_wp2_with fail
  refine (IH.out A5 B5 a5 b5 _ (Kd.C_below Ga5.out H3.out.1) La5.out (Kd.C_below Gb5.out H3.out.1) Lb5.out).mono ?_
  rintro e w3 ⟨rfl, hb⟩
  have H4 := Lib.hid (H3.out.below (by first | exact hb | exact hb.below | (obtain ⟨nd, rfl⟩ := hb; exact ⟨rfl, rfl, rfl, Nat.le_refl _, fun _ _ => rfl⟩)))
  clear hb H3 p5 q5
  go_wp2_with fail
  go_ret
  exact ⟨rfl, H4.out.1⟩
theorem eqAs_all (Y : List IA) : EqAs Y := by
  have : ∀ (N : Nat) (Y : List IA), SizeOf.sizeOf Y ≤ N → EqAs Y := by
    intro N
    induction N with
    | zero => intro Y h; cases Y <;> simp at h
    | succ N ih =>
      intro Y h
      refine eqAs_of Y fun x hx => eqA_of x (ih _ ?_)
      have h1 := List.sizeOf_lt_of_mem hx
      have h2 : SizeOf.sizeOf x.f2 < SizeOf.sizeOf x := by obtain ⟨a, b, d⟩ := x; simp; omega
      omega
  exact this _ Y (Nat.le_refl _)
end Go.Proofs.Ytkiemiolellllaa.tree
