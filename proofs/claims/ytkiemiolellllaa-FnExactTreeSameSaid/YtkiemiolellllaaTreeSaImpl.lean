/-
  'impl.TreeSame' and what it calls: the program's answer on two ladders.
  Conditions: none.
-/

import Derived.Test.YtkiemiolellllaaTreeSa
import Derived.Test.YtkiemiolellllaaHxS
import Derived.Deep.RegionWith
import Derived.BigQuiet
namespace Go.Proofs.Ytkiemiolellllaa.tree
open Go Go.RowKit Go.Proofs.Ytkiemiolellllaa.part Go.Proofs.Ytkiemiolellllaa.CutTr Go.Proofs.YtkiemiolellllaaW.PrintWords
set_option linter.unusedVariables false
set_option linter.unusedSimpArgs false
set_option maxRecDepth 100000
section
attribute [local go_sem high] eqA32
set_option maxHeartbeats 4000000 in
theorem eqDs_sa (X Y : List JD) (b : Bool) (hb : sm2 sD X Y = b) (A B : Option Addr) (c d : Nat) (w : World) (hC : Kd.C k32 w A X.length X) (hc : X.length ≤ c) (hD : Kd.C k32 w B Y.length Y) (hd : Y.length ≤ d) :
    Calls Try.prog 44 #[.slice A X.length c, .slice B Y.length d] w fun e w' => e = .returned (.bool b) ∧ Below w.heap.size w w' := by
  have HB0 := Lib.hid (Below.refl w.heap.size w)
  by_cases hl : X.length = Y.length
  · have HC := Lib.hid hC
    have Hc := Lib.hid hc
    have HD := Lib.hid hD
    rw [← hl] at hd
    have Hd := Lib.hid hd
    have hmax := Kd.C_max hC
    have Hm := Lib.hid hmax
    have HL := Lib.hid hl
    have HS0 : Hid (sm2 sD (X.drop 0) (Y.drop 0) = b) := Lib.hid (by rw [List.drop_zero, List.drop_zero]; exact hb)
    rw [← hl]
    clear hC hc hD hd hmax hl hb
    go_enter Try.func44, Try.ntmps44
    go_wp2_with fail
    go_loopg [13] X.length (fun gg s13 wr => ∃ kk : Nat, kk ≤ X.length ∧ X.length - kk ≤ gg ∧ s13 = .int .i64 kk ∧ Hid (sm2 sD (X.drop kk) (Y.drop kk) = b) ∧ Hid (Below w.heap.size w wr))
    case atStart => exact ⟨0, Nat.zero_le _, by omega, rfl, HS0, HB0⟩
    case round =>
      clear HS0 HB0
      obtain ⟨kk, hk1, hgg, rfl, HS, HB⟩ := hrel
      by_cases hlt : kk < X.length
      · have hlt2 : kk < Y.length := by rw [← HL.out]; exact hlt
        obtain ⟨ada, ea, y0, y1, y2⟩ := at_T32 HC.out (kk : Int) (by omega) (by omega)
        obtain ⟨adb, eb, z0, z1, z2⟩ := at_T32 HD.out (kk : Int) (by omega) (by have := hlt2; omega)
        subst ea
        subst eb
        rw [rdD _ _ hlt] at y0 y1 y2
        rw [rdD _ _ hlt2] at z0 z1 z2
        rw [Int.toNat_natCast] at y0 y1 y2 z0 z1 z2
        have hs := HS.out
        rw [sm2_at sD X Y kk hlt hlt2] at hs
        clear HS
        generalize X[kk] = x at *
        generalize Y[kk] = y at *
        replace y0 := (HB.out.cell (World.block_lt_of_cell? w _ y0)).trans y0
        replace y1 := (HB.out.cell (World.block_lt_of_cell? w _ y1)).trans y1
        replace y2 := (HB.out.cell (World.block_lt_of_cell? w _ y2)).trans y2
        replace z0 := (HB.out.cell (World.block_lt_of_cell? w _ z0)).trans z0
        replace z1 := (HB.out.cell (World.block_lt_of_cell? w _ z1)).trans z1
        replace z2 := (HB.out.cell (World.block_lt_of_cell? w _ z2)).trans z2
        have hn := sD_ne x y
        have d1 : decide ((kk : Int) < (X.length : Int)) = true := decide_eq_true (by omega)
        cases hq : sD x y with
        | false =>
          rw [hq] at hn hs
          rw [Bool.false_and] at hs
          subst hs
          clear hq hlt2
          go_wp2_with fail
          go_quiet (fail)
          go_wp2_with fail
          go_ret
          exact ⟨rfl, by repeat (first | (with_reducible first | exact HB.out | apply below_alloc | apply pw_below_drewN | apply below_drew1) | exact HB.out)⟩
        | true =>
          rw [hq] at hn hs
          rw [Bool.true_and] at hs
          have HS2 := Lib.hid hs
          clear hq hs hlt2
          go_wp2_with fail
          go_quiet (fail)
          go_wp2_with fail
          go_roundg (X.length - (kk + 1))
          case measure => omega
          case rel => exact ⟨kk + 1, by omega, Nat.le_refl _, (by rw [show wrap64 ((kk : Int) + 1) = ((kk + 1 : Nat) : Int) by unfold wrap64; have := Hm.out; omega]), HS2, Lib.hid (by repeat (first | (with_reducible first | exact HB.out | apply below_alloc | apply pw_below_drewN | apply below_drew1) | exact HB.out))⟩
      · have hs := HS.out
        rw [sm2_end sD X Y HL.out kk (by omega)] at hs
        subst hs
        have d1 : decide ((kk : Int) < (X.length : Int)) = false := decide_eq_false (by omega)
        go_wp2_with fail
        go_ret
        exact ⟨rfl, HB.out⟩
  · have e0 : ((X.length : Int) != (Y.length : Int)) = true := by rw [ne_len, decide_eq_false hl]; rfl
    rw [sm2_ne _ _ _ hl] at hb
    subst hb
    clear hC hc hD hd hl
    go_enter Try.func44, Try.ntmps44
    go_wp2_with fail
    go_ret
    exact ⟨rfl, HB0.out⟩
end
set_option maxHeartbeats 4000000 in
theorem elem_sa (x y : JE) : SaE 31 x y := by
  intro b hb A1 B1 a1 b1 w ga1 la1 gb1 lb1
  have Ga1 := Lib.hid ga1
  have La1 := Lib.hid la1
  have Gb1 := Lib.hid gb1
  have Lb1 := Lib.hid lb1
  clear ga1 la1 gb1 lb1
  have H0 := Hx.box (Hx.nil (Below.refl w.heap.size w)) #[.int .i64 x.f0, .slice A1 x.f1.length a1] 49
  have H1 := Lib.hid (H0.box #[.int .i64 y.f0, .slice B1 y.f1.length b1] 49)
  have E1 := size_alloc w (.cells #[.int .i64 x.f0, .slice A1 x.f1.length a1] 49)
  rw [E1] at H1
  have EH := Lib.hid E1
  clear H0 E1
  have p0 := H1.out.cell (g := w.heap.size) (cs := #[.int .i64 x.f0, .slice A1 x.f1.length a1]) (by simp) 0 rfl
  have q0 := H1.out.cell (g := w.heap.size + 1) (cs := #[.int .i64 y.f0, .slice B1 y.f1.length b1]) (by simp) 0 rfl
  unfold sE at hb
  by_cases h0 : x.f0 = y.f0
  · have e0 : (x.f0 == y.f0) = true := beq_iff_eq.2 h0
    rw [e0, Bool.true_and] at hb
    clear h0
    have p1 := H1.out.cell (g := w.heap.size) (cs := #[.int .i64 x.f0, .slice A1 x.f1.length a1]) (by simp) 1 rfl
    have q1 := H1.out.cell (g := w.heap.size + 1) (cs := #[.int .i64 y.f0, .slice B1 y.f1.length b1]) (by simp) 1 rfl
    go_enter Try.func31, Try.ntmps31
    go_wp2_with fail
    refine (eqDs_sa x.f1 y.f1 b hb A1 B1 a1 b1 _ (Kd.C_below Ga1.out H1.out.1) La1.out (Kd.C_below Gb1.out H1.out.1) Lb1.out).mono ?_
    rintro e w1 ⟨rfl, hb⟩
    have H2 := Lib.hid (H1.out.below hb)
    clear hb
    go_wp2_with fail
    go_ret
    exact ⟨rfl, H2.out.1⟩
  · have e0 : (x.f0 == y.f0) = false := beq_eq_false_iff_ne.2 h0
    rw [e0, Bool.false_and] at hb
    subst hb
    clear h0
    go_enter Try.func31, Try.ntmps31
    go_wp2_with fail
    go_ret
    exact ⟨rfl, H1.out.1⟩
def EfE (X Y : List JE) : Prop := ∀ (b : Bool), sm2 sE X Y = b → ∀ (A B : Option Addr) (c d : Nat) (w : World), Kd.C k49 w A X.length X → X.length ≤ c → Kd.C k49 w B Y.length Y → Y.length ≤ d →
    Calls Try.prog 30 #[.slice A X.length c, .slice B Y.length d, .func (.func 31) #[] #[]] w fun e w' => e = .returned (.bool b) ∧ Below w.heap.size w w'
set_option maxHeartbeats 8000000 in
theorem EfE_of (X Y : List JE) (ih : ∀ x ∈ X, ∀ y ∈ Y, SaE 31 x y) : EfE X Y := by
  intro b hb A B c d w hC hc hD hd
  have HB0 := Lib.hid (Below.refl w.heap.size w)
  by_cases hl : X.length = Y.length
  · have HC := Lib.hid hC
    have Hc := Lib.hid hc
    have HD := Lib.hid hD
    rw [← hl] at hd
    have Hd := Lib.hid hd
    have hmax := Kd.C_max hC
    have Hm := Lib.hid hmax
    have IH := Lib.hid ih
    have HL := Lib.hid hl
    have HS0 : Hid (sm2 sE (X.drop 0) (Y.drop 0) = b) := Lib.hid (by rw [List.drop_zero, List.drop_zero]; exact hb)
    rw [← hl]
    clear hC hc hD hd hmax hl hb ih
    go_enter Try.func30, Try.ntmps30
    go_wp2_with fail
    go_loopg [17] X.length (fun gg s17 wr => ∃ kk : Nat, kk ≤ X.length ∧ X.length - kk ≤ gg ∧ s17 = .int .i64 kk ∧ Hid (sm2 sE (X.drop kk) (Y.drop kk) = b) ∧ Hid (Below w.heap.size w wr))
    case atStart => exact ⟨0, Nat.zero_le _, by omega, rfl, HS0, HB0⟩
    case round =>
      clear HS0 HB0
      obtain ⟨kk, hk1, hgg, rfl, HS, HB⟩ := hrel
      by_cases hlt : kk < X.length
      · have hlt2 : kk < Y.length := by rw [← HL.out]; exact hlt
        obtain ⟨ada, A1, a1, ea, y0, y1, la1, ga1⟩ := at_T49 HC.out (kk : Int) (by omega) (by omega)
        obtain ⟨adb, B1, b1, eb, z0, z1, lb1, gb1⟩ := at_T49 HD.out (kk : Int) (by omega) (by have := hlt2; omega)
        subst ea
        subst eb
        rw [rdE _ _ hlt] at y0 y1 la1 ga1
        rw [rdE _ _ hlt2] at z0 z1 lb1 gb1
        rw [Int.toNat_natCast] at y0 y1 z0 z1
        have Ga1 := Lib.hid ga1
        have La1 := Lib.hid la1
        have Gb1 := Lib.hid gb1
        have Lb1 := Lib.hid lb1
        have hs := HS.out
        rw [sm2_at sE X Y kk hlt hlt2] at hs
        clear HS
        have Ix := Lib.hid (IH.out X[kk] (List.getElem_mem hlt) Y[kk] (List.getElem_mem hlt2))
        generalize X[kk] = x at *
        generalize Y[kk] = y at *
        replace y0 := (HB.out.cell (World.block_lt_of_cell? w _ y0)).trans y0
        replace y1 := (HB.out.cell (World.block_lt_of_cell? w _ y1)).trans y1
        have d1 : decide ((kk : Int) < (X.length : Int)) = true := decide_eq_true (by omega)
        clear hlt2 la1 ga1 lb1 gb1
        have hX1 := (Hx.nil HB.out).box #[.int .i64 x.f0, .slice A1 x.f1.length a1] 49
        have hX2 := hX1.box #[.int .i64 y.f0, .slice B1 y.f1.length b1] 49
        have E1 := size_alloc wr (.cells #[.int .i64 x.f0, .slice A1 x.f1.length a1] 49)
        rw [E1] at hX2
        have HX1 := Lib.hid hX1
        have HX := Lib.hid hX2
        have EH := Lib.hid E1
        clear hX1 hX2 E1
        replace z0 := (HX1.out.1.cell (World.block_lt_of_cell? w _ z0)).trans z0
        replace z1 := (HX1.out.1.cell (World.block_lt_of_cell? w _ z1)).trans z1
        have p0 := HX.out.cell (g := wr.heap.size) (cs := #[.int .i64 x.f0, .slice A1 x.f1.length a1]) (by simp) 0 rfl
        have q0 := HX.out.cell (g := wr.heap.size + 1) (cs := #[.int .i64 y.f0, .slice B1 y.f1.length b1]) (by simp) 0 rfl
        have p1 := HX.out.cell (g := wr.heap.size) (cs := #[.int .i64 x.f0, .slice A1 x.f1.length a1]) (by simp) 1 rfl
        have q1 := HX.out.cell (g := wr.heap.size + 1) (cs := #[.int .i64 y.f0, .slice B1 y.f1.length b1]) (by simp) 1 rfl
        cases hq : sE x y with
        | false =>
          rw [hq, Bool.false_and] at hs
          subst hs
          have Iq := Lib.hid (Ix.out false hq)
          clear Ix hq
          go_wp2_with fail
          refine (Iq.out A1 B1 a1 b1 _ (Kd.C_below Ga1.out HX.out.1) La1.out (Kd.C_below Gb1.out HX.out.1) Lb1.out).mono ?_
          rintro e w1 ⟨rfl, hb⟩
          have HX2 := Lib.hid (HX.out.below hb)
          clear hb
          go_wp2_with fail
          go_ret
          exact ⟨rfl, HX2.out.1⟩
        | true =>
          rw [hq, Bool.true_and] at hs
          have HS2 := Lib.hid hs
          have Iq := Lib.hid (Ix.out true hq)
          clear Ix hq hs
          go_wp2_with fail
          refine (Iq.out A1 B1 a1 b1 _ (Kd.C_below Ga1.out HX.out.1) La1.out (Kd.C_below Gb1.out HX.out.1) Lb1.out).mono ?_
          rintro e w1 ⟨rfl, hb⟩
          have HX2 := Lib.hid (HX.out.below hb)
          clear hb
          go_wp2_with fail
          go_roundg (X.length - (kk + 1))
          case measure => omega
          case rel => exact ⟨kk + 1, by omega, Nat.le_refl _, (by rw [show wrap64 ((kk : Int) + 1) = ((kk + 1 : Nat) : Int) by unfold wrap64; have := Hm.out; omega]), HS2, Lib.hid HX2.out.1⟩
      · have hs := HS.out
        rw [sm2_end sE X Y HL.out kk (by omega)] at hs
        subst hs
        have d1 : decide ((kk : Int) < (X.length : Int)) = false := decide_eq_false (by omega)
        go_wp2_with fail
        go_ret
        exact ⟨rfl, HB.out⟩
  · have e0 : ((X.length : Int) != (Y.length : Int)) = true := by rw [ne_len, decide_eq_false hl]; rfl
    rw [sm2_ne _ _ _ hl] at hb
    subst hb
    clear hC hc hD hd hl ih
    go_enter Try.func30, Try.ntmps30
    go_wp2_with fail
    go_ret
    exact ⟨rfl, HB0.out⟩
theorem EfE_all (X Y : List JE) : EfE X Y := EfE_of X Y fun x _ y _ => elem_sa x y
def EfN (X Y : List JN) : Prop := ∀ (b : Bool), sm2 sN X Y = b → ∀ (A B : Option Addr) (c d : Nat) (w : World), Kd.C k52 w A X.length X → X.length ≤ c → Kd.C k52 w B Y.length Y → Y.length ≤ d →
    Calls Try.prog 43 #[.slice A X.length c, .slice B Y.length d, .func (.func 29) #[] #[]] w fun e w' => e = .returned (.bool b) ∧ Below w.heap.size w w'
set_option maxHeartbeats 8000000 in
theorem EfN_of (X Y : List JN) (ih : ∀ x ∈ X, ∀ y ∈ Y, SaN 29 x y) : EfN X Y := by
  intro b hb A B c d w hC hc hD hd
  have HB0 := Lib.hid (Below.refl w.heap.size w)
  by_cases hl : X.length = Y.length
  · have HC := Lib.hid hC
    have Hc := Lib.hid hc
    have HD := Lib.hid hD
    rw [← hl] at hd
    have Hd := Lib.hid hd
    have hmax := Kd.C_max hC
    have Hm := Lib.hid hmax
    have IH := Lib.hid ih
    have HL := Lib.hid hl
    have HS0 : Hid (sm2 sN (X.drop 0) (Y.drop 0) = b) := Lib.hid (by rw [List.drop_zero, List.drop_zero]; exact hb)
    rw [← hl]
    clear hC hc hD hd hmax hl hb ih
    go_enter Try.func43, Try.ntmps43
    go_wp2_with fail
    go_loopg [17] X.length (fun gg s17 wr => ∃ kk : Nat, kk ≤ X.length ∧ X.length - kk ≤ gg ∧ s17 = .int .i64 kk ∧ Hid (sm2 sN (X.drop kk) (Y.drop kk) = b) ∧ Hid (Below w.heap.size w wr))
    case atStart => exact ⟨0, Nat.zero_le _, by omega, rfl, HS0, HB0⟩
    case round =>
      clear HS0 HB0
      obtain ⟨kk, hk1, hgg, rfl, HS, HB⟩ := hrel
      by_cases hlt : kk < X.length
      · have hlt2 : kk < Y.length := by rw [← HL.out]; exact hlt
        obtain ⟨ada, A2, a2, A3, a3, ea, y0, y1, y2, y3, la2, ga2, la3, ga3⟩ := at_T52 HC.out (kk : Int) (by omega) (by omega)
        obtain ⟨adb, B2, b2, B3, b3, eb, z0, z1, z2, z3, lb2, gb2, lb3, gb3⟩ := at_T52 HD.out (kk : Int) (by omega) (by have := hlt2; omega)
        subst ea
        subst eb
        rw [rdN _ _ hlt] at y0 y1 y2 y3 la2 ga2 la3 ga3
        rw [rdN _ _ hlt2] at z0 z1 z2 z3 lb2 gb2 lb3 gb3
        rw [Int.toNat_natCast] at y0 y1 y2 y3 z0 z1 z2 z3
        have Ga2 := Lib.hid ga2
        have La2 := Lib.hid la2
        have Ga3 := Lib.hid ga3
        have La3 := Lib.hid la3
        have Gb2 := Lib.hid gb2
        have Lb2 := Lib.hid lb2
        have Gb3 := Lib.hid gb3
        have Lb3 := Lib.hid lb3
        have hs := HS.out
        rw [sm2_at sN X Y kk hlt hlt2] at hs
        clear HS
        have Ix := Lib.hid (IH.out X[kk] (List.getElem_mem hlt) Y[kk] (List.getElem_mem hlt2))
        generalize X[kk] = x at *
        generalize Y[kk] = y at *
        replace y0 := (HB.out.cell (World.block_lt_of_cell? w _ y0)).trans y0
        replace y1 := (HB.out.cell (World.block_lt_of_cell? w _ y1)).trans y1
        replace y2 := (HB.out.cell (World.block_lt_of_cell? w _ y2)).trans y2
        replace y3 := (HB.out.cell (World.block_lt_of_cell? w _ y3)).trans y3
        have d1 : decide ((kk : Int) < (X.length : Int)) = true := decide_eq_true (by omega)
        clear hlt2 la2 ga2 la3 ga3 lb2 gb2 lb3 gb3
        have hX1 := (Hx.nil HB.out).box #[.int .i64 x.f0, .int .i64 x.f1.f0, .slice A2 x.f1.f1.length a2, .slice A3 x.f2.length a3] 52
        have hX2 := hX1.box #[.int .i64 y.f0, .int .i64 y.f1.f0, .slice B2 y.f1.f1.length b2, .slice B3 y.f2.length b3] 52
        have E1 := size_alloc wr (.cells #[.int .i64 x.f0, .int .i64 x.f1.f0, .slice A2 x.f1.f1.length a2, .slice A3 x.f2.length a3] 52)
        rw [E1] at hX2
        have HX1 := Lib.hid hX1
        have HX := Lib.hid hX2
        have EH := Lib.hid E1
        clear hX1 hX2 E1
        replace z0 := (HX1.out.1.cell (World.block_lt_of_cell? w _ z0)).trans z0
        replace z1 := (HX1.out.1.cell (World.block_lt_of_cell? w _ z1)).trans z1
        replace z2 := (HX1.out.1.cell (World.block_lt_of_cell? w _ z2)).trans z2
        replace z3 := (HX1.out.1.cell (World.block_lt_of_cell? w _ z3)).trans z3
        have p0 := HX.out.cell (g := wr.heap.size) (cs := #[.int .i64 x.f0, .int .i64 x.f1.f0, .slice A2 x.f1.f1.length a2, .slice A3 x.f2.length a3]) (by simp) 0 rfl
        have q0 := HX.out.cell (g := wr.heap.size + 1) (cs := #[.int .i64 y.f0, .int .i64 y.f1.f0, .slice B2 y.f1.f1.length b2, .slice B3 y.f2.length b3]) (by simp) 0 rfl
        have p1 := HX.out.cell (g := wr.heap.size) (cs := #[.int .i64 x.f0, .int .i64 x.f1.f0, .slice A2 x.f1.f1.length a2, .slice A3 x.f2.length a3]) (by simp) 1 rfl
        have q1 := HX.out.cell (g := wr.heap.size + 1) (cs := #[.int .i64 y.f0, .int .i64 y.f1.f0, .slice B2 y.f1.f1.length b2, .slice B3 y.f2.length b3]) (by simp) 1 rfl
        have p2 := HX.out.cell (g := wr.heap.size) (cs := #[.int .i64 x.f0, .int .i64 x.f1.f0, .slice A2 x.f1.f1.length a2, .slice A3 x.f2.length a3]) (by simp) 2 rfl
        have q2 := HX.out.cell (g := wr.heap.size + 1) (cs := #[.int .i64 y.f0, .int .i64 y.f1.f0, .slice B2 y.f1.f1.length b2, .slice B3 y.f2.length b3]) (by simp) 2 rfl
        have p3 := HX.out.cell (g := wr.heap.size) (cs := #[.int .i64 x.f0, .int .i64 x.f1.f0, .slice A2 x.f1.f1.length a2, .slice A3 x.f2.length a3]) (by simp) 3 rfl
        have q3 := HX.out.cell (g := wr.heap.size + 1) (cs := #[.int .i64 y.f0, .int .i64 y.f1.f0, .slice B2 y.f1.f1.length b2, .slice B3 y.f2.length b3]) (by simp) 3 rfl
        cases hq : sN x y with
        | false =>
          rw [hq, Bool.false_and] at hs
          subst hs
          have Iq := Lib.hid (Ix.out false hq)
          clear Ix hq
          go_wp2_with fail
          refine (Iq.out A2 A3 B2 B3 a2 a3 b2 b3 _ (Kd.C_below Ga2.out HX.out.1) La2.out (Kd.C_below Ga3.out HX.out.1) La3.out (Kd.C_below Gb2.out HX.out.1) Lb2.out (Kd.C_below Gb3.out HX.out.1) Lb3.out).mono ?_
          rintro e w1 ⟨rfl, hb⟩
          have HX2 := Lib.hid (HX.out.below hb)
          clear hb
          go_wp2_with fail
          go_ret
          exact ⟨rfl, HX2.out.1⟩
        | true =>
          rw [hq, Bool.true_and] at hs
          have HS2 := Lib.hid hs
          have Iq := Lib.hid (Ix.out true hq)
          clear Ix hq hs
          go_wp2_with fail
          refine (Iq.out A2 A3 B2 B3 a2 a3 b2 b3 _ (Kd.C_below Ga2.out HX.out.1) La2.out (Kd.C_below Ga3.out HX.out.1) La3.out (Kd.C_below Gb2.out HX.out.1) Lb2.out (Kd.C_below Gb3.out HX.out.1) Lb3.out).mono ?_
          rintro e w1 ⟨rfl, hb⟩
          have HX2 := Lib.hid (HX.out.below hb)
          clear hb
          go_wp2_with fail
          go_roundg (X.length - (kk + 1))
          case measure => omega
          case rel => exact ⟨kk + 1, by omega, Nat.le_refl _, (by rw [show wrap64 ((kk : Int) + 1) = ((kk + 1 : Nat) : Int) by unfold wrap64; have := Hm.out; omega]), HS2, Lib.hid HX2.out.1⟩
      · have hs := HS.out
        rw [sm2_end sN X Y HL.out kk (by omega)] at hs
        subst hs
        have d1 : decide ((kk : Int) < (X.length : Int)) = false := decide_eq_false (by omega)
        go_wp2_with fail
        go_ret
        exact ⟨rfl, HB.out⟩
  · have e0 : ((X.length : Int) != (Y.length : Int)) = true := by rw [ne_len, decide_eq_false hl]; rfl
    rw [sm2_ne _ _ _ hl] at hb
    subst hb
    clear hC hc hD hd hl ih
    go_enter Try.func43, Try.ntmps43
    go_wp2_with fail
    go_ret
    exact ⟨rfl, HB0.out⟩
set_option maxHeartbeats 4000000 in
theorem net_of (x y : JN) (ih : EfN x.f2 y.f2) : SaN 29 x y := by
  intro b hb A2 A3 B2 B3 a2 a3 b2 b3 w ga2 la2 ga3 la3 gb2 lb2 gb3 lb3
  rw [sN_eq] at hb
  have IH := Lib.hid ih
  have Ga2 := Lib.hid ga2
  have La2 := Lib.hid la2
  have Ga3 := Lib.hid ga3
  have La3 := Lib.hid la3
  have Gb2 := Lib.hid gb2
  have Lb2 := Lib.hid lb2
  have Gb3 := Lib.hid gb3
  have Lb3 := Lib.hid lb3
  clear ih ga2 la2 ga3 la3 gb2 lb2 gb3 lb3
  have H0 := Hx.box (Hx.nil (Below.refl w.heap.size w)) #[.int .i64 x.f0, .int .i64 x.f1.f0, .slice A2 x.f1.f1.length a2, .slice A3 x.f2.length a3] 52
  have H1 := Lib.hid (H0.box #[.int .i64 y.f0, .int .i64 y.f1.f0, .slice B2 y.f1.f1.length b2, .slice B3 y.f2.length b3] 52)
  have E1 := size_alloc w (.cells #[.int .i64 x.f0, .int .i64 x.f1.f0, .slice A2 x.f1.f1.length a2, .slice A3 x.f2.length a3] 52)
  rw [E1] at H1
  have EH := Lib.hid E1
  clear H0 E1
  have p0 := H1.out.cell (g := w.heap.size) (cs := #[.int .i64 x.f0, .int .i64 x.f1.f0, .slice A2 x.f1.f1.length a2, .slice A3 x.f2.length a3]) (by simp) 0 rfl
  have q0 := H1.out.cell (g := w.heap.size + 1) (cs := #[.int .i64 y.f0, .int .i64 y.f1.f0, .slice B2 y.f1.f1.length b2, .slice B3 y.f2.length b3]) (by simp) 0 rfl
  have p1 := H1.out.cell (g := w.heap.size) (cs := #[.int .i64 x.f0, .int .i64 x.f1.f0, .slice A2 x.f1.f1.length a2, .slice A3 x.f2.length a3]) (by simp) 1 rfl
  have q1 := H1.out.cell (g := w.heap.size + 1) (cs := #[.int .i64 y.f0, .int .i64 y.f1.f0, .slice B2 y.f1.f1.length b2, .slice B3 y.f2.length b3]) (by simp) 1 rfl
  have p2 := H1.out.cell (g := w.heap.size) (cs := #[.int .i64 x.f0, .int .i64 x.f1.f0, .slice A2 x.f1.f1.length a2, .slice A3 x.f2.length a3]) (by simp) 2 rfl
  have q2 := H1.out.cell (g := w.heap.size + 1) (cs := #[.int .i64 y.f0, .int .i64 y.f1.f0, .slice B2 y.f1.f1.length b2, .slice B3 y.f2.length b3]) (by simp) 2 rfl
  by_cases h0 : x.f0 = y.f0
  · have e0 : (x.f0 == y.f0) = true := beq_iff_eq.2 h0
    rw [e0, Bool.true_and] at hb
    clear h0
    have IE := Lib.hid (elem_sa x.f1 y.f1)
    cases hq : sE x.f1 y.f1 with
    | false =>
      rw [hq, Bool.false_and] at hb
      subst hb
      have Iq := Lib.hid (IE.out false hq)
      clear IE hq
      go_enter Try.func29, Try.ntmps29
      go_wp2_with fail
      refine (Iq.out A2 B2 a2 b2 _ (Kd.C_below Ga2.out H1.out.1) La2.out (Kd.C_below Gb2.out H1.out.1) Lb2.out).mono ?_
      rintro e wq ⟨rfl, hb⟩
      have H2 := Lib.hid (H1.out.below hb)
      clear hb
      go_wp2_with fail
      go_ret
      exact ⟨rfl, H2.out.1⟩
    | true =>
      rw [hq, Bool.true_and] at hb
      have Iq := Lib.hid (IE.out true hq)
      clear IE hq
      have Ik := Lib.hid (IH.out b hb)
      clear hb
      go_enter Try.func29, Try.ntmps29
      go_wp2_with fail
      refine (Iq.out A2 B2 a2 b2 _ (Kd.C_below Ga2.out H1.out.1) La2.out (Kd.C_below Gb2.out H1.out.1) Lb2.out).mono ?_
      rintro e wq ⟨rfl, hb⟩
      have H2 := Lib.hid (H1.out.below hb)
      clear hb
      have p3 := H2.out.cell (g := w.heap.size) (cs := #[.int .i64 x.f0, .int .i64 x.f1.f0, .slice A2 x.f1.f1.length a2, .slice A3 x.f2.length a3]) (by simp) 3 rfl
      have q3 := H2.out.cell (g := w.heap.size + 1) (cs := #[.int .i64 y.f0, .int .i64 y.f1.f0, .slice B2 y.f1.f1.length b2, .slice B3 y.f2.length b3]) (by simp) 3 rfl
      go_wp2_with fail
      refine (Ik.out A3 B3 a3 b3 _ (Kd.C_below Ga3.out H2.out.1) La3.out (Kd.C_below Gb3.out H2.out.1) Lb3.out).mono ?_
      rintro e wq2 ⟨rfl, hb⟩
      have H3 := Lib.hid (H2.out.below hb)
      clear hb
      go_wp2_with fail
      go_ret
      exact ⟨rfl, H3.out.1⟩
  · have e0 : (x.f0 == y.f0) = false := beq_eq_false_iff_ne.2 h0
    rw [e0, Bool.false_and, Bool.false_and] at hb
    subst hb
    clear h0
    go_enter Try.func29, Try.ntmps29
    go_wp2_with fail
    go_ret
    exact ⟨rfl, H1.out.1⟩
theorem EfN_all (X Y : List JN) : EfN X Y := by
  have : ∀ (N : Nat) (X Y : List JN), SizeOf.sizeOf X ≤ N → EfN X Y := by
    intro N
    induction N with
    | zero => intro X Y h; cases X <;> simp at h
    | succ N ih =>
      intro X Y h
      refine EfN_of X Y fun x hx y hy => net_of x y (ih _ _ ?_)
      have h1 := List.sizeOf_lt_of_mem hx
      have h2 : SizeOf.sizeOf x.f2 < SizeOf.sizeOf x := by obtain ⟨a, b, d⟩ := x; simp; omega
      omega
  exact this _ X Y (Nat.le_refl _)
theorem net_sa (x y : JN) : SaN 29 x y := net_of x y (EfN_all _ _)
def EfA (X Y : List JA) : Prop := ∀ (b : Bool), sm2 sA X Y = b → ∀ (A B : Option Addr) (c d : Nat) (w : World), Kd.C k55 w A X.length X → X.length ≤ c → Kd.C k55 w B Y.length Y → Y.length ≤ d →
    Calls Try.prog 27 #[.slice A X.length c, .slice B Y.length d, .func (.func 28) #[] #[]] w fun e w' => e = .returned (.bool b) ∧ Below w.heap.size w w'
set_option maxHeartbeats 8000000 in
theorem EfA_of (X Y : List JA) (ih : ∀ x ∈ X, ∀ y ∈ Y, SaA 28 x y) : EfA X Y := by
  intro b hb A B c d w hC hc hD hd
  have HB0 := Lib.hid (Below.refl w.heap.size w)
  by_cases hl : X.length = Y.length
  · have HC := Lib.hid hC
    have Hc := Lib.hid hc
    have HD := Lib.hid hD
    rw [← hl] at hd
    have Hd := Lib.hid hd
    have hmax := Kd.C_max hC
    have Hm := Lib.hid hmax
    have IH := Lib.hid ih
    have HL := Lib.hid hl
    have HS0 : Hid (sm2 sA (X.drop 0) (Y.drop 0) = b) := Lib.hid (by rw [List.drop_zero, List.drop_zero]; exact hb)
    rw [← hl]
    clear hC hc hD hd hmax hl hb ih
    go_enter Try.func27, Try.ntmps27
    go_wp2_with fail
    go_loopg [17] X.length (fun gg s17 wr => ∃ kk : Nat, kk ≤ X.length ∧ X.length - kk ≤ gg ∧ s17 = .int .i64 kk ∧ Hid (sm2 sA (X.drop kk) (Y.drop kk) = b) ∧ Hid (Below w.heap.size w wr))
    case atStart => exact ⟨0, Nat.zero_le _, by omega, rfl, HS0, HB0⟩
    case round =>
      clear HS0 HB0
      obtain ⟨kk, hk1, hgg, rfl, HS, HB⟩ := hrel
      by_cases hlt : kk < X.length
      · have hlt2 : kk < Y.length := by rw [← HL.out]; exact hlt
        obtain ⟨ada, A2, a2, A3, a3, A4, a4, A5, a5, ea, y0, y1, y2, y3, y4, y5, la2, ga2, la3, ga3, la4, ga4, la5, ga5⟩ := at_T55 HC.out (kk : Int) (by omega) (by omega)
        obtain ⟨adb, B2, b2, B3, b3, B4, b4, B5, b5, eb, z0, z1, z2, z3, z4, z5, lb2, gb2, lb3, gb3, lb4, gb4, lb5, gb5⟩ := at_T55 HD.out (kk : Int) (by omega) (by have := hlt2; omega)
        subst ea
        subst eb
        rw [rdA _ _ hlt] at y0 y1 y2 y3 y4 y5 la2 ga2 la3 ga3 la4 ga4 la5 ga5
        rw [rdA _ _ hlt2] at z0 z1 z2 z3 z4 z5 lb2 gb2 lb3 gb3 lb4 gb4 lb5 gb5
        rw [Int.toNat_natCast] at y0 y1 y2 y3 y4 y5 z0 z1 z2 z3 z4 z5
        have Ga2 := Lib.hid ga2
        have La2 := Lib.hid la2
        have Ga3 := Lib.hid ga3
        have La3 := Lib.hid la3
        have Ga4 := Lib.hid ga4
        have La4 := Lib.hid la4
        have Ga5 := Lib.hid ga5
        have La5 := Lib.hid la5
        have Gb2 := Lib.hid gb2
        have Lb2 := Lib.hid lb2
        have Gb3 := Lib.hid gb3
        have Lb3 := Lib.hid lb3
        have Gb4 := Lib.hid gb4
        have Lb4 := Lib.hid lb4
        have Gb5 := Lib.hid gb5
        have Lb5 := Lib.hid lb5
        have hs := HS.out
        rw [sm2_at sA X Y kk hlt hlt2] at hs
        clear HS
        have Ix := Lib.hid (IH.out X[kk] (List.getElem_mem hlt) Y[kk] (List.getElem_mem hlt2))
        generalize X[kk] = x at *
        generalize Y[kk] = y at *
        replace y0 := (HB.out.cell (World.block_lt_of_cell? w _ y0)).trans y0
        replace y1 := (HB.out.cell (World.block_lt_of_cell? w _ y1)).trans y1
        replace y2 := (HB.out.cell (World.block_lt_of_cell? w _ y2)).trans y2
        replace y3 := (HB.out.cell (World.block_lt_of_cell? w _ y3)).trans y3
        replace y4 := (HB.out.cell (World.block_lt_of_cell? w _ y4)).trans y4
        replace y5 := (HB.out.cell (World.block_lt_of_cell? w _ y5)).trans y5
        have d1 : decide ((kk : Int) < (X.length : Int)) = true := decide_eq_true (by omega)
        clear hlt2 la2 ga2 la3 ga3 la4 ga4 la5 ga5 lb2 gb2 lb3 gb3 lb4 gb4 lb5 gb5
        have hX1 := (Hx.nil HB.out).box #[.int .i64 x.f0.f0, .int .i64 x.f0.f1.f0, .slice A2 x.f0.f1.f1.length a2, .slice A3 x.f0.f2.length a3, .slice A4 x.f1.length a4, .slice A5 x.f2.length a5] 55
        have hX2 := hX1.box #[.int .i64 y.f0.f0, .int .i64 y.f0.f1.f0, .slice B2 y.f0.f1.f1.length b2, .slice B3 y.f0.f2.length b3, .slice B4 y.f1.length b4, .slice B5 y.f2.length b5] 55
        have E1 := size_alloc wr (.cells #[.int .i64 x.f0.f0, .int .i64 x.f0.f1.f0, .slice A2 x.f0.f1.f1.length a2, .slice A3 x.f0.f2.length a3, .slice A4 x.f1.length a4, .slice A5 x.f2.length a5] 55)
        rw [E1] at hX2
        have HX1 := Lib.hid hX1
        have HX := Lib.hid hX2
        have EH := Lib.hid E1
        clear hX1 hX2 E1
        replace z0 := (HX1.out.1.cell (World.block_lt_of_cell? w _ z0)).trans z0
        replace z1 := (HX1.out.1.cell (World.block_lt_of_cell? w _ z1)).trans z1
        replace z2 := (HX1.out.1.cell (World.block_lt_of_cell? w _ z2)).trans z2
        replace z3 := (HX1.out.1.cell (World.block_lt_of_cell? w _ z3)).trans z3
        replace z4 := (HX1.out.1.cell (World.block_lt_of_cell? w _ z4)).trans z4
        replace z5 := (HX1.out.1.cell (World.block_lt_of_cell? w _ z5)).trans z5
        have p0 := HX.out.cell (g := wr.heap.size) (cs := #[.int .i64 x.f0.f0, .int .i64 x.f0.f1.f0, .slice A2 x.f0.f1.f1.length a2, .slice A3 x.f0.f2.length a3, .slice A4 x.f1.length a4, .slice A5 x.f2.length a5]) (by simp) 0 rfl
        have q0 := HX.out.cell (g := wr.heap.size + 1) (cs := #[.int .i64 y.f0.f0, .int .i64 y.f0.f1.f0, .slice B2 y.f0.f1.f1.length b2, .slice B3 y.f0.f2.length b3, .slice B4 y.f1.length b4, .slice B5 y.f2.length b5]) (by simp) 0 rfl
        have p1 := HX.out.cell (g := wr.heap.size) (cs := #[.int .i64 x.f0.f0, .int .i64 x.f0.f1.f0, .slice A2 x.f0.f1.f1.length a2, .slice A3 x.f0.f2.length a3, .slice A4 x.f1.length a4, .slice A5 x.f2.length a5]) (by simp) 1 rfl
        have q1 := HX.out.cell (g := wr.heap.size + 1) (cs := #[.int .i64 y.f0.f0, .int .i64 y.f0.f1.f0, .slice B2 y.f0.f1.f1.length b2, .slice B3 y.f0.f2.length b3, .slice B4 y.f1.length b4, .slice B5 y.f2.length b5]) (by simp) 1 rfl
        have p2 := HX.out.cell (g := wr.heap.size) (cs := #[.int .i64 x.f0.f0, .int .i64 x.f0.f1.f0, .slice A2 x.f0.f1.f1.length a2, .slice A3 x.f0.f2.length a3, .slice A4 x.f1.length a4, .slice A5 x.f2.length a5]) (by simp) 2 rfl
        have q2 := HX.out.cell (g := wr.heap.size + 1) (cs := #[.int .i64 y.f0.f0, .int .i64 y.f0.f1.f0, .slice B2 y.f0.f1.f1.length b2, .slice B3 y.f0.f2.length b3, .slice B4 y.f1.length b4, .slice B5 y.f2.length b5]) (by simp) 2 rfl
        have p3 := HX.out.cell (g := wr.heap.size) (cs := #[.int .i64 x.f0.f0, .int .i64 x.f0.f1.f0, .slice A2 x.f0.f1.f1.length a2, .slice A3 x.f0.f2.length a3, .slice A4 x.f1.length a4, .slice A5 x.f2.length a5]) (by simp) 3 rfl
        have q3 := HX.out.cell (g := wr.heap.size + 1) (cs := #[.int .i64 y.f0.f0, .int .i64 y.f0.f1.f0, .slice B2 y.f0.f1.f1.length b2, .slice B3 y.f0.f2.length b3, .slice B4 y.f1.length b4, .slice B5 y.f2.length b5]) (by simp) 3 rfl
        have p4 := HX.out.cell (g := wr.heap.size) (cs := #[.int .i64 x.f0.f0, .int .i64 x.f0.f1.f0, .slice A2 x.f0.f1.f1.length a2, .slice A3 x.f0.f2.length a3, .slice A4 x.f1.length a4, .slice A5 x.f2.length a5]) (by simp) 4 rfl
        have q4 := HX.out.cell (g := wr.heap.size + 1) (cs := #[.int .i64 y.f0.f0, .int .i64 y.f0.f1.f0, .slice B2 y.f0.f1.f1.length b2, .slice B3 y.f0.f2.length b3, .slice B4 y.f1.length b4, .slice B5 y.f2.length b5]) (by simp) 4 rfl
        have p5 := HX.out.cell (g := wr.heap.size) (cs := #[.int .i64 x.f0.f0, .int .i64 x.f0.f1.f0, .slice A2 x.f0.f1.f1.length a2, .slice A3 x.f0.f2.length a3, .slice A4 x.f1.length a4, .slice A5 x.f2.length a5]) (by simp) 5 rfl
        have q5 := HX.out.cell (g := wr.heap.size + 1) (cs := #[.int .i64 y.f0.f0, .int .i64 y.f0.f1.f0, .slice B2 y.f0.f1.f1.length b2, .slice B3 y.f0.f2.length b3, .slice B4 y.f1.length b4, .slice B5 y.f2.length b5]) (by simp) 5 rfl
        cases hq : sA x y with
        | false =>
          rw [hq, Bool.false_and] at hs
          subst hs
          have Iq := Lib.hid (Ix.out false hq)
          clear Ix hq
          go_wp2_with fail
          refine (Iq.out A2 A3 A4 A5 B2 B3 B4 B5 a2 a3 a4 a5 b2 b3 b4 b5 _ (Kd.C_below Ga2.out HX.out.1) La2.out (Kd.C_below Ga3.out HX.out.1) La3.out (Kd.C_below Ga4.out HX.out.1) La4.out (Kd.C_below Ga5.out HX.out.1) La5.out (Kd.C_below Gb2.out HX.out.1) Lb2.out (Kd.C_below Gb3.out HX.out.1) Lb3.out (Kd.C_below Gb4.out HX.out.1) Lb4.out (Kd.C_below Gb5.out HX.out.1) Lb5.out).mono ?_
          rintro e w1 ⟨rfl, hb⟩
          have HX2 := Lib.hid (HX.out.below hb)
          clear hb
          go_wp2_with fail
          go_ret
          exact ⟨rfl, HX2.out.1⟩
        | true =>
          rw [hq, Bool.true_and] at hs
          have HS2 := Lib.hid hs
          have Iq := Lib.hid (Ix.out true hq)
          clear Ix hq hs
          go_wp2_with fail
          refine (Iq.out A2 A3 A4 A5 B2 B3 B4 B5 a2 a3 a4 a5 b2 b3 b4 b5 _ (Kd.C_below Ga2.out HX.out.1) La2.out (Kd.C_below Ga3.out HX.out.1) La3.out (Kd.C_below Ga4.out HX.out.1) La4.out (Kd.C_below Ga5.out HX.out.1) La5.out (Kd.C_below Gb2.out HX.out.1) Lb2.out (Kd.C_below Gb3.out HX.out.1) Lb3.out (Kd.C_below Gb4.out HX.out.1) Lb4.out (Kd.C_below Gb5.out HX.out.1) Lb5.out).mono ?_
          rintro e w1 ⟨rfl, hb⟩
          have HX2 := Lib.hid (HX.out.below hb)
          clear hb
          go_wp2_with fail
          go_roundg (X.length - (kk + 1))
          case measure => omega
          case rel => exact ⟨kk + 1, by omega, Nat.le_refl _, (by rw [show wrap64 ((kk : Int) + 1) = ((kk + 1 : Nat) : Int) by unfold wrap64; have := Hm.out; omega]), HS2, Lib.hid HX2.out.1⟩
      · have hs := HS.out
        rw [sm2_end sA X Y HL.out kk (by omega)] at hs
        subst hs
        have d1 : decide ((kk : Int) < (X.length : Int)) = false := decide_eq_false (by omega)
        go_wp2_with fail
        go_ret
        exact ⟨rfl, HB.out⟩
  · have e0 : ((X.length : Int) != (Y.length : Int)) = true := by rw [ne_len, decide_eq_false hl]; rfl
    rw [sm2_ne _ _ _ hl] at hb
    subst hb
    clear hC hc hD hd hl ih
    go_enter Try.func27, Try.ntmps27
    go_wp2_with fail
    go_ret
    exact ⟨rfl, HB0.out⟩
set_option maxHeartbeats 4000000 in
theorem implAs_of (X Y : List JA) (ih : EfA X Y) : SaAs 15 X Y := by
  intro b hb A B c d w hC hc hD hd
  have Iq := Lib.hid (ih b hb A B c d w hC hc hD hd)
  clear ih hb hC hc hD hd
  go_enter Try.func15, Try.ntmps15
  go_wp2_with fail
  refine Iq.out.mono ?_
  rintro e w1 ⟨rfl, hb⟩
  have HB := Lib.hid hb
  clear hb
  go_wp2_with fail
  go_ret
  exact ⟨rfl, HB.out⟩
set_option maxHeartbeats 8000000 in
theorem arm_of (x y : JA) (ih : SaAs 15 x.f2 y.f2) : SaA 28 x y := by
  intro b hb A2 A3 A4 A5 B2 B3 B4 B5 a2 a3 a4 a5 b2 b3 b4 b5 w ga2 la2 ga3 la3 ga4 la4 ga5 la5 gb2 lb2 gb3 lb3 gb4 lb4 gb5 lb5
  rw [sA_eq] at hb
  have IH := Lib.hid ih
  have IN := Lib.hid (net_sa x.f0 y.f0)
  have IE := Lib.hid (EfE_all x.f1 y.f1)
  have Ga2 := Lib.hid ga2
  have La2 := Lib.hid la2
  have Ga3 := Lib.hid ga3
  have La3 := Lib.hid la3
  have Ga4 := Lib.hid ga4
  have La4 := Lib.hid la4
  have Ga5 := Lib.hid ga5
  have La5 := Lib.hid la5
  have Gb2 := Lib.hid gb2
  have Lb2 := Lib.hid lb2
  have Gb3 := Lib.hid gb3
  have Lb3 := Lib.hid lb3
  have Gb4 := Lib.hid gb4
  have Lb4 := Lib.hid lb4
  have Gb5 := Lib.hid gb5
  have Lb5 := Lib.hid lb5
  clear ih ga2 la2 ga3 la3 ga4 la4 ga5 la5 gb2 lb2 gb3 lb3 gb4 lb4 gb5 lb5
  have H0 := Hx.box (Hx.nil (Below.refl w.heap.size w)) #[.int .i64 x.f0.f0, .int .i64 x.f0.f1.f0, .slice A2 x.f0.f1.f1.length a2, .slice A3 x.f0.f2.length a3, .slice A4 x.f1.length a4, .slice A5 x.f2.length a5] 55
  have H1 := Lib.hid (H0.box #[.int .i64 y.f0.f0, .int .i64 y.f0.f1.f0, .slice B2 y.f0.f1.f1.length b2, .slice B3 y.f0.f2.length b3, .slice B4 y.f1.length b4, .slice B5 y.f2.length b5] 55)
  have E1 := size_alloc w (.cells #[.int .i64 x.f0.f0, .int .i64 x.f0.f1.f0, .slice A2 x.f0.f1.f1.length a2, .slice A3 x.f0.f2.length a3, .slice A4 x.f1.length a4, .slice A5 x.f2.length a5] 55)
  rw [E1] at H1
  have EH := Lib.hid E1
  clear H0 E1
  have p0 := H1.out.cell (g := w.heap.size) (cs := #[.int .i64 x.f0.f0, .int .i64 x.f0.f1.f0, .slice A2 x.f0.f1.f1.length a2, .slice A3 x.f0.f2.length a3, .slice A4 x.f1.length a4, .slice A5 x.f2.length a5]) (by simp) 0 rfl
  have q0 := H1.out.cell (g := w.heap.size + 1) (cs := #[.int .i64 y.f0.f0, .int .i64 y.f0.f1.f0, .slice B2 y.f0.f1.f1.length b2, .slice B3 y.f0.f2.length b3, .slice B4 y.f1.length b4, .slice B5 y.f2.length b5]) (by simp) 0 rfl
  have p1 := H1.out.cell (g := w.heap.size) (cs := #[.int .i64 x.f0.f0, .int .i64 x.f0.f1.f0, .slice A2 x.f0.f1.f1.length a2, .slice A3 x.f0.f2.length a3, .slice A4 x.f1.length a4, .slice A5 x.f2.length a5]) (by simp) 1 rfl
  have q1 := H1.out.cell (g := w.heap.size + 1) (cs := #[.int .i64 y.f0.f0, .int .i64 y.f0.f1.f0, .slice B2 y.f0.f1.f1.length b2, .slice B3 y.f0.f2.length b3, .slice B4 y.f1.length b4, .slice B5 y.f2.length b5]) (by simp) 1 rfl
  have p2 := H1.out.cell (g := w.heap.size) (cs := #[.int .i64 x.f0.f0, .int .i64 x.f0.f1.f0, .slice A2 x.f0.f1.f1.length a2, .slice A3 x.f0.f2.length a3, .slice A4 x.f1.length a4, .slice A5 x.f2.length a5]) (by simp) 2 rfl
  have q2 := H1.out.cell (g := w.heap.size + 1) (cs := #[.int .i64 y.f0.f0, .int .i64 y.f0.f1.f0, .slice B2 y.f0.f1.f1.length b2, .slice B3 y.f0.f2.length b3, .slice B4 y.f1.length b4, .slice B5 y.f2.length b5]) (by simp) 2 rfl
  have p3 := H1.out.cell (g := w.heap.size) (cs := #[.int .i64 x.f0.f0, .int .i64 x.f0.f1.f0, .slice A2 x.f0.f1.f1.length a2, .slice A3 x.f0.f2.length a3, .slice A4 x.f1.length a4, .slice A5 x.f2.length a5]) (by simp) 3 rfl
  have q3 := H1.out.cell (g := w.heap.size + 1) (cs := #[.int .i64 y.f0.f0, .int .i64 y.f0.f1.f0, .slice B2 y.f0.f1.f1.length b2, .slice B3 y.f0.f2.length b3, .slice B4 y.f1.length b4, .slice B5 y.f2.length b5]) (by simp) 3 rfl
  cases hq : sN x.f0 y.f0 with
  | false =>
    rw [hq, Bool.false_and, Bool.false_and] at hb
    subst hb
    have Iq := Lib.hid (IN.out false hq)
    clear IN hq
    go_enter Try.func28, Try.ntmps28
    go_wp2_with fail
    refine (Iq.out A2 A3 B2 B3 a2 a3 b2 b3 _ (Kd.C_below Ga2.out H1.out.1) La2.out (Kd.C_below Ga3.out H1.out.1) La3.out (Kd.C_below Gb2.out H1.out.1) Lb2.out (Kd.C_below Gb3.out H1.out.1) Lb3.out).mono ?_
    rintro e wq ⟨rfl, hb⟩
    have H2 := Lib.hid (H1.out.below hb)
    clear hb
    go_wp2_with fail
    go_ret
    exact ⟨rfl, H2.out.1⟩
  | true =>
    rw [hq, Bool.true_and] at hb
    have Iq := Lib.hid (IN.out true hq)
    clear IN hq
    cases hr : sm2 sE x.f1 y.f1 with
    | false =>
      rw [hr, Bool.false_and] at hb
      subst hb
      have Ir := Lib.hid (IE.out false hr)
      clear IE hr
      go_enter Try.func28, Try.ntmps28
      go_wp2_with fail
      refine (Iq.out A2 A3 B2 B3 a2 a3 b2 b3 _ (Kd.C_below Ga2.out H1.out.1) La2.out (Kd.C_below Ga3.out H1.out.1) La3.out (Kd.C_below Gb2.out H1.out.1) Lb2.out (Kd.C_below Gb3.out H1.out.1) Lb3.out).mono ?_
      rintro e wq ⟨rfl, hb⟩
      have H2 := Lib.hid (H1.out.below hb)
      clear hb
      have p4 := H2.out.cell (g := w.heap.size) (cs := #[.int .i64 x.f0.f0, .int .i64 x.f0.f1.f0, .slice A2 x.f0.f1.f1.length a2, .slice A3 x.f0.f2.length a3, .slice A4 x.f1.length a4, .slice A5 x.f2.length a5]) (by simp) 4 rfl
      have q4 := H2.out.cell (g := w.heap.size + 1) (cs := #[.int .i64 y.f0.f0, .int .i64 y.f0.f1.f0, .slice B2 y.f0.f1.f1.length b2, .slice B3 y.f0.f2.length b3, .slice B4 y.f1.length b4, .slice B5 y.f2.length b5]) (by simp) 4 rfl
      go_wp2_with fail
      refine (Ir.out A4 B4 a4 b4 _ (Kd.C_below Ga4.out H2.out.1) La4.out (Kd.C_below Gb4.out H2.out.1) Lb4.out).mono ?_
      rintro e wq2 ⟨rfl, hb⟩
      have H3 := Lib.hid (H2.out.below hb)
      clear hb
      go_wp2_with fail
      go_ret
      exact ⟨rfl, H3.out.1⟩
    | true =>
      rw [hr, Bool.true_and] at hb
      have Ik := Lib.hid (IH.out b hb)
      clear hb
      have Ir := Lib.hid (IE.out true hr)
      clear IE hr
      go_enter Try.func28, Try.ntmps28
      go_wp2_with fail
      refine (Iq.out A2 A3 B2 B3 a2 a3 b2 b3 _ (Kd.C_below Ga2.out H1.out.1) La2.out (Kd.C_below Ga3.out H1.out.1) La3.out (Kd.C_below Gb2.out H1.out.1) Lb2.out (Kd.C_below Gb3.out H1.out.1) Lb3.out).mono ?_
      rintro e wq ⟨rfl, hb⟩
      have H2 := Lib.hid (H1.out.below hb)
      clear hb
      have p4 := H2.out.cell (g := w.heap.size) (cs := #[.int .i64 x.f0.f0, .int .i64 x.f0.f1.f0, .slice A2 x.f0.f1.f1.length a2, .slice A3 x.f0.f2.length a3, .slice A4 x.f1.length a4, .slice A5 x.f2.length a5]) (by simp) 4 rfl
      have q4 := H2.out.cell (g := w.heap.size + 1) (cs := #[.int .i64 y.f0.f0, .int .i64 y.f0.f1.f0, .slice B2 y.f0.f1.f1.length b2, .slice B3 y.f0.f2.length b3, .slice B4 y.f1.length b4, .slice B5 y.f2.length b5]) (by simp) 4 rfl
      go_wp2_with fail
      refine (Ir.out A4 B4 a4 b4 _ (Kd.C_below Ga4.out H2.out.1) La4.out (Kd.C_below Gb4.out H2.out.1) Lb4.out).mono ?_
      rintro e wq2 ⟨rfl, hb⟩
      have H3 := Lib.hid (H2.out.below hb)
      clear hb
      have p5 := H3.out.cell (g := w.heap.size) (cs := #[.int .i64 x.f0.f0, .int .i64 x.f0.f1.f0, .slice A2 x.f0.f1.f1.length a2, .slice A3 x.f0.f2.length a3, .slice A4 x.f1.length a4, .slice A5 x.f2.length a5]) (by simp) 5 rfl
      have q5 := H3.out.cell (g := w.heap.size + 1) (cs := #[.int .i64 y.f0.f0, .int .i64 y.f0.f1.f0, .slice B2 y.f0.f1.f1.length b2, .slice B3 y.f0.f2.length b3, .slice B4 y.f1.length b4, .slice B5 y.f2.length b5]) (by simp) 5 rfl
      go_wp2_with fail
      refine (Ik.out A5 B5 a5 b5 _ (Kd.C_below Ga5.out H3.out.1) La5.out (Kd.C_below Gb5.out H3.out.1) Lb5.out).mono ?_
      rintro e wq3 ⟨rfl, hb⟩
      have H4 := Lib.hid (H3.out.below hb)
      clear hb
      go_wp2_with fail
      go_ret
      exact ⟨rfl, H4.out.1⟩
theorem implAs_all (X Y : List JA) : SaAs 15 X Y := by
  have : ∀ (N : Nat) (X Y : List JA), SizeOf.sizeOf X ≤ N → SaAs 15 X Y := by
    intro N
    induction N with
    | zero => intro X Y h; cases X <;> simp at h
    | succ N ih =>
      intro X Y h
      refine implAs_of X Y (EfA_of X Y fun x hx y hy => arm_of x y (ih _ _ ?_))
      have h1 := List.sizeOf_lt_of_mem hx
      have h2 : SizeOf.sizeOf x.f2 < SizeOf.sizeOf x := by obtain ⟨a, b, d⟩ := x; simp; omega
      omega
  exact this _ X Y (Nat.le_refl _)
end Go.Proofs.Ytkiemiolellllaa.tree
