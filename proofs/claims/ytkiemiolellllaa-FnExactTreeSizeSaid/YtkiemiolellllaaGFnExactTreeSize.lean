/-
  'FnExactTreeSize': the law's walk.
  Conditions: none.
-/
import Derived.Test.YtkiemiolellllaaTreeSz
import Derived.Test.YtkiemiolellllaaTreeNet
import Derived.Test.YtkiemiolellllaaTreeSzLaw
import Derived.Test.YtkiemiolellllaaTreeEq
import Derived.Test.YtkiemiolellllaaArmArg
namespace Go.Proofs.Ytkiemiolellllaa.fnExactTreeSize
open Go Go.RowKit Go.Proofs.Ytkiemiolellllaa.part Go.Proofs.Ytkiemiolellllaa.CutTr Go.Proofs.Ytkiemiolellllaa.tree Go.Proofs.YtkiemiolellllaaW.PrintWords
set_option linter.unusedVariables false
set_option linter.unusedSimpArgs false
set_option maxRecDepth 100000

theorem copy (X : List EA) (A : Option Addr) (c : Nat) (w : World) (hC : Kd.C k45 w A X.length X) (hc : X.length ≤ c) (hw : wAs X ≤ 1048576) :
    Calls Try.prog 8 #[.slice A X.length c] w fun e w' => ∃ B, e = .returned (.slice B X.length X.length) ∧ Kd.C k55 w' B (X.map cA).length (X.map cA) ∧ Below w.heap.size w w' :=
  (toAs_all X A c w hC hc hw).mono fun e w' ⟨h1, h2, h3⟩ => ⟨_, h1, h2.now, h3⟩
theorem eqs (X : List EA) (B B' : Option Addr) (w : World) (h : Kd.C k55 w B (X.map cA).length (X.map cA)) (h' : Kd.C k55 w B' (X.map cA).length (X.map cA)) :
    Calls Try.prog 10 #[.slice B X.length X.length, .slice B' X.length X.length] w fun e w' => e = .returned (.bool true) ∧ Below w.heap.size w w' := by
  have := eqAs_all (X.map cA) B B' (X.map cA).length (X.map cA).length w h (Nat.le_refl _) h' (Nat.le_refl _)
  rwa [List.length_map] at this
theorem specS (X : List EA) (B : Option Addr) (w : World) (r : Int) (k : Nat) (h : Kd.C k55 w B (X.map cA).length (X.map cA)) (e : spec_TreeSize.f k (X.map cA) = some r) :
    Calls Try.prog 7 #[.slice B X.length X.length] w fun e w' => e = .returned (.int .i64 r) ∧ Below w.heap.size w w' := by
  have := spec_TreeSize.calls k B (X.map cA).length (X.map cA) r w h (Nat.le_refl _) e
  rwa [List.length_map] at this
theorem implS (X : List EA) (B : Option Addr) (w : World) (r : Int) (k : Nat) (h : Kd.C k55 w B (X.map cA).length (X.map cA)) (e : impl_TreeSize.f k (X.map cA) = some r) :
    Calls Try.prog 9 #[.slice B X.length X.length] w fun e w' => e = .returned (.int .i64 r) ∧ Below w.heap.size w w' := by
  have := impl_TreeSize.calls k B (X.map cA).length (X.map cA) r w h (Nat.le_refl _) e
  rwa [List.length_map] at this

set_option maxHeartbeats 4000000 in
theorem walkI (A : Option Addr) (c : Nat) (X : List EA) (W : World) (hC : Kd.C k45 W A X.length X) (hc : X.length ≤ c) :
    Calls Try.prog 3 #[.slice A X.length c] W fun e w' => e = .returned (.bool true) ∧ Below W.heap.size W w' := by
  have HC := Lib.hid hC
  have Hc := Lib.hid hc
  clear hC hc
  obtain ⟨t, ht⟩ : ∃ t, sub 1048576 (wAs X) = t := ⟨_, rfl⟩
  have HT := Lib.hid ht
  clear ht
  go_enter Try.func3, Try.ntmps3
  go_wp2_with fail
  refine (szAs_all X A c 1048576 _ HC.out Hc.out ⟨by decide, by decide⟩).mono ?_
  rw [HT.out]
  rintro e w1 ⟨rfl, hb⟩
  have HB1 := Lib.hid hb
  clear hb
  by_cases h0 : t < 0
  · have b0 : decide (t < 0) = true := decide_eq_true h0
    clear h0
    go_wp2_with fail
    go_ret
    exact ⟨rfl, HB1.out⟩
  have b0 : decide (t < 0) = false := decide_eq_false h0
  have hw : wAs X ≤ 1048576 := by
    have h1 := HT.out
    unfold sub at h1
    split at h1 <;> omega
  have HW := Lib.hid hw
  obtain ⟨r, k1, k2, e1, e2⟩ := size_law X hw
  have E1 := Lib.hid e1
  have E2 := Lib.hid e2
  clear h0 hw e1 e2
  go_wp2_with fail
  refine (copy X A c _ (Kd.C_below HC.out HB1.out) Hc.out HW.out).mono ?_
  rintro e w2 ⟨B1, rfl, g1, hb⟩
  have HB2 := Lib.hid (HB1.out.trans (hb.mono HB1.out.size))
  have G1 := Lib.hid g1
  clear hb g1 HB1
  go_wp2_with fail
  refine (specS X B1 _ r k1 G1.out E1.out).mono ?_
  rintro e w3 ⟨rfl, hb⟩
  have HB3 := Lib.hid (HB2.out.trans (hb.mono HB2.out.size))
  clear hb HB2 G1
  go_wp2_with fail
  refine (copy X A c _ (Kd.C_below HC.out HB3.out) Hc.out HW.out).mono ?_
  rintro e w4 ⟨B2, rfl, g2, hb⟩
  have HB4 := Lib.hid (HB3.out.trans (hb.mono HB3.out.size))
  have G2 := Lib.hid g2
  clear hb g2 HB3
  go_wp2_with fail
  refine (implS X B2 _ r k2 G2.out E2.out).mono ?_
  rintro e w5 ⟨rfl, hb⟩
  have HB5 := Lib.hid (HB4.out.trans (hb.mono HB4.out.size))
  have G3 := Lib.hid (Kd.C_below G2.out hb)
  clear hb G2 HB4
  go_wp2_with fail
  refine (copy X A c _ (Kd.C_below HC.out HB5.out) Hc.out HW.out).mono ?_
  rintro e w6 ⟨B3, rfl, g3, hb⟩
  have HB6 := Lib.hid (HB5.out.trans (hb.mono HB5.out.size))
  have G4 := Lib.hid g3
  have G5 := Lib.hid (Kd.C_below G3.out hb)
  clear hb g3 HB5 G3
  go_wp2_with fail
  refine (eqs X B2 B3 _ G5.out G4.out).mono ?_
  rintro e w7 ⟨rfl, hb⟩
  have HB7 := Lib.hid (HB6.out.trans (hb.mono HB6.out.size))
  clear hb HB6 G4 G5
  go_wp2_with fail
  go_ret
  exact ⟨rfl, HB7.out⟩
theorem walk (W : World) (base : Nat) (v0 : Value) (o0 : Value.okWide Try.prog W .any base 22 v0) (b0 : kit.Arms W v0) :
    Calls Try.prog 3 #[v0] W fun e w' => e = .returned (.bool true) ∧ Below W.heap.size W w' := by
  obtain ⟨A, c, X, rfl, hc, hC⟩ := b0
  exact walkI A c X W hC hc
end Go.Proofs.Ytkiemiolellllaa.fnExactTreeSize
