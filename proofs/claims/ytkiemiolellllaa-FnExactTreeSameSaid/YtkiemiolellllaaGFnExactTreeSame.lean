/-
  'FnExactTreeSame': the law's walk.
  Conditions: none.
-/
import Derived.Test.YtkiemiolellllaaTreeSz
import Derived.Test.YtkiemiolellllaaTreeNet
import Derived.Test.YtkiemiolellllaaTreeSaSpec
import Derived.Test.YtkiemiolellllaaTreeSaImpl
import Derived.Test.YtkiemiolellllaaTreeEq
import Derived.Test.YtkiemiolellllaaArmArg
namespace Go.Proofs.Ytkiemiolellllaa.fnExactTreeSame
open Go Go.RowKit Go.Proofs.Ytkiemiolellllaa.part Go.Proofs.Ytkiemiolellllaa.CutTr Go.Proofs.Ytkiemiolellllaa.tree Go.Proofs.YtkiemiolellllaaW.PrintWords
set_option linter.unusedVariables false
set_option linter.unusedSimpArgs false
set_option maxRecDepth 100000

theorem copy (X : List EA) (A : Option Addr) (c : Nat) (W w : World) (hC : Kd.C k45 W A X.length X) (hc : X.length ≤ c) (hw : wAs X ≤ 1048576) (hb : Below W.heap.size W w) :
    Calls Try.prog 8 #[.slice A X.length c] w fun e w' => ∃ B, e = .returned (.slice B X.length X.length) ∧ Kd.C k55 w' B (X.map cA).length (X.map cA) ∧ Below w.heap.size w w' :=
  (toAs_all X A c w (Kd.C_below hC hb) hc hw).mono fun e w' ⟨h1, h2, h3⟩ => ⟨_, h1, h2.now, h3⟩
theorem eqs (X : List EA) (B B' : Option Addr) (w : World) (h : Kd.C k55 w B (X.map cA).length (X.map cA)) (h' : Kd.C k55 w B' (X.map cA).length (X.map cA)) :
    Calls Try.prog 10 #[.slice B X.length X.length, .slice B' X.length X.length] w fun e w' => e = .returned (.bool true) ∧ Below w.heap.size w w' := by
  have := eqAs_all (X.map cA) B B' (X.map cA).length (X.map cA).length w h (Nat.le_refl _) h' (Nat.le_refl _)
  rwa [List.length_map] at this
theorem specS (X Y : List EA) (hw : wAs X ≤ 1048576) (B B' : Option Addr) (w : World) (b : Bool) (hb : sm2 sA (X.map cA) (Y.map cA) = b) (h : Kd.C k55 w B (X.map cA).length (X.map cA)) (h' : Kd.C k55 w B' (Y.map cA).length (Y.map cA)) :
    Calls Try.prog 14 #[.slice B X.length X.length, .slice B' Y.length Y.length] w fun e w' => e = .returned (.bool b) ∧ Below w.heap.size w w' := by
  have hs : sm bA (X.map cA) ≤ 1000000000 := by
    rw [← bAs_eq, ← cAs_eq]
    have := bAs_le X
    omega
  have := specAs_all (X.map cA) (Y.map cA) hs b hb B B' (X.map cA).length (Y.map cA).length w h (Nat.le_refl _) h' (Nat.le_refl _)
  rwa [List.length_map, List.length_map] at this
theorem implS (X Y : List EA) (B B' : Option Addr) (w : World) (b : Bool) (hb : sm2 sA (X.map cA) (Y.map cA) = b) (h : Kd.C k55 w B (X.map cA).length (X.map cA)) (h' : Kd.C k55 w B' (Y.map cA).length (Y.map cA)) :
    Calls Try.prog 15 #[.slice B X.length X.length, .slice B' Y.length Y.length] w fun e w' => e = .returned (.bool b) ∧ Below w.heap.size w w' := by
  have := implAs_all (X.map cA) (Y.map cA) b hb B B' (X.map cA).length (Y.map cA).length w h (Nat.le_refl _) h' (Nat.le_refl _)
  rwa [List.length_map, List.length_map] at this

set_option maxHeartbeats 8000000 in
theorem walkI (A B : Option Addr) (c d : Nat) (X Y : List EA) (W : World) (hC : Kd.C k45 W A X.length X) (hc : X.length ≤ c) (hD : Kd.C k45 W B Y.length Y) (hd : Y.length ≤ d) :
    Calls Try.prog 5 #[.slice A X.length c, .slice B Y.length d] W fun e w' => e = .returned (.bool true) ∧ Below W.heap.size W w' := by
  have HC := Lib.hid hC
  have Hc := Lib.hid hc
  have HD := Lib.hid hD
  have Hd := Lib.hid hd
  clear hC hc hD hd
  obtain ⟨t, ht⟩ : ∃ t, sub 1048576 (wAs X) = t := ⟨_, rfl⟩
  have HT := Lib.hid ht
  clear ht
  go_enter Try.func5, Try.ntmps5
  go_wp2_with fail
  refine (szAs_all X A c 1048576 _ HC.out Hc.out ⟨by decide, by decide⟩).mono ?_
  rw [HT.out]
  rintro e w1 ⟨rfl, hb⟩
  have HB1 := Lib.hid hb
  clear hb
  by_cases h0 : t < 0
  · have b0 : decide (t < 0) = true := decide_eq_true h0
    clear h0
    go_wp2_with fail
    go_ret
    exact ⟨rfl, HB1.out⟩
  have b0 : decide (t < 0) = false := decide_eq_false h0
  have hw : wAs X ≤ 1048576 := by
    have h1 := HT.out
    unfold sub at h1
    split at h1 <;> omega
  have HW := Lib.hid hw
  have ht : 0 ≤ t ∧ t ≤ 1048576 := ⟨by omega, by have h1 := HT.out; unfold sub at h1; split at h1 <;> omega⟩
  have HTB := Lib.hid ht
  obtain ⟨u, hu⟩ : ∃ u, sub t (wAs Y) = u := ⟨_, rfl⟩
  have HU := Lib.hid hu
  clear h0 hw ht hu
  go_wp2_with fail
  refine (szAs_all Y B d t _ (Kd.C_below HD.out HB1.out) Hd.out HTB.out).mono ?_
  rw [HU.out]
  rintro e w2 ⟨rfl, hb⟩
  have HB2 := Lib.hid (HB1.out.trans (hb.mono HB1.out.size))
  clear hb HB1 b0
  by_cases h0 : u < 0
  · have b0 : decide (u < 0) = true := decide_eq_true h0
    clear h0
    go_wp2_with fail
    go_ret
    exact ⟨rfl, HB2.out⟩
  have b0 : decide (u < 0) = false := decide_eq_false h0
  have hv : wAs Y ≤ 1048576 := by
    have h1 := HU.out
    have h2 := HTB.out
    unfold sub at h1
    split at h1 <;> omega
  have HV := Lib.hid hv
  obtain ⟨b, hb⟩ : ∃ b, sm2 sA (X.map cA) (Y.map cA) = b := ⟨_, rfl⟩
  have HS := Lib.hid hb
  have n0 : (b != b) = false := by cases b <;> rfl
  clear h0 hv hb
  go_wp2_with fail
  refine (copy X A c W _ HC.out Hc.out HW.out HB2.out).mono ?_
  rintro e w3 ⟨B1, rfl, g, hb⟩
  have HB3 := Lib.hid (HB2.out.trans (hb.mono HB2.out.size))
  have G1 := Lib.hid g
  clear hb g HB2 b0
  go_wp2_with fail
  refine (copy Y B d W _ HD.out Hd.out HV.out HB3.out).mono ?_
  rintro e w4 ⟨B2, rfl, g, hb⟩
  have HB4 := Lib.hid (HB3.out.trans (hb.mono HB3.out.size))
  have G2 := Lib.hid g
  have G3 := Lib.hid (Kd.C_below G1.out hb)
  clear hb g HB3 G1
  go_wp2_with fail
  refine (specS X Y HW.out B1 B2 _ b HS.out G3.out G2.out).mono ?_
  rintro e w5 ⟨rfl, hb⟩
  have HB5 := Lib.hid (HB4.out.trans (hb.mono HB4.out.size))
  clear hb HB4 G2 G3
  go_wp2_with fail
  refine (copy X A c W _ HC.out Hc.out HW.out HB5.out).mono ?_
  rintro e w6 ⟨B3, rfl, g, hb⟩
  have HB6 := Lib.hid (HB5.out.trans (hb.mono HB5.out.size))
  have G1 := Lib.hid g
  clear hb g HB5
  go_wp2_with fail
  refine (copy Y B d W _ HD.out Hd.out HV.out HB6.out).mono ?_
  rintro e w7 ⟨B4, rfl, g, hb⟩
  have HB7 := Lib.hid (HB6.out.trans (hb.mono HB6.out.size))
  have G2 := Lib.hid g
  have G3 := Lib.hid (Kd.C_below G1.out hb)
  clear hb g HB6 G1
  go_wp2_with fail
  refine (implS X Y B3 B4 _ b HS.out G3.out G2.out).mono ?_
  rintro e w8 ⟨rfl, hb⟩
  have HB8 := Lib.hid (HB7.out.trans (hb.mono HB7.out.size))
  have G4 := Lib.hid (Kd.C_below G3.out hb)
  have G5 := Lib.hid (Kd.C_below G2.out hb)
  clear hb HB7 G2 G3
  go_wp2_with fail
  refine (copy X A c W _ HC.out Hc.out HW.out HB8.out).mono ?_
  rintro e w9 ⟨B5, rfl, g, hb⟩
  have HB9 := Lib.hid (HB8.out.trans (hb.mono HB8.out.size))
  have G1 := Lib.hid g
  have G6 := Lib.hid (Kd.C_below G4.out hb)
  have G7 := Lib.hid (Kd.C_below G5.out hb)
  clear hb g HB8 G4 G5
  go_wp2_with fail
  refine (eqs X B3 B5 _ G6.out G1.out).mono ?_
  rintro e wa ⟨rfl, hb⟩
  have HBa := Lib.hid (HB9.out.trans (hb.mono HB9.out.size))
  have G8 := Lib.hid (Kd.C_below G7.out hb)
  clear hb HB9 G6 G1 G7
  go_wp2_with fail
  refine (copy Y B d W _ HD.out Hd.out HV.out HBa.out).mono ?_
  rintro e wb ⟨B6, rfl, g, hb⟩
  have HBb := Lib.hid (HBa.out.trans (hb.mono HBa.out.size))
  have G1 := Lib.hid g
  have G9 := Lib.hid (Kd.C_below G8.out hb)
  clear hb g HBa G8
  go_wp2_with fail
  refine (eqs Y B4 B6 _ G9.out G1.out).mono ?_
  rintro e wc ⟨rfl, hb⟩
  have HBc := Lib.hid (HBb.out.trans (hb.mono HBb.out.size))
  clear hb HBb G9 G1
  go_wp2_with fail
  go_ret
  exact ⟨rfl, HBc.out⟩
theorem walk (W : World) (base : Nat) (v0 v1 : Value) (o0 : Value.okWide Try.prog W .any base 22 v0) (o1 : Value.okWide Try.prog W .any base 22 v1) (b0 : kit.Arms W v0) (b1 : kit.Arms W v1) :
    Calls Try.prog 5 #[v0, v1] W fun e w' => e = .returned (.bool true) ∧ Below W.heap.size W w' := by
  obtain ⟨A, c, X, rfl, hc, hC⟩ := b0
  obtain ⟨B, d, Y, rfl, hd, hD⟩ := b1
  exact walkI A B c d X Y W hC hc hD hd
end Go.Proofs.Ytkiemiolellllaa.fnExactTreeSame
