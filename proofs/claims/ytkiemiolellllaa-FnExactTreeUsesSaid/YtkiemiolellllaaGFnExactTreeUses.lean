/-
  'FnExactTreeUses': the law's walk.
  Conditions: none.
-/
import Derived.Test.YtkiemiolellllaaTreeSz
import Derived.Test.YtkiemiolellllaaTreeNet
import Derived.Test.YtkiemiolellllaaTreeUsLaw
import Derived.Test.YtkiemiolellllaaTreeEq
import Derived.Test.YtkiemiolellllaaArmArg
import Derived.Test.YtkiemiolellllaaHxG
namespace Go.Proofs.Ytkiemiolellllaa.fnExactTreeUses
open Go Go.RowKit Go.Proofs.Ytkiemiolellllaa.part Go.Proofs.Ytkiemiolellllaa.CutTr Go.Proofs.Ytkiemiolellllaa.tree Go.Proofs.YtkiemiolellllaaW.PrintWords
set_option linter.unusedVariables false
set_option linter.unusedSimpArgs false
set_option maxRecDepth 100000

theorem copy (X : List EA) (A : Option Addr) (c : Nat) (W : World) (bs : List (Nat × Array Value)) (hC : Kd.C k45 W A X.length X) (hc : X.length ≤ c) (hw : wAs X ≤ 1048576) (w : World) (hx : Hx W bs w) :
    Calls Try.prog 8 #[.slice A X.length c] w fun e w' => ∃ B, e = .returned (.slice B X.length X.length) ∧ Kd.C k55 w' B (X.map cA).length (X.map cA) ∧ Below w.heap.size w w' :=
  (toAs_all X A c w (Kd.C_below hC hx.1) hc hw).mono fun e w' ⟨h1, h2, h3⟩ => ⟨_, h1, h2.now, h3⟩
theorem eqs (X : List EA) (B B' : Option Addr) (w : World) (h : Kd.C k55 w B (X.map cA).length (X.map cA)) (h' : Kd.C k55 w B' (X.map cA).length (X.map cA)) :
    Calls Try.prog 10 #[.slice B X.length X.length, .slice B' X.length X.length] w fun e w' => e = .returned (.bool true) ∧ Below w.heap.size w w' := by
  have := eqAs_all (X.map cA) B B' (X.map cA).length (X.map cA).length w h (Nat.le_refl _) h' (Nat.le_refl _)
  rwa [List.length_map] at this
theorem dev (p q r : Int) (w : World) :
    Calls Try.prog 12 #[.agg #[.int .i64 p, .int .i64 q, .int .i64 r]] w fun e w' => e = .returned (.agg #[.int .i64 p, .int .i64 q, .int .i64 r]) ∧ Below w.heap.size w w' :=
  laws_toDevArg.calls p q r p q r w rfl
theorem hx_drew {W w w1 : World} {bs : List (Nat × Array Value)} (h : Hx W bs w) (hb : Below w.drew.heap.size w.drew w1) : Hx W bs w1 := h.drew.below hb
theorem ok_dev {W : World} {base : Nat} {v : Value} (o0 : Value.okWide Try.prog W .any base 30 v) : ∃ p q r : Int, v = .agg #[.int .i64 p, .int .i64 q, .int .i64 r] := by
  obtain ⟨cs, rfl, hsz, hc⟩ := kit.ok_cells Try.underlying30 o0
  have hc := hc [3, 3, 3] (by kernel_rfl)
  rw [show Try.prog.cellsOf 30 = 3 by kernel_rfl] at hsz
  obtain ⟨x, y, z, rfl⟩ := kit.arr3 (by simpa using hsz)
  obtain ⟨_, e0, h0⟩ := hc 0 x rfl
  obtain rfl := Option.some.inj e0
  obtain ⟨_, e1, h1⟩ := hc 1 y rfl
  obtain rfl := Option.some.inj e1
  obtain ⟨_, e2, h2⟩ := hc 2 z rfl
  obtain rfl := Option.some.inj e2
  obtain ⟨p, rfl, _⟩ := kit.ok_int Try.underlying3 h0
  obtain ⟨q, rfl, _⟩ := kit.ok_int Try.underlying3 h1
  obtain ⟨r, rfl, _⟩ := kit.ok_int Try.underlying3 h2
  exact ⟨p, q, r, rfl⟩
theorem specS (X : List EA) (B : Option Addr) (w : World) (p q r v : Int) (k : Nat) (h : Kd.C k55 w B (X.map cA).length (X.map cA)) (e : spec_TreeUses.f k (X.map cA) p q r = some v) :
    Calls Try.prog 11 #[.slice B X.length X.length, .agg #[.int .i64 p, .int .i64 q, .int .i64 r]] w fun e w' => e = .returned (.int .i64 v) ∧ Below w.heap.size w w' := by
  have := spec_TreeUses.calls k B (X.map cA).length (X.map cA) p q r v w h (Nat.le_refl _) e
  rwa [List.length_map] at this
theorem implS (X : List EA) (B : Option Addr) (w : World) (p q r v : Int) (k : Nat) (h : Kd.C k55 w B (X.map cA).length (X.map cA)) (e : impl_TreeUses.f k (X.map cA) p q r = some v) :
    Calls Try.prog 13 #[.slice B X.length X.length, .agg #[.int .i64 p, .int .i64 q, .int .i64 r]] w fun e w' => e = .returned (.int .i64 v) ∧ Below w.heap.size w w' := by
  have := impl_TreeUses.calls k B (X.map cA).length (X.map cA) p q r v w h (Nat.le_refl _) e
  rwa [List.length_map] at this

set_option maxHeartbeats 8000000 in
theorem walkI (A : Option Addr) (c : Nat) (X : List EA) (W : World) (p q r : Int) (hC : Kd.C k45 W A X.length X) (hc : X.length ≤ c) :
    Calls Try.prog 4 #[.slice A X.length c, .agg #[.int .i64 p, .int .i64 q, .int .i64 r]] W fun e w' => e = .returned (.bool true) ∧ Below W.heap.size W w' := by
  have HC := Lib.hid hC
  have Hc := Lib.hid hc
  clear hC hc
  obtain ⟨t, ht⟩ : ∃ t, sub 1048576 (wAs X) = t := ⟨_, rfl⟩
  have HT := Lib.hid ht
  clear ht
  have hX0 := (Hx.nil (Below.refl W.heap.size W)).box #[.int .i64 p, .int .i64 q, .int .i64 r] 30
  go_enter Try.func4, Try.ntmps4
  go_wp2_with fail
  have HX0 := Lib.hid hX0
  clear hX0
  refine (szAs_all X A c 1048576 _ (Kd.C_below HC.out HX0.out.1) Hc.out ⟨by decide, by decide⟩).mono ?_
  rw [HT.out]
  rintro e wz ⟨rfl, hb⟩
  have HX := Lib.hid (HX0.out.below hb)
  clear hb HX0
  by_cases h0 : t < 0
  · have b0 : decide (t < 0) = true := decide_eq_true h0
    clear h0
    go_wp2_with fail
    go_ret
    exact ⟨rfl, HX.out.1⟩
  have b0 : decide (t < 0) = false := decide_eq_false h0
  have hw : wAs X ≤ 1048576 := by
    have h1 := HT.out
    unfold sub at h1
    split at h1 <;> omega
  have HW := Lib.hid hw
  obtain ⟨v, k1, k2, e1, e2⟩ := uses_law X hw p q r
  have E1 := Lib.hid e1
  have E2 := Lib.hid e2
  clear h0 hw e1 e2
  have y0 : wz.cell? ⟨W.heap.size, 0, none⟩ = some (.int .i64 p) := HX.out.cell (List.Mem.head _) 0 rfl
  have y1 : wz.cell? ⟨W.heap.size, 1, none⟩ = some (.int .i64 q) := HX.out.cell (List.Mem.head _) 1 rfl
  have y2 : wz.cell? ⟨W.heap.size, 2, none⟩ = some (.int .i64 r) := HX.out.cell (List.Mem.head _) 2 rfl
  go_wp2_with fail
  go_region_with (first
    | (go_at_call 8; refine Calls.mono (copy X A c W [(W.heap.size, #[.int .i64 p, .int .i64 q, .int .i64 r])] HC.out Hc.out HW.out _ (by exact (HX.out.below (⟨rfl, rfl, rfl, Nat.le_refl _, fun _ _ => rfl⟩)))) ?_; rintro e wz ⟨B1, rfl, g1f, hb⟩; try clear y0; try clear y1; try clear y2; have HX2 : Hid (Hx W [(W.heap.size, #[.int .i64 p, .int .i64 q, .int .i64 r])] wz) := Lib.hid (by first | exact hx_drew HX.out hb | exact HX.out.below hb); clear hb HX; have HX := HX2; clear HX2; have y0 : wz.cell? ⟨W.heap.size, 0, none⟩ = some (.int .i64 p) := HX.out.cell (List.Mem.head _) 0 rfl; have y1 : wz.cell? ⟨W.heap.size, 1, none⟩ = some (.int .i64 q) := HX.out.cell (List.Mem.head _) 1 rfl; have y2 : wz.cell? ⟨W.heap.size, 2, none⟩ = some (.int .i64 r) := HX.out.cell (List.Mem.head _) 2 rfl; have G1 := Lib.hid g1f; clear g1f)
    | (go_at_call 12; refine Calls.mono (dev p q r _) ?_; rintro e wz ⟨rfl, hb⟩; try clear y0; try clear y1; try clear y2; have G2 : Hid (Kd.C k55 wz B1 (X.map cA).length (X.map cA)) := Lib.hid (by first | exact Kd.C_below (Kd.C_drew G1.out) hb | exact Kd.C_below G1.out hb); clear G1; have G1 := G2; clear G2; have HX2 : Hid (Hx W [(W.heap.size, #[.int .i64 p, .int .i64 q, .int .i64 r])] wz) := Lib.hid (by first | exact hx_drew HX.out hb | exact HX.out.below hb); clear hb HX; have HX := HX2; clear HX2; have y0 : wz.cell? ⟨W.heap.size, 0, none⟩ = some (.int .i64 p) := HX.out.cell (List.Mem.head _) 0 rfl; have y1 : wz.cell? ⟨W.heap.size, 1, none⟩ = some (.int .i64 q) := HX.out.cell (List.Mem.head _) 1 rfl; have y2 : wz.cell? ⟨W.heap.size, 2, none⟩ = some (.int .i64 r) := HX.out.cell (List.Mem.head _) 2 rfl)
    | (go_at_call 11; refine Calls.mono (specS X _ _ p q r v k1 (by exact Kd.C_below G1.out ⟨rfl, rfl, rfl, Nat.le_refl _, fun _ _ => rfl⟩) E1.out) ?_; rintro e wz ⟨rfl, hb⟩; try clear y0; try clear y1; try clear y2; have G2 : Hid (Kd.C k55 wz B1 (X.map cA).length (X.map cA)) := Lib.hid (by first | exact Kd.C_below (Kd.C_drew G1.out) hb | exact Kd.C_below G1.out hb); clear G1; have G1 := G2; clear G2; have HX2 : Hid (Hx W [(W.heap.size, #[.int .i64 p, .int .i64 q, .int .i64 r])] wz) := Lib.hid (by first | exact hx_drew HX.out hb | exact HX.out.below hb); clear hb HX; have HX := HX2; clear HX2; have y0 : wz.cell? ⟨W.heap.size, 0, none⟩ = some (.int .i64 p) := HX.out.cell (List.Mem.head _) 0 rfl; have y1 : wz.cell? ⟨W.heap.size, 1, none⟩ = some (.int .i64 q) := HX.out.cell (List.Mem.head _) 1 rfl; have y2 : wz.cell? ⟨W.heap.size, 2, none⟩ = some (.int .i64 r) := HX.out.cell (List.Mem.head _) 2 rfl))
  all_goals
    clear G1
    go_wp2_with fail
    (go_at_call 8; refine Calls.mono (copy X A c W [(W.heap.size, #[.int .i64 p, .int .i64 q, .int .i64 r])] HC.out Hc.out HW.out _ (by exact (HX.out.below (⟨rfl, rfl, rfl, Nat.le_refl _, fun _ _ => rfl⟩)))) ?_; rintro e wz ⟨B1, rfl, g1f, hb⟩; try clear y0; try clear y1; try clear y2; have HX2 : Hid (Hx W [(W.heap.size, #[.int .i64 p, .int .i64 q, .int .i64 r])] wz) := Lib.hid (by first | exact hx_drew HX.out hb | exact HX.out.below hb); clear hb HX; have HX := HX2; clear HX2; have y0 : wz.cell? ⟨W.heap.size, 0, none⟩ = some (.int .i64 p) := HX.out.cell (List.Mem.head _) 0 rfl; have y1 : wz.cell? ⟨W.heap.size, 1, none⟩ = some (.int .i64 q) := HX.out.cell (List.Mem.head _) 1 rfl; have y2 : wz.cell? ⟨W.heap.size, 2, none⟩ = some (.int .i64 r) := HX.out.cell (List.Mem.head _) 2 rfl; have G1 := Lib.hid g1f; clear g1f)
    go_wp2_with fail
    (go_at_call 12; refine Calls.mono (dev p q r _) ?_; rintro e wz ⟨rfl, hb⟩; try clear y0; try clear y1; try clear y2; have G2 : Hid (Kd.C k55 wz B1 (X.map cA).length (X.map cA)) := Lib.hid (by first | exact Kd.C_below (Kd.C_drew G1.out) hb | exact Kd.C_below G1.out hb); clear G1; have G1 := G2; clear G2; have HX2 : Hid (Hx W [(W.heap.size, #[.int .i64 p, .int .i64 q, .int .i64 r])] wz) := Lib.hid (by first | exact hx_drew HX.out hb | exact HX.out.below hb); clear hb HX; have HX := HX2; clear HX2; have y0 : wz.cell? ⟨W.heap.size, 0, none⟩ = some (.int .i64 p) := HX.out.cell (List.Mem.head _) 0 rfl; have y1 : wz.cell? ⟨W.heap.size, 1, none⟩ = some (.int .i64 q) := HX.out.cell (List.Mem.head _) 1 rfl; have y2 : wz.cell? ⟨W.heap.size, 2, none⟩ = some (.int .i64 r) := HX.out.cell (List.Mem.head _) 2 rfl)
    go_wp2_with fail
    (go_at_call 13; refine Calls.mono (implS X _ _ p q r v k2 (by exact Kd.C_below G1.out ⟨rfl, rfl, rfl, Nat.le_refl _, fun _ _ => rfl⟩) E2.out) ?_; rintro e wz ⟨rfl, hb⟩; try clear y0; try clear y1; try clear y2; have G2 : Hid (Kd.C k55 wz B1 (X.map cA).length (X.map cA)) := Lib.hid (by first | exact Kd.C_below (Kd.C_drew G1.out) hb | exact Kd.C_below G1.out hb); clear G1; have G1 := G2; clear G2; have HX2 : Hid (Hx W [(W.heap.size, #[.int .i64 p, .int .i64 q, .int .i64 r])] wz) := Lib.hid (by first | exact hx_drew HX.out hb | exact HX.out.below hb); clear hb HX; have HX := HX2; clear HX2; have y0 : wz.cell? ⟨W.heap.size, 0, none⟩ = some (.int .i64 p) := HX.out.cell (List.Mem.head _) 0 rfl; have y1 : wz.cell? ⟨W.heap.size, 1, none⟩ = some (.int .i64 q) := HX.out.cell (List.Mem.head _) 1 rfl; have y2 : wz.cell? ⟨W.heap.size, 2, none⟩ = some (.int .i64 r) := HX.out.cell (List.Mem.head _) 2 rfl)
    go_wp2_with fail
    (go_at_call 8; refine Calls.mono (copy X A c W [(W.heap.size, #[.int .i64 p, .int .i64 q, .int .i64 r])] HC.out Hc.out HW.out _ (by exact (HX.out.below (⟨rfl, rfl, rfl, Nat.le_refl _, fun _ _ => rfl⟩)))) ?_; rintro e wz ⟨B3, rfl, g3f, hb⟩; try clear y0; try clear y1; try clear y2; have G2 : Hid (Kd.C k55 wz B1 (X.map cA).length (X.map cA)) := Lib.hid (by first | exact Kd.C_below (Kd.C_drew G1.out) hb | exact Kd.C_below G1.out hb); clear G1; have G1 := G2; clear G2; have HX2 : Hid (Hx W [(W.heap.size, #[.int .i64 p, .int .i64 q, .int .i64 r])] wz) := Lib.hid (by first | exact hx_drew HX.out hb | exact HX.out.below hb); clear hb HX; have HX := HX2; clear HX2; have y0 : wz.cell? ⟨W.heap.size, 0, none⟩ = some (.int .i64 p) := HX.out.cell (List.Mem.head _) 0 rfl; have y1 : wz.cell? ⟨W.heap.size, 1, none⟩ = some (.int .i64 q) := HX.out.cell (List.Mem.head _) 1 rfl; have y2 : wz.cell? ⟨W.heap.size, 2, none⟩ = some (.int .i64 r) := HX.out.cell (List.Mem.head _) 2 rfl; have G3 := Lib.hid g3f; clear g3f)
    go_wp2_with fail
    (go_at_call 10; refine Calls.mono (eqs X _ _ _ (by exact Kd.C_below G1.out ⟨rfl, rfl, rfl, Nat.le_refl _, fun _ _ => rfl⟩) (by exact Kd.C_below G3.out ⟨rfl, rfl, rfl, Nat.le_refl _, fun _ _ => rfl⟩)) ?_; rintro e wz ⟨rfl, hb⟩; try clear y0; try clear y1; try clear y2; have HX2 : Hid (Hx W [(W.heap.size, #[.int .i64 p, .int .i64 q, .int .i64 r])] wz) := Lib.hid (by first | exact hx_drew HX.out hb | exact HX.out.below hb); clear hb HX; have HX := HX2; clear HX2; have y0 : wz.cell? ⟨W.heap.size, 0, none⟩ = some (.int .i64 p) := HX.out.cell (List.Mem.head _) 0 rfl; have y1 : wz.cell? ⟨W.heap.size, 1, none⟩ = some (.int .i64 q) := HX.out.cell (List.Mem.head _) 1 rfl; have y2 : wz.cell? ⟨W.heap.size, 2, none⟩ = some (.int .i64 r) := HX.out.cell (List.Mem.head _) 2 rfl)
    go_wp2_with fail
    go_ret
    exact ⟨rfl, HX.out.1⟩
theorem walk (W : World) (base : Nat) (v0 v1 : Value) (o0 : Value.okWide Try.prog W .any base 22 v0) (o1 : Value.okWide Try.prog W .any base 30 v1) (b0 : kit.Arms W v0) :
    Calls Try.prog 4 #[v0, v1] W fun e w' => e = .returned (.bool true) ∧ Below W.heap.size W w' := by
  obtain ⟨A, c, X, rfl, hc, hC⟩ := b0
  obtain ⟨p, q, r, rfl⟩ := ok_dev o1
  exact walkI A c X W p q r hC hc
end Go.Proofs.Ytkiemiolellllaa.fnExactTreeUses
