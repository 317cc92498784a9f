/-
  'FnExactElemIsCoil': the law's walk.
  Conditions: the variables 'devSizes', 'devWords' hold what they are laid with.
-/
import Derived.Test.YthfkgeloilhniaaDoorElemT
import Derived.Test.YthfkgeloilhniaaDoorElemPure
import Derived.Test.YthfkgeloilhniaaDoorHxS
import Derived.Deep.RegionWith
namespace Go.Proofs.YthfkgeloilhniaaDoor.fnExactElemIsCoil
open Go Go.RowKit Go.Proofs.YthfkgeloilhniaaDoor.part Go.Proofs.YthfkgeloilhniaaDoor.dev Go.Proofs.YthfkgeloilhniaaDoor.PFnExactElemIsCoil Go.Proofs.YthfkgeloilhniaaDoorW.PrintWords
set_option linter.unusedVariables false
set_option linter.unusedSimpArgs false

theorem argsat_of {w : World} {A : Option Addr} {Y : List S35} (h : Kd.C k35 w A Y.length Y) : Argsat w A (Y.map tr) := by
  rcases Nat.eq_zero_or_pos Y.length with h0 | h0
  · left
    rw [List.eq_nil_of_length_eq_zero h0]
    rfl
  · right
    obtain ⟨ad, e, c0, _⟩ := at_T35 h 0 (by omega) (by omega)
    obtain ⟨b, off, spot⟩ := ad
    have hs : spot = none := by simpa [Addr.add] using World.cell?_spot c0
    subst hs
    refine ⟨b, off, e, fun i hi => ?_⟩
    rw [List.length_map] at hi
    obtain ⟨ad, e2, d0, d1, d2⟩ := at_T35 h (i : Int) (by omega) (by omega)
    obtain rfl := Option.some.inj (e.symm.trans e2)
    rw [Int.toNat_natCast, Go.WideShapes.add_plain] at d0 d1 d2
    have ev : (Y.map tr).getD i zT = tr (rd_T35 Y (i : Int)) := by
      show _ = tr (Y.getD (i : Int).toNat z35)
      simp [hi]
    rw [ev]
    exact ⟨d0, d1, d2⟩
theorem of_tris {w : World} {A : Option Addr} {l : List Tri} (h : kit.Tris w A l) (hl : l.length ≤ 9223372036854775807) : Kd.C k62 w A (l.map fun x => (⟨x.1, x.2.1, x.2.2⟩ : S62)).length (l.map fun x => (⟨x.1, x.2.1, x.2.2⟩ : S62)) := by
  refine ⟨rfl, by simpa using hl, fun h0 => ?_⟩
  rw [List.length_map] at h0
  obtain ⟨a, e, _⟩ := h 0 h0
  refine ⟨a, e, fun j p hj => ?_⟩
  obtain ⟨hjl, rfl⟩ := List.getElem?_eq_some_iff.1 hj
  rw [List.length_map] at hjl
  obtain ⟨a2, e2, d0, d1, d2⟩ := h j hjl
  obtain rfl := Option.some.inj (e.symm.trans e2)
  have ev : l.getD j (0, 0, 0) = l[j] := by simp [hjl]
  rw [ev] at d0 d1 d2
  refine ⟨_, rfl, k62_mk w _, fun i u hu => ?_⟩
  rw [List.getElem_map] at hu
  match i, hu with
  | 0, hu => cases hu; exact d0
  | 1, hu => cases hu; exact d1
  | 2, hu => cases hu; exact d2
theorem scoilY (op : Int) (A : Option Addr) (c : Nat) (Y : List S35) (W : World) (hA : Argsat W A (Y.map tr)) :
    Calls Tryd.prog 17 #[.agg #[.int .i64 op, .slice A Y.length c]] W fun e w' => e = .returned (.bool (coil op (Y.map tr))) ∧ Below W.heap.size W w' := by
  have := scoil_any op A c (Y.map tr) W hA
  rwa [List.length_map] at this
theorem coilY (op : Int) (A : Option Addr) (c : Nat) (Y : List S35) (W : World) (hA : Argsat W A (Y.map tr)) (hc : Y.length ≤ c) (hs : Sizes W) (hw : Words W) :
    Calls Tryd.prog 18 #[.agg #[.int .i64 op, .slice A Y.length c]] W fun e w' => e = .returned (.bool (coil op (Y.map tr))) ∧ Below W.heap.size W w' := by
  have := coil_any op A c (Y.map tr) W hA (by rwa [List.length_map]) hs hw
  rwa [List.length_map] at this
theorem toY (op : Int) (A : Option Addr) (c : Nat) (X : List S62) (Y : List S35) (w : World) (hY : X.map conv = Y) (hX : X.length ≤ 1048576) (hC : Kd.C k62 w A X.length X) (hc : X.length ≤ c) :
    Calls Tryd.prog 8 #[.agg #[.int .i64 op, .slice A X.length c]] w fun e w' => ∃ A2 c2, e = .returned (.agg #[.int .i64 op, .slice A2 Y.length c2]) ∧ Y.length ≤ c2 ∧ Kd.C k35 w' A2 Y.length Y ∧ Below w.heap.size w w' := by
  refine (laws_toElem.calls (X.length + 1) op A c X op Y w hC hc (by rw [toElem_f op X hX, hY])).mono ?_
  rintro e w' ⟨v, rfl, hr, hb⟩
  obtain ⟨A2, c2, rfl, h1, h2⟩ := Kd.R_reads hr
  exact ⟨A2, c2, rfl, h1, h2, hb⟩

theorem elem_one (op : Int) (A : Option Addr) (n c : Nat) : ∀ v ∈ #[Value.int .i64 op, .slice A n c], v.oneCell' = true := by
  intro v hv
  simp at hv
  rcases hv with rfl | rfl <;> rfl

set_option maxHeartbeats 2000000 in
theorem walkI (op : Int) (A : Option Addr) (c : Nat) (X : List S62) (W : World) (hC : Kd.C k62 W A X.length X) (hc : X.length ≤ c) (hs : Sizes W) (hw : Words W) :
    Calls Tryd.prog 5 #[.agg #[.int .i64 op, .slice A X.length c]] W fun e w' => e = .returned (.bool true) ∧ Below W.heap.size W w' := by
  have HC := Lib.hid hC
  have Hc := Lib.hid hc
  have Hs := Lib.hid hs
  have Hw := Lib.hid hw
  have hlen := Kd.C_max hC
  clear hs hw hC hc
  by_cases hX : X.length ≤ 1048576
  · have hz := szElem_f op X hlen
    rw [if_pos hX] at hz
    obtain ⟨r, hr⟩ : ∃ r, r = 1048576 - (X.length : Int) := ⟨_, rfl⟩
    rw [← hr] at hz
    have Hz := Lib.hid hz
    have hr0 : decide (r < 0) = false := decide_eq_false (by omega)
    clear hz hr
    obtain ⟨Y, hY⟩ : ∃ Y, X.map conv = Y := ⟨_, rfl⟩
    have hYl : Y.length = X.length := by rw [← hY, List.length_map]
    have HY := Lib.hid hY
    have HX := Lib.hid hX
    have HYl := Lib.hid (show Y.length ≤ 1048576 by omega)
    clear hY hX hYl hlen
    obtain ⟨bv, hbv⟩ : ∃ bv, coil op (Y.map tr) = bv := ⟨_, rfl⟩
    have Hbv := Lib.hid hbv
    clear hbv
    have H1 := Lib.hid (Hx.box (Hx.nil (Below.refl W.heap.size W)) #[.int .i64 op, .slice A X.length c] 24)
    go_enter Tryd.func5, Tryd.ntmps5
    go_wp2_with fail
    refine (laws_szElem.calls op A c X 1048576 r _ (Kd.C_below HC.out H1.out.1) Hc.out Hz.out).mono ?_
    rintro e w2 ⟨rfl, h2⟩
    have H2 := Lib.hid (H1.out.below (by first | exact h2 | exact h2.below))
    clear h2 H1 Hz
    have c0 := H2.out.cell (g := W.heap.size) (cs := #[.int .i64 op, .slice A X.length c]) (by simp) 0 rfl
    have c1 := H2.out.cell (g := W.heap.size) (cs := #[.int .i64 op, .slice A X.length c]) (by simp) 1 rfl
    go_wp2_with fail
    refine (toY op A c X Y _ HY.out HX.out (Kd.C_below HC.out H2.out.1) Hc.out).mono ?_
    rintro e w3 ⟨A2, c2, rfl, h31, h32, h33⟩
    have H3 := Lib.hid (H2.out.below h33)
    have HC3 := Lib.hid h32
    have Hc3 := Lib.hid h31
    clear c0 c1 H2 h31 h32 h33
    go_wp2_with fail
    refine (scoilY op A2 c2 Y _ (argsat_of HC3.out)).mono ?_
    rw [Hbv.out]
    rintro e w4 ⟨rfl, h4⟩
    have H4 := Lib.hid (H3.out.below h4)
    clear h4 H3 HC3 Hc3
    have c0 := H4.out.cell (g := W.heap.size) (cs := #[.int .i64 op, .slice A X.length c]) (by simp) 0 rfl
    have c1 := H4.out.cell (g := W.heap.size) (cs := #[.int .i64 op, .slice A X.length c]) (by simp) 1 rfl
    go_wp2_with fail
    refine (toY op A c X Y _ HY.out HX.out (Kd.C_below HC.out H4.out.1) Hc.out).mono ?_
    rintro e w5 ⟨A5, c5, rfl, h51, h52, h53⟩
    have H5 := Lib.hid (H4.out.below h53)
    have HC5 := Lib.hid h52
    have Hc5 := Lib.hid h51
    have H6 := Lib.hid (H5.out.box #[.int .i64 op, .slice A5 Y.length c5] 29)
    have HC6 := Lib.hid (Kd.C_alloc HC5.out (.cells #[.int .i64 op, .slice A5 Y.length c5] 29))
    clear c0 c1 H4 h51 h52 h53
    go_wp2_with fail
    refine (coilY op A5 c5 Y _ (argsat_of HC6.out) Hc5.out (Hs.out.below H6.out.1) (Hw.out.below H6.out.1)).mono ?_
    rw [Hbv.out]
    rintro e w7 ⟨rfl, h7⟩
    have H7 := Lib.hid (H6.out.below h7)
    have HC7 := Lib.hid (Kd.C_below HC6.out h7)
    clear h7 HC6 H6 HC5 H5
    have c0 := H7.out.cell (g := W.heap.size) (cs := #[.int .i64 op, .slice A X.length c]) (by simp) 0 rfl
    have c1 := H7.out.cell (g := W.heap.size) (cs := #[.int .i64 op, .slice A X.length c]) (by simp) 1 rfl
    have d0 := H7.out.cell (g := w5.heap.size) (cs := #[.int .i64 op, .slice A5 Y.length c5]) (by simp) 0 rfl
    have d1 := H7.out.cell (g := w5.heap.size) (cs := #[.int .i64 op, .slice A5 Y.length c5]) (by simp) 1 rfl
    have H8 : Hid (Hx W [(w5.heap.size, #[.int .i64 op, .slice A5 Y.length c5]), (W.heap.size, #[.int .i64 op, .slice A X.length c])] w7.drew) := Lib.hid H7.out.drew
    have HC8 := Lib.hid (Kd.C_drew HC7.out)
    go_wp2_with fail
    go_region_with (first
      | (go_at_call 8; refine (toY op A c X Y _ HY.out HX.out (Kd.C_below HC.out H8.out.1) Hc.out).mono ?_; rintro e w9 ⟨A9, c9, rfl, h91, h92, h93⟩; have H9 := Lib.hid (H8.out.below h93); have HC9 := Lib.hid h92; have Hc9 := Lib.hid h91; have HD9 := Lib.hid (Kd.C_below HC8.out h93); have f0 := H9.out.cell (g := w5.heap.size) (cs := #[.int .i64 op, .slice A5 Y.length c5]) (by simp) 0 rfl; have f1 := H9.out.cell (g := w5.heap.size) (cs := #[.int .i64 op, .slice A5 Y.length c5]) (by simp) 1 rfl; clear h91 h92 h93)
      | (go_at_call 10; refine (laws_eqElem.calls (Y.length + 1) op A5 c5 Y op A9 c9 Y true _ HD9.out Hc5.out HC9.out Hc9.out (eqElem_f op Y HYl.out)).mono ?_; rintro e w10 ⟨rfl, hb⟩; have H10 := Lib.hid (H9.out.below hb); clear hb))
    all_goals
      go_wp2_with fail
      go_ret
      exact ⟨rfl, H10.out.1⟩
  · have hz := szElem_f op X hlen
    rw [if_neg hX] at hz
    have Hz := Lib.hid hz
    clear hz
    have H1 := Lib.hid (Hx.box (Hx.nil (Below.refl W.heap.size W)) #[.int .i64 op, .slice A X.length c] 24)
    go_enter Tryd.func5, Tryd.ntmps5
    go_wp2_with fail
    refine (laws_szElem.calls op A c X 1048576 (-1) _ (Kd.C_below HC.out H1.out.1) Hc.out Hz.out).mono ?_
    rintro e w2 ⟨rfl, h2⟩
    have H2 := Lib.hid (H1.out.below (by first | exact h2 | exact h2.below))
    clear h2 H1 Hz
    go_wp2_with fail
    go_ret
    exact ⟨rfl, H2.out.1⟩

theorem walk (W : World) (base : Nat) (v0 : Value) (o0 : Value.okWide Tryd.prog W .any base 24 v0) (b0 : kit.Elem W v0) (hL : laidMetH Tryd.prog Rows.fnExactElemIsCoilRow.laid W) :
    Calls Tryd.prog 5 #[v0] W fun e w' => e = .returned (.bool true) ∧ Below W.heap.size W w' := by
  obtain ⟨op, A, c, l, rfl, hl, hm, hT⟩ := b0
  have hs : Sizes W := kit.laid_ints (zs := sizes) (k := .i64) (n := "loop.example/stile/impl.devSizes") hL (by kernel_rfl) (by repeat (first | exact List.Mem.head _ | apply List.Mem.tail)) (by kernel_rfl) (by kernel_rfl) Tryd.underlying63 Tryd.underlying3 (by kernel_rfl) (by decide)
  have hw : Words W := by
    obtain ⟨b, off, hc, _⟩ := kit.laid_strs (g := 1) (L := [[110, 97, 110], [105, 110, 102], [45, 105, 110, 102], [45, 48, 46, 48]]) (n := "loop.example/stile/impl.devWords") hL (by kernel_rfl) (by repeat (first | exact List.Mem.head _ | apply List.Mem.tail)) (by kernel_rfl) (by kernel_rfl) Tryd.underlying73 Tryd.underlying9 (by kernel_rfl) (by decide)
    exact ⟨b, off, hc⟩
  have hmax : l.length ≤ 9223372036854775807 := Nat.le_trans (Nat.le_trans hl hm) (by decide)
  have := walkI op A c (l.map fun x => (⟨x.1, x.2.1, x.2.2⟩ : S62)) W (of_tris hT hmax) (by simpa using hl) hs hw
  rwa [List.length_map] at this

end Go.Proofs.YthfkgeloilhniaaDoor.fnExactElemIsCoil
