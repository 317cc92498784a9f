/-
  The walk of 'FnExactMemPut': it returns true, whatever the memory, the operand and the value.
  Conditions: the listed variable holds its numbers.
-/
import Derived.Test.YtnffgafofkknoaaDoorPutBit
import Derived.Test.YtnffgafofkknoaaDoorToMem
import Derived.Test.YtnffgafofkknoaaDoorToDev
import Derived.Test.YtnffgafofkknoaaDoorStore
namespace Go.Proofs.YtnffgafofkknoaaDoor.fnExactMemPut
open Go Go.RowKit Go.Proofs.YtnffgafofkknoaaDoor.part Go.Proofs.YtnffgafofkknoaaDoor.dev
set_option linter.unusedVariables false
set_option linter.unusedSimpArgs false

/-- The boxes of the two arguments; the listed variable. -/
def G (cs : Array Value) (k n p : Int) (W w : World) : Prop :=
  w.heap[W.heap.size]? = some (.cells cs 36 (0, 0)) ∧ w.heap[W.heap.size + 1]? = some (.cells #[.int .i64 k, .int .i64 n, .int .i64 p] 38 (0, 0)) ∧ Below W.heap.size W w
theorem G.below {cs : Array Value} {k n p : Int} {W w w1 : World} {B : Nat} (h : G cs k n p W w) (hb : Below B w w1) (hB : W.heap.size + 2 ≤ B) : G cs k n p W w1 := by
  obtain ⟨a, b, d⟩ := h
  exact ⟨(hb.block _ (by omega)).trans a, (hb.block _ (by omega)).trans b, d.trans (hb.mono (by omega))⟩
theorem G.size {cs : Array Value} {k n p : Int} {W w : World} (h : G cs k n p W w) : W.heap.size + 2 ≤ w.heap.size := by
  have := kit.box_lt h.2.1
  omega

def I1 (cs ce : Array Value) (k n p : Int) (v : Bool) (gu : Nat) (W : World) (listed : Array Bool) (a : Act) (w : World) : Prop :=
  ∃ v7 v9 v10 v11 v12 v13 v14, a = { tmps := #[.agg cs, .agg #[.int .i64 k, .int .i64 n, .int .i64 p], .bool v, .pointer (some ⟨W.heap.size, 0, none⟩), .pointer (some ⟨W.heap.size + 1, 0, none⟩), undef, .bool false, v7, undef, v9, v10, v11, v12, v13, v14, undef, undef, undef, undef, undef, undef, undef, undef, undef, undef], defers := [] } ∧
    listed.size = 8 ∧ (listed.getD 0 false = true → v9 = .agg cs) ∧ (listed.getD 1 false = true → v10 = .agg cs) ∧ (listed.getD 2 false = true → v11 = .agg #[.int .i64 k, .int .i64 n, .int .i64 p]) ∧ (listed.getD 3 false = true → v12 = .agg #[.int .i64 k, .int .i64 n, .int .i64 p]) ∧ (listed.getD 4 false = true → v13 = .bool v) ∧
    (listed.getD 5 false = true → v14 = .agg ce) ∧ (listed.getD 6 false = true → Own (W.heap.size + 2) ce w v7 (listed.getD 7 false)) ∧ (listed.getD 7 false = true → listed.getD 6 false = true) ∧ (G cs k n p W w ∧ True ∧ True)

def I2 (cs ce : Array Value) (k n p : Int) (v : Bool) (gu : Nat) (W : World) (listed : Array Bool) (a : Act) (w : World) : Prop :=
  ∃ v8 v15 v16 v17 v18 v19 v20 v9 v10 v11 v12 v13 v14, a = { tmps := #[.agg cs, .agg #[.int .i64 k, .int .i64 n, .int .i64 p], .bool v, .pointer (some ⟨W.heap.size, 0, none⟩), .pointer (some ⟨W.heap.size + 1, 0, none⟩), undef, .bool false, .pointer (some ⟨gu, 0, none⟩), v8, v9, v10, v11, v12, v13, v14, v15, v16, v17, v18, v19, v20, undef, undef, undef, undef], defers := [] } ∧
    listed.size = 8 ∧ (listed.getD 0 false = true → v15 = .agg cs) ∧ (listed.getD 1 false = true → v16 = .agg cs) ∧ (listed.getD 2 false = true → v17 = .agg #[.int .i64 k, .int .i64 n, .int .i64 p]) ∧ (listed.getD 3 false = true → v18 = .agg #[.int .i64 k, .int .i64 n, .int .i64 p]) ∧ (listed.getD 4 false = true → v19 = .bool v) ∧
    (listed.getD 5 false = true → v20 = .agg ce) ∧ (listed.getD 6 false = true → Own (gu + 1) ce w v8 (listed.getD 7 false)) ∧ (listed.getD 7 false = true → listed.getD 6 false = true) ∧ (G cs k n p W w ∧ W.heap.size + 2 ≤ gu ∧ w.heap[gu]? = some (.cells ce 45 (0, 0)))

set_option maxRecDepth 100000 in
theorem ok_arg {W : World} {base : Nat} {v0 : Value} (o0 : Value.okWide Tryd.prog W .any base 38 v0) : ∃ k n p : Int, v0 = .agg #[.int .i64 k, .int .i64 n, .int .i64 p] := by
  obtain ⟨cs, rfl, hsz, hc⟩ := kit.ok_cells Tryd.underlying38 o0
  have hc := hc [3, 3, 3] (by kernel_rfl)
  rw [show Tryd.prog.cellsOf 38 = 3 by kernel_rfl] at hsz
  obtain ⟨x, y, z, rfl⟩ := kit.arr3 (by simpa using hsz)
  obtain ⟨_, e0, h0⟩ := hc 0 x rfl
  obtain rfl := Option.some.inj e0
  obtain ⟨_, e1, h1⟩ := hc 1 y rfl
  obtain rfl := Option.some.inj e1
  obtain ⟨_, e2, h2⟩ := hc 2 z rfl
  obtain rfl := Option.some.inj e2
  obtain ⟨k, rfl, _, _⟩ := kit.cell_int Tryd.underlying3 h0
  obtain ⟨n, rfl, _, _⟩ := kit.cell_int Tryd.underlying3 h1
  obtain ⟨p, rfl, _, _⟩ := kit.cell_int Tryd.underlying3 h2
  exact ⟨k, n, p, rfl⟩

set_option maxRecDepth 100000 in
set_option maxHeartbeats 8000000 in
theorem walkI (cs ce : Array Value) (hs : Shape cs) (k n p : Int) (v : Bool) (hrg : Rg cs) (he : pb cs k n v = ce) (hce : Shape ce) (W : World) (hz0 : Sizes W) :
    Calls Tryd.prog 8 #[.agg cs, .agg #[.int .i64 k, .int .i64 n, .int .i64 p], .bool v] W fun e w' => e = .returned (.bool true) ∧ Below W.heap.size W w' := by
  have HG := Lib.hid (show G cs k n p W ((W.alloc (.cells cs 36)).alloc (.cells #[.int .i64 k, .int .i64 n, .int .i64 p] 38)) from
    ⟨heap_alloc2_old _ _ _, heap_alloc2_new _ _ _, ((Below.refl _ _).alloc (Nat.le_refl _) _).alloc (by simp) _⟩)
  obtain ⟨z, hzs, hz⟩ := zero_run (P := Tryd.prog) (t := 45) (n := 136) (by kernel_rfl)
  have HZ := Lib.hid hzs
  have HS := Lib.hid hs
  have HE := Lib.hid hce
  have HA := Lib.hid he
  have HS0 := Lib.hid hz0
  have HRG := Lib.hid hrg
  clear hrg
  have hone : ∀ x ∈ #[Value.int .i64 k, .int .i64 n, .int .i64 p], x.oneCell' = true := by intro x hx; simp at hx; rcases hx with rfl | rfl | rfl <;> rfl
  have HO := Lib.hid hone
  clear hs he hce hzs hone hz0
  go_enter Tryd.func8, Tryd.ntmps8
  go_wp2_with fail
  refine wp_region_any (by kernel_rfl) ?_
  refine wpAny_inv (I1 cs ce k n p v 0 W) ?hsz ?hg ?step ?fin 8 _ _ _ (by decide) ?init
  case hsz => rintro l a w ⟨_, _, _, _, _, _, _, _, h, _⟩; exact h
  case hg =>
    intro i o ho
    match i, ho with
    | 0, ho => cases ho; rfl
    | 1, ho => cases ho; rfl
    | 2, ho => cases ho; rfl
    | 3, ho => cases ho; rfl
    | 4, ho => cases ho; rfl
    | 5, ho => cases ho; rfl
    | 6, ho => cases ho; rfl
    | 7, ho => cases ho; rfl
    | i + 8, ho => simp at ho
  case init => exact ⟨_, _, _, _, _, _, _, rfl, rfl, by simp, by simp, by simp, by simp, by simp, by simp, by simp, by simp, HG.out.below ⟨rfl, rfl, rfl, Nat.le_refl _, fun _ _ => rfl⟩ HG.out.size, trivial, trivial⟩
  case step =>
    rintro l a w i o ⟨v7, v9, v10, v11, v12, v13, v14, rfl, hsz, g0, g1, g2, g3, g4, g5, g6, g7, hG, hU1, hU2⟩ ho h0 hd K hK
    match i, ho, h0, hK with
    | 0, ho, h0, hK =>
      cases ho
      refine ow_hld _ _ rfl hG.1 rfl (by kernel_rfl) 136 HS.out.size (by kernel_rfl) (hK _ _ ⟨_, _, _, _, _, _, _, rfl, by simpa using hsz, fun _ => rfl, fun h => g1 (set_other (by decide) h), fun h => g2 (set_other (by decide) h), fun h => g3 (set_other (by decide) h), fun h => g4 (set_other (by decide) h), fun h => g5 (set_other (by decide) h), fun h => by rw [getD_set_ne _ (by decide)]; exact g6 (set_other (by decide) h), fun h => by rw [getD_set_ne _ (by decide)]; exact g7 (set_other (by decide) h), hG, hU1, hU2⟩)
    | 2, ho, h0, hK =>
      cases ho
      refine ow_hld _ _ rfl hG.2.1 rfl (by kernel_rfl) 3 rfl (by kernel_rfl) (hK _ _ ⟨_, _, _, _, _, _, _, rfl, by simpa using hsz, fun h => g0 (set_other (by decide) h), fun h => g1 (set_other (by decide) h), fun _ => rfl, fun h => g3 (set_other (by decide) h), fun h => g4 (set_other (by decide) h), fun h => g5 (set_other (by decide) h), fun h => by rw [getD_set_ne _ (by decide)]; exact g6 (set_other (by decide) h), fun h => by rw [getD_set_ne _ (by decide)]; exact g7 (set_other (by decide) h), hG, hU1, hU2⟩)
    | 1, ho, h0, hK =>
      cases ho
      have e0 := g0 (hd ⟨0, .data⟩ (by simp) rfl)
      subst e0
      clear hd
      go_simp
      go_wp2_with fail
      refine (toMem cs HS.out.size HS.out.one _).mono ?_
      rintro e w1 ⟨rfl, h1⟩
      exact hK _ _ ⟨_, _, _, _, _, _, _, rfl, by simpa using hsz, fun _ => rfl, fun _ => rfl, fun h => g2 (set_other (by decide) h), fun h => g3 (set_other (by decide) h), fun h => g4 (set_other (by decide) h), fun h => g5 (set_other (by decide) h), fun h => by rw [getD_set_ne _ (by decide)]; exact (g6 (set_other (by decide) h)).below h1, fun h => by rw [getD_set_ne _ (by decide)]; exact g7 (set_other (by decide) h), hG.below h1 hG.size, hU1, trivial⟩
    | 3, ho, h0, hK =>
      cases ho
      have e2 := g2 (hd ⟨2, .data⟩ (by simp) rfl)
      subst e2
      clear hd
      go_simp
      go_wp2_with fail
      refine (toDev _ rfl HO.out _).mono ?_
      rintro e w1 ⟨rfl, h1⟩
      exact hK _ _ ⟨_, _, _, _, _, _, _, rfl, by simpa using hsz, fun h => g0 (set_other (by decide) h), fun h => g1 (set_other (by decide) h), fun _ => rfl, fun _ => rfl, fun h => g4 (set_other (by decide) h), fun h => g5 (set_other (by decide) h), fun h => by rw [getD_set_ne _ (by decide)]; exact (g6 (set_other (by decide) h)).below h1, fun h => by rw [getD_set_ne _ (by decide)]; exact g7 (set_other (by decide) h), hG.below h1 hG.size, hU1, trivial⟩
    | 4, ho, h0, hK =>
      cases ho
      clear hd
      go_simp
      exact hK _ _ ⟨_, _, _, _, _, _, _, rfl, by simpa using hsz, fun h => g0 (set_other (by decide) h), fun h => g1 (set_other (by decide) h), fun h => g2 (set_other (by decide) h), fun h => g3 (set_other (by decide) h), fun _ => rfl, fun h => g5 (set_other (by decide) h), fun h => by rw [getD_set_ne _ (by decide)]; exact g6 (set_other (by decide) h), fun h => by rw [getD_set_ne _ (by decide)]; exact g7 (set_other (by decide) h), hG, hU1, hU2⟩
    | 5, ho, h0, hK =>
      cases ho
      have e1 := g1 (hd ⟨1, .data⟩ (by simp) rfl)
      subst e1
      have e3 := g3 (hd ⟨3, .data⟩ (by simp) rfl)
      subst e3
      have e4 := g4 (hd ⟨4, .data⟩ (by simp) rfl)
      subst e4
      clear hd
      go_simp
      go_wp2_with fail
      refine (sp_any cs ce HS.out HRG.out k n p v HA.out HE.out _).mono ?_
      rintro e w1 ⟨rfl, h1⟩
      exact hK _ _ ⟨_, _, _, _, _, _, _, rfl, by simpa using hsz, fun h => g0 (set_other (by decide) h), fun _ => rfl, fun h => g2 (set_other (by decide) h), fun _ => rfl, fun _ => rfl, fun _ => rfl, fun h => by rw [getD_set_ne _ (by decide)]; exact (g6 (set_other (by decide) h)).below h1, fun h => by rw [getD_set_ne _ (by decide)]; exact g7 (set_other (by decide) h), hG.below h1 hG.size, hU1, trivial⟩
    | 6, ho, h0, hK =>
      cases ho
      clear hd
      go_simp
      have h1 : Below w.heap.size w (w.alloc (.cells z 45)) := (Below.refl _ _).alloc (Nat.le_refl _) _
      have hn7 : l.getD 7 false = true → False := fun h => by have h5 := g7 h; rw [Array.getD_eq_getD_getElem?] at h0 h5; rw [Array.getElem?_eq_getElem (by omega)] at h0 h5; simp at h0 h5; rw [h0] at h5; cases h5
      exact hK _ _ ⟨_, _, _, _, _, _, _, rfl, by simpa using hsz, fun h => g0 (set_other (by decide) h), fun h => g1 (set_other (by decide) h), fun h => g2 (set_other (by decide) h), fun h => g3 (set_other (by decide) h), fun h => g4 (set_other (by decide) h), fun h => g5 (set_other (by decide) h), fun _ => by rw [getD_set_ne _ (by decide)]; exact ⟨w.heap.size, z, rfl, hG.size, heap_alloc_new _ _, HZ.out, fun h => (hn7 h).elim⟩, fun _ => by simp [Array.getD_eq_getD_getElem?, hsz], hG.below h1 hG.size, hU1, trivial⟩
    | 7, ho, h0, hK =>
      cases ho
      have e5 := g5 (hd ⟨5, .data⟩ (by simp) rfl)
      have hd6 := hd ⟨6, .data⟩ (by simp) rfl
      subst e5
      obtain ⟨g, oo, rfl, hg2, hgo, ho6, _⟩ := g6 hd6
      clear hd
      refine ow_hst _ _ _ rfl hgo (by rw [ho6, HE.out.size]) rfl rfl HE.out.one 136 HE.out.size (by kernel_rfl) (fun w1 k1 b1 => hK _ _ ⟨_, _, _, _, _, _, _, rfl, by simpa using hsz, fun h => g0 (set_other (by decide) h), fun h => g1 (set_other (by decide) h), fun h => g2 (set_other (by decide) h), fun h => g3 (set_other (by decide) h), fun h => g4 (set_other (by decide) h), fun _ => rfl, fun _ => ⟨g, ce, rfl, hg2, k1, HE.out.size, fun _ => rfl⟩, fun _ => by rw [getD_set_ne _ (by decide)]; exact hd6, hG.below b1 (by omega), hU1, trivial⟩)
    | i + 8, ho, h0, hK => simp at ho
  case fin =>
    rintro l a w ⟨v7, v9, v10, v11, v12, v13, v14, rfl, hsz, g0, g1, g2, g3, g4, g5, g6, g7, hG, hU1, hU2⟩ hr
    have hlast := all_listed (by kernel_rfl) hsz hr 7 (by decide)
    have e6 := g6 (all_listed (by kernel_rfl) hsz hr 6 (by decide))
    rw [hlast] at e6
    clear g0 g1 g2 g3 g4 g5 g6 g7 hr hsz hlast
    obtain ⟨gu, ou, rfl, hgu, hou, _, hoc⟩ := e6
    rw [hoc rfl] at hou
    have HG2 := Lib.hid (And.intro hG (And.intro hgu hou))
    clear hG hgu hou hoc HG hU1 hU2
    go_wp2_with fail
    refine wp_region_any (by kernel_rfl) ?_
    refine wpAny_inv (I2 cs ce k n p v gu W) ?hsz ?hg ?step ?fin 8 _ _ _ (by decide) ?init
    case hsz => rintro l a w ⟨_, _, _, _, _, _, _, _, _, _, _, _, _, _, h, _⟩; exact h
    case hg =>
      intro i o ho
      match i, ho with
      | 0, ho => cases ho; rfl
      | 1, ho => cases ho; rfl
      | 2, ho => cases ho; rfl
      | 3, ho => cases ho; rfl
      | 4, ho => cases ho; rfl
      | 5, ho => cases ho; rfl
      | 6, ho => cases ho; rfl
      | 7, ho => cases ho; rfl
      | i + 8, ho => simp at ho
    case init => exact ⟨_, _, _, _, _, _, _, _, _, _, _, _, _, rfl, rfl, by simp, by simp, by simp, by simp, by simp, by simp, by simp, by simp, HG2.out.1.below ⟨rfl, rfl, rfl, Nat.le_refl _, fun _ _ => rfl⟩ HG2.out.1.size, HG2.out.2.1, HG2.out.2.2⟩
    case step =>
      rintro l a w i o ⟨v8, v15, v16, v17, v18, v19, v20, v9, v10, v11, v12, v13, v14, rfl, hsz, g0, g1, g2, g3, g4, g5, g6, g7, hG, hU1, hU2⟩ ho h0 hd K hK
      match i, ho, h0, hK with
      | 0, ho, h0, hK =>
        cases ho
        refine ow_hld _ _ rfl hG.1 rfl (by kernel_rfl) 136 HS.out.size (by kernel_rfl) (hK _ _ ⟨_, _, _, _, _, _, _, _, _, _, _, _, _, rfl, by simpa using hsz, fun _ => rfl, fun h => g1 (set_other (by decide) h), fun h => g2 (set_other (by decide) h), fun h => g3 (set_other (by decide) h), fun h => g4 (set_other (by decide) h), fun h => g5 (set_other (by decide) h), fun h => by rw [getD_set_ne _ (by decide)]; exact g6 (set_other (by decide) h), fun h => by rw [getD_set_ne _ (by decide)]; exact g7 (set_other (by decide) h), hG, hU1, hU2⟩)
      | 2, ho, h0, hK =>
        cases ho
        refine ow_hld _ _ rfl hG.2.1 rfl (by kernel_rfl) 3 rfl (by kernel_rfl) (hK _ _ ⟨_, _, _, _, _, _, _, _, _, _, _, _, _, rfl, by simpa using hsz, fun h => g0 (set_other (by decide) h), fun h => g1 (set_other (by decide) h), fun _ => rfl, fun h => g3 (set_other (by decide) h), fun h => g4 (set_other (by decide) h), fun h => g5 (set_other (by decide) h), fun h => by rw [getD_set_ne _ (by decide)]; exact g6 (set_other (by decide) h), fun h => by rw [getD_set_ne _ (by decide)]; exact g7 (set_other (by decide) h), hG, hU1, hU2⟩)
      | 1, ho, h0, hK =>
        cases ho
        have e0 := g0 (hd ⟨0, .data⟩ (by simp) rfl)
        subst e0
        clear hd
        go_simp
        go_wp2_with fail
        refine (toMem cs HS.out.size HS.out.one _).mono ?_
        rintro e w1 ⟨rfl, h1⟩
        exact hK _ _ ⟨_, _, _, _, _, _, _, _, _, _, _, _, _, rfl, by simpa using hsz, fun _ => rfl, fun _ => rfl, fun h => g2 (set_other (by decide) h), fun h => g3 (set_other (by decide) h), fun h => g4 (set_other (by decide) h), fun h => g5 (set_other (by decide) h), fun h => by rw [getD_set_ne _ (by decide)]; exact (g6 (set_other (by decide) h)).below h1, fun h => by rw [getD_set_ne _ (by decide)]; exact g7 (set_other (by decide) h), hG.below h1 hG.size, hU1, kit.box_keep hU2 h1 (kit.box_lt hU2)⟩
      | 3, ho, h0, hK =>
        cases ho
        have e2 := g2 (hd ⟨2, .data⟩ (by simp) rfl)
        subst e2
        clear hd
        go_simp
        go_wp2_with fail
        refine (toDev _ rfl HO.out _).mono ?_
        rintro e w1 ⟨rfl, h1⟩
        exact hK _ _ ⟨_, _, _, _, _, _, _, _, _, _, _, _, _, rfl, by simpa using hsz, fun h => g0 (set_other (by decide) h), fun h => g1 (set_other (by decide) h), fun _ => rfl, fun _ => rfl, fun h => g4 (set_other (by decide) h), fun h => g5 (set_other (by decide) h), fun h => by rw [getD_set_ne _ (by decide)]; exact (g6 (set_other (by decide) h)).below h1, fun h => by rw [getD_set_ne _ (by decide)]; exact g7 (set_other (by decide) h), hG.below h1 hG.size, hU1, kit.box_keep hU2 h1 (kit.box_lt hU2)⟩
      | 4, ho, h0, hK =>
        cases ho
        clear hd
        go_simp
        exact hK _ _ ⟨_, _, _, _, _, _, _, _, _, _, _, _, _, rfl, by simpa using hsz, fun h => g0 (set_other (by decide) h), fun h => g1 (set_other (by decide) h), fun h => g2 (set_other (by decide) h), fun h => g3 (set_other (by decide) h), fun _ => rfl, fun h => g5 (set_other (by decide) h), fun h => by rw [getD_set_ne _ (by decide)]; exact g6 (set_other (by decide) h), fun h => by rw [getD_set_ne _ (by decide)]; exact g7 (set_other (by decide) h), hG, hU1, hU2⟩
      | 5, ho, h0, hK =>
        cases ho
        have e1 := g1 (hd ⟨1, .data⟩ (by simp) rfl)
        subst e1
        have e3 := g3 (hd ⟨3, .data⟩ (by simp) rfl)
        subst e3
        have e4 := g4 (hd ⟨4, .data⟩ (by simp) rfl)
        subst e4
        clear hd
        go_simp
        go_wp2_with fail
        refine (ip_any cs ce HS.out HRG.out k n p v HA.out HE.out _ (HS0.out.below hG.2.2)).mono ?_
        rintro e w1 ⟨rfl, h1⟩
        exact hK _ _ ⟨_, _, _, _, _, _, _, _, _, _, _, _, _, rfl, by simpa using hsz, fun h => g0 (set_other (by decide) h), fun _ => rfl, fun h => g2 (set_other (by decide) h), fun _ => rfl, fun _ => rfl, fun _ => rfl, fun h => by rw [getD_set_ne _ (by decide)]; exact (g6 (set_other (by decide) h)).below h1, fun h => by rw [getD_set_ne _ (by decide)]; exact g7 (set_other (by decide) h), hG.below h1 hG.size, hU1, kit.box_keep hU2 h1 (kit.box_lt hU2)⟩
      | 6, ho, h0, hK =>
        cases ho
        clear hd
        go_simp
        have h1 : Below w.heap.size w (w.alloc (.cells z 45)) := (Below.refl _ _).alloc (Nat.le_refl _) _
        have hn7 : l.getD 7 false = true → False := fun h => by have h5 := g7 h; rw [Array.getD_eq_getD_getElem?] at h0 h5; rw [Array.getElem?_eq_getElem (by omega)] at h0 h5; simp at h0 h5; rw [h0] at h5; cases h5
        exact hK _ _ ⟨_, _, _, _, _, _, _, _, _, _, _, _, _, rfl, by simpa using hsz, fun h => g0 (set_other (by decide) h), fun h => g1 (set_other (by decide) h), fun h => g2 (set_other (by decide) h), fun h => g3 (set_other (by decide) h), fun h => g4 (set_other (by decide) h), fun h => g5 (set_other (by decide) h), fun _ => by rw [getD_set_ne _ (by decide)]; exact ⟨w.heap.size, z, rfl, kit.box_lt hU2, heap_alloc_new _ _, HZ.out, fun h => (hn7 h).elim⟩, fun _ => by simp [Array.getD_eq_getD_getElem?, hsz], hG.below h1 hG.size, hU1, kit.box_keep hU2 h1 (kit.box_lt hU2)⟩
      | 7, ho, h0, hK =>
        cases ho
        have e5 := g5 (hd ⟨5, .data⟩ (by simp) rfl)
        have hd6 := hd ⟨6, .data⟩ (by simp) rfl
        subst e5
        obtain ⟨g, oo, rfl, hg2, hgo, ho6, _⟩ := g6 hd6
        clear hd
        refine ow_hst _ _ _ rfl hgo (by rw [ho6, HE.out.size]) rfl rfl HE.out.one 136 HE.out.size (by kernel_rfl) (fun w1 k1 b1 => hK _ _ ⟨_, _, _, _, _, _, _, _, _, _, _, _, _, rfl, by simpa using hsz, fun h => g0 (set_other (by decide) h), fun h => g1 (set_other (by decide) h), fun h => g2 (set_other (by decide) h), fun h => g3 (set_other (by decide) h), fun h => g4 (set_other (by decide) h), fun _ => rfl, fun _ => ⟨g, ce, rfl, hg2, k1, HE.out.size, fun _ => rfl⟩, fun _ => by rw [getD_set_ne _ (by decide)]; exact hd6, hG.below b1 (by omega), hU1, (b1.block _ (by omega)).trans hU2⟩)
      | i + 8, ho, h0, hK => simp at ho
    case fin =>
      rintro l a w ⟨v8, v15, v16, v17, v18, v19, v20, v9, v10, v11, v12, v13, v14, rfl, hsz, g0, g1, g2, g3, g4, g5, g6, g7, hG, hU1, hU2⟩ hr
      have hlast := all_listed (by kernel_rfl) hsz hr 7 (by decide)
      have e6 := g6 (all_listed (by kernel_rfl) hsz hr 6 (by decide))
      rw [hlast] at e6
      clear g0 g1 g2 g3 g4 g5 g6 g7 hr hsz hlast
      obtain ⟨gv, ov, rfl, hgv, hov, _, hvc⟩ := e6
      rw [hvc rfl] at hov
      have B := Lib.hid hG.2.2
      clear hG hgv hvc HG2 hU1
      go_wp2_with (first | (refine wl_hld rfl _ _ rfl hov rfl (by kernel_rfl) 136 HE.out.size (by kernel_rfl) ?_) | (refine wl_hld rfl _ _ rfl hU2 rfl (by kernel_rfl) 136 HE.out.size (by kernel_rfl) ?_))
      refine (eqMem ce HE.out _).mono ?_
      rintro e w9 ⟨rfl, h9⟩
      go_wp2_with fail
      go_ret
      exact ⟨rfl, B.out.trans (h9.mono B.out.size)⟩

set_option maxRecDepth 100000 in
theorem walk (W : World) (base : Nat) (v0 v1 v2 : Value) (o0 : Value.okWide Tryd.prog W .any base 36 v0) (o1 : Value.okWide Tryd.prog W .any base 38 v1) (o2 : Value.okWide Tryd.prog W .any base 4 v2) (hL : laidMetH Tryd.prog Rows.fnExactMemPutRow.laid W) :
    Calls Tryd.prog 8 #[v0, v1, v2] W fun e w' => e = .returned (.bool true) ∧ Below W.heap.size W w' := by
  have hs : Sizes W := kit.laid_ints (zs := sizes) (k := .i64) (n := "loop.example/stile/impl.devSizes") hL (by kernel_rfl) (List.Mem.head _) (by kernel_rfl) (by kernel_rfl) Tryd.underlying110 Tryd.underlying3 (by kernel_rfl) (by decide)
  obtain ⟨cs, rfl, hsh⟩ := shape_of o0
  obtain ⟨k, n, p, rfl⟩ := ok_arg o1
  obtain ⟨v, rfl⟩ := ok_bool o2
  exact walkI cs _ hsh k n p v (rg_of o0) rfl (pb_shape hsh (rg_of o0) k n v) W hs
end Go.Proofs.YtnffgafofkknoaaDoor.fnExactMemPut
