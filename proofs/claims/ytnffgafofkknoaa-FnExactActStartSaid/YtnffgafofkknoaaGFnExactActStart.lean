/-
  The walk of 'FnExactActStart': it returns true, whatever the memory and the sample.
  Conditions: none.
-/
import Derived.Test.YtnffgafofkknoaaStart
import Derived.Test.YtnffgafofkknoaaTagged
import Derived.Test.YtnffgafofkknoaaOrders
namespace Go.Proofs.Ytnffgafofkknoaa.fnExactActStart
open Go Go.RowKit Go.Proofs.Ytnffgafofkknoaa.part
set_option linter.unusedVariables false
set_option linter.unusedSimpArgs false

theorem begun_shape (cs ss : Array Value) (x d t : Int) (hs : Shape cs) (hp : Samp ss) : Shape (part.begun cs ss x d t) := by
  obtain ⟨f0, e0⟩ := hp.In 0 (by decide)
  obtain ⟨f1, e1⟩ := hp.In 1 (by decide)
  obtain ⟨f2, e2⟩ := hp.In 2 (by decide)
  obtain ⟨f3, e3⟩ := hp.In 3 (by decide)
  have t3 := ((hs.tagged.put 0 (.int .u32 x) rfl).put 133 (.int .u32 (tm t d)) rfl).put 135 (.bool false) rfl
  have q0 : tv (cel ss (2 + 0)) = tags.getD (117 + (12 + 0)) 0 := by rw [cel_is e0]; rfl
  have q1 : tv (cel ss (2 + 1)) = tags.getD (117 + (12 + 1)) 0 := by rw [cel_is e1]; rfl
  have q2 : tv (cel ss (2 + 2)) = tags.getD (117 + (12 + 2)) 0 := by rw [cel_is e2]; rfl
  have q3 : tv (cel ss (2 + 3)) = tags.getD (117 + (12 + 3)) 0 := by rw [cel_is e3]; rfl
  have t7 := (((t3.put _ _ q0).put _ _ q1).put _ _ q2).put _ _ q3
  simp only [part.begun, pf]
  exact t7.shape

theorem ow_hst {P : Program} {o : Oper} {a : Act} {w : World} {K : Act → World → Prop} {Q : Exit → Act → World → Prop} {t : TypeId} {cs old : Array Value} {g : Nat} (ty : TypeId) (x y : Operand) (ho : o.op = .store ty x y) (hg : w.heap[g]? = some (.cells old t (0, 0))) (hold : old.size = cs.size) (hx : a.eval x = .pointer (some ⟨g, 0, none⟩)) (hy : a.eval y = .agg cs) (h1 : ∀ x ∈ cs, x.oneCell' = true) (n : Nat) (hn : cs.size = n) (hi : (P.info? ty).map (·.size) = some n)
    (h : ∀ w1, w1.heap[g]? = some (.cells cs t (0, 0)) → Below g w w1 → K (a.put o.dst undef) w1) : o.wp P a w K Q := by
  obtain ⟨w1, z1, e1, e2, e3, _, e5, e6⟩ := store_part (P := P) g 0 t cs.toList 0 old w hg (by simp; omega) (fun x hx => h1 x (Array.mem_toList_iff.1 hx))
  have ez : z1 = cs := by
    apply Array.ext (by omega)
    intro i k1 k2
    have := e5 i (by simpa using k2)
    rw [show 0 + 0 + i = i by omega, Array.getElem?_toList, Array.getElem?_eq_getElem k1, Array.getElem?_eq_getElem k2] at this
    exact Option.some.inj this
  subst ez
  have e : (storeVar ty ⟨g, 0, none⟩ (.agg z1)).run P w = .ok () w1 := by
    cases hq : P.info? ty with
    | none => simp [hq] at hi
    | some i =>
      have hs : i.size = z1.size := by rw [hn]; simpa [hq] using hi
      simp only [storeVar, sizeOf, typeInfo, Sem.run_bind, hq, Value.cells]
      simp [Sem.run_bind, hq, hs]
      simpa using e1
  unfold Oper.wp execOp
  simp only [ho, hx, hy, Instr.storeAt, Instr.sureAddr, Sem.run_bind, Sem.run_pure, Result.andThen_ok, e]
  exact h w1 e2 e6

/-- The boxes of the two arguments. -/
def G (cs ss : Array Value) (W w : World) : Prop :=
  w.heap[W.heap.size]? = some (.cells cs 36 (0, 0)) ∧ w.heap[W.heap.size + 1]? = some (.cells ss 50 (0, 0)) ∧ Below W.heap.size W w
theorem G.below {cs ss : Array Value} {W w w1 : World} {B : Nat} (h : G cs ss W w) (hb : Below B w w1) (hB : W.heap.size + 2 ≤ B) : G cs ss W w1 := by
  obtain ⟨a, b, d⟩ := h
  exact ⟨(hb.block _ (by omega)).trans a, (hb.block _ (by omega)).trans b, d.trans (hb.mono (by omega))⟩
theorem G.size {cs ss : Array Value} {W w : World} (h : G cs ss W w) : W.heap.size + 2 ≤ w.heap.size := by
  have := kit.box_lt h.2.1
  omega
/-- A box of the call's own with 136 cells; done: they are those of ce. -/
def Own (B : Nat) (ce : Array Value) (w : World) (v : Value) (done : Bool) : Prop := ∃ g o, v = .pointer (some ⟨g, 0, none⟩) ∧ B ≤ g ∧ w.heap[g]? = some (.cells o 43 (0, 0)) ∧ o.size = 136 ∧ (done = true → o = ce)
theorem Own.below {B : Nat} {ce : Array Value} {w w1 : World} {v : Value} {done : Bool} (h : Own B ce w v done) (hb : Below w.heap.size w w1) : Own B ce w1 v done := by
  obtain ⟨g, o, a, b, c, d⟩ := h
  exact ⟨g, o, a, b, kit.box_keep c hb (kit.box_lt c), d⟩

def I1 (cs ss ce : Array Value) (gu : Nat) (W : World) (listed : Array Bool) (a : Act) (w : World) : Prop :=
  ∃ v5 v7 v8 v9 v10 v11, a = { tmps := #[.agg cs, .agg ss, .pointer (some ⟨W.heap.size, 0, none⟩), .pointer (some ⟨W.heap.size + 1, 0, none⟩), .bool false, v5, undef, v7, v8, v9, v10, v11, undef, undef, undef, undef, undef, undef, undef, undef, undef], defers := [] } ∧
    listed.size = 7 ∧ (listed.getD 0 false = true → v7 = .agg cs) ∧ (listed.getD 1 false = true → v8 = .agg cs) ∧ (listed.getD 2 false = true → v9 = .agg ss) ∧ (listed.getD 3 false = true → v10 = .agg ss) ∧
    (listed.getD 4 false = true → v11 = .agg ce) ∧ (listed.getD 5 false = true → Own (W.heap.size + 2) ce w v5 (listed.getD 6 false)) ∧ (listed.getD 6 false = true → listed.getD 5 false = true) ∧ (G cs ss W w ∧ True ∧ True)

def I2 (cs ss ce : Array Value) (gu : Nat) (W : World) (listed : Array Bool) (a : Act) (w : World) : Prop :=
  ∃ v6 v12 v13 v14 v15 v16 v7 v8 v9 v10 v11, a = { tmps := #[.agg cs, .agg ss, .pointer (some ⟨W.heap.size, 0, none⟩), .pointer (some ⟨W.heap.size + 1, 0, none⟩), .bool false, .pointer (some ⟨gu, 0, none⟩), v6, v7, v8, v9, v10, v11, v12, v13, v14, v15, v16, undef, undef, undef, undef], defers := [] } ∧
    listed.size = 7 ∧ (listed.getD 0 false = true → v12 = .agg cs) ∧ (listed.getD 1 false = true → v13 = .agg cs) ∧ (listed.getD 2 false = true → v14 = .agg ss) ∧ (listed.getD 3 false = true → v15 = .agg ss) ∧
    (listed.getD 4 false = true → v16 = .agg ce) ∧ (listed.getD 5 false = true → Own (gu + 1) ce w v6 (listed.getD 6 false)) ∧ (listed.getD 6 false = true → listed.getD 5 false = true) ∧ (G cs ss W w ∧ W.heap.size + 2 ≤ gu ∧ w.heap[gu]? = some (.cells ce 43 (0, 0)))

set_option maxRecDepth 100000 in
set_option maxHeartbeats 4000000 in
theorem walkI (cs ss ce : Array Value) (x d t : Int) (hs : Shape cs) (hp : Samp ss) (hx : ss[0]? = some (.int .u32 x)) (hd : ss[1]? = some (.int .u16 d)) (ht : cs[133]? = some (.int .u32 t)) (he : part.begun cs ss x d t = ce) (hce : Shape ce) (W : World) :
    Calls Try.prog 5 #[.agg cs, .agg ss] W fun e w' => e = .returned (.bool true) ∧ Below W.heap.size W w' := by
  have HG := Lib.hid (show G cs ss W ((W.alloc (.cells cs 36)).alloc (.cells ss 50)) from
    ⟨heap_alloc2_old _ _ _, heap_alloc2_new _ _ _, ((Below.refl _ _).alloc (Nat.le_refl _) _).alloc (by simp) _⟩)
  obtain ⟨z, hzs, hz⟩ := zero_run (P := Try.prog) (t := 43) (n := 136) (by kernel_rfl)
  have HZ := Lib.hid hzs
  have HS := Lib.hid hs
  have HP := Lib.hid hp
  have HE := Lib.hid hce
  have HA := Lib.hid (And.intro hx (And.intro hd (And.intro ht he)))
  clear hs hp hx hd ht he hce hzs
  go_enter Try.func5, Try.ntmps5
  go_wp2_with fail
  refine wp_region_any (by kernel_rfl) ?_
  refine wpAny_inv (I1 cs ss ce 0 W) ?hsz ?hg ?step ?fin 7 _ _ _ (by decide) ?init
  case hsz => rintro l a w ⟨_, _, _, _, _, _, _, h, _⟩; exact h
  case hg =>
    intro i o ho
    match i, ho with
    | 0, ho => cases ho; rfl
    | 1, ho => cases ho; rfl
    | 2, ho => cases ho; rfl
    | 3, ho => cases ho; rfl
    | 4, ho => cases ho; rfl
    | 5, ho => cases ho; rfl
    | 6, ho => cases ho; rfl
    | i + 7, ho => simp at ho
  case init => exact ⟨_, _, _, _, _, _, rfl, rfl, by simp, by simp, by simp, by simp, by simp, by simp, by simp, HG.out.below ⟨rfl, rfl, rfl, Nat.le_refl _, fun _ _ => rfl⟩ HG.out.size, trivial, trivial⟩
  case step =>
    rintro l a w i o ⟨v5, v7, v8, v9, v10, v11, rfl, hsz, g0, g1, g2, g3, g4, g5, g6, hG, hU1, hU2⟩ ho h0 hd K hK
    match i, ho, h0, hK with
    | 0, ho, h0, hK =>
      cases ho
      refine ow_hld _ _ rfl hG.1 rfl (by kernel_rfl) 136 HS.out.size (by kernel_rfl) (hK _ _ ⟨_, _, _, _, _, _, rfl, by simpa using hsz, fun _ => rfl, fun h => g1 (set_other (by decide) h), fun h => g2 (set_other (by decide) h), fun h => g3 (set_other (by decide) h), fun h => g4 (set_other (by decide) h), fun h => by rw [getD_set_ne _ (by decide)]; exact g5 (set_other (by decide) h), fun h => by rw [getD_set_ne _ (by decide)]; exact g6 (set_other (by decide) h), hG, hU1, hU2⟩)
    | 2, ho, h0, hK =>
      cases ho
      refine ow_hld _ _ rfl hG.2.1 rfl (by kernel_rfl) 6 HP.out.size (by kernel_rfl) (hK _ _ ⟨_, _, _, _, _, _, rfl, by simpa using hsz, fun h => g0 (set_other (by decide) h), fun h => g1 (set_other (by decide) h), fun _ => rfl, fun h => g3 (set_other (by decide) h), fun h => g4 (set_other (by decide) h), fun h => by rw [getD_set_ne _ (by decide)]; exact g5 (set_other (by decide) h), fun h => by rw [getD_set_ne _ (by decide)]; exact g6 (set_other (by decide) h), hG, hU1, hU2⟩)
    | 1, ho, h0, hK =>
      cases ho
      have e0 := g0 (hd ⟨0, .data⟩ (by simp) rfl)
      subst e0
      clear hd
      go_simp
      go_wp2_with fail
      refine (toMem cs HS.out.size HS.out.one _).mono ?_
      rintro e w1 ⟨rfl, h1⟩
      exact hK _ _ ⟨_, _, _, _, _, _, rfl, by simpa using hsz, fun _ => rfl, fun _ => rfl, fun h => g2 (set_other (by decide) h), fun h => g3 (set_other (by decide) h), fun h => g4 (set_other (by decide) h), fun h => by rw [getD_set_ne _ (by decide)]; exact (g5 (set_other (by decide) h)).below h1, fun h => by rw [getD_set_ne _ (by decide)]; exact g6 (set_other (by decide) h), hG.below h1 hG.size, hU1, trivial⟩
    | 3, ho, h0, hK =>
      cases ho
      have e2 := g2 (hd ⟨2, .data⟩ (by simp) rfl)
      subst e2
      clear hd
      go_simp
      go_wp2_with fail
      refine (toSample ss HP.out.size HP.out.one _).mono ?_
      rintro e w1 ⟨rfl, h1⟩
      exact hK _ _ ⟨_, _, _, _, _, _, rfl, by simpa using hsz, fun h => g0 (set_other (by decide) h), fun h => g1 (set_other (by decide) h), fun _ => rfl, fun _ => rfl, fun h => g4 (set_other (by decide) h), fun h => by rw [getD_set_ne _ (by decide)]; exact (g5 (set_other (by decide) h)).below h1, fun h => by rw [getD_set_ne _ (by decide)]; exact g6 (set_other (by decide) h), hG.below h1 hG.size, hU1, trivial⟩
    | 4, ho, h0, hK =>
      cases ho
      have e1 := g1 (hd ⟨1, .data⟩ (by simp) rfl)
      subst e1
      have e3 := g3 (hd ⟨3, .data⟩ (by simp) rfl)
      subst e3
      clear hd
      go_simp
      go_wp2_with fail
      refine (spec_start cs ss ce x d t HS.out HP.out HA.out.1 HA.out.2.1 HA.out.2.2.1 HA.out.2.2.2 HE.out _).mono ?_
      rintro e w1 ⟨rfl, h1⟩
      exact hK _ _ ⟨_, _, _, _, _, _, rfl, by simpa using hsz, fun h => g0 (set_other (by decide) h), fun _ => rfl, fun h => g2 (set_other (by decide) h), fun _ => rfl, fun _ => rfl, fun h => by rw [getD_set_ne _ (by decide)]; exact (g5 (set_other (by decide) h)).below h1, fun h => by rw [getD_set_ne _ (by decide)]; exact g6 (set_other (by decide) h), hG.below h1 hG.size, hU1, trivial⟩
    | 5, ho, h0, hK =>
      cases ho
      clear hd
      go_simp
      have h1 : Below w.heap.size w (w.alloc (.cells z 43)) := (Below.refl _ _).alloc (Nat.le_refl _) _
      have hn6 : l.getD 6 false = true → False := fun h => by have h5 := g6 h; rw [Array.getD_eq_getD_getElem?] at h0 h5; rw [Array.getElem?_eq_getElem (by omega)] at h0 h5; simp at h0 h5; rw [h0] at h5; cases h5
      exact hK _ _ ⟨_, _, _, _, _, _, rfl, by simpa using hsz, fun h => g0 (set_other (by decide) h), fun h => g1 (set_other (by decide) h), fun h => g2 (set_other (by decide) h), fun h => g3 (set_other (by decide) h), fun h => g4 (set_other (by decide) h), fun _ => by rw [getD_set_ne _ (by decide)]; exact ⟨w.heap.size, z, rfl, hG.size, heap_alloc_new _ _, HZ.out, fun h => (hn6 h).elim⟩, fun _ => by simp [Array.getD_eq_getD_getElem?, hsz], hG.below h1 hG.size, hU1, trivial⟩
    | 6, ho, h0, hK =>
      cases ho
      have e4 := g4 (hd ⟨4, .data⟩ (by simp) rfl)
      have hd5 := hd ⟨5, .data⟩ (by simp) rfl
      subst e4
      obtain ⟨g, oo, rfl, hg2, hgo, ho6, _⟩ := g5 hd5
      clear hd
      refine ow_hst _ _ _ rfl hgo (by rw [ho6, HE.out.size]) rfl rfl HE.out.one 136 HE.out.size (by kernel_rfl) (fun w1 k1 b1 => hK _ _ ⟨_, _, _, _, _, _, rfl, by simpa using hsz, fun h => g0 (set_other (by decide) h), fun h => g1 (set_other (by decide) h), fun h => g2 (set_other (by decide) h), fun h => g3 (set_other (by decide) h), fun _ => rfl, fun _ => ⟨g, ce, rfl, hg2, k1, HE.out.size, fun _ => rfl⟩, fun _ => by rw [getD_set_ne _ (by decide)]; exact hd5, hG.below b1 (by omega), hU1, trivial⟩)
    | i + 7, ho, h0, hK => simp at ho
  case fin =>
    rintro l a w ⟨v5, v7, v8, v9, v10, v11, rfl, hsz, g0, g1, g2, g3, g4, g5, g6, hG, hU1, hU2⟩ hr
    have hlast := all_listed (by kernel_rfl) hsz hr 6 (by decide)
    have e5 := g5 (all_listed (by kernel_rfl) hsz hr 5 (by decide))
    rw [hlast] at e5
    clear g0 g1 g2 g3 g4 g5 g6 hr hsz hlast
    obtain ⟨gu, ou, rfl, hgu, hou, _, hoc⟩ := e5
    rw [hoc rfl] at hou
    have HG2 := Lib.hid (And.intro hG (And.intro hgu hou))
    clear hG hgu hou hoc HG hU1 hU2
    go_wp2_with fail
    refine wp_region_any (by kernel_rfl) ?_
    refine wpAny_inv (I2 cs ss ce gu W) ?hsz ?hg ?step ?fin 7 _ _ _ (by decide) ?init
    case hsz => rintro l a w ⟨_, _, _, _, _, _, _, _, _, _, _, _, h, _⟩; exact h
    case hg =>
      intro i o ho
      match i, ho with
      | 0, ho => cases ho; rfl
      | 1, ho => cases ho; rfl
      | 2, ho => cases ho; rfl
      | 3, ho => cases ho; rfl
      | 4, ho => cases ho; rfl
      | 5, ho => cases ho; rfl
      | 6, ho => cases ho; rfl
      | i + 7, ho => simp at ho
    case init => exact ⟨_, _, _, _, _, _, _, _, _, _, _, rfl, rfl, by simp, by simp, by simp, by simp, by simp, by simp, by simp, HG2.out.1.below ⟨rfl, rfl, rfl, Nat.le_refl _, fun _ _ => rfl⟩ HG2.out.1.size, HG2.out.2.1, HG2.out.2.2⟩
    case step =>
      rintro l a w i o ⟨v6, v12, v13, v14, v15, v16, v7, v8, v9, v10, v11, rfl, hsz, g0, g1, g2, g3, g4, g5, g6, hG, hU1, hU2⟩ ho h0 hd K hK
      match i, ho, h0, hK with
      | 0, ho, h0, hK =>
        cases ho
        refine ow_hld _ _ rfl hG.1 rfl (by kernel_rfl) 136 HS.out.size (by kernel_rfl) (hK _ _ ⟨_, _, _, _, _, _, _, _, _, _, _, rfl, by simpa using hsz, fun _ => rfl, fun h => g1 (set_other (by decide) h), fun h => g2 (set_other (by decide) h), fun h => g3 (set_other (by decide) h), fun h => g4 (set_other (by decide) h), fun h => by rw [getD_set_ne _ (by decide)]; exact g5 (set_other (by decide) h), fun h => by rw [getD_set_ne _ (by decide)]; exact g6 (set_other (by decide) h), hG, hU1, hU2⟩)
      | 2, ho, h0, hK =>
        cases ho
        refine ow_hld _ _ rfl hG.2.1 rfl (by kernel_rfl) 6 HP.out.size (by kernel_rfl) (hK _ _ ⟨_, _, _, _, _, _, _, _, _, _, _, rfl, by simpa using hsz, fun h => g0 (set_other (by decide) h), fun h => g1 (set_other (by decide) h), fun _ => rfl, fun h => g3 (set_other (by decide) h), fun h => g4 (set_other (by decide) h), fun h => by rw [getD_set_ne _ (by decide)]; exact g5 (set_other (by decide) h), fun h => by rw [getD_set_ne _ (by decide)]; exact g6 (set_other (by decide) h), hG, hU1, hU2⟩)
      | 1, ho, h0, hK =>
        cases ho
        have e0 := g0 (hd ⟨0, .data⟩ (by simp) rfl)
        subst e0
        clear hd
        go_simp
        go_wp2_with fail
        refine (toMem cs HS.out.size HS.out.one _).mono ?_
        rintro e w1 ⟨rfl, h1⟩
        exact hK _ _ ⟨_, _, _, _, _, _, _, _, _, _, _, rfl, by simpa using hsz, fun _ => rfl, fun _ => rfl, fun h => g2 (set_other (by decide) h), fun h => g3 (set_other (by decide) h), fun h => g4 (set_other (by decide) h), fun h => by rw [getD_set_ne _ (by decide)]; exact (g5 (set_other (by decide) h)).below h1, fun h => by rw [getD_set_ne _ (by decide)]; exact g6 (set_other (by decide) h), hG.below h1 hG.size, hU1, kit.box_keep hU2 h1 (kit.box_lt hU2)⟩
      | 3, ho, h0, hK =>
        cases ho
        have e2 := g2 (hd ⟨2, .data⟩ (by simp) rfl)
        subst e2
        clear hd
        go_simp
        go_wp2_with fail
        refine (toSample ss HP.out.size HP.out.one _).mono ?_
        rintro e w1 ⟨rfl, h1⟩
        exact hK _ _ ⟨_, _, _, _, _, _, _, _, _, _, _, rfl, by simpa using hsz, fun h => g0 (set_other (by decide) h), fun h => g1 (set_other (by decide) h), fun _ => rfl, fun _ => rfl, fun h => g4 (set_other (by decide) h), fun h => by rw [getD_set_ne _ (by decide)]; exact (g5 (set_other (by decide) h)).below h1, fun h => by rw [getD_set_ne _ (by decide)]; exact g6 (set_other (by decide) h), hG.below h1 hG.size, hU1, kit.box_keep hU2 h1 (kit.box_lt hU2)⟩
      | 4, ho, h0, hK =>
        cases ho
        have e1 := g1 (hd ⟨1, .data⟩ (by simp) rfl)
        subst e1
        have e3 := g3 (hd ⟨3, .data⟩ (by simp) rfl)
        subst e3
        clear hd
        go_simp
        go_wp2_with fail
        refine (impl_start cs ss ce x d t HS.out HP.out HA.out.1 HA.out.2.1 HA.out.2.2.1 HA.out.2.2.2 HE.out _).mono ?_
        rintro e w1 ⟨rfl, h1⟩
        exact hK _ _ ⟨_, _, _, _, _, _, _, _, _, _, _, rfl, by simpa using hsz, fun h => g0 (set_other (by decide) h), fun _ => rfl, fun h => g2 (set_other (by decide) h), fun _ => rfl, fun _ => rfl, fun h => by rw [getD_set_ne _ (by decide)]; exact (g5 (set_other (by decide) h)).below h1, fun h => by rw [getD_set_ne _ (by decide)]; exact g6 (set_other (by decide) h), hG.below h1 hG.size, hU1, kit.box_keep hU2 h1 (kit.box_lt hU2)⟩
      | 5, ho, h0, hK =>
        cases ho
        clear hd
        go_simp
        have h1 : Below w.heap.size w (w.alloc (.cells z 43)) := (Below.refl _ _).alloc (Nat.le_refl _) _
        have hn6 : l.getD 6 false = true → False := fun h => by have h5 := g6 h; rw [Array.getD_eq_getD_getElem?] at h0 h5; rw [Array.getElem?_eq_getElem (by omega)] at h0 h5; simp at h0 h5; rw [h0] at h5; cases h5
        exact hK _ _ ⟨_, _, _, _, _, _, _, _, _, _, _, rfl, by simpa using hsz, fun h => g0 (set_other (by decide) h), fun h => g1 (set_other (by decide) h), fun h => g2 (set_other (by decide) h), fun h => g3 (set_other (by decide) h), fun h => g4 (set_other (by decide) h), fun _ => by rw [getD_set_ne _ (by decide)]; exact ⟨w.heap.size, z, rfl, kit.box_lt hU2, heap_alloc_new _ _, HZ.out, fun h => (hn6 h).elim⟩, fun _ => by simp [Array.getD_eq_getD_getElem?, hsz], hG.below h1 hG.size, hU1, kit.box_keep hU2 h1 (kit.box_lt hU2)⟩
      | 6, ho, h0, hK =>
        cases ho
        have e4 := g4 (hd ⟨4, .data⟩ (by simp) rfl)
        have hd5 := hd ⟨5, .data⟩ (by simp) rfl
        subst e4
        obtain ⟨g, oo, rfl, hg2, hgo, ho6, _⟩ := g5 hd5
        clear hd
        refine ow_hst _ _ _ rfl hgo (by rw [ho6, HE.out.size]) rfl rfl HE.out.one 136 HE.out.size (by kernel_rfl) (fun w1 k1 b1 => hK _ _ ⟨_, _, _, _, _, _, _, _, _, _, _, rfl, by simpa using hsz, fun h => g0 (set_other (by decide) h), fun h => g1 (set_other (by decide) h), fun h => g2 (set_other (by decide) h), fun h => g3 (set_other (by decide) h), fun _ => rfl, fun _ => ⟨g, ce, rfl, hg2, k1, HE.out.size, fun _ => rfl⟩, fun _ => by rw [getD_set_ne _ (by decide)]; exact hd5, hG.below b1 (by omega), hU1, (b1.block _ (by omega)).trans hU2⟩)
      | i + 7, ho, h0, hK => simp at ho
    case fin =>
      rintro l a w ⟨v6, v12, v13, v14, v15, v16, v7, v8, v9, v10, v11, rfl, hsz, g0, g1, g2, g3, g4, g5, g6, hG, hU1, hU2⟩ hr
      have hlast := all_listed (by kernel_rfl) hsz hr 6 (by decide)
      have e5 := g5 (all_listed (by kernel_rfl) hsz hr 5 (by decide))
      rw [hlast] at e5
      clear g0 g1 g2 g3 g4 g5 g6 hr hsz hlast
      obtain ⟨gv, ov, rfl, hgv, hov, _, hvc⟩ := e5
      rw [hvc rfl] at hov
      have B := Lib.hid hG.2.2
      clear hG hgv hvc HG2 hU1
      go_wp2_with (first | (refine wl_hld rfl _ _ rfl hov rfl (by kernel_rfl) 136 HE.out.size (by kernel_rfl) ?_) | (refine wl_hld rfl _ _ rfl hU2 rfl (by kernel_rfl) 136 HE.out.size (by kernel_rfl) ?_))
      refine (eqMem ce HE.out _).mono ?_
      rintro e w9 ⟨rfl, h9⟩
      go_wp2_with fail
      go_ret
      exact ⟨rfl, B.out.trans (h9.mono B.out.size)⟩

set_option maxRecDepth 100000 in
theorem samp_of {W : World} {base : Nat} {v : Value} (h : Value.okWide Try.prog W .any base 50 v) : ∃ ss, v = .agg ss ∧ Samp ss := by
  obtain ⟨cs, rfl, hsz, hc⟩ := kit.ok_cells Try.underlying50 h
  have hc := hc [22, 24, 33, 33, 33, 33] (by kernel_rfl)
  rw [show Try.prog.cellsOf 50 = 6 by kernel_rfl] at hsz
  have get : ∀ i, i < 6 → ∃ x, cs[i]? = some x := fun i hi => ⟨cs[i], Array.getElem?_eq_getElem (by omega)⟩
  obtain ⟨x0, k0⟩ := get 0 (by decide)
  obtain ⟨x1, k1⟩ := get 1 (by decide)
  obtain ⟨x2, k2⟩ := get 2 (by decide)
  obtain ⟨x3, k3⟩ := get 3 (by decide)
  obtain ⟨x4, k4⟩ := get 4 (by decide)
  obtain ⟨x5, k5⟩ := get 5 (by decide)
  obtain ⟨_, e0, h0⟩ := hc 0 x0 k0
  obtain rfl := Option.some.inj e0
  obtain ⟨_, e1, h1⟩ := hc 1 x1 k1
  obtain rfl := Option.some.inj e1
  obtain ⟨_, e2, h2⟩ := hc 2 x2 k2
  obtain rfl := Option.some.inj e2
  obtain ⟨_, e3, h3⟩ := hc 3 x3 k3
  obtain rfl := Option.some.inj e3
  obtain ⟨_, e4, h4⟩ := hc 4 x4 k4
  obtain rfl := Option.some.inj e4
  obtain ⟨_, e5, h5⟩ := hc 5 x5 k5
  obtain rfl := Option.some.inj e5
  obtain ⟨a0, rfl, _⟩ := kit.cell_int Try.underlying22 h0
  obtain ⟨a1, rfl, _⟩ := kit.cell_int Try.underlying24 h1
  obtain ⟨a2, rfl, _⟩ := kit.cell_float Try.underlying33 h2
  obtain ⟨a3, rfl, _⟩ := kit.cell_float Try.underlying33 h3
  obtain ⟨a4, rfl, _⟩ := kit.cell_float Try.underlying33 h4
  obtain ⟨a5, rfl, _⟩ := kit.cell_float Try.underlying33 h5
  refine ⟨cs, rfl, hsz, ?_, ⟨_, k0⟩, ⟨_, k1⟩, ?_⟩
  · intro x hx
    obtain ⟨i, hi, e⟩ := Array.mem_iff_getElem.1 hx
    have hx2 : cs[i]? = some x := by rw [Array.getElem?_eq_getElem hi, e]
    have h6 : i = 0 ∨ i = 1 ∨ i = 2 ∨ i = 3 ∨ i = 4 ∨ i = 5 := by omega
    rcases h6 with rfl | rfl | rfl | rfl | rfl | rfl
    · rw [k0] at hx2; cases hx2; rfl
    · rw [k1] at hx2; cases hx2; rfl
    · rw [k2] at hx2; cases hx2; rfl
    · rw [k3] at hx2; cases hx2; rfl
    · rw [k4] at hx2; cases hx2; rfl
    · rw [k5] at hx2; cases hx2; rfl
  · intro j hj
    have h4 : j = 0 ∨ j = 1 ∨ j = 2 ∨ j = 3 := by omega
    rcases h4 with rfl | rfl | rfl | rfl
    · exact ⟨_, k2⟩
    · exact ⟨_, k3⟩
    · exact ⟨_, k4⟩
    · exact ⟨_, k5⟩

set_option maxRecDepth 100000 in
theorem walk (W : World) (base : Nat) (v0 v1 : Value) (o0 : Value.okWide Try.prog W .any base 36 v0) (o1 : Value.okWide Try.prog W .any base 50 v1) :
    Calls Try.prog 5 #[v0, v1] W fun e w' => e = .returned (.bool true) ∧ Below W.heap.size W w' := by
  obtain ⟨cs, rfl, hs⟩ := shape_of o0
  obtain ⟨ss, rfl, hp⟩ := samp_of o1
  obtain ⟨x, hx⟩ := hp.X
  obtain ⟨d, hd⟩ := hp.Dt
  obtain ⟨t, ht⟩ := hs.Time
  exact walkI cs ss _ x d t hs hp hx hd ht rfl (begun_shape cs ss x d t hs hp) W
end Go.Proofs.Ytnffgafofkknoaa.fnExactActStart
