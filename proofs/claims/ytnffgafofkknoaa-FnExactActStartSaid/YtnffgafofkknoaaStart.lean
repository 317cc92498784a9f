/-
  'ActStart' of both sides: what they return.
  Conditions: the cells have the kinds of a memory and of a sample.
-/
import Derived.Test.YtnffgafofkknoaaGFnExactActEnd
import Derived.Test.YtnffgafofkknoaaToSample
namespace Go.Proofs.Ytnffgafofkknoaa.part
open Go Go.RowKit
set_option linter.unusedVariables false
set_option linter.unusedSimpArgs false

/-- A memory in a box, a sample in a box, the result. -/
def Bs (t ts : TypeId) (cs ss : Array Value) (W w : World) : Prop := Bo t cs W w W.heap.size (W.heap.size + 2) ∧ w.heap[W.heap.size + 1]? = some (.cells ss ts (0, 0))
theorem Bs.start (t ts : TypeId) (cs ss o : Array Value) (W : World) (ho : o.size = cs.size) : Bs t ts cs ss W (((W.alloc (.cells cs t)).alloc (.cells ss ts)).alloc (.cells o t)) := by
  have e1 := size_alloc W (.cells cs t)
  have e2 := size_alloc (W.alloc (.cells cs t)) (.cells ss ts)
  refine ⟨⟨Nat.le_refl _, by omega, by omega, ?_, ⟨o, ?_, ho⟩, (((Below.refl _ _).alloc (Nat.le_refl _) _).alloc (by omega) _).alloc (by omega) _⟩, ?_⟩
  · rw [heap_alloc_old _ _ (by omega), heap_alloc_old _ _ (by omega)]; exact heap_alloc_new _ _
  · rw [show W.heap.size + 2 = ((W.alloc (.cells cs t)).alloc (.cells ss ts)).heap.size by omega]; exact heap_alloc_new _ _
  · rw [heap_alloc_old _ _ (by omega), ← e1]; exact heap_alloc_new _ _
theorem Bs.set {t ts : TypeId} {cs ss : Array Value} {W w : World} (h : Bs t ts cs ss W w) (off : Nat) (v : Value) : Bs t ts (cs.setIfInBounds off v) ss W (w.setCell ⟨W.heap.size, off, none⟩ v) :=
  ⟨h.1.set off v, by rw [Below.heap_setCell w ⟨W.heap.size, off, none⟩ v _ (by show W.heap.size + 1 ≠ W.heap.size; omega)]; exact h.2⟩

section
variable {P : Program} {ops : Array Oper} {rest : List Oper} {o : Oper} {a : Act} {w W : World} {Q : Exit → Act → World → Prop} {t ts : TypeId} {cs ss : Array Value}
theorem wl_genS (h : Bs t ts cs ss W w) (k : ∀ w1, Bs t ts cs ss W w1 → wpList P ops Q rest a w1) : wpList P ops Q rest a w := k w h
theorem wl_sst (hgd : o.guard = none) (ty : TypeId) (x y : Operand) (ho : o.op = .store ty x y) (hst : Bs t ts cs ss W w) (off : Nat) (v : Value) (hx : a.eval x = .pointer (some ⟨W.heap.size, off, none⟩)) (hy : a.eval y = v) (h1 : v.oneCell' = true) (hi : (P.info? ty).map (·.size) = some 1) (hoff : off < cs.size)
    (h : ∀ w1, Bs t ts (cs.setIfInBounds off v) ss W w1 → wpList P ops Q rest (a.put o.dst undef) w1) : wpList P ops Q (o :: rest) a w := by
  refine wpList_plain hgd fun _ hK => ?_
  have hb := hst.1.2.2.2.1
  have hcell : w.cell? ⟨W.heap.size, off, none⟩ = some cs[off] := by simp [World.cell?, hb, hoff]
  have hfro : w.frozen? ⟨W.heap.size, off, none⟩ = false := by simp [World.frozen?, hb]
  have hc1 : v.cells = #[v] := by cases v <;> simp [Value.oneCell'] at h1 <;> rfl
  have e : (storeVar ty ⟨W.heap.size, off, none⟩ v).run P w = .ok () (w.setCell ⟨W.heap.size, off, none⟩ v) := by
    have hs : (store ((⟨W.heap.size, off, none⟩ : Addr).add 0) v).run P w = .ok () (w.setCell ⟨W.heap.size, off, none⟩ v) := by
      rw [add_at, Nat.add_zero, run_store P w _ v _ h1, hcell]
      simp [hfro]
    cases hq : P.info? ty with
    | none => simp [hq] at hi
    | some i =>
      have hs1 : i.size = 1 := by simpa [hq] using hi
      simp only [storeVar, sizeOf, typeInfo, Sem.run_bind, hq, hc1]
      simp [Sem.run_bind, hq, hs1, storeCells, hs]
  unfold Oper.wp execOp
  simp only [ho, hx, hy, Instr.storeAt, Instr.sureAddr, Sem.run_bind, Sem.run_pure, Result.andThen_ok, e]
  exact hK _ _ (h _ (hst.set off v))
end

/-- The kinds of a sample's cells. -/
structure Samp (ss : Array Value) : Prop where
  size : ss.size = 6
  one : ∀ x ∈ ss, x.oneCell' = true
  X : ∃ a, ss[0]? = some (.int .u32 a)
  Dt : ∃ a, ss[1]? = some (.int .u16 a)
  In : ∀ j, j < 4 → ∃ n, ss[2 + j]? = some (.float .f64 n)

/-- The four registers that come in. -/
def pf (c ss : Array Value) : Nat → Array Value
  | 0 => c
  | i + 1 => (pf c ss i).setIfInBounds (117 + (12 + i)) (cel ss (2 + i))
theorem pf_size (c ss : Array Value) : ∀ i, (pf c ss i).size = c.size
  | 0 => rfl
  | i + 1 => by unfold pf; rw [Array.size_setIfInBounds, pf_size c ss i]
def tm (t d : Int) : Int := IntKind.u32.wrap (t + IntKind.u32.wrap d)
def begun (cs ss : Array Value) (x d t : Int) : Array Value := pf (((cs.setIfInBounds 0 (.int .u32 x)).setIfInBounds 133 (.int .u32 (tm t d))).setIfInBounds 135 (.bool false)) ss 4

set_option maxRecDepth 100000 in
theorem spec_start (cs ss ce : Array Value) (x d t : Int) (hs : Shape cs) (hp : Samp ss) (hx : ss[0]? = some (.int .u32 x)) (hd : ss[1]? = some (.int .u16 d)) (ht : cs[133]? = some (.int .u32 t)) (he : begun cs ss x d t = ce) (hce : Shape ce) (w : World) :
    Calls Try.prog 12 #[.agg cs, .agg ss] w fun e w' => e = .returned (.agg ce) ∧ Below w.heap.size w w' := by
  obtain ⟨z, hzs, hz⟩ := zero_run (P := Try.prog) (t := 43) (n := 136) (by kernel_rfl)
  have hall : ∀ c, (((cs.setIfInBounds 0 (.int .u32 x)).setIfInBounds 133 (.int .u32 (tm t d))).setIfInBounds 135 (.bool false)) = c → Shape (pf c ss 4) := fun c hc => by
    have : pf c ss 4 = ce := by rw [← he, ← hc]; rfl
    rw [this]; exact hce
  have Hce := Lib.hid (show ∀ c, (((cs.setIfInBounds 0 (.int .u32 x)).setIfInBounds 133 (.int .u32 (tm t d))).setIfInBounds 135 (.bool false)) = c → pf c ss 4 = ce from fun c hc => by rw [← he, ← hc]; rfl)
  have c0 := cel_is hx
  have c1 := cel_is hd
  have HS := Lib.hid hs
  have HP := Lib.hid hp
  have HZ := Lib.hid hzs
  have HT := Lib.hid ht
  clear hzs hs hp hx hd ht he hce
  go_enter Try.func12, Try.ntmps12
  have c2 : cel (cs.setIfInBounds 0 (.int .u32 x)) 133 = .int .u32 t := cel_is (by rw [Array.getElem?_setIfInBounds_ne (by decide)]; exact HT.out)
  go_wp2_with (first | (with_reducible refine wl_genS (Bs.start 43 52 cs ss z w (HZ.out.trans HS.out.size.symm)) ?_; intro w0 h0) | (refine wl_g1 (cs := ss) rfl _ _ rfl _ _ rfl h0.2 (by rw [HP.out.size]; decide) (by decide +kernel) ?_) | (refine wl_sst rfl _ _ _ rfl h0 0 (.int .u32 x) rfl (by first | rfl | exact c0) rfl (by kernel_rfl) (by rw [HS.out.size]; decide) ?_; intro w1 h1) | (refine wl_g1 (cs := cs.setIfInBounds 0 (.int .u32 x)) rfl _ _ rfl _ _ rfl h1.1.2.2.2.1 (by simp [HS.out.size]) (by decide +kernel) ?_) | (refine wl_g1 (cs := ss) rfl _ _ rfl _ _ rfl h1.2 (by rw [HP.out.size]; decide) (by decide +kernel) ?_) | (refine wl_sst rfl _ _ _ rfl h1 133 _ rfl rfl rfl (by kernel_rfl) (by simp [HS.out.size]) ?_; intro w2 h2) | (refine wl_sst rfl _ _ _ rfl h2 135 (.bool false) rfl rfl rfl (by kernel_rfl) (by simp [HS.out.size]) ?_; intro w3 h3))
  obtain ⟨c, hc⟩ : ∃ c, (((cs.setIfInBounds 0 (.int .u32 x)).setIfInBounds 133 (.int .u32 (tm t d))).setIfInBounds 135 (.bool false)) = c := ⟨_, rfl⟩
  have h4 : Bs 43 52 c ss w w3 := by rw [← hc]; exact h3
  have HCs := Lib.hid (show c.size = 136 by rw [← hc]; simp [HS.out.size])
  have Hc := Lib.hid hc
  clear h0 h1 h2 h3 hc
  go_loopg [5] 4 (fun kq v w' => ∃ i : Nat, v = .int .i64 i ∧ Hid (i + kq = 4) ∧ Bs 43 52 (pf c ss i) ss w w')
  case atStart => exact ⟨0, rfl, Lib.hid (by decide), h4⟩
  case round =>
    obtain ⟨i, rfl, hk, hb⟩ := hrel
    cases gk with
    | zero =>
      have hi : i = 4 := by have := hk.out; omega
      subst hi
      have HE := Lib.hid (hall c Hc.out)
      go_wp2_with (first | (refine wl_bld rfl _ _ rfl hb.1 rfl (by kernel_rfl) 136 HE.out.size (by kernel_rfl) ?_) | (refine wl_bsto rfl _ _ _ rfl hb.1 rfl rfl HE.out.one 136 HE.out.size (by kernel_rfl) ?_; intro w5 h7))
      refine bodyPost_ret (v := .agg (pf c ss 4)) (results_cell_row Try.results12 _ _ (w.heap.size + 2) 43 (pf c ss 4) (0, 0) _ rfl h7.1 Try.underlying43 rfl (by rw [HE.out.size]; kernel_rfl)) rfl ⟨by rw [Hce.out c Hc.out], h7.2⟩
    | succ k1 =>
      have hlt : i < 4 := by have := hk.out; omega
      obtain ⟨f, hf⟩ := HP.out.In i hlt
      have cf := cel_is hf
      clear hf
      go_wp2_with (first | (refine wl_g1 (cs := ss) rfl _ _ rfl _ _ rfl hb.2 (by rw [HP.out.size]; omega) (by decide +kernel) ?_) | (refine wl_sst rfl _ _ _ rfl hb (117 + (12 + i)) _ rfl rfl rfl (by kernel_rfl) (by rw [pf_size, HCs.out]; omega) ?_; intro w4 h5))
      have h6 : Bs 43 52 (pf c ss (i + 1)) ss w w4 := by unfold pf; rw [cf]; exact h5
      go_roundg k1
      case measure => have := hk.out; omega
      case rel => exact ⟨i + 1, by first | rfl | (push_cast; rfl), Lib.hid (by have := hk.out; omega), h6⟩
set_option maxRecDepth 100000 in
theorem impl_start (cs ss ce : Array Value) (x d t : Int) (hs : Shape cs) (hp : Samp ss) (hx : ss[0]? = some (.int .u32 x)) (hd : ss[1]? = some (.int .u16 d)) (ht : cs[133]? = some (.int .u32 t)) (he : begun cs ss x d t = ce) (hce : Shape ce) (w : World) :
    Calls Try.prog 14 #[.agg cs, .agg ss] w fun e w' => e = .returned (.agg ce) ∧ Below w.heap.size w w' := by
  obtain ⟨z, hzs, hz⟩ := zero_run (P := Try.prog) (t := 43) (n := 136) (by kernel_rfl)
  have hall : ∀ c, (((cs.setIfInBounds 0 (.int .u32 x)).setIfInBounds 133 (.int .u32 (tm t d))).setIfInBounds 135 (.bool false)) = c → Shape (pf c ss 4) := fun c hc => by
    have : pf c ss 4 = ce := by rw [← he, ← hc]; rfl
    rw [this]; exact hce
  have Hce := Lib.hid (show ∀ c, (((cs.setIfInBounds 0 (.int .u32 x)).setIfInBounds 133 (.int .u32 (tm t d))).setIfInBounds 135 (.bool false)) = c → pf c ss 4 = ce from fun c hc => by rw [← he, ← hc]; rfl)
  obtain ⟨f0, e0⟩ := hp.In 0 (by decide)
  obtain ⟨f1, e1⟩ := hp.In 1 (by decide)
  obtain ⟨f2, e2⟩ := hp.In 2 (by decide)
  obtain ⟨f3, e3⟩ := hp.In 3 (by decide)
  have hcut : cut ss 2 4 = #[.float .f64 f0, .float .f64 f1, .float .f64 f2, .float .f64 f3] := by
    apply Array.ext_getElem?
    intro i
    by_cases h : i < 4
    · rw [cut_at ss 2 4 i h (by rw [hp.size]; decide)]
      have h4 : i = 0 ∨ i = 1 ∨ i = 2 ∨ i = 3 := by omega
      rcases h4 with rfl | rfl | rfl | rfl
      · exact e0
      · exact e1
      · exact e2
      · exact e3
    · rw [Array.getElem?_eq_none (by unfold cut; simp; omega), Array.getElem?_eq_none (by simp; omega)]
  have i0 : ∀ w, (Instr.index 48 (.agg #[.float .f64 f0, .float .f64 f1, .float .f64 f2, .float .f64 f3]) (.int .i64 0)).run Try.prog w = .ok (.float .f64 f0) w := fun _ => by kernel_rfl
  have i1 : ∀ w, (Instr.index 48 (.agg #[.float .f64 f0, .float .f64 f1, .float .f64 f2, .float .f64 f3]) (.int .i64 1)).run Try.prog w = .ok (.float .f64 f1) w := fun _ => by kernel_rfl
  have i2 : ∀ w, (Instr.index 48 (.agg #[.float .f64 f0, .float .f64 f1, .float .f64 f2, .float .f64 f3]) (.int .i64 2)).run Try.prog w = .ok (.float .f64 f2) w := fun _ => by kernel_rfl
  have i3 : ∀ w, (Instr.index 48 (.agg #[.float .f64 f0, .float .f64 f1, .float .f64 f2, .float .f64 f3]) (.int .i64 3)).run Try.prog w = .ok (.float .f64 f3) w := fun _ => by kernel_rfl
  have E0 := Lib.hid (cel_is e0)
  have E1 := Lib.hid (cel_is e1)
  have E2 := Lib.hid (cel_is e2)
  have E3 := Lib.hid (cel_is e3)
  have HCut := Lib.hid hcut
  clear e0 e1 e2 e3 hcut
  have c0 := cel_is hx
  have c1 := cel_is hd
  have HS := Lib.hid hs
  have HP := Lib.hid hp
  have HZ := Lib.hid hzs
  have HT := Lib.hid ht
  clear hzs hs hp hx hd ht he hce
  go_enter Try.func14, Try.ntmps14
  have c2 : cel (cs.setIfInBounds 0 (.int .u32 x)) 133 = .int .u32 t := cel_is (by rw [Array.getElem?_setIfInBounds_ne (by decide)]; exact HT.out)
  go_wp2_with (first | (with_reducible refine wl_genS (Bs.start 43 52 cs ss z w (HZ.out.trans HS.out.size.symm)) ?_; intro w0 h0) | (refine wl_g1 (cs := ss) rfl _ _ rfl _ _ rfl h0.2 (by rw [HP.out.size]; decide) (by decide +kernel) ?_) | (refine wl_sst rfl _ _ _ rfl h0 0 (.int .u32 x) rfl (by first | rfl | exact c0) rfl (by kernel_rfl) (by rw [HS.out.size]; decide) ?_; intro w1 h1) | (refine wl_g1 (cs := cs.setIfInBounds 0 (.int .u32 x)) rfl _ _ rfl _ _ rfl h1.1.2.2.2.1 (by simp [HS.out.size]) (by decide +kernel) ?_) | (refine wl_g1 (cs := ss) rfl _ _ rfl _ _ rfl h1.2 (by rw [HP.out.size]; decide) (by decide +kernel) ?_) | (refine wl_sst rfl _ _ _ rfl h1 133 _ rfl rfl rfl (by kernel_rfl) (by simp [HS.out.size]) ?_; intro w2 h2) | (refine wl_sst rfl _ _ _ rfl h2 135 (.bool false) rfl rfl rfl (by kernel_rfl) (by simp [HS.out.size]) ?_; intro w3 h3) | (refine wl_gp (cs := ss) rfl 48 _ rfl _ _ 4 rfl h3.2 (by kernel_rfl) (by kernel_rfl) (by rw [HP.out.size]; decide) ?_; rw [HCut.out]))
  obtain ⟨c, hc⟩ : ∃ c, (((cs.setIfInBounds 0 (.int .u32 x)).setIfInBounds 133 (.int .u32 (tm t d))).setIfInBounds 135 (.bool false)) = c := ⟨_, rfl⟩
  have h4 : Bs 43 52 c ss w w3 := by rw [← hc]; exact h3
  have HCs := Lib.hid (show c.size = 136 by rw [← hc]; simp [HS.out.size])
  have Hc := Lib.hid hc
  clear h0 h1 h2 h3 hc
  go_loopg [20] 4 (fun kq v w' => ∃ i : Nat, v = .int .i64 i ∧ Hid (i + kq = 4) ∧ Bs 43 52 (pf c ss i) ss w w')
  case atStart => exact ⟨0, rfl, Lib.hid (by decide), h4⟩
  case round =>
    obtain ⟨i, rfl, hk, hb⟩ := hrel
    cases gk with
    | zero =>
      have hi : i = 4 := by have := hk.out; omega
      subst hi
      have HE := Lib.hid (hall c Hc.out)
      go_wp2_with (first | (refine wl_bld rfl _ _ rfl hb.1 rfl (by kernel_rfl) 136 HE.out.size (by kernel_rfl) ?_) | (refine wl_bsto rfl _ _ _ rfl hb.1 rfl rfl HE.out.one 136 HE.out.size (by kernel_rfl) ?_; intro w5 h7))
      refine bodyPost_ret (v := .agg (pf c ss 4)) (results_cell_row Try.results14 _ _ (w.heap.size + 2) 43 (pf c ss 4) (0, 0) _ rfl h7.1 Try.underlying43 rfl (by rw [HE.out.size]; kernel_rfl)) rfl ⟨by rw [Hce.out c Hc.out], h7.2⟩
    | succ k1 =>
      have hlt : i < 4 := by have := hk.out; omega
      have h4 : i = 0 ∨ i = 1 ∨ i = 2 ∨ i = 3 := by omega
      clear hlt
      rcases h4 with rfl | rfl | rfl | rfl
      all_goals
        go_wp2_with (refine wl_sst rfl _ _ _ rfl hb _ _ rfl rfl rfl (by kernel_rfl) (by rw [pf_size, HCs.out]; decide) ?_; intro w4 h5)
        go_roundg k1
        case measure => have := hk.out; omega
      · case rel => exact ⟨1, rfl, Lib.hid (by have := hk.out; omega), by have := h5; unfold pf; rw [E0.out]; exact this⟩
      · case rel => exact ⟨2, rfl, Lib.hid (by have := hk.out; omega), by have := h5; unfold pf; rw [E1.out]; exact this⟩
      · case rel => exact ⟨3, rfl, Lib.hid (by have := hk.out; omega), by have := h5; unfold pf; rw [E2.out]; exact this⟩
      · case rel => exact ⟨4, rfl, Lib.hid (by have := hk.out; omega), by have := h5; unfold pf; rw [E3.out]; exact this⟩
end Go.Proofs.Ytnffgafofkknoaa.part
