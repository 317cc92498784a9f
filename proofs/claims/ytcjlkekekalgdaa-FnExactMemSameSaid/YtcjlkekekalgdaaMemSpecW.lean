/-
  'spec.MemSame': what it returns.
  Conditions: the cells have the kinds of a memory; words of 64 bits.
-/
import Derived.Test.YtcjlkekekalgdaaMemSpec
import Derived.Deep.LoopGhost
namespace Go.Proofs.Ytcjlkekekalgdaa.part
open Go Go.RowKit Go.Proofs.Ytcjlkekekalgdaa.flo Go.Proofs.Ytcjlkekekalgdaa.txt
set_option linter.unusedVariables false
set_option linter.unusedSimpArgs false
set_option maxRecDepth 100000

section
variable {P : Program} {ops : Array Oper} {rest : List Oper} {o : Oper} {a : Act} {w W : World} {K : Act → World → Prop} {Q : Exit → Act → World → Prop} {g : Nat} {cs : Array Value} {bs : List (Nat × Array Value)}
theorem ow_hxp (ty : TypeId) (x : Operand) (ho : o.op = .load ty x) (hst : Hx W bs w) (hm : (g, cs) ∈ bs) (off n : Nat) (vs : Array Value) (hv : cs.extract off (off + n) = vs) (hoff : off + n ≤ cs.size) (hx : a.eval x = .pointer (some ⟨g, off, none⟩)) (hu : aggB P ty = true) (hi : (P.info? ty).map (·.size) = some n)
    (h : K (a.put o.dst (.agg vs)) w) : o.wp P a w K Q := by
  obtain ⟨_, t, e⟩ := hst.2 _ hm
  subst hv
  unfold Oper.wp execOp
  simp only [ho, hx, Instr.loadAt, Instr.sureAddr, Sem.run_bind, Sem.run_pure, Result.andThen_ok, run_ldp e hoff (agg_run hu w) hi]
  exact h
theorem ow_run (r : Value) (hr : (execOp a.eval o).run P w = .ok (.value r) w) (h : K (a.put o.dst r) w) : o.wp P a w K Q := by
  unfold Oper.wp
  rw [hr]
  exact h
end
theorem ext2 {cs : Array Value} {off : Nat} {a b : Value} (h0 : cs[off]? = some a) (h1 : cs[off + 1]? = some b) : cs.extract off (off + 2) = #[a, b] := by
  obtain ⟨l0, e0⟩ := Array.getElem?_eq_some_iff.1 h0
  obtain ⟨l1, e1⟩ := Array.getElem?_eq_some_iff.1 h1
  apply Array.ext
  · simp; omega
  · intro i hi1 hi2
    simp at hi2
    rw [Array.getElem_extract]
    match i, hi2 with
    | 0, _ => exact e0
    | 1, _ => exact e1
theorem ext3 {cs : Array Value} {off : Nat} {a b c : Value} (h0 : cs[off]? = some a) (h1 : cs[off + 1]? = some b) (h2 : cs[off + 2]? = some c) : cs.extract off (off + 3) = #[a, b, c] := by
  obtain ⟨l0, e0⟩ := Array.getElem?_eq_some_iff.1 h0
  obtain ⟨l1, e1⟩ := Array.getElem?_eq_some_iff.1 h1
  obtain ⟨l2, e2⟩ := Array.getElem?_eq_some_iff.1 h2
  apply Array.ext
  · simp; omega
  · intro i hi1 hi2
    simp at hi2
    rw [Array.getElem_extract]
    match i, hi2 with
    | 0, _ => exact e0
    | 1, _ => exact e1
    | 2, _ => exact e2
theorem neqT (d d' : Bool) (c c' : Int) (w : World) : (binOp .neq 38 (.agg #[.bool d, .int .u16 c]) (.agg #[.bool d', .int .u16 c'])).run Try.prog w = .ok (.bool (!(d == d' && (c == c' && true)))) w := by
  rw [run_neq_struct, run_equalIn_struct w _ _ _ _ (by kernel_rfl) (by kernel_rfl)]
  have he : (Op.eqFields 9999 #[.bool d, .int .u16 c] #[.bool d', .int .u16 c'] (Try.prog.fieldsOf 38).toList).run Try.prog w = .ok (d == d' && (c == c' && true)) w := by
    refine ef_cons (by rfl) (psc (by kernel_rfl) (v := .bool d) rfl) (psc (by kernel_rfl) (v := .bool d') rfl) (run_equalIn_bool w _ _ d d' Try.underlying4) ?_
    refine ef_cons (by rfl) (psc (by kernel_rfl) (v := .int .u16 c) rfl) (psc (by kernel_rfl) (v := .int .u16 c') rfl) (run_equalIn_int w _ _ _ _ c c' Try.underlying24) ?_
    exact ef_nil
  rw [he]
  rfl
theorem neqC (d d' l l' : Bool) (c c' : Int) (w : World) : (binOp .neq 40 (.agg #[.bool d, .bool l, .int .u16 c]) (.agg #[.bool d', .bool l', .int .u16 c'])).run Try.prog w = .ok (.bool (!(d == d' && (l == l' && (c == c' && true))))) w := by
  rw [run_neq_struct, run_equalIn_struct w _ _ _ _ (by kernel_rfl) (by kernel_rfl)]
  have he : (Op.eqFields 9999 #[.bool d, .bool l, .int .u16 c] #[.bool d', .bool l', .int .u16 c'] (Try.prog.fieldsOf 40).toList).run Try.prog w = .ok (d == d' && (l == l' && (c == c' && true))) w := by
    refine ef_cons (by rfl) (psc (by kernel_rfl) (v := .bool d) rfl) (psc (by kernel_rfl) (v := .bool d') rfl) (run_equalIn_bool w _ _ d d' Try.underlying4) ?_
    refine ef_cons (by rfl) (psc (by kernel_rfl) (v := .bool l) rfl) (psc (by kernel_rfl) (v := .bool l') rfl) (run_equalIn_bool w _ _ l l' Try.underlying4) ?_
    refine ef_cons (by rfl) (psc (by kernel_rfl) (v := .int .u16 c) rfl) (psc (by kernel_rfl) (v := .int .u16 c') rfl) (run_equalIn_int w _ _ _ _ c c' Try.underlying24) ?_
    exact ef_nil
  rw [he]
  rfl
theorem ow_neq {o : Oper} {a : Act} {w : World} {K : Act → World → Prop} {Q : Exit → Act → World → Prop} (ty t2 : TypeId) (x y : Operand) (ho : o.op = .binOp .neq ty x y t2) {u v : Array Value} (hx : a.eval x = .agg u) (hy : a.eval y = .agg v) {r : Value} (hg : Try.prog.eqGuardType Try.prog.depth ty = false)
    (hr : (binOp .neq ty (.agg u) (.agg v)).run Try.prog w = .ok r w) (h : K (a.put o.dst r) w) : o.wp Try.prog a w K Q := by
  have hg2 : (eqGuard .neq ty x y (.agg u) (.agg v)).run Try.prog w = .ok () w := by simp [eqGuard, hg, go_sem]
  unfold Oper.wp execOp
  simp only [ho, hx, hy, Sem.run_bind, hg2, Result.andThen_ok, hr]
  exact h
theorem tagT : ∀ j, j < 16 → tags.getD (5 + j * 2) 0 = 1 ∧ tags.getD (5 + j * 2 + 1) 0 = 4 := by decide
theorem tagC : ∀ j, j < 16 → tags.getD (37 + j * 3) 0 = 1 ∧ tags.getD (37 + j * 3 + 1) 0 = 1 ∧ tags.getD (37 + j * 3 + 2) 0 = 4 := by decide
theorem tagR : ∀ j, j < 16 → tags.getD (117 + j) 0 = 6 := by decide
theorem tagD : ∀ j, j < 32 → tags.getD (85 + j) 0 = 5 := by decide
structure Tags (cs : Array Value) : Prop where
  T : ∀ j, j < 16 → ∃ d c, cs[5 + j * 2]? = some (.bool d) ∧ cs[5 + j * 2 + 1]? = some (.int .u16 c)
  C : ∀ j, j < 16 → ∃ d l c, cs[37 + j * 3]? = some (.bool d) ∧ cs[37 + j * 3 + 1]? = some (.bool l) ∧ cs[37 + j * 3 + 2]? = some (.int .u16 c)
  D : ∀ j, j < 32 → ∃ n, cs[85 + j]? = some (.int .i16 n)
  R : ∀ j, j < 16 → ∃ n, cs[117 + j]? = some (.float .f64 n)
theorem tags_of {cs : Array Value} (h : Tagged cs) : Tags cs := by
  refine ⟨fun j hj => ?_, fun j hj => ?_, fun j hj => ?_, fun j hj => ?_⟩
  · obtain ⟨v, a, b⟩ := h.all (5 + j * 2) (by omega)
    obtain ⟨v2, a2, b2⟩ := h.all (5 + j * 2 + 1) (by omega)
    obtain ⟨d, rfl⟩ := tv1 (b.trans (tagT j hj).1)
    obtain ⟨c, rfl⟩ := tv4 (b2.trans (tagT j hj).2)
    exact ⟨d, c, a, a2⟩
  · obtain ⟨v, a, b⟩ := h.all (37 + j * 3) (by omega)
    obtain ⟨v2, a2, b2⟩ := h.all (37 + j * 3 + 1) (by omega)
    obtain ⟨v3, a3, b3⟩ := h.all (37 + j * 3 + 2) (by omega)
    obtain ⟨d, rfl⟩ := tv1 (b.trans (tagC j hj).1)
    obtain ⟨l, rfl⟩ := tv1 (b2.trans (tagC j hj).2.1)
    obtain ⟨c, rfl⟩ := tv4 (b3.trans (tagC j hj).2.2)
    exact ⟨d, l, c, a, a2, a3⟩
  · obtain ⟨v, a, b⟩ := h.all (85 + j) (by omega)
    obtain ⟨n, rfl⟩ := tv5 (b.trans (tagD j hj))
    exact ⟨n, a⟩
  · obtain ⟨v, a, b⟩ := h.all (117 + j) (by omega)
    obtain ⟨n, rfl⟩ := tv6 (b.trans (tagR j hj))
    exact ⟨n, a⟩
/-- Row j of both is the same. -/
def RowEq (cs ds : Array Value) (j : Nat) : Prop := rb cs ds j = true ∧ (∀ i, i < 2 → cs[5 + j * 2 + i]? = ds[5 + j * 2 + i]?) ∧ (∀ i, i < 3 → cs[37 + j * 3 + i]? = ds[37 + j * 3 + i]?)
theorem not_mem {cs ds : Array Value} {i : Nat} (hi : i < 136) (h1 : i < 117 ∨ 133 ≤ i) (h : cs[i]? ≠ ds[i]?) : ¬ MemEq cs ds := fun m => h (m.2 i hi h1)
theorem all_eq {cs ds : Array Value} (hr : ∀ j, j < 16 → RowEq cs ds j) (hd : ∀ j, j < 32 → cs[85 + j]? = ds[85 + j]?) (h0 : ∀ i, i < 5 → cs[i]? = ds[i]?) (h1 : ∀ i, i < 3 → cs[133 + i]? = ds[133 + i]?) : MemEq cs ds := by
  refine ⟨fun j hj => (hr j hj).1, fun i hi hh => ?_⟩
  by_cases a : i < 5
  · exact h0 i a
  by_cases b : i < 37
  · have := (hr ((i - 5) / 2) (by omega)).2.1 ((i - 5) % 2) (by omega)
    rwa [show 5 + (i - 5) / 2 * 2 + (i - 5) % 2 = i by omega] at this
  by_cases c : i < 85
  · have := (hr ((i - 37) / 3) (by omega)).2.2 ((i - 37) % 3) (by omega)
    rwa [show 37 + (i - 37) / 3 * 3 + (i - 37) % 3 = i by omega] at this
  by_cases d : i < 117
  · have := hd (i - 85) (by omega)
    rwa [show 85 + (i - 85) = i by omega] at this
  · have := h1 (i - 133) (by omega)
    rwa [show 133 + (i - 133) = i by omega] at this


set_option maxHeartbeats 8000000 in
theorem memSpec_any (cs ds : Array Value) (hs : Tagged cs) (hd : Tagged ds) (hf : FR cs) (hg : FR ds) (W : World) : Calls Try.prog 4 #[.agg cs, .agg ds] W (SameR cs ds W) := by
  have HA := Lib.hid (tags_of hs)
  have HB := Lib.hid (tags_of hd)
  have HTa := Lib.hid hs
  have HTb := Lib.hid hd
  have HS1 := Lib.hid hs.size
  have HS2 := Lib.hid hd.size
  have HF := Lib.hid hf
  have HG := Lib.hid hg
  clear hs hd hf hg
  have H1 := Lib.hid ((Hx.box (Hx.nil (Below.refl W.heap.size W)) cs 43).box ds 43)
  rw [show (W.alloc (.cells cs 43)).heap.size = W.heap.size + 1 from size_alloc _ _] at H1
  go_enter Try.func4, Try.ntmps4
  go_wp2_with fail
  go_loopg [5] 16 (fun gg s5 wr => ∃ kk : Nat, kk ≤ 16 ∧ 16 - kk ≤ gg ∧ s5 = .int .i64 kk ∧ Hid (Hx W [(W.heap.size + 1, ds), (W.heap.size, cs)] wr) ∧ Hid (∀ j, j < kk → RowEq cs ds j))
  case atStart => exact ⟨0, Nat.zero_le _, by omega, rfl, H1, Lib.hid fun j hj => by omega⟩
  case round =>
    clear H1
    obtain ⟨kk, hkk, hgg, rfl, H3, hno⟩ := hrel
    by_cases hlt : kk < 16
    · obtain ⟨x, hx⟩ := HA.out.R kk hlt
      obtain ⟨y, hy⟩ := HB.out.R kk hlt
      have HRx := Lib.hid hx
      have HRy := Lib.hid hy
      have hrb : rb cs ds kk = sameB x y := by unfold rb; rw [getD_of hx, getD_of hy]; rfl
      have hfx := HF.out kk hlt
      rw [getD_of hx] at hfx
      have hfy := HG.out kk hlt
      rw [getD_of hy] at hfy
      have HL := Lib.hid (fun w => l5same_any x y hfx hfy w)
      clear hx hy hfx hfy
      cases hsb : sameB x y with
      | false =>
        have Hsb := Lib.hid hsb
        have HN := Lib.hid (show ¬ MemEq cs ds from fun m => by have := m.1 kk hlt; rw [hrb, Hsb.out] at this; cases this)
        clear hsb hrb
        go_wp2_with fail
        refine wp_region_vals (R := Hx W [(W.heap.size + 1, ds), (W.heap.size, cs)]) (aa := ?aa1) [(11, .int .i64 kk), (12, .pointer (some ⟨W.heap.size, 117, none⟩)), (13, .pointer (some ⟨W.heap.size, 117 + kk, none⟩)), (14, .float .f64 x), (15, .int .i64 kk), (16, .pointer (some ⟨W.heap.size + 1, 117, none⟩)), (17, .pointer (some ⟨W.heap.size + 1, 117 + kk, none⟩)), (18, .float .f64 y), (19, .bool false), (20, .bool true), (21, .bool true), (22, undef), (23, undef), (24, undef), (25, undef), (26, undef), (27, undef), (28, undef), (29, undef), (30, undef), (31, .bool true), (32, .bool true), (33, undef), (34, undef), (35, undef), (36, undef), (37, undef), (38, undef), (39, undef), (40, undef), (41, undef), (42, .bool true)] ?hL1 (by kernel_rfl) ?hv1 ?hD1 ?hR1 ?hdo1 ?fin1
        case hL1 =>
          simp only [putD, Act.put]
          go_simp
          rfl
        case hv1 => kernel_rfl
        case hD1 => kernel_rfl
        case hdo1 =>
          intro i o ho
          match i, ho with
          | 0, ho =>
            cases ho
            refine .inl ⟨by kernel_rfl, fun w hR => ?_⟩
            first | (go_simp; done) | (go_simp; exact ⟨rfl, hR⟩)
          | 1, ho =>
            cases ho
            refine .inl ⟨by kernel_rfl, fun w hR => ?_⟩
            first | (go_simp; done) | (go_simp; exact ⟨rfl, hR⟩)
          | 2, ho =>
            cases ho
            refine .inl ⟨by kernel_rfl, fun w hR => ?_⟩
            first | (go_simp; done) | (go_simp; exact ⟨rfl, hR⟩)
          | 3, ho =>
            cases ho
            refine .inl ⟨by kernel_rfl, fun w hR => ?_⟩
            exact ow_hxf _ _ rfl hR (g := W.heap.size) (cs := cs) (by simp) (117 + kk) (.float .f64 x) HRx.out rfl (by decide +kernel) ⟨rfl, hR⟩
          | 4, ho =>
            cases ho
            refine .inl ⟨by kernel_rfl, fun w hR => ?_⟩
            first | (go_simp; done) | (go_simp; exact ⟨rfl, hR⟩)
          | 5, ho =>
            cases ho
            refine .inl ⟨by kernel_rfl, fun w hR => ?_⟩
            first | (go_simp; done) | (go_simp; exact ⟨rfl, hR⟩)
          | 6, ho =>
            cases ho
            refine .inl ⟨by kernel_rfl, fun w hR => ?_⟩
            first | (go_simp; done) | (go_simp; exact ⟨rfl, hR⟩)
          | 7, ho =>
            cases ho
            refine .inl ⟨by kernel_rfl, fun w hR => ?_⟩
            exact ow_hxf _ _ rfl hR (g := W.heap.size + 1) (cs := ds) (by simp) (117 + kk) (.float .f64 y) HRy.out rfl (by decide +kernel) ⟨rfl, hR⟩
          | 8, ho =>
            cases ho
            refine .inl ⟨by kernel_rfl, fun w hR => ?_⟩
            go_simp
            go_wp2_with fail
            refine (HL.out w).mono ?_
            rintro e w4 ⟨rfl, h5⟩
            rw [Hsb.out]
            exact ⟨rfl, hR.below h5⟩
          | 9, ho =>
            cases ho
            refine .inl ⟨by kernel_rfl, fun w hR => ?_⟩
            first | (go_simp; done) | (go_simp; exact ⟨rfl, hR⟩)
          | 10, ho =>
            cases ho
            refine .inl ⟨by kernel_rfl, fun w hR => ?_⟩
            first | (go_simp; done) | (go_simp; exact ⟨rfl, hR⟩)
          | 11, ho =>
            cases ho
            exact .inr ⟨by kernel_rfl, fun t ht => by cases ht; rfl⟩
          | 12, ho =>
            cases ho
            exact .inr ⟨by kernel_rfl, fun t ht => by cases ht; rfl⟩
          | 13, ho =>
            cases ho
            exact .inr ⟨by kernel_rfl, fun t ht => by cases ht; rfl⟩
          | 14, ho =>
            cases ho
            exact .inr ⟨by kernel_rfl, fun t ht => by cases ht; rfl⟩
          | 15, ho =>
            cases ho
            exact .inr ⟨by kernel_rfl, fun t ht => by cases ht; rfl⟩
          | 16, ho =>
            cases ho
            exact .inr ⟨by kernel_rfl, fun t ht => by cases ht; rfl⟩
          | 17, ho =>
            cases ho
            exact .inr ⟨by kernel_rfl, fun t ht => by cases ht; rfl⟩
          | 18, ho =>
            cases ho
            exact .inr ⟨by kernel_rfl, fun t ht => by cases ht; rfl⟩
          | 19, ho =>
            cases ho
            exact .inr ⟨by kernel_rfl, fun t ht => by cases ht; rfl⟩
          | 20, ho =>
            cases ho
            refine .inl ⟨by kernel_rfl, fun w hR => ?_⟩
            first | (go_simp; done) | (go_simp; exact ⟨rfl, hR⟩)
          | 21, ho =>
            cases ho
            refine .inl ⟨by kernel_rfl, fun w hR => ?_⟩
            first | (go_simp; done) | (go_simp; exact ⟨rfl, hR⟩)
          | 22, ho =>
            cases ho
            exact .inr ⟨by kernel_rfl, fun t ht => by cases ht; rfl⟩
          | 23, ho =>
            cases ho
            exact .inr ⟨by kernel_rfl, fun t ht => by cases ht; rfl⟩
          | 24, ho =>
            cases ho
            exact .inr ⟨by kernel_rfl, fun t ht => by cases ht; rfl⟩
          | 25, ho =>
            cases ho
            exact .inr ⟨by kernel_rfl, fun t ht => by cases ht; rfl⟩
          | 26, ho =>
            cases ho
            exact .inr ⟨by kernel_rfl, fun t ht => by cases ht; rfl⟩
          | 27, ho =>
            cases ho
            exact .inr ⟨by kernel_rfl, fun t ht => by cases ht; rfl⟩
          | 28, ho =>
            cases ho
            exact .inr ⟨by kernel_rfl, fun t ht => by cases ht; rfl⟩
          | 29, ho =>
            cases ho
            exact .inr ⟨by kernel_rfl, fun t ht => by cases ht; rfl⟩
          | 30, ho =>
            cases ho
            exact .inr ⟨by kernel_rfl, fun t ht => by cases ht; rfl⟩
          | 31, ho =>
            cases ho
            refine .inl ⟨by kernel_rfl, fun w hR => ?_⟩
            first | (go_simp; done) | (go_simp; exact ⟨rfl, hR⟩)
          | i + 32, ho => simp at ho
        case hR1 => exact H3.out.drew
        case fin1 =>
          intro w4 h4
          have H4 := Lib.hid h4
          clear h4 H3
          go_wp2_with fail
          go_ret
          exact ⟨false, rfl, ⟨fun h => (by cases h), fun h => absurd h HN.out⟩, H4.out.1⟩
      | true =>
        have Hsb := Lib.hid hsb
        have Hrb := Lib.hid (hrb.trans hsb)
        clear hsb hrb
        obtain ⟨d, c, t1, t2⟩ := HA.out.T kk hlt
        obtain ⟨d', c', t3, t4⟩ := HB.out.T kk hlt
        have HT1 := Lib.hid (And.intro t1 t2)
        have HT2 := Lib.hid (And.intro t3 t4)
        clear t1 t2 t3 t4
        cases htq : (d == d' && (c == c' && true)) with
        | false =>
          have HTq := Lib.hid htq
          have HN := Lib.hid (show ¬ MemEq cs ds from fun m => by
            have e1 := m.2 (5 + kk * 2) (by omega) (.inl (by omega))
            have e2 := m.2 (5 + kk * 2 + 1) (by omega) (.inl (by omega))
            rw [HT1.out.1, HT2.out.1] at e1
            rw [HT1.out.2, HT2.out.2] at e2
            simp at e1 e2
            have := HTq.out
            rw [e1, e2] at this
            simp at this)
          clear htq
          go_wp2_with fail
          refine wp_region_vals (R := Hx W [(W.heap.size + 1, ds), (W.heap.size, cs)]) (aa := ?aa2) [(11, .int .i64 kk), (12, .pointer (some ⟨W.heap.size, 117, none⟩)), (13, .pointer (some ⟨W.heap.size, 117 + kk, none⟩)), (14, .float .f64 x), (15, .int .i64 kk), (16, .pointer (some ⟨W.heap.size + 1, 117, none⟩)), (17, .pointer (some ⟨W.heap.size + 1, 117 + kk, none⟩)), (18, .float .f64 y), (19, .bool true), (20, .bool false), (21, .bool false), (22, .int .i64 kk), (23, .pointer (some ⟨W.heap.size, 5, none⟩)), (24, .pointer (some ⟨W.heap.size, 5 + kk * 2, none⟩)), (25, .agg #[.bool d, .int .u16 c]), (26, .int .i64 kk), (27, .pointer (some ⟨W.heap.size + 1, 5, none⟩)), (28, .pointer (some ⟨W.heap.size + 1, 5 + kk * 2, none⟩)), (29, .agg #[.bool d', .int .u16 c']), (30, .bool true), (31, .bool true), (32, .bool true), (33, undef), (34, undef), (35, undef), (36, undef), (37, undef), (38, undef), (39, undef), (40, undef), (41, undef), (42, .bool true)] ?hL2 (by kernel_rfl) ?hv2 ?hD2 ?hR2 ?hdo2 ?fin2
          case hL2 =>
            simp only [putD, Act.put]
            go_simp
            rfl
          case hv2 => kernel_rfl
          case hD2 => kernel_rfl
          case hdo2 =>
            intro i o ho
            match i, ho with
            | 0, ho =>
              cases ho
              refine .inl ⟨by kernel_rfl, fun w hR => ?_⟩
              first | (go_simp; done) | (go_simp; exact ⟨rfl, hR⟩)
            | 1, ho =>
              cases ho
              refine .inl ⟨by kernel_rfl, fun w hR => ?_⟩
              first | (go_simp; done) | (go_simp; exact ⟨rfl, hR⟩)
            | 2, ho =>
              cases ho
              refine .inl ⟨by kernel_rfl, fun w hR => ?_⟩
              first | (go_simp; done) | (go_simp; exact ⟨rfl, hR⟩)
            | 3, ho =>
              cases ho
              refine .inl ⟨by kernel_rfl, fun w hR => ?_⟩
              exact ow_hxf _ _ rfl hR (g := W.heap.size) (cs := cs) (by simp) (117 + kk) (.float .f64 x) HRx.out rfl (by decide +kernel) ⟨rfl, hR⟩
            | 4, ho =>
              cases ho
              refine .inl ⟨by kernel_rfl, fun w hR => ?_⟩
              first | (go_simp; done) | (go_simp; exact ⟨rfl, hR⟩)
            | 5, ho =>
              cases ho
              refine .inl ⟨by kernel_rfl, fun w hR => ?_⟩
              first | (go_simp; done) | (go_simp; exact ⟨rfl, hR⟩)
            | 6, ho =>
              cases ho
              refine .inl ⟨by kernel_rfl, fun w hR => ?_⟩
              first | (go_simp; done) | (go_simp; exact ⟨rfl, hR⟩)
            | 7, ho =>
              cases ho
              refine .inl ⟨by kernel_rfl, fun w hR => ?_⟩
              exact ow_hxf _ _ rfl hR (g := W.heap.size + 1) (cs := ds) (by simp) (117 + kk) (.float .f64 y) HRy.out rfl (by decide +kernel) ⟨rfl, hR⟩
            | 8, ho =>
              cases ho
              refine .inl ⟨by kernel_rfl, fun w hR => ?_⟩
              go_simp
              go_wp2_with fail
              refine (HL.out w).mono ?_
              rintro e w4 ⟨rfl, h5⟩
              rw [Hsb.out]
              exact ⟨rfl, hR.below h5⟩
            | 9, ho =>
              cases ho
              refine .inl ⟨by kernel_rfl, fun w hR => ?_⟩
              first | (go_simp; done) | (go_simp; exact ⟨rfl, hR⟩)
            | 10, ho =>
              cases ho
              refine .inl ⟨by kernel_rfl, fun w hR => ?_⟩
              first | (go_simp; done) | (go_simp; exact ⟨rfl, hR⟩)
            | 11, ho =>
              cases ho
              refine .inl ⟨by kernel_rfl, fun w hR => ?_⟩
              first | (go_simp; done) | (go_simp; exact ⟨rfl, hR⟩)
            | 12, ho =>
              cases ho
              refine .inl ⟨by kernel_rfl, fun w hR => ?_⟩
              first | (go_simp; done) | (go_simp; exact ⟨rfl, hR⟩)
            | 13, ho =>
              cases ho
              refine .inl ⟨by kernel_rfl, fun w hR => ?_⟩
              first | (go_simp; done) | (go_simp; exact ⟨rfl, hR⟩)
            | 14, ho =>
              cases ho
              refine .inl ⟨by kernel_rfl, fun w hR => ?_⟩
              exact ow_hxp _ _ rfl hR (g := W.heap.size) (cs := cs) (by simp) (5 + kk * 2) 2 _ (ext2 HT1.out.1 HT1.out.2) (by rw [HS1.out]; omega) rfl (by kernel_rfl) (by kernel_rfl) ⟨rfl, hR⟩
            | 15, ho =>
              cases ho
              refine .inl ⟨by kernel_rfl, fun w hR => ?_⟩
              first | (go_simp; done) | (go_simp; exact ⟨rfl, hR⟩)
            | 16, ho =>
              cases ho
              refine .inl ⟨by kernel_rfl, fun w hR => ?_⟩
              first | (go_simp; done) | (go_simp; exact ⟨rfl, hR⟩)
            | 17, ho =>
              cases ho
              refine .inl ⟨by kernel_rfl, fun w hR => ?_⟩
              first | (go_simp; done) | (go_simp; exact ⟨rfl, hR⟩)
            | 18, ho =>
              cases ho
              refine .inl ⟨by kernel_rfl, fun w hR => ?_⟩
              exact ow_hxp _ _ rfl hR (g := W.heap.size + 1) (cs := ds) (by simp) (5 + kk * 2) 2 _ (ext2 HT2.out.1 HT2.out.2) (by rw [HS2.out]; omega) rfl (by kernel_rfl) (by kernel_rfl) ⟨rfl, hR⟩
            | 19, ho =>
              cases ho
              refine .inl ⟨by kernel_rfl, fun w hR => ?_⟩
              exact ow_neq _ _ _ _ rfl rfl rfl (by kernel_rfl) ((neqT d d' c c' _).trans (by rw [HTq.out]; rfl)) ⟨rfl, hR⟩
            | 20, ho =>
              cases ho
              refine .inl ⟨by kernel_rfl, fun w hR => ?_⟩
              first | (go_simp; done) | (go_simp; exact ⟨rfl, hR⟩)
            | 21, ho =>
              cases ho
              refine .inl ⟨by kernel_rfl, fun w hR => ?_⟩
              first | (go_simp; done) | (go_simp; exact ⟨rfl, hR⟩)
            | 22, ho =>
              cases ho
              exact .inr ⟨by kernel_rfl, fun t ht => by cases ht; rfl⟩
            | 23, ho =>
              cases ho
              exact .inr ⟨by kernel_rfl, fun t ht => by cases ht; rfl⟩
            | 24, ho =>
              cases ho
              exact .inr ⟨by kernel_rfl, fun t ht => by cases ht; rfl⟩
            | 25, ho =>
              cases ho
              exact .inr ⟨by kernel_rfl, fun t ht => by cases ht; rfl⟩
            | 26, ho =>
              cases ho
              exact .inr ⟨by kernel_rfl, fun t ht => by cases ht; rfl⟩
            | 27, ho =>
              cases ho
              exact .inr ⟨by kernel_rfl, fun t ht => by cases ht; rfl⟩
            | 28, ho =>
              cases ho
              exact .inr ⟨by kernel_rfl, fun t ht => by cases ht; rfl⟩
            | 29, ho =>
              cases ho
              exact .inr ⟨by kernel_rfl, fun t ht => by cases ht; rfl⟩
            | 30, ho =>
              cases ho
              exact .inr ⟨by kernel_rfl, fun t ht => by cases ht; rfl⟩
            | 31, ho =>
              cases ho
              refine .inl ⟨by kernel_rfl, fun w hR => ?_⟩
              first | (go_simp; done) | (go_simp; exact ⟨rfl, hR⟩)
            | i + 32, ho => simp at ho
          case hR2 => exact H3.out.drew
          case fin2 =>
            intro w4 h4
            have H4 := Lib.hid h4
            clear h4 H3
            go_wp2_with fail
            go_ret
            exact ⟨false, rfl, ⟨fun h => (by cases h), fun h => absurd h HN.out⟩, H4.out.1⟩
        | true =>
          have HTq := Lib.hid htq
          clear htq
          obtain ⟨u, l, n, t1, t2, t5⟩ := HA.out.C kk hlt
          obtain ⟨u', l', n', t3, t4, t6⟩ := HB.out.C kk hlt
          have HC1 := Lib.hid (And.intro t1 (And.intro t2 t5))
          have HC2 := Lib.hid (And.intro t3 (And.intro t4 t6))
          clear t1 t2 t3 t4 t5 t6
          cases hcq : (u == u' && (l == l' && (n == n' && true))) with
          | false =>
            have HCq := Lib.hid hcq
            have HN := Lib.hid (show ¬ MemEq cs ds from fun m => by
              have e1 := m.2 (37 + kk * 3) (by omega) (.inl (by omega))
              have e2 := m.2 (37 + kk * 3 + 1) (by omega) (.inl (by omega))
              have e3 := m.2 (37 + kk * 3 + 2) (by omega) (.inl (by omega))
              rw [HC1.out.1, HC2.out.1] at e1
              rw [HC1.out.2.1, HC2.out.2.1] at e2
              rw [HC1.out.2.2, HC2.out.2.2] at e3
              simp at e1 e2 e3
              have := HCq.out
              rw [e1, e2, e3] at this
              simp at this)
            clear hcq
            go_wp2_with fail
            refine wp_region_vals (R := Hx W [(W.heap.size + 1, ds), (W.heap.size, cs)]) (aa := ?aa3) [(11, .int .i64 kk), (12, .pointer (some ⟨W.heap.size, 117, none⟩)), (13, .pointer (some ⟨W.heap.size, 117 + kk, none⟩)), (14, .float .f64 x), (15, .int .i64 kk), (16, .pointer (some ⟨W.heap.size + 1, 117, none⟩)), (17, .pointer (some ⟨W.heap.size + 1, 117 + kk, none⟩)), (18, .float .f64 y), (19, .bool true), (20, .bool false), (21, .bool false), (22, .int .i64 kk), (23, .pointer (some ⟨W.heap.size, 5, none⟩)), (24, .pointer (some ⟨W.heap.size, 5 + kk * 2, none⟩)), (25, .agg #[.bool d, .int .u16 c]), (26, .int .i64 kk), (27, .pointer (some ⟨W.heap.size + 1, 5, none⟩)), (28, .pointer (some ⟨W.heap.size + 1, 5 + kk * 2, none⟩)), (29, .agg #[.bool d', .int .u16 c']), (30, .bool false), (31, .bool false), (32, .bool false), (33, .int .i64 kk), (34, .pointer (some ⟨W.heap.size, 37, none⟩)), (35, .pointer (some ⟨W.heap.size, 37 + kk * 3, none⟩)), (36, .agg #[.bool u, .bool l, .int .u16 n]), (37, .int .i64 kk), (38, .pointer (some ⟨W.heap.size + 1, 37, none⟩)), (39, .pointer (some ⟨W.heap.size + 1, 37 + kk * 3, none⟩)), (40, .agg #[.bool u', .bool l', .int .u16 n']), (41, .bool true), (42, .bool true)] ?hL3 (by kernel_rfl) ?hv3 ?hD3 ?hR3 ?hdo3 ?fin3
            case hL3 =>
              simp only [putD, Act.put]
              go_simp
              rfl
            case hv3 => kernel_rfl
            case hD3 => kernel_rfl
            case hdo3 =>
              intro i o ho
              match i, ho with
              | 0, ho =>
                cases ho
                refine .inl ⟨by kernel_rfl, fun w hR => ?_⟩
                first | (go_simp; done) | (go_simp; exact ⟨rfl, hR⟩)
              | 1, ho =>
                cases ho
                refine .inl ⟨by kernel_rfl, fun w hR => ?_⟩
                first | (go_simp; done) | (go_simp; exact ⟨rfl, hR⟩)
              | 2, ho =>
                cases ho
                refine .inl ⟨by kernel_rfl, fun w hR => ?_⟩
                first | (go_simp; done) | (go_simp; exact ⟨rfl, hR⟩)
              | 3, ho =>
                cases ho
                refine .inl ⟨by kernel_rfl, fun w hR => ?_⟩
                exact ow_hxf _ _ rfl hR (g := W.heap.size) (cs := cs) (by simp) (117 + kk) (.float .f64 x) HRx.out rfl (by decide +kernel) ⟨rfl, hR⟩
              | 4, ho =>
                cases ho
                refine .inl ⟨by kernel_rfl, fun w hR => ?_⟩
                first | (go_simp; done) | (go_simp; exact ⟨rfl, hR⟩)
              | 5, ho =>
                cases ho
                refine .inl ⟨by kernel_rfl, fun w hR => ?_⟩
                first | (go_simp; done) | (go_simp; exact ⟨rfl, hR⟩)
              | 6, ho =>
                cases ho
                refine .inl ⟨by kernel_rfl, fun w hR => ?_⟩
                first | (go_simp; done) | (go_simp; exact ⟨rfl, hR⟩)
              | 7, ho =>
                cases ho
                refine .inl ⟨by kernel_rfl, fun w hR => ?_⟩
                exact ow_hxf _ _ rfl hR (g := W.heap.size + 1) (cs := ds) (by simp) (117 + kk) (.float .f64 y) HRy.out rfl (by decide +kernel) ⟨rfl, hR⟩
              | 8, ho =>
                cases ho
                refine .inl ⟨by kernel_rfl, fun w hR => ?_⟩
                go_simp
                go_wp2_with fail
                refine (HL.out w).mono ?_
                rintro e w4 ⟨rfl, h5⟩
                rw [Hsb.out]
                exact ⟨rfl, hR.below h5⟩
              | 9, ho =>
                cases ho
                refine .inl ⟨by kernel_rfl, fun w hR => ?_⟩
                first | (go_simp; done) | (go_simp; exact ⟨rfl, hR⟩)
              | 10, ho =>
                cases ho
                refine .inl ⟨by kernel_rfl, fun w hR => ?_⟩
                first | (go_simp; done) | (go_simp; exact ⟨rfl, hR⟩)
              | 11, ho =>
                cases ho
                refine .inl ⟨by kernel_rfl, fun w hR => ?_⟩
                first | (go_simp; done) | (go_simp; exact ⟨rfl, hR⟩)
              | 12, ho =>
                cases ho
                refine .inl ⟨by kernel_rfl, fun w hR => ?_⟩
                first | (go_simp; done) | (go_simp; exact ⟨rfl, hR⟩)
              | 13, ho =>
                cases ho
                refine .inl ⟨by kernel_rfl, fun w hR => ?_⟩
                first | (go_simp; done) | (go_simp; exact ⟨rfl, hR⟩)
              | 14, ho =>
                cases ho
                refine .inl ⟨by kernel_rfl, fun w hR => ?_⟩
                exact ow_hxp _ _ rfl hR (g := W.heap.size) (cs := cs) (by simp) (5 + kk * 2) 2 _ (ext2 HT1.out.1 HT1.out.2) (by rw [HS1.out]; omega) rfl (by kernel_rfl) (by kernel_rfl) ⟨rfl, hR⟩
              | 15, ho =>
                cases ho
                refine .inl ⟨by kernel_rfl, fun w hR => ?_⟩
                first | (go_simp; done) | (go_simp; exact ⟨rfl, hR⟩)
              | 16, ho =>
                cases ho
                refine .inl ⟨by kernel_rfl, fun w hR => ?_⟩
                first | (go_simp; done) | (go_simp; exact ⟨rfl, hR⟩)
              | 17, ho =>
                cases ho
                refine .inl ⟨by kernel_rfl, fun w hR => ?_⟩
                first | (go_simp; done) | (go_simp; exact ⟨rfl, hR⟩)
              | 18, ho =>
                cases ho
                refine .inl ⟨by kernel_rfl, fun w hR => ?_⟩
                exact ow_hxp _ _ rfl hR (g := W.heap.size + 1) (cs := ds) (by simp) (5 + kk * 2) 2 _ (ext2 HT2.out.1 HT2.out.2) (by rw [HS2.out]; omega) rfl (by kernel_rfl) (by kernel_rfl) ⟨rfl, hR⟩
              | 19, ho =>
                cases ho
                refine .inl ⟨by kernel_rfl, fun w hR => ?_⟩
                exact ow_neq _ _ _ _ rfl rfl rfl (by kernel_rfl) ((neqT d d' c c' _).trans (by rw [HTq.out]; rfl)) ⟨rfl, hR⟩
              | 20, ho =>
                cases ho
                refine .inl ⟨by kernel_rfl, fun w hR => ?_⟩
                first | (go_simp; done) | (go_simp; exact ⟨rfl, hR⟩)
              | 21, ho =>
                cases ho
                refine .inl ⟨by kernel_rfl, fun w hR => ?_⟩
                first | (go_simp; done) | (go_simp; exact ⟨rfl, hR⟩)
              | 22, ho =>
                cases ho
                refine .inl ⟨by kernel_rfl, fun w hR => ?_⟩
                first | (go_simp; done) | (go_simp; exact ⟨rfl, hR⟩)
              | 23, ho =>
                cases ho
                refine .inl ⟨by kernel_rfl, fun w hR => ?_⟩
                first | (go_simp; done) | (go_simp; exact ⟨rfl, hR⟩)
              | 24, ho =>
                cases ho
                refine .inl ⟨by kernel_rfl, fun w hR => ?_⟩
                first | (go_simp; done) | (go_simp; exact ⟨rfl, hR⟩)
              | 25, ho =>
                cases ho
                refine .inl ⟨by kernel_rfl, fun w hR => ?_⟩
                exact ow_hxp _ _ rfl hR (g := W.heap.size) (cs := cs) (by simp) (37 + kk * 3) 3 _ (ext3 HC1.out.1 HC1.out.2.1 HC1.out.2.2) (by rw [HS1.out]; omega) rfl (by kernel_rfl) (by kernel_rfl) ⟨rfl, hR⟩
              | 26, ho =>
                cases ho
                refine .inl ⟨by kernel_rfl, fun w hR => ?_⟩
                first | (go_simp; done) | (go_simp; exact ⟨rfl, hR⟩)
              | 27, ho =>
                cases ho
                refine .inl ⟨by kernel_rfl, fun w hR => ?_⟩
                first | (go_simp; done) | (go_simp; exact ⟨rfl, hR⟩)
              | 28, ho =>
                cases ho
                refine .inl ⟨by kernel_rfl, fun w hR => ?_⟩
                first | (go_simp; done) | (go_simp; exact ⟨rfl, hR⟩)
              | 29, ho =>
                cases ho
                refine .inl ⟨by kernel_rfl, fun w hR => ?_⟩
                exact ow_hxp _ _ rfl hR (g := W.heap.size + 1) (cs := ds) (by simp) (37 + kk * 3) 3 _ (ext3 HC2.out.1 HC2.out.2.1 HC2.out.2.2) (by rw [HS2.out]; omega) rfl (by kernel_rfl) (by kernel_rfl) ⟨rfl, hR⟩
              | 30, ho =>
                cases ho
                refine .inl ⟨by kernel_rfl, fun w hR => ?_⟩
                exact ow_neq _ _ _ _ rfl rfl rfl (by kernel_rfl) ((neqC u u' l l' n n' _).trans (by rw [HCq.out]; rfl)) ⟨rfl, hR⟩
              | 31, ho =>
                cases ho
                refine .inl ⟨by kernel_rfl, fun w hR => ?_⟩
                first | (go_simp; done) | (go_simp; exact ⟨rfl, hR⟩)
              | i + 32, ho => simp at ho
            case hR3 => exact H3.out.drew
            case fin3 =>
              intro w4 h4
              have H4 := Lib.hid h4
              clear h4 H3
              go_wp2_with fail
              go_ret
              exact ⟨false, rfl, ⟨fun h => (by cases h), fun h => absurd h HN.out⟩, H4.out.1⟩
          | true =>
            have HCq := Lib.hid hcq
            clear hcq
            have HN := Lib.hid (show RowEq cs ds kk from by
              have q1 := HTq.out
              have q2 := HCq.out
              simp at q1 q2
              refine ⟨Hrb.out, fun i hi => ?_, fun i hi => ?_⟩
              · match i, hi with
                | 0, _ => rw [Nat.add_zero, HT1.out.1, HT2.out.1, q1.1]
                | 1, _ => rw [HT1.out.2, HT2.out.2, q1.2]
              · match i, hi with
                | 0, _ => rw [Nat.add_zero, HC1.out.1, HC2.out.1, q2.1]
                | 1, _ => rw [HC1.out.2.1, HC2.out.2.1, q2.2.1]
                | 2, _ => rw [HC1.out.2.2, HC2.out.2.2, q2.2.2])
            go_wp2_with fail
            refine wp_region_vals (R := Hx W [(W.heap.size + 1, ds), (W.heap.size, cs)]) (aa := ?aa4) [(11, .int .i64 kk), (12, .pointer (some ⟨W.heap.size, 117, none⟩)), (13, .pointer (some ⟨W.heap.size, 117 + kk, none⟩)), (14, .float .f64 x), (15, .int .i64 kk), (16, .pointer (some ⟨W.heap.size + 1, 117, none⟩)), (17, .pointer (some ⟨W.heap.size + 1, 117 + kk, none⟩)), (18, .float .f64 y), (19, .bool true), (20, .bool false), (21, .bool false), (22, .int .i64 kk), (23, .pointer (some ⟨W.heap.size, 5, none⟩)), (24, .pointer (some ⟨W.heap.size, 5 + kk * 2, none⟩)), (25, .agg #[.bool d, .int .u16 c]), (26, .int .i64 kk), (27, .pointer (some ⟨W.heap.size + 1, 5, none⟩)), (28, .pointer (some ⟨W.heap.size + 1, 5 + kk * 2, none⟩)), (29, .agg #[.bool d', .int .u16 c']), (30, .bool false), (31, .bool false), (32, .bool false), (33, .int .i64 kk), (34, .pointer (some ⟨W.heap.size, 37, none⟩)), (35, .pointer (some ⟨W.heap.size, 37 + kk * 3, none⟩)), (36, .agg #[.bool u, .bool l, .int .u16 n]), (37, .int .i64 kk), (38, .pointer (some ⟨W.heap.size + 1, 37, none⟩)), (39, .pointer (some ⟨W.heap.size + 1, 37 + kk * 3, none⟩)), (40, .agg #[.bool u', .bool l', .int .u16 n']), (41, .bool false), (42, .bool false)] ?hL4 (by kernel_rfl) ?hv4 ?hD4 ?hR4 ?hdo4 ?fin4
            case hL4 =>
              simp only [putD, Act.put]
              go_simp
              rfl
            case hv4 => kernel_rfl
            case hD4 => kernel_rfl
            case hdo4 =>
              intro i o ho
              match i, ho with
              | 0, ho =>
                cases ho
                refine .inl ⟨by kernel_rfl, fun w hR => ?_⟩
                first | (go_simp; done) | (go_simp; exact ⟨rfl, hR⟩)
              | 1, ho =>
                cases ho
                refine .inl ⟨by kernel_rfl, fun w hR => ?_⟩
                first | (go_simp; done) | (go_simp; exact ⟨rfl, hR⟩)
              | 2, ho =>
                cases ho
                refine .inl ⟨by kernel_rfl, fun w hR => ?_⟩
                first | (go_simp; done) | (go_simp; exact ⟨rfl, hR⟩)
              | 3, ho =>
                cases ho
                refine .inl ⟨by kernel_rfl, fun w hR => ?_⟩
                exact ow_hxf _ _ rfl hR (g := W.heap.size) (cs := cs) (by simp) (117 + kk) (.float .f64 x) HRx.out rfl (by decide +kernel) ⟨rfl, hR⟩
              | 4, ho =>
                cases ho
                refine .inl ⟨by kernel_rfl, fun w hR => ?_⟩
                first | (go_simp; done) | (go_simp; exact ⟨rfl, hR⟩)
              | 5, ho =>
                cases ho
                refine .inl ⟨by kernel_rfl, fun w hR => ?_⟩
                first | (go_simp; done) | (go_simp; exact ⟨rfl, hR⟩)
              | 6, ho =>
                cases ho
                refine .inl ⟨by kernel_rfl, fun w hR => ?_⟩
                first | (go_simp; done) | (go_simp; exact ⟨rfl, hR⟩)
              | 7, ho =>
                cases ho
                refine .inl ⟨by kernel_rfl, fun w hR => ?_⟩
                exact ow_hxf _ _ rfl hR (g := W.heap.size + 1) (cs := ds) (by simp) (117 + kk) (.float .f64 y) HRy.out rfl (by decide +kernel) ⟨rfl, hR⟩
              | 8, ho =>
                cases ho
                refine .inl ⟨by kernel_rfl, fun w hR => ?_⟩
                go_simp
                go_wp2_with fail
                refine (HL.out w).mono ?_
                rintro e w4 ⟨rfl, h5⟩
                rw [Hsb.out]
                exact ⟨rfl, hR.below h5⟩
              | 9, ho =>
                cases ho
                refine .inl ⟨by kernel_rfl, fun w hR => ?_⟩
                first | (go_simp; done) | (go_simp; exact ⟨rfl, hR⟩)
              | 10, ho =>
                cases ho
                refine .inl ⟨by kernel_rfl, fun w hR => ?_⟩
                first | (go_simp; done) | (go_simp; exact ⟨rfl, hR⟩)
              | 11, ho =>
                cases ho
                refine .inl ⟨by kernel_rfl, fun w hR => ?_⟩
                first | (go_simp; done) | (go_simp; exact ⟨rfl, hR⟩)
              | 12, ho =>
                cases ho
                refine .inl ⟨by kernel_rfl, fun w hR => ?_⟩
                first | (go_simp; done) | (go_simp; exact ⟨rfl, hR⟩)
              | 13, ho =>
                cases ho
                refine .inl ⟨by kernel_rfl, fun w hR => ?_⟩
                first | (go_simp; done) | (go_simp; exact ⟨rfl, hR⟩)
              | 14, ho =>
                cases ho
                refine .inl ⟨by kernel_rfl, fun w hR => ?_⟩
                exact ow_hxp _ _ rfl hR (g := W.heap.size) (cs := cs) (by simp) (5 + kk * 2) 2 _ (ext2 HT1.out.1 HT1.out.2) (by rw [HS1.out]; omega) rfl (by kernel_rfl) (by kernel_rfl) ⟨rfl, hR⟩
              | 15, ho =>
                cases ho
                refine .inl ⟨by kernel_rfl, fun w hR => ?_⟩
                first | (go_simp; done) | (go_simp; exact ⟨rfl, hR⟩)
              | 16, ho =>
                cases ho
                refine .inl ⟨by kernel_rfl, fun w hR => ?_⟩
                first | (go_simp; done) | (go_simp; exact ⟨rfl, hR⟩)
              | 17, ho =>
                cases ho
                refine .inl ⟨by kernel_rfl, fun w hR => ?_⟩
                first | (go_simp; done) | (go_simp; exact ⟨rfl, hR⟩)
              | 18, ho =>
                cases ho
                refine .inl ⟨by kernel_rfl, fun w hR => ?_⟩
                exact ow_hxp _ _ rfl hR (g := W.heap.size + 1) (cs := ds) (by simp) (5 + kk * 2) 2 _ (ext2 HT2.out.1 HT2.out.2) (by rw [HS2.out]; omega) rfl (by kernel_rfl) (by kernel_rfl) ⟨rfl, hR⟩
              | 19, ho =>
                cases ho
                refine .inl ⟨by kernel_rfl, fun w hR => ?_⟩
                exact ow_neq _ _ _ _ rfl rfl rfl (by kernel_rfl) ((neqT d d' c c' _).trans (by rw [HTq.out]; rfl)) ⟨rfl, hR⟩
              | 20, ho =>
                cases ho
                refine .inl ⟨by kernel_rfl, fun w hR => ?_⟩
                first | (go_simp; done) | (go_simp; exact ⟨rfl, hR⟩)
              | 21, ho =>
                cases ho
                refine .inl ⟨by kernel_rfl, fun w hR => ?_⟩
                first | (go_simp; done) | (go_simp; exact ⟨rfl, hR⟩)
              | 22, ho =>
                cases ho
                refine .inl ⟨by kernel_rfl, fun w hR => ?_⟩
                first | (go_simp; done) | (go_simp; exact ⟨rfl, hR⟩)
              | 23, ho =>
                cases ho
                refine .inl ⟨by kernel_rfl, fun w hR => ?_⟩
                first | (go_simp; done) | (go_simp; exact ⟨rfl, hR⟩)
              | 24, ho =>
                cases ho
                refine .inl ⟨by kernel_rfl, fun w hR => ?_⟩
                first | (go_simp; done) | (go_simp; exact ⟨rfl, hR⟩)
              | 25, ho =>
                cases ho
                refine .inl ⟨by kernel_rfl, fun w hR => ?_⟩
                exact ow_hxp _ _ rfl hR (g := W.heap.size) (cs := cs) (by simp) (37 + kk * 3) 3 _ (ext3 HC1.out.1 HC1.out.2.1 HC1.out.2.2) (by rw [HS1.out]; omega) rfl (by kernel_rfl) (by kernel_rfl) ⟨rfl, hR⟩
              | 26, ho =>
                cases ho
                refine .inl ⟨by kernel_rfl, fun w hR => ?_⟩
                first | (go_simp; done) | (go_simp; exact ⟨rfl, hR⟩)
              | 27, ho =>
                cases ho
                refine .inl ⟨by kernel_rfl, fun w hR => ?_⟩
                first | (go_simp; done) | (go_simp; exact ⟨rfl, hR⟩)
              | 28, ho =>
                cases ho
                refine .inl ⟨by kernel_rfl, fun w hR => ?_⟩
                first | (go_simp; done) | (go_simp; exact ⟨rfl, hR⟩)
              | 29, ho =>
                cases ho
                refine .inl ⟨by kernel_rfl, fun w hR => ?_⟩
                exact ow_hxp _ _ rfl hR (g := W.heap.size + 1) (cs := ds) (by simp) (37 + kk * 3) 3 _ (ext3 HC2.out.1 HC2.out.2.1 HC2.out.2.2) (by rw [HS2.out]; omega) rfl (by kernel_rfl) (by kernel_rfl) ⟨rfl, hR⟩
              | 30, ho =>
                cases ho
                refine .inl ⟨by kernel_rfl, fun w hR => ?_⟩
                exact ow_neq _ _ _ _ rfl rfl rfl (by kernel_rfl) ((neqC u u' l l' n n' _).trans (by rw [HCq.out]; rfl)) ⟨rfl, hR⟩
              | 31, ho =>
                cases ho
                refine .inl ⟨by kernel_rfl, fun w hR => ?_⟩
                first | (go_simp; done) | (go_simp; exact ⟨rfl, hR⟩)
              | i + 32, ho => simp at ho
            case hR4 => exact H3.out.drew
            case fin4 =>
              intro w4 h4
              have H4 := Lib.hid h4
              clear h4 H3
              go_wp2_with fail
              go_roundg (16 - (kk + 1))
              case measure => omega
              case rel => exact ⟨kk + 1, by omega, by omega, by go_num, H4, Lib.hid fun j hj => (by rcases Nat.lt_or_ge j kk with h | h; exact hno.out j h; obtain rfl : j = kk := (by omega); exact HN.out)⟩
    · have HRow := Lib.hid (show ∀ j, j < 16 → RowEq cs ds j from fun j hj => hno.out j (by omega))
      clear hno hgg
      have H1 := H3
      clear H3
      go_wp2_with fail
      go_loopg [6] 32 (fun gg s6 wr => ∃ kk : Nat, kk ≤ 32 ∧ 32 - kk ≤ gg ∧ s6 = .int .i64 kk ∧ Hid (Hx W [(W.heap.size + 1, ds), (W.heap.size, cs)] wr) ∧ Hid (∀ j, j < kk → cs[85 + j]? = ds[85 + j]?))
      case atStart => exact ⟨0, Nat.zero_le _, by omega, rfl, H1, Lib.hid fun j hj => by omega⟩
      case round =>
        clear H1 hlt hkk
        obtain ⟨kk, hkk, hgg, rfl, H3, hno⟩ := hrel
        by_cases hlt : kk < 32
        · obtain ⟨x, hx⟩ := HA.out.D kk hlt
          obtain ⟨y, hy⟩ := HB.out.D kk hlt
          have HRx := Lib.hid hx
          have HRy := Lib.hid hy
          clear hx hy
          by_cases hxy : x = y
          · subst hxy
            have HN := Lib.hid (show cs[85 + kk]? = ds[85 + kk]? from HRx.out.trans HRy.out.symm)
            go_wp2_with fail
            refine wp_region_vals (R := Hx W [(W.heap.size + 1, ds), (W.heap.size, cs)]) (aa := ?aa5) [(47, .int .i64 kk), (48, .pointer (some ⟨W.heap.size, 85, none⟩)), (49, .pointer (some ⟨W.heap.size, 85 + kk, none⟩)), (50, .int .i16 x), (51, .int .i64 kk), (52, .pointer (some ⟨W.heap.size + 1, 85, none⟩)), (53, .pointer (some ⟨W.heap.size + 1, 85 + kk, none⟩)), (54, .int .i16 x), (55, .bool false)] ?hL5 (by kernel_rfl) ?hv5 ?hD5 ?hR5 ?hdo5 ?fin5
            case hL5 =>
              simp only [putD, Act.put]
              go_simp
              rfl
            case hv5 => kernel_rfl
            case hD5 => kernel_rfl
            case hdo5 =>
              intro i o ho
              match i, ho with
              | 0, ho =>
                cases ho
                refine .inl ⟨by kernel_rfl, fun w hR => ?_⟩
                first | (go_simp; done) | (go_simp; exact ⟨rfl, hR⟩)
              | 1, ho =>
                cases ho
                refine .inl ⟨by kernel_rfl, fun w hR => ?_⟩
                first | (go_simp; done) | (go_simp; exact ⟨rfl, hR⟩)
              | 2, ho =>
                cases ho
                refine .inl ⟨by kernel_rfl, fun w hR => ?_⟩
                first | (go_simp; done) | (go_simp; exact ⟨rfl, hR⟩)
              | 3, ho =>
                cases ho
                refine .inl ⟨by kernel_rfl, fun w hR => ?_⟩
                exact ow_hxf _ _ rfl hR (g := W.heap.size) (cs := cs) (by simp) (85 + kk) (.int .i16 x) HRx.out rfl (by decide +kernel) ⟨rfl, hR⟩
              | 4, ho =>
                cases ho
                refine .inl ⟨by kernel_rfl, fun w hR => ?_⟩
                first | (go_simp; done) | (go_simp; exact ⟨rfl, hR⟩)
              | 5, ho =>
                cases ho
                refine .inl ⟨by kernel_rfl, fun w hR => ?_⟩
                first | (go_simp; done) | (go_simp; exact ⟨rfl, hR⟩)
              | 6, ho =>
                cases ho
                refine .inl ⟨by kernel_rfl, fun w hR => ?_⟩
                first | (go_simp; done) | (go_simp; exact ⟨rfl, hR⟩)
              | 7, ho =>
                cases ho
                refine .inl ⟨by kernel_rfl, fun w hR => ?_⟩
                exact ow_hxf _ _ rfl hR (g := W.heap.size + 1) (cs := ds) (by simp) (85 + kk) (.int .i16 x) HRy.out rfl (by decide +kernel) ⟨rfl, hR⟩
              | 8, ho =>
                cases ho
                refine .inl ⟨by kernel_rfl, fun w hR => ?_⟩
                first | (go_simp; done) | (go_simp; exact ⟨rfl, hR⟩) | (have hq := Hq.out; go_simp; done) | (have hq := Hq.out; go_simp; exact hR) | (have hq := Hq.out; go_simp; exact ⟨hq, hR⟩)
              | i + 9, ho => simp at ho
            case hR5 => exact H3.out.drew
            case fin5 =>
              intro w4 h4
              have H4 := Lib.hid h4
              clear h4 H3
              go_wp2_with fail
              go_roundg (32 - (kk + 1))
              case measure => omega
              case rel => exact ⟨kk + 1, by omega, by omega, by go_num, H4, Lib.hid fun j hj => (by rcases Nat.lt_or_ge j kk with h | h; exact hno.out j h; obtain rfl : j = kk := (by omega); exact HN.out)⟩
          · have HN := Lib.hid (show ¬ MemEq cs ds from not_mem (i := 85 + kk) (by omega) (.inl (by omega)) (by rw [HRx.out, HRy.out]; simpa using hxy))
            have Hq := Lib.hid hxy
            clear hxy
            go_wp2_with fail
            refine wp_region_vals (R := Hx W [(W.heap.size + 1, ds), (W.heap.size, cs)]) (aa := ?aa6) [(47, .int .i64 kk), (48, .pointer (some ⟨W.heap.size, 85, none⟩)), (49, .pointer (some ⟨W.heap.size, 85 + kk, none⟩)), (50, .int .i16 x), (51, .int .i64 kk), (52, .pointer (some ⟨W.heap.size + 1, 85, none⟩)), (53, .pointer (some ⟨W.heap.size + 1, 85 + kk, none⟩)), (54, .int .i16 y), (55, .bool true)] ?hL6 (by kernel_rfl) ?hv6 ?hD6 ?hR6 ?hdo6 ?fin6
            case hL6 =>
              simp only [putD, Act.put]
              go_simp
              rfl
            case hv6 => kernel_rfl
            case hD6 => kernel_rfl
            case hdo6 =>
              intro i o ho
              match i, ho with
              | 0, ho =>
                cases ho
                refine .inl ⟨by kernel_rfl, fun w hR => ?_⟩
                first | (go_simp; done) | (go_simp; exact ⟨rfl, hR⟩)
              | 1, ho =>
                cases ho
                refine .inl ⟨by kernel_rfl, fun w hR => ?_⟩
                first | (go_simp; done) | (go_simp; exact ⟨rfl, hR⟩)
              | 2, ho =>
                cases ho
                refine .inl ⟨by kernel_rfl, fun w hR => ?_⟩
                first | (go_simp; done) | (go_simp; exact ⟨rfl, hR⟩)
              | 3, ho =>
                cases ho
                refine .inl ⟨by kernel_rfl, fun w hR => ?_⟩
                exact ow_hxf _ _ rfl hR (g := W.heap.size) (cs := cs) (by simp) (85 + kk) (.int .i16 x) HRx.out rfl (by decide +kernel) ⟨rfl, hR⟩
              | 4, ho =>
                cases ho
                refine .inl ⟨by kernel_rfl, fun w hR => ?_⟩
                first | (go_simp; done) | (go_simp; exact ⟨rfl, hR⟩)
              | 5, ho =>
                cases ho
                refine .inl ⟨by kernel_rfl, fun w hR => ?_⟩
                first | (go_simp; done) | (go_simp; exact ⟨rfl, hR⟩)
              | 6, ho =>
                cases ho
                refine .inl ⟨by kernel_rfl, fun w hR => ?_⟩
                first | (go_simp; done) | (go_simp; exact ⟨rfl, hR⟩)
              | 7, ho =>
                cases ho
                refine .inl ⟨by kernel_rfl, fun w hR => ?_⟩
                exact ow_hxf _ _ rfl hR (g := W.heap.size + 1) (cs := ds) (by simp) (85 + kk) (.int .i16 y) HRy.out rfl (by decide +kernel) ⟨rfl, hR⟩
              | 8, ho =>
                cases ho
                refine .inl ⟨by kernel_rfl, fun w hR => ?_⟩
                first | (go_simp; done) | (go_simp; exact ⟨rfl, hR⟩) | (have hq := Hq.out; go_simp; done) | (have hq := Hq.out; go_simp; exact hR) | (have hq := Hq.out; go_simp; exact ⟨hq, hR⟩)
              | i + 9, ho => simp at ho
            case hR6 => exact H3.out.drew
            case fin6 =>
              intro w4 h4
              have H4 := Lib.hid h4
              clear h4 H3
              go_wp2_with fail
              go_ret
              exact ⟨false, rfl, ⟨fun h => (by cases h), fun h => absurd h HN.out⟩, H4.out.1⟩
        · have HD := Lib.hid (show ∀ j, j < 32 → cs[85 + j]? = ds[85 + j]? from fun j hj => hno.out j (by omega))
          clear hno hgg
          obtain ⟨v, hv, ht⟩ := HTa.out.all 0 (by decide)
          obtain ⟨a0, rfl⟩ := tv2 (v := v) (ht.trans (by decide : tags.getD 0 0 = 2))
          have cs_0 := Lib.hid hv
          clear hv ht
          obtain ⟨v, hv, ht⟩ := HTb.out.all 0 (by decide)
          obtain ⟨b0, rfl⟩ := tv2 (v := v) (ht.trans (by decide : tags.getD 0 0 = 2))
          have ds_0 := Lib.hid hv
          clear hv ht
          obtain ⟨v, hv, ht⟩ := HTa.out.all 1 (by decide)
          obtain ⟨a1, rfl⟩ := tv2 (v := v) (ht.trans (by decide : tags.getD 1 0 = 2))
          have cs_1 := Lib.hid hv
          clear hv ht
          obtain ⟨v, hv, ht⟩ := HTb.out.all 1 (by decide)
          obtain ⟨b1, rfl⟩ := tv2 (v := v) (ht.trans (by decide : tags.getD 1 0 = 2))
          have ds_1 := Lib.hid hv
          clear hv ht
          obtain ⟨v, hv, ht⟩ := HTa.out.all 2 (by decide)
          obtain ⟨a2, rfl⟩ := tv3 (v := v) (ht.trans (by decide : tags.getD 2 0 = 3))
          have cs_2 := Lib.hid hv
          clear hv ht
          obtain ⟨v, hv, ht⟩ := HTb.out.all 2 (by decide)
          obtain ⟨b2, rfl⟩ := tv3 (v := v) (ht.trans (by decide : tags.getD 2 0 = 3))
          have ds_2 := Lib.hid hv
          clear hv ht
          obtain ⟨v, hv, ht⟩ := HTa.out.all 3 (by decide)
          obtain ⟨a3, rfl⟩ := tv4 (v := v) (ht.trans (by decide : tags.getD 3 0 = 4))
          have cs_3 := Lib.hid hv
          clear hv ht
          obtain ⟨v, hv, ht⟩ := HTb.out.all 3 (by decide)
          obtain ⟨b3, rfl⟩ := tv4 (v := v) (ht.trans (by decide : tags.getD 3 0 = 4))
          have ds_3 := Lib.hid hv
          clear hv ht
          obtain ⟨v, hv, ht⟩ := HTa.out.all 4 (by decide)
          obtain ⟨a4, rfl⟩ := tv2 (v := v) (ht.trans (by decide : tags.getD 4 0 = 2))
          have cs_4 := Lib.hid hv
          clear hv ht
          obtain ⟨v, hv, ht⟩ := HTb.out.all 4 (by decide)
          obtain ⟨b4, rfl⟩ := tv2 (v := v) (ht.trans (by decide : tags.getD 4 0 = 2))
          have ds_4 := Lib.hid hv
          clear hv ht
          obtain ⟨v, hv, ht⟩ := HTa.out.all 133 (by decide)
          obtain ⟨a133, rfl⟩ := tv2 (v := v) (ht.trans (by decide : tags.getD 133 0 = 2))
          have cs_133 := Lib.hid hv
          clear hv ht
          obtain ⟨v, hv, ht⟩ := HTb.out.all 133 (by decide)
          obtain ⟨b133, rfl⟩ := tv2 (v := v) (ht.trans (by decide : tags.getD 133 0 = 2))
          have ds_133 := Lib.hid hv
          clear hv ht
          obtain ⟨v, hv, ht⟩ := HTa.out.all 134 (by decide)
          obtain ⟨a134, rfl⟩ := tv1 (v := v) (ht.trans (by decide : tags.getD 134 0 = 1))
          have cs_134 := Lib.hid hv
          clear hv ht
          obtain ⟨v, hv, ht⟩ := HTb.out.all 134 (by decide)
          obtain ⟨b134, rfl⟩ := tv1 (v := v) (ht.trans (by decide : tags.getD 134 0 = 1))
          have ds_134 := Lib.hid hv
          clear hv ht
          obtain ⟨v, hv, ht⟩ := HTa.out.all 135 (by decide)
          obtain ⟨a135, rfl⟩ := tv1 (v := v) (ht.trans (by decide : tags.getD 135 0 = 1))
          have cs_135 := Lib.hid hv
          clear hv ht
          obtain ⟨v, hv, ht⟩ := HTb.out.all 135 (by decide)
          obtain ⟨b135, rfl⟩ := tv1 (v := v) (ht.trans (by decide : tags.getD 135 0 = 1))
          have ds_135 := Lib.hid hv
          clear hv ht
          by_cases h0 : a0 = b0
          · subst h0
            by_cases h1 : a1 = b1
            · subst h1
              by_cases h2 : a2 = b2
              · subst h2
                by_cases h3 : a3 = b3
                · subst h3
                  by_cases h4 : a4 = b4
                  · subst h4
                    by_cases h133 : a133 = b133
                    · subst h133
                      by_cases h134 : a134 = b134
                      · subst h134
                        by_cases h135 : a135 = b135
                        · subst h135
                          have HN := Lib.hid (show MemEq cs ds from all_eq HRow.out HD.out (fun i hi => by
                              match i, hi with
                              | 0, _ => exact cs_0.out.trans ds_0.out.symm
                              | 1, _ => exact cs_1.out.trans ds_1.out.symm
                              | 2, _ => exact cs_2.out.trans ds_2.out.symm
                              | 3, _ => exact cs_3.out.trans ds_3.out.symm
                              | 4, _ => exact cs_4.out.trans ds_4.out.symm
                              ) (fun i hi => by
                              match i, hi with
                              | 0, _ => exact cs_133.out.trans ds_133.out.symm
                              | 1, _ => exact cs_134.out.trans ds_134.out.symm
                              | 2, _ => exact cs_135.out.trans ds_135.out.symm
                              ))
                          have e0 := H3.out.cell (g := W.heap.size) (cs := cs) (by simp) 0 cs_0.out
                          have f0 := H3.out.cell (g := W.heap.size + 1) (cs := ds) (by simp) 0 ds_0.out
                          have e1 := H3.out.cell (g := W.heap.size) (cs := cs) (by simp) 1 cs_1.out
                          have f1 := H3.out.cell (g := W.heap.size + 1) (cs := ds) (by simp) 1 ds_1.out
                          have e2 := H3.out.cell (g := W.heap.size) (cs := cs) (by simp) 2 cs_2.out
                          have f2 := H3.out.cell (g := W.heap.size + 1) (cs := ds) (by simp) 2 ds_2.out
                          have e3 := H3.out.cell (g := W.heap.size) (cs := cs) (by simp) 3 cs_3.out
                          have f3 := H3.out.cell (g := W.heap.size + 1) (cs := ds) (by simp) 3 ds_3.out
                          have e4 := H3.out.cell (g := W.heap.size) (cs := cs) (by simp) 4 cs_4.out
                          have f4 := H3.out.cell (g := W.heap.size + 1) (cs := ds) (by simp) 4 ds_4.out
                          have e133 := H3.out.cell (g := W.heap.size) (cs := cs) (by simp) 133 cs_133.out
                          have f133 := H3.out.cell (g := W.heap.size + 1) (cs := ds) (by simp) 133 ds_133.out
                          have e134 := H3.out.cell (g := W.heap.size) (cs := cs) (by simp) 134 cs_134.out
                          have f134 := H3.out.cell (g := W.heap.size + 1) (cs := ds) (by simp) 134 ds_134.out
                          have e135 := H3.out.cell (g := W.heap.size) (cs := cs) (by simp) 135 cs_135.out
                          have f135 := H3.out.cell (g := W.heap.size + 1) (cs := ds) (by simp) 135 ds_135.out
                          go_wp2_with fail
                          go_ret
                          exact ⟨true, by first | rfl | simp, ⟨fun _ => HN.out, fun _ => rfl⟩, H3.out.1⟩
                        · have HN := Lib.hid (show ¬ MemEq cs ds from not_mem (i := 135) (by omega) (.inr (by omega)) (by rw [cs_135.out, ds_135.out]; simpa using h135))
                          have q135 : (a135 == b135) = false := beq_eq_false_iff_ne.2 h135
                          have e0 := H3.out.cell (g := W.heap.size) (cs := cs) (by simp) 0 cs_0.out
                          have f0 := H3.out.cell (g := W.heap.size + 1) (cs := ds) (by simp) 0 ds_0.out
                          have e1 := H3.out.cell (g := W.heap.size) (cs := cs) (by simp) 1 cs_1.out
                          have f1 := H3.out.cell (g := W.heap.size + 1) (cs := ds) (by simp) 1 ds_1.out
                          have e2 := H3.out.cell (g := W.heap.size) (cs := cs) (by simp) 2 cs_2.out
                          have f2 := H3.out.cell (g := W.heap.size + 1) (cs := ds) (by simp) 2 ds_2.out
                          have e3 := H3.out.cell (g := W.heap.size) (cs := cs) (by simp) 3 cs_3.out
                          have f3 := H3.out.cell (g := W.heap.size + 1) (cs := ds) (by simp) 3 ds_3.out
                          have e4 := H3.out.cell (g := W.heap.size) (cs := cs) (by simp) 4 cs_4.out
                          have f4 := H3.out.cell (g := W.heap.size + 1) (cs := ds) (by simp) 4 ds_4.out
                          have e133 := H3.out.cell (g := W.heap.size) (cs := cs) (by simp) 133 cs_133.out
                          have f133 := H3.out.cell (g := W.heap.size + 1) (cs := ds) (by simp) 133 ds_133.out
                          have e134 := H3.out.cell (g := W.heap.size) (cs := cs) (by simp) 134 cs_134.out
                          have f134 := H3.out.cell (g := W.heap.size + 1) (cs := ds) (by simp) 134 ds_134.out
                          have e135 := H3.out.cell (g := W.heap.size) (cs := cs) (by simp) 135 cs_135.out
                          have f135 := H3.out.cell (g := W.heap.size + 1) (cs := ds) (by simp) 135 ds_135.out
                          go_wp2_with fail
                          go_ret
                          exact ⟨false, by first | rfl | (simp [q135]; done) | (simp [h135]; done), ⟨fun h => (by cases h), fun h => absurd h HN.out⟩, H3.out.1⟩
                      · have HN := Lib.hid (show ¬ MemEq cs ds from not_mem (i := 134) (by omega) (.inr (by omega)) (by rw [cs_134.out, ds_134.out]; simpa using h134))
                        have q134 : (a134 == b134) = false := beq_eq_false_iff_ne.2 h134
                        have e0 := H3.out.cell (g := W.heap.size) (cs := cs) (by simp) 0 cs_0.out
                        have f0 := H3.out.cell (g := W.heap.size + 1) (cs := ds) (by simp) 0 ds_0.out
                        have e1 := H3.out.cell (g := W.heap.size) (cs := cs) (by simp) 1 cs_1.out
                        have f1 := H3.out.cell (g := W.heap.size + 1) (cs := ds) (by simp) 1 ds_1.out
                        have e2 := H3.out.cell (g := W.heap.size) (cs := cs) (by simp) 2 cs_2.out
                        have f2 := H3.out.cell (g := W.heap.size + 1) (cs := ds) (by simp) 2 ds_2.out
                        have e3 := H3.out.cell (g := W.heap.size) (cs := cs) (by simp) 3 cs_3.out
                        have f3 := H3.out.cell (g := W.heap.size + 1) (cs := ds) (by simp) 3 ds_3.out
                        have e4 := H3.out.cell (g := W.heap.size) (cs := cs) (by simp) 4 cs_4.out
                        have f4 := H3.out.cell (g := W.heap.size + 1) (cs := ds) (by simp) 4 ds_4.out
                        have e133 := H3.out.cell (g := W.heap.size) (cs := cs) (by simp) 133 cs_133.out
                        have f133 := H3.out.cell (g := W.heap.size + 1) (cs := ds) (by simp) 133 ds_133.out
                        have e134 := H3.out.cell (g := W.heap.size) (cs := cs) (by simp) 134 cs_134.out
                        have f134 := H3.out.cell (g := W.heap.size + 1) (cs := ds) (by simp) 134 ds_134.out
                        go_wp2_with fail
                        go_ret
                        exact ⟨false, by first | rfl | (simp [q134]; done) | (simp [h134]; done), ⟨fun h => (by cases h), fun h => absurd h HN.out⟩, H3.out.1⟩
                    · have HN := Lib.hid (show ¬ MemEq cs ds from not_mem (i := 133) (by omega) (.inr (by omega)) (by rw [cs_133.out, ds_133.out]; simpa using h133))
                      have q133 : (a133 == b133) = false := beq_eq_false_iff_ne.2 h133
                      have e0 := H3.out.cell (g := W.heap.size) (cs := cs) (by simp) 0 cs_0.out
                      have f0 := H3.out.cell (g := W.heap.size + 1) (cs := ds) (by simp) 0 ds_0.out
                      have e1 := H3.out.cell (g := W.heap.size) (cs := cs) (by simp) 1 cs_1.out
                      have f1 := H3.out.cell (g := W.heap.size + 1) (cs := ds) (by simp) 1 ds_1.out
                      have e2 := H3.out.cell (g := W.heap.size) (cs := cs) (by simp) 2 cs_2.out
                      have f2 := H3.out.cell (g := W.heap.size + 1) (cs := ds) (by simp) 2 ds_2.out
                      have e3 := H3.out.cell (g := W.heap.size) (cs := cs) (by simp) 3 cs_3.out
                      have f3 := H3.out.cell (g := W.heap.size + 1) (cs := ds) (by simp) 3 ds_3.out
                      have e4 := H3.out.cell (g := W.heap.size) (cs := cs) (by simp) 4 cs_4.out
                      have f4 := H3.out.cell (g := W.heap.size + 1) (cs := ds) (by simp) 4 ds_4.out
                      have e133 := H3.out.cell (g := W.heap.size) (cs := cs) (by simp) 133 cs_133.out
                      have f133 := H3.out.cell (g := W.heap.size + 1) (cs := ds) (by simp) 133 ds_133.out
                      go_wp2_with fail
                      go_ret
                      exact ⟨false, by first | rfl | (simp [q133]; done) | (simp [h133]; done), ⟨fun h => (by cases h), fun h => absurd h HN.out⟩, H3.out.1⟩
                  · have HN := Lib.hid (show ¬ MemEq cs ds from not_mem (i := 4) (by omega) (.inl (by omega)) (by rw [cs_4.out, ds_4.out]; simpa using h4))
                    have q4 : (a4 == b4) = false := beq_eq_false_iff_ne.2 h4
                    have e0 := H3.out.cell (g := W.heap.size) (cs := cs) (by simp) 0 cs_0.out
                    have f0 := H3.out.cell (g := W.heap.size + 1) (cs := ds) (by simp) 0 ds_0.out
                    have e1 := H3.out.cell (g := W.heap.size) (cs := cs) (by simp) 1 cs_1.out
                    have f1 := H3.out.cell (g := W.heap.size + 1) (cs := ds) (by simp) 1 ds_1.out
                    have e2 := H3.out.cell (g := W.heap.size) (cs := cs) (by simp) 2 cs_2.out
                    have f2 := H3.out.cell (g := W.heap.size + 1) (cs := ds) (by simp) 2 ds_2.out
                    have e3 := H3.out.cell (g := W.heap.size) (cs := cs) (by simp) 3 cs_3.out
                    have f3 := H3.out.cell (g := W.heap.size + 1) (cs := ds) (by simp) 3 ds_3.out
                    have e4 := H3.out.cell (g := W.heap.size) (cs := cs) (by simp) 4 cs_4.out
                    have f4 := H3.out.cell (g := W.heap.size + 1) (cs := ds) (by simp) 4 ds_4.out
                    go_wp2_with fail
                    go_ret
                    exact ⟨false, by first | rfl | (simp [q4]; done) | (simp [h4]; done), ⟨fun h => (by cases h), fun h => absurd h HN.out⟩, H3.out.1⟩
                · have HN := Lib.hid (show ¬ MemEq cs ds from not_mem (i := 3) (by omega) (.inl (by omega)) (by rw [cs_3.out, ds_3.out]; simpa using h3))
                  have q3 : (a3 == b3) = false := beq_eq_false_iff_ne.2 h3
                  have e0 := H3.out.cell (g := W.heap.size) (cs := cs) (by simp) 0 cs_0.out
                  have f0 := H3.out.cell (g := W.heap.size + 1) (cs := ds) (by simp) 0 ds_0.out
                  have e1 := H3.out.cell (g := W.heap.size) (cs := cs) (by simp) 1 cs_1.out
                  have f1 := H3.out.cell (g := W.heap.size + 1) (cs := ds) (by simp) 1 ds_1.out
                  have e2 := H3.out.cell (g := W.heap.size) (cs := cs) (by simp) 2 cs_2.out
                  have f2 := H3.out.cell (g := W.heap.size + 1) (cs := ds) (by simp) 2 ds_2.out
                  have e3 := H3.out.cell (g := W.heap.size) (cs := cs) (by simp) 3 cs_3.out
                  have f3 := H3.out.cell (g := W.heap.size + 1) (cs := ds) (by simp) 3 ds_3.out
                  go_wp2_with fail
                  go_ret
                  exact ⟨false, by first | rfl | (simp [q3]; done) | (simp [h3]; done), ⟨fun h => (by cases h), fun h => absurd h HN.out⟩, H3.out.1⟩
              · have HN := Lib.hid (show ¬ MemEq cs ds from not_mem (i := 2) (by omega) (.inl (by omega)) (by rw [cs_2.out, ds_2.out]; simpa using h2))
                have q2 : (a2 == b2) = false := beq_eq_false_iff_ne.2 h2
                have e0 := H3.out.cell (g := W.heap.size) (cs := cs) (by simp) 0 cs_0.out
                have f0 := H3.out.cell (g := W.heap.size + 1) (cs := ds) (by simp) 0 ds_0.out
                have e1 := H3.out.cell (g := W.heap.size) (cs := cs) (by simp) 1 cs_1.out
                have f1 := H3.out.cell (g := W.heap.size + 1) (cs := ds) (by simp) 1 ds_1.out
                have e2 := H3.out.cell (g := W.heap.size) (cs := cs) (by simp) 2 cs_2.out
                have f2 := H3.out.cell (g := W.heap.size + 1) (cs := ds) (by simp) 2 ds_2.out
                go_wp2_with fail
                go_ret
                exact ⟨false, by first | rfl | (simp [q2]; done) | (simp [h2]; done), ⟨fun h => (by cases h), fun h => absurd h HN.out⟩, H3.out.1⟩
            · have HN := Lib.hid (show ¬ MemEq cs ds from not_mem (i := 1) (by omega) (.inl (by omega)) (by rw [cs_1.out, ds_1.out]; simpa using h1))
              have q1 : (a1 == b1) = false := beq_eq_false_iff_ne.2 h1
              have e0 := H3.out.cell (g := W.heap.size) (cs := cs) (by simp) 0 cs_0.out
              have f0 := H3.out.cell (g := W.heap.size + 1) (cs := ds) (by simp) 0 ds_0.out
              have e1 := H3.out.cell (g := W.heap.size) (cs := cs) (by simp) 1 cs_1.out
              have f1 := H3.out.cell (g := W.heap.size + 1) (cs := ds) (by simp) 1 ds_1.out
              go_wp2_with fail
              go_ret
              exact ⟨false, by first | rfl | (simp [q1]; done) | (simp [h1]; done), ⟨fun h => (by cases h), fun h => absurd h HN.out⟩, H3.out.1⟩
          · have HN := Lib.hid (show ¬ MemEq cs ds from not_mem (i := 0) (by omega) (.inl (by omega)) (by rw [cs_0.out, ds_0.out]; simpa using h0))
            have q0 : (a0 == b0) = false := beq_eq_false_iff_ne.2 h0
            have e0 := H3.out.cell (g := W.heap.size) (cs := cs) (by simp) 0 cs_0.out
            have f0 := H3.out.cell (g := W.heap.size + 1) (cs := ds) (by simp) 0 ds_0.out
            go_wp2_with fail
            go_ret
            exact ⟨false, by first | rfl | (simp [q0]; done) | (simp [h0]; done), ⟨fun h => (by cases h), fun h => absurd h HN.out⟩, H3.out.1⟩
end Go.Proofs.Ytcjlkekekalgdaa.part
