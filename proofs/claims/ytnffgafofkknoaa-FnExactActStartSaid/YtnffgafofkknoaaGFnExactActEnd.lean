/-
  The walk of 'FnExactActEnd': it returns true, whatever the memory.
  Conditions: none.
-/
import Derived.Test.YtnffgafofkknoaaBox
import Derived.Test.YtnffgafofkknoaaToMem
namespace Go.Proofs.Ytnffgafofkknoaa.part
open Go Go.RowKit
set_option linter.unusedVariables false
set_option linter.unusedSimpArgs false

section
variable {P : Program} {ops : Array Oper} {rest : List Oper} {o : Oper} {a : Act} {w W : World} {Q : Exit → Act → World → Prop} {t : TypeId} {cs old : Array Value} {g : Nat} {fr : Nat × Nat}
theorem wl_hld (hgd : o.guard = none) (ty : TypeId) (x : Operand) (ho : o.op = .load ty x) (hg : w.heap[g]? = some (.cells cs t fr)) (hx : a.eval x = .pointer (some ⟨g, 0, none⟩)) (hu : aggB P ty = true) (n : Nat) (hn : cs.size = n) (hi : (P.info? ty).map (·.size) = some n)
    (h : wpList P ops Q rest (a.put o.dst (.agg cs)) w) : wpList P ops Q (o :: rest) a w := by
  refine wpList_plain hgd fun _ hK => ?_
  have e := run_ldp (P := P) (ty := ty) (off := 0) (n := n) hg (by omega) (agg_run hu w) hi
  have e2 : cs.extract 0 (0 + n) = cs := by rw [← hn]; simp
  rw [e2] at e
  unfold Oper.wp execOp
  simp only [ho, hx, Instr.loadAt, Instr.sureAddr, Sem.run_bind, Sem.run_pure, Result.andThen_ok, e]
  exact hK _ _ h
theorem wl_hst (hgd : o.guard = none) (ty : TypeId) (x y : Operand) (ho : o.op = .store ty x y) (hg : w.heap[g]? = some (.cells old t (0, 0))) (hold : old.size = cs.size) (hx : a.eval x = .pointer (some ⟨g, 0, none⟩)) (hy : a.eval y = .agg cs) (h1 : ∀ x ∈ cs, x.oneCell' = true) (n : Nat) (hn : cs.size = n) (hi : (P.info? ty).map (·.size) = some n)
    (h : ∀ w1, w1.heap[g]? = some (.cells cs t (0, 0)) → Below g w w1 → wpList P ops Q rest (a.put o.dst undef) w1) : wpList P ops Q (o :: rest) a w := by
  refine wpList_plain hgd fun _ hK => ?_
  obtain ⟨w1, z1, e1, e2, e3, _, e5, e6⟩ := store_part (P := P) g 0 t cs.toList 0 old w hg (by simp; omega) (fun x hx => h1 x (Array.mem_toList_iff.1 hx))
  have ez : z1 = cs := by
    apply Array.ext (by omega)
    intro i k1 k2
    have := e5 i (by simpa using k2)
    rw [show 0 + 0 + i = i by omega, Array.getElem?_toList, Array.getElem?_eq_getElem k1, Array.getElem?_eq_getElem k2] at this
    exact Option.some.inj this
  subst ez
  have e : (storeVar ty ⟨g, 0, none⟩ (.agg z1)).run P w = .ok () w1 := by
    cases hq : P.info? ty with
    | none => simp [hq] at hi
    | some i =>
      have hs : i.size = z1.size := by rw [hn]; simpa [hq] using hi
      simp only [storeVar, sizeOf, typeInfo, Sem.run_bind, hq, Value.cells]
      simp [Sem.run_bind, hq, hs]
      simpa using e1
  unfold Oper.wp execOp
  simp only [ho, hx, hy, Instr.storeAt, Instr.sureAddr, Sem.run_bind, Sem.run_pure, Result.andThen_ok, e]
  exact hK _ _ (h w1 e2 e6)
end

theorem ended (cs : Array Value) (hs : Shape cs) : ∃ ce, cs.setIfInBounds 134 (.bool true) = ce ∧ Shape ce := ⟨_, rfl, hs.put_ran true⟩

set_option maxRecDepth 100000 in
theorem impl_end (cs ce : Array Value) (hc : cs.size = 136) (he : cs.setIfInBounds 134 (.bool true) = ce) (hs : Shape ce) (w : World) :
    Calls Try.prog 10 #[.agg cs] w fun e w' => e = .returned (.agg ce) ∧ Below w.heap.size w w' := by
  obtain ⟨z, hzs, hz⟩ := zero_run (P := Try.prog) (t := 43) (n := 136) (by kernel_rfl)
  have HC := Lib.hid hc
  have HZ := Lib.hid hzs
  have HE := Lib.hid he
  have HS := Lib.hid hs
  clear hc hzs he hs
  go_enter Try.func10, Try.ntmps10
  go_wp2_with (first | (with_reducible refine wl_genB (Bo.start1 43 cs z w (HZ.out.trans HC.out.symm)) ?_; intro w0 hb) | (refine wl_bst rfl _ _ _ rfl hb 134 (.bool true) rfl rfl rfl (by kernel_rfl) (by rw [HC.out]; decide) ?_; intro w1 hb1; rw [HE.out] at hb1) | (refine wl_bld rfl _ _ rfl hb1 rfl (by kernel_rfl) 136 HS.out.size (by kernel_rfl) ?_) | (refine wl_bsto rfl _ _ _ rfl hb1 rfl rfl HS.out.one 136 HS.out.size (by kernel_rfl) ?_; intro w2 h2))
  refine bodyPost_ret (v := .agg ce) (results_cell_row Try.results10 _ _ (w.heap.size + 1) 43 ce (0, 0) _ rfl h2.1 Try.underlying43 rfl (by rw [HS.out.size]; kernel_rfl)) rfl ⟨rfl, h2.2⟩
set_option maxRecDepth 100000 in
theorem spec_end (cs ce : Array Value) (hc : cs.size = 136) (he : cs.setIfInBounds 134 (.bool true) = ce) (hs : Shape ce) (w : World) :
    Calls Try.prog 9 #[.agg cs] w fun e w' => e = .returned (.agg ce) ∧ Below w.heap.size w w' := by
  obtain ⟨z, hzs, hz⟩ := zero_run (P := Try.prog) (t := 43) (n := 136) (by kernel_rfl)
  have HC := Lib.hid hc
  have HZ := Lib.hid hzs
  have HE := Lib.hid he
  have HS := Lib.hid hs
  clear hc hzs he hs
  go_enter Try.func9, Try.ntmps9
  go_wp2_with (first | (with_reducible refine wl_genB (Bo.start1 43 cs z w (HZ.out.trans HC.out.symm)) ?_; intro w0 hb) | (refine wl_bst rfl _ _ _ rfl hb 134 (.bool true) rfl rfl rfl (by kernel_rfl) (by rw [HC.out]; decide) ?_; intro w1 hb1; rw [HE.out] at hb1) | (refine wl_bld rfl _ _ rfl hb1 rfl (by kernel_rfl) 136 HS.out.size (by kernel_rfl) ?_) | (refine wl_bsto rfl _ _ _ rfl hb1 rfl rfl HS.out.one 136 HS.out.size (by kernel_rfl) ?_; intro w2 h2))
  refine bodyPost_ret (v := .agg ce) (results_cell_row Try.results9 _ _ (w.heap.size + 1) 43 ce (0, 0) _ rfl h2.1 Try.underlying43 rfl (by rw [HS.out.size]; kernel_rfl)) rfl ⟨rfl, h2.2⟩
end Go.Proofs.Ytnffgafofkknoaa.part

namespace Go.Proofs.Ytnffgafofkknoaa.fnExactActEnd
open Go Go.RowKit Go.Proofs.Ytnffgafofkknoaa.part
set_option linter.unusedVariables false
set_option linter.unusedSimpArgs false

set_option maxRecDepth 100000 in
theorem walk (W : World) (base : Nat) (v0 : Value) (o0 : Value.okWide Try.prog W .any base 36 v0) :
    Calls Try.prog 4 #[v0] W fun e w' => e = .returned (.bool true) ∧ Below W.heap.size W w' := by
  obtain ⟨cs, rfl, hs⟩ := shape_of o0
  obtain ⟨ce, he, hse⟩ := ended cs hs
  obtain ⟨z, hzs, hz⟩ := zero_run (P := Try.prog) (t := 43) (n := 136) (by kernel_rfl)
  have HZ := Lib.hid hzs
  have HS := Lib.hid hs
  have HE := Lib.hid he
  have HSE := Lib.hid hse
  clear o0 hs he hse hzs
  go_enter Try.func4, Try.ntmps4
  go_wp2_with (refine wl_hld rfl _ _ rfl (kit.box_new W _ _) rfl (by kernel_rfl) 136 HS.out.size (by kernel_rfl) ?_)
  refine (toMem cs HS.out.size HS.out.one _).mono ?_
  rintro e w1 ⟨rfl, h1⟩
  have k1 := kit.box_keep (kit.box_new W _ _) h1 (by simp)
  have B1 := Lib.hid (((Below.refl W.heap.size W).alloc (Nat.le_refl _) (.cells cs 36)).trans (h1.mono (by simp)))
  have K1 := Lib.hid k1
  clear h1 k1
  go_wp2_with fail
  refine (spec_end cs ce HS.out.size HE.out HSE.out _).mono ?_
  rintro e w2 ⟨rfl, h2⟩
  have K2 := Lib.hid (kit.box_keep K1.out h2 (kit.box_lt K1.out))
  have B2 := Lib.hid (B1.out.trans (h2.mono B1.out.size))
  clear h2 K1 B1
  go_wp2_with (first | (refine wl_hst (cs := ce) rfl _ _ _ rfl (kit.box_new w2 z _) (HZ.out.trans HSE.out.size.symm) rfl rfl HSE.out.one 136 HSE.out.size (by kernel_rfl) ?_; intro w3 h3 b3; have K3 := (b3.block _ (kit.box_lt K2.out)).trans ((heap_alloc_old w2 (.cells z 43) (kit.box_lt K2.out)).trans K2.out)) | (refine wl_hld rfl _ _ rfl K3 rfl (by kernel_rfl) 136 HS.out.size (by kernel_rfl) ?_))
  have H3 := Lib.hid h3
  have B3 := Lib.hid ((B2.out.alloc B2.out.size (.cells z 43)).trans (b3.mono B2.out.size))
  have S3 := Lib.hid (show w2.heap.size < w3.heap.size from kit.box_lt h3)
  clear h3 b3 K3 B2 K2
  refine (toMem cs HS.out.size HS.out.one _).mono ?_
  rintro e w4 ⟨rfl, h4⟩
  have H4 := Lib.hid (kit.box_keep H3.out h4 S3.out)
  have B4 := Lib.hid (B3.out.trans (h4.mono B3.out.size))
  clear h4 H3 B3 S3
  go_wp2_with fail
  refine (impl_end cs ce HS.out.size HE.out HSE.out _).mono ?_
  rintro e w5 ⟨rfl, h5⟩
  have H5 := Lib.hid (kit.box_keep H4.out h5 (kit.box_lt H4.out))
  have B5 := Lib.hid (B4.out.trans (h5.mono B4.out.size))
  clear h5 H4 B4
  go_wp2_with (first | (refine wl_hst (cs := ce) rfl _ _ _ rfl (kit.box_new w5 z _) (HZ.out.trans HSE.out.size.symm) rfl rfl HSE.out.one 136 HSE.out.size (by kernel_rfl) ?_; intro w6 h6 b6; have K6 := (b6.block _ (kit.box_lt H5.out)).trans ((heap_alloc_old w5 (.cells z 43) (kit.box_lt H5.out)).trans H5.out)) | (refine wl_hld rfl _ _ rfl h6 rfl (by kernel_rfl) 136 HSE.out.size (by kernel_rfl) ?_) | (refine wl_hld rfl _ _ rfl K6 rfl (by kernel_rfl) 136 HSE.out.size (by kernel_rfl) ?_))
  have B6 := Lib.hid ((B5.out.alloc B5.out.size (.cells z 43)).trans (b6.mono B5.out.size))
  clear b6 B5
  refine (eqMem ce HSE.out _).mono ?_
  rintro e w7 ⟨rfl, h7⟩
  go_wp2_with fail
  go_ret
  exact ⟨rfl, B6.out.trans (h7.mono B6.out.size)⟩
end Go.Proofs.Ytnffgafofkknoaa.fnExactActEnd
