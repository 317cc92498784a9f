/-
  'l4Any', 'l4Half', 'DrawElemIsCoil' of the draws: some contact or coil comes back, spoilt or not.
  Conditions: a code of at most 1048576 bytes.
-/
import Derived.Test.YtgmdpgchffapoaaDoorElemCoil
import Derived.Test.YtgmdpgchffapoaaDoorElemCon
import Derived.Test.YtgmdpgchffapoaaDoorElemSpo
namespace Go.Proofs.YtgmdpgchffapoaaDoor.draws
open Go Go.RowKit Go.Proofs.YtgmdpgchffapoaaDoor.part Go.Proofs.YtgmdpgchffapoaaDoor.CutEk Go.Proofs.YtgmdpgchffapoaaDoorW.PrintWords
set_option linter.unusedVariables false
set_option linter.unusedSimpArgs false
set_option maxRecDepth 100000

section
variable {B : Base} {w : World} {g : Nat} {n : Int} {bs : List (Nat × Array Value × TypeId)}
theorem Gx.coil (h : Gx B g n bs w) (hn : n < 50000) : Calls Tryd.prog 49 #[.pointer (some ⟨g, 0, none⟩)] w fun e w' => ∃ (op : Int) (A : Option Addr) (c : Nat) (Y : List S31), e = .returned (.agg #[.int .i64 op, .slice A Y.length c]) ∧ Y.length ≤ c ∧ Y.length ≤ 3 ∧ Foot w' g A Y ∧ Fr w.heap.size A Y ∧ Gx B g (n + 40) bs w' :=
  (coil_w h.rd hn).mono fun e w' ⟨op, A, c, Y, e1, h1, h2, h3, h4, h5⟩ => ⟨op, A, c, Y, e1, h1, h2, h3, h4, h.step h5⟩
theorem Gx.contact (h : Gx B g n bs w) (hn : n < 50000) : Calls Tryd.prog 50 #[.pointer (some ⟨g, 0, none⟩)] w fun e w' => ∃ (op : Int) (A : Option Addr) (c : Nat) (Y : List S31), e = .returned (.agg #[.int .i64 op, .slice A Y.length c]) ∧ Y.length ≤ c ∧ Y.length ≤ 3 ∧ Foot w' g A Y ∧ Fr w.heap.size A Y ∧ Gx B g (n + 40) bs w' :=
  (contact_w h.rd hn).mono fun e w' ⟨op, A, c, Y, e1, h1, h2, h3, h4, h5⟩ => ⟨op, A, c, Y, e1, h1, h2, h3, h4, h.step h5⟩
theorem Gx.spoil (h : Gx B g n bs w) (hn : n < 50000) (op : Int) (A : Option Addr) (c : Nat) (Y : List S31) (z : Nat) (hc : Y.length ≤ c) (hz : Y.length ≤ z) (hz2 : z ≤ 900) (hF : Foot w g A Y) : Calls Tryd.prog 37 #[.pointer (some ⟨g, 0, none⟩), .agg #[.int .i64 op, .slice A Y.length c]] w fun e w' => ∃ (op : Int) (A : Option Addr) (c : Nat) (Y' : List S31), e = .returned (.agg #[.int .i64 op, .slice A Y'.length c]) ∧ Y'.length ≤ c ∧ Y'.length ≤ z + 1 ∧ Foot w' g A Y' ∧ Fr w.heap.size A Y' ∧ Gx B g (n + 20) bs w' :=
  (spoil_w h.rd hn op A c Y z hc hz hz2 hF).mono fun e w' ⟨op, A, c, Y, e1, h1, h2, h3, h4, h5⟩ => ⟨op, A, c, Y, e1, h1, h2, h3, h4, h.step h5⟩
theorem wl_hk {P : Program} {ops : Array Oper} {rest : List Oper} {o : Oper} {a : Act} {w : World} {Q : Exit → Act → World → Prop} {b : Nat} {old : Array Value} {t : TypeId} (hgd : o.guard = none) (ty : TypeId) (x y : Operand) (ho : o.op = .store ty x y) (hb : w.heap[b]? = some (.cells old t (0, 0))) (hx : a.eval x = .pointer (some ⟨b, 0, none⟩)) (cs : Array Value) (hy : a.eval y = .agg cs) (h1 : ∀ v ∈ cs, v.oneCell' = true) (hz : old.size = cs.size) (hi : (P.info? ty).map (·.size) = some cs.size)
    (h : ∀ w1, w1.heap[b]? = some (.cells cs t (0, 0)) → KeepBut w w1 b none → Below b w w1 → wpList P ops Q rest (a.put o.dst undef) w1) : wpList P ops Q (o :: rest) a w := by
  refine wpList_plain hgd fun _ hK => ?_
  obtain ⟨w1, a1, a2, a3, a4⟩ := storeL (P := P) b 0 t cs.toList 0 _ w hb (by simp; omega) (fun v hv => h1 v (Array.mem_toList_iff.1 hv))
  rw [Nat.zero_add, putL_whole _ _ hz] at a2
  have e : (storeVar ty ⟨b, 0, none⟩ (.agg cs)).run P w = .ok () w1 := by
    cases hq : P.info? ty with
    | none => simp [hq] at hi
    | some i =>
      have hs : i.size = cs.size := by simpa [hq] using hi
      simp only [storeVar, sizeOf, typeInfo, Sem.run_bind, hq, Value.cells]
      simp [Sem.run_bind, hq, hs]
      simpa using a1
  unfold Oper.wp execOp
  simp only [ho, hx, hy, Instr.storeAt, Instr.sureAddr, Sem.run_bind, Sem.run_pure, Result.andThen_ok, e]
  exact hK _ _ (h w1 a2 ⟨a4.size, fun i _ hi _ => a3 i hi⟩ a4)
theorem Fr.le {n m : Nat} {A : Option Addr} {Y : List S31} (h : Fr n A Y) (hm : m ≤ n) : Fr m A Y := fun ad e h0 => Nat.le_trans hm (h ad e h0)
end
set_option maxHeartbeats 4000000 in
theorem any_elem {B : Base} {w : World} {g : Nat} {n : Int} (h : Rd B w g n) (hn : n < 40000) : Calls Tryd.prog 35 #[.pointer (some ⟨g, 0, none⟩)] w (AnyElem ⟨B.w0, w⟩ g (n + 110) 4) := by
  have HB0 := Lib.hid hn
  have G0 := Lib.hid ((gx_nil h).box #[.int .i64 0, .slice none 0 0] 25)
  have E0 := Lib.hid (size_alloc w (.cells #[.int .i64 0, .slice none 0 0] 25))
  have LG := Lib.hid h.lt
  clear h hn
  go_enter Tryd.func35, Tryd.ntmps35
  go_wp2_with fail
  refine (G0.out.coil (by have := HB0.out; omega)).mono ?_
  rintro e w1 ⟨op, A, c, Y, rfl, hc, hz, hF, hf, G1⟩
  have LB := Lib.hid (G1.lt (b := w.heap.size) (cs := #[.int .i64 0, .slice none 0 0]) (t := 25) (by simp))
  have H1 := Lib.hid (G1.box #[.int .i64 op, .slice A Y.length c] 25)
  have F1 := Lib.hid (hF.step (KeepBut.of_below ((Below.refl w1.heap.size w1).alloc (Nat.le_refl _) (.cells #[.int .i64 op, .slice A Y.length c] 25)) g none))
  have R1 := Lib.hid (show Fr (w.heap.size + 1) A Y from by rw [← E0.out]; exact hf)
  have C1 := Lib.hid (⟨hc, hz⟩ : _ ∧ _)
  clear G1 hF hf hc hz G0 E0
  go_wp2_with fail
  refine (H1.out.pickF (by have := HB0.out; omega) 2 (by decide) F1.out).mono ?_
  rintro e w2 ⟨j, rfl, hj, G2, hF2⟩
  have H2 := Lib.hid G2
  have F2 := Lib.hid hF2
  clear G2 hF2 H1 F1
  by_cases hj0 : j = 0
  · subst hj0
    clear hj
    go_wp2_with fail
    refine (H2.out.contact (by have := HB0.out; omega)).mono ?_
    rintro e w3 ⟨op3, A3, c3, Y3, rfl, hc3, hz3, hF3, hf3, G3⟩
    have H3 := Lib.hid G3
    have F3 := Lib.hid hF3
    have R3 := Lib.hid (hf3.le (show w1.heap.size + 1 ≤ w2.heap.size from H2.out.lt (b := w1.heap.size) (cs := #[.int .i64 op, .slice A Y.length c]) (t := 25) (by simp)))
    have C3 := Lib.hid (⟨hc3, hz3⟩ : _ ∧ _)
    clear G3 hF3 hf3 hc3 hz3 H2 F2 R1 C1
    go_upto_region 4 with (refine wl_gstK rfl _ _ _ rfl H3.out (b := w1.heap.size) (old := #[.int .i64 op, .slice A Y.length c]) (t := 25) (by simp) rfl #[.int .i64 op3, .slice A3 Y3.length c3] rfl (elem_one _ _ _ _) rfl (by kernel_rfl) [(w.heap.size, #[.int .i64 0, .slice none 0 0], 25)] (by simp; first | done | (have := LB.out; omega)) ?_; intro w4 G4 K4)
    have H4 := Lib.hid G4
    have F4 := Lib.hid (F3.out.set R3.out (Nat.lt_succ_self _) (by have := LG.out; have := LB.out; omega) K4)
    have R4 := Lib.hid (R3.out.le (show w.heap.size + 1 ≤ w1.heap.size + 1 by have := LB.out; omega))
    clear G4 K4 H3 F3 R3
    go_wp2_with fail
    refine (H4.out.pickF (by have := HB0.out; omega) 16 (by decide) F4.out).mono ?_
    rintro e wr ⟨k, rfl, hk, GR, FR⟩
    have HR := Lib.hid GR
    have HF := Lib.hid FR
    clear GR FR H4 F4
    by_cases hk0 : k = 0
    · subst hk0
      clear hk
      go_wp2_with (refine wl_gld rfl _ _ rfl HR.out (b := w1.heap.size) (cs := #[.int .i64 op3, .slice A3 Y3.length c3]) (t := 25) (by simp) rfl (by kernel_rfl) (by kernel_rfl) ?_)
      refine (HR.out.spoil (by have := HB0.out; omega) op3 A3 c3 Y3 3 C3.out.1 C3.out.2 (by decide) HF.out).mono ?_
      rintro e ws ⟨op9, A9, c9, Y9, rfl, hc9, hz9, hF9, hf9, GS⟩
      have H9 := Lib.hid GS
      have F9 := Lib.hid hF9
      have R9 := Lib.hid (hf9.le (show w.heap.size + 1 ≤ wr.heap.size by have := LB.out; have := HR.out.lt (b := w1.heap.size) (cs := #[.int .i64 op3, .slice A3 Y3.length c3]) (t := 25) (by simp); omega))
      have C9 := Lib.hid (⟨hc9, hz9⟩ : _ ∧ _)
      clear GS hF9 hf9 hc9 hz9
      go_wp2_with (refine wl_gstK rfl _ _ _ rfl H9.out (b := w.heap.size) (old := #[.int .i64 0, .slice none 0 0]) (t := 25) (by simp) rfl #[.int .i64 op9, .slice A9 Y9.length c9] rfl (elem_one _ _ _ _) rfl (by kernel_rfl) [] (by simp; first | done | (have := LB.out; omega)) ?_; intro w10 G10 K10)
      refine bodyPost_ret (v := .agg #[.int .i64 op9, .slice A9 Y9.length c9]) (results_cell_row Tryd.results35 _ _ w.heap.size 25 #[.int .i64 op9, .slice A9 Y9.length c9] (0, 0) _ rfl (G10.2 (w.heap.size, #[.int .i64 op9, .slice A9 Y9.length c9], 25) (by simp)).1 Tryd.underlying25 rfl (by kernel_rfl)) rfl ?_
      exact ⟨op9, A9, c9, Y9, rfl, C9.out.1, by have := C9.out.2; omega, F9.out.set R9.out (Nat.lt_succ_self _) (Nat.lt_succ_of_lt LG.out) K10, R9.out.le (Nat.le_succ _), G10.1.le (by omega)⟩
    · have bk0 : ((k : Int) == 0) = false := beq_eq_false_iff_ne.2 (by omega)
      clear hk hk0
      go_wp2_with (first | (refine wl_gld rfl _ _ rfl HR.out (b := w1.heap.size) (cs := #[.int .i64 op3, .slice A3 Y3.length c3]) (t := 25) (by simp) rfl (by kernel_rfl) (by kernel_rfl) ?_) | (refine wl_gstK rfl _ _ _ rfl HR.out (b := w.heap.size) (old := #[.int .i64 0, .slice none 0 0]) (t := 25) (by simp) rfl #[.int .i64 op3, .slice A3 Y3.length c3] rfl (elem_one _ _ _ _) rfl (by kernel_rfl) [] (by simp; first | done | (have := LB.out; omega)) ?_; intro w10 G10 K10))
      refine bodyPost_ret (v := .agg #[.int .i64 op3, .slice A3 Y3.length c3]) (results_cell_row Tryd.results35 _ _ w.heap.size 25 #[.int .i64 op3, .slice A3 Y3.length c3] (0, 0) _ rfl (G10.2 (w.heap.size, #[.int .i64 op3, .slice A3 Y3.length c3], 25) (by simp)).1 Tryd.underlying25 rfl (by kernel_rfl)) rfl ?_
      exact ⟨op3, A3, c3, Y3, rfl, C3.out.1, by have := C3.out.2; omega, HF.out.set R4.out (Nat.lt_succ_self _) (Nat.lt_succ_of_lt LG.out) K10, R4.out.le (Nat.le_succ _), G10.1.le (by omega)⟩
  · have bj0 : ((j : Int) == 0) = false := beq_eq_false_iff_ne.2 (by omega)
    clear hj hj0
    go_wp2_with fail
    refine (H2.out.pickF (by have := HB0.out; omega) 16 (by decide) F2.out).mono ?_
    rintro e wr ⟨k, rfl, hk, GR, FR⟩
    have HR := Lib.hid GR
    have HF := Lib.hid FR
    clear GR FR H2 F2
    by_cases hk0 : k = 0
    · subst hk0
      clear hk
      go_wp2_with (refine wl_gld rfl _ _ rfl HR.out (b := w1.heap.size) (cs := #[.int .i64 op, .slice A Y.length c]) (t := 25) (by simp) rfl (by kernel_rfl) (by kernel_rfl) ?_)
      refine (HR.out.spoil (by have := HB0.out; omega) op A c Y 3 C1.out.1 C1.out.2 (by decide) HF.out).mono ?_
      rintro e ws ⟨op9, A9, c9, Y9, rfl, hc9, hz9, hF9, hf9, GS⟩
      have H9 := Lib.hid GS
      have F9 := Lib.hid hF9
      have R9 := Lib.hid (hf9.le (show w.heap.size + 1 ≤ wr.heap.size by have := LB.out; have := HR.out.lt (b := w1.heap.size) (cs := #[.int .i64 op, .slice A Y.length c]) (t := 25) (by simp); omega))
      have C9 := Lib.hid (⟨hc9, hz9⟩ : _ ∧ _)
      clear GS hF9 hf9 hc9 hz9
      go_wp2_with (refine wl_gstK rfl _ _ _ rfl H9.out (b := w.heap.size) (old := #[.int .i64 0, .slice none 0 0]) (t := 25) (by simp) rfl #[.int .i64 op9, .slice A9 Y9.length c9] rfl (elem_one _ _ _ _) rfl (by kernel_rfl) [] (by simp; first | done | (have := LB.out; omega)) ?_; intro w10 G10 K10)
      refine bodyPost_ret (v := .agg #[.int .i64 op9, .slice A9 Y9.length c9]) (results_cell_row Tryd.results35 _ _ w.heap.size 25 #[.int .i64 op9, .slice A9 Y9.length c9] (0, 0) _ rfl (G10.2 (w.heap.size, #[.int .i64 op9, .slice A9 Y9.length c9], 25) (by simp)).1 Tryd.underlying25 rfl (by kernel_rfl)) rfl ?_
      exact ⟨op9, A9, c9, Y9, rfl, C9.out.1, by have := C9.out.2; omega, F9.out.set R9.out (Nat.lt_succ_self _) (Nat.lt_succ_of_lt LG.out) K10, R9.out.le (Nat.le_succ _), G10.1.le (by omega)⟩
    · have bk0 : ((k : Int) == 0) = false := beq_eq_false_iff_ne.2 (by omega)
      clear hk hk0
      go_wp2_with (first | (refine wl_gld rfl _ _ rfl HR.out (b := w1.heap.size) (cs := #[.int .i64 op, .slice A Y.length c]) (t := 25) (by simp) rfl (by kernel_rfl) (by kernel_rfl) ?_) | (refine wl_gstK rfl _ _ _ rfl HR.out (b := w.heap.size) (old := #[.int .i64 0, .slice none 0 0]) (t := 25) (by simp) rfl #[.int .i64 op, .slice A Y.length c] rfl (elem_one _ _ _ _) rfl (by kernel_rfl) [] (by simp; first | done | (have := LB.out; omega)) ?_; intro w10 G10 K10))
      refine bodyPost_ret (v := .agg #[.int .i64 op, .slice A Y.length c]) (results_cell_row Tryd.results35 _ _ w.heap.size 25 #[.int .i64 op, .slice A Y.length c] (0, 0) _ rfl (G10.2 (w.heap.size, #[.int .i64 op, .slice A Y.length c], 25) (by simp)).1 Tryd.underlying25 rfl (by kernel_rfl)) rfl ?_
      exact ⟨op, A, c, Y, rfl, C1.out.1, by have := C1.out.2; omega, HF.out.set R1.out (Nat.lt_succ_self _) (Nat.lt_succ_of_lt LG.out) K10, R1.out.le (Nat.le_succ _), G10.1.le (by omega)⟩
set_option maxHeartbeats 4000000 in
theorem half_elem {W : World} {A0 : Option Addr} {l : List Int} {c0 : Nat} (hr : ReadsInt W .u8 A0 l.length l) (hc0 : l.length ≤ c0) (hl : l.length ≤ 1048576) (hb : ∀ x ∈ l, (Lit.int .u8 x).wf = true) :
    Calls Tryd.prog 13 #[.slice A0 l.length c0] W fun e w' => ∃ (op : Int) (A : Option Addr) (c : Nat) (Y : List S31), e = .returned (.agg #[.int .i64 op, .slice A Y.length c]) ∧ Y.length ≤ c ∧ Y.length ≤ 5 ∧ Kd.C k31 w' A Y.length Y ∧ Fr W.heap.size A Y ∧ Below W.heap.size W w' := by
  have HC := Lib.hid (⟨hr, hc0, hl, hb⟩ : _ ∧ _ ∧ _ ∧ _)
  clear hr hc0 hl hb
  have Z1 := Lib.hid (heap_alloc_new W (.cells #[.int .i64 0, .slice none 0 0] 25))
  have E0 := Lib.hid (size_alloc W (.cells #[.int .i64 0, .slice none 0 0] 25))
  go_enter Tryd.func13, Tryd.ntmps13
  go_wp2_with fail
  refine (open_w (W := W) ((Below.refl _ _).alloc (Nat.le_refl _) _) HC.out.1 HC.out.2.1 HC.out.2.2.1 HC.out.2.2.2).mono ?_
  rintro e w1 ⟨g, rfl, i1, i3⟩
  have e1 : w1.heap[W.heap.size]? = some (.cells #[.int .i64 0, .slice none 0 0] 25 (0, 0)) := (i3.block _ (by rw [E0.out]; exact Nat.lt_succ_self _)).trans Z1.out
  have hg : W.heap.size ≠ g := fun e => by
    obtain ⟨l, p, ⟨A0, cc, x1, _⟩, _⟩ := i1
    rw [← e, e1] at x1
    simp at x1
  have H1 : Hid (Gx ⟨W, W⟩ g 0 [(W.heap.size, #[.int .i64 0, .slice none 0 0], 25)] w1) := Lib.hid ⟨i1, by
    intro q hq
    rw [List.mem_singleton] at hq
    subst hq
    exact ⟨e1, hg, Nat.le_refl _, Nat.le_refl _⟩⟩
  clear e1 i1 i3 hg Z1 E0 HC
  go_wp2_with fail
  refine (any_elem H1.out.rd (by decide)).mono ?_
  rintro e w2 ⟨op, A, c, Y, rfl, hc, hz, hF, hf, h4⟩
  have G2 := H1.out.step h4
  have LB := Lib.hid (G2.lt (b := W.heap.size) (cs := #[.int .i64 0, .slice none 0 0]) (t := 25) (by simp))
  have H2 := Lib.hid (G2.box #[.int .i64 op, .slice A Y.length c] 25)
  have F2 := Lib.hid (hF.step (KeepBut.of_below ((Below.refl w2.heap.size w2).alloc (Nat.le_refl _) (.cells #[.int .i64 op, .slice A Y.length c] 25)) g none))
  have L1 := Lib.hid (H1.out.lt (b := W.heap.size) (cs := #[.int .i64 0, .slice none 0 0]) (t := 25) (by simp))
  have R2 := Lib.hid (show Fr w1.heap.size A Y from hf)
  have LG := Lib.hid H1.out.1.lt
  have C2 := Lib.hid (⟨hc, hz⟩ : _ ∧ _)
  clear G2 hF hf h4 hc hz H1
  go_wp2_with fail
  refine (H2.out.pickF (by decide) 2 (by decide) F2.out).mono ?_
  rintro e wr ⟨k, rfl, hk, GR, FR⟩
  have HR := Lib.hid GR
  have HF := Lib.hid FR
  clear GR FR H2 F2
  by_cases hk0 : k = 0
  · subst hk0
    clear hk
    go_wp2_with (refine wl_gld rfl _ _ rfl HR.out (b := w2.heap.size) (cs := #[.int .i64 op, .slice A Y.length c]) (t := 25) (by simp) rfl (by kernel_rfl) (by kernel_rfl) ?_)
    refine (HR.out.spoil (by decide) op A c Y 4 C2.out.1 C2.out.2 (by decide) HF.out).mono ?_
    rintro e ws ⟨op9, A9, c9, Y9, rfl, hc9, hz9, hF9, hf9, GS⟩
    have H9 := Lib.hid GS
    have F9 := Lib.hid hF9
    have R9 := Lib.hid (hf9.le (show W.heap.size + 1 ≤ wr.heap.size by have := LB.out; have := HR.out.lt (b := w2.heap.size) (cs := #[.int .i64 op, .slice A Y.length c]) (t := 25) (by simp); omega))
    have R9full : Hid (Fr wr.heap.size A9 Y9) := Lib.hid hf9
    have LR := Lib.hid (HR.out.1.lt)
    have LW := Lib.hid (HR.out.lt (b := W.heap.size) (cs := #[.int .i64 0, .slice none 0 0]) (t := 25) (by simp))
    have C9 := Lib.hid (⟨hc9, hz9⟩ : _ ∧ _)
    clear GS hF9 hf9 hc9 hz9
    go_wp2_with (refine wl_gstK rfl _ _ _ rfl H9.out (b := W.heap.size) (old := #[.int .i64 0, .slice none 0 0]) (t := 25) (by simp) rfl #[.int .i64 op9, .slice A9 Y9.length c9] rfl (elem_one _ _ _ _) rfl (by kernel_rfl) [] (by simp; first | done | (have := LB.out; omega)) ?_; intro w10 G10 K10)
    refine bodyPost_ret (v := .agg #[.int .i64 op9, .slice A9 Y9.length c9]) (results_cell_row Tryd.results13 _ _ W.heap.size 25 #[.int .i64 op9, .slice A9 Y9.length c9] (0, 0) _ rfl (G10.2 (W.heap.size, #[.int .i64 op9, .slice A9 Y9.length c9], 25) (by simp)).1 Tryd.underlying25 rfl (by kernel_rfl)) rfl ?_
    exact ⟨op9, A9, c9, Y9, rfl, C9.out.1, by have := C9.out.2; omega, (Foot.set F9.out (R9full.out) LW.out LR.out K10).now, R9.out.le (Nat.le_succ _), G10.1.is⟩
  · have bk0 : ((k : Int) == 0) = false := beq_eq_false_iff_ne.2 (by omega)
    clear hk hk0
    go_wp2_with (first | (refine wl_gld rfl _ _ rfl HR.out (b := w2.heap.size) (cs := #[.int .i64 op, .slice A Y.length c]) (t := 25) (by simp) rfl (by kernel_rfl) (by kernel_rfl) ?_) | (refine wl_gstK rfl _ _ _ rfl HR.out (b := W.heap.size) (old := #[.int .i64 0, .slice none 0 0]) (t := 25) (by simp) rfl #[.int .i64 op, .slice A Y.length c] rfl (elem_one _ _ _ _) rfl (by kernel_rfl) [] (by simp; first | done | (have := LB.out; omega)) ?_; intro w10 G10 K10))
    refine bodyPost_ret (v := .agg #[.int .i64 op, .slice A Y.length c]) (results_cell_row Tryd.results13 _ _ W.heap.size 25 #[.int .i64 op, .slice A Y.length c] (0, 0) _ rfl (G10.2 (W.heap.size, #[.int .i64 op, .slice A Y.length c], 25) (by simp)).1 Tryd.underlying25 rfl (by kernel_rfl)) rfl ?_
    exact ⟨op, A, c, Y, rfl, C2.out.1, by have := C2.out.2; omega, (HF.out.set R2.out L1.out LG.out K10).now, R2.out.le (Nat.le_of_lt L1.out), G10.1.is⟩
theorem draw_elem {W : World} {A0 : Option Addr} {l : List Int} {c0 : Nat} (hr : ReadsInt W .u8 A0 l.length l) (hc0 : l.length ≤ c0) (hl : l.length ≤ 1048576) (hb : ∀ x ∈ l, (Lit.int .u8 x).wf = true) :
    Calls Tryd.prog 4 #[.slice A0 l.length c0] W fun e w' => ∃ (op : Int) (A : Option Addr) (c : Nat) (Y : List S31), e = .returned (.agg #[.int .i64 op, .slice A Y.length c]) ∧ Y.length ≤ c ∧ Y.length ≤ 5 ∧ Kd.C k31 w' A Y.length Y ∧ Below W.heap.size W w' := by
  have HC := Lib.hid (⟨hr, hc0, hl, hb⟩ : _ ∧ _ ∧ _ ∧ _)
  clear hr hc0 hl hb
  have HX := Lib.hid (Hx.box (Hx.nil (Below.refl W.heap.size W)) #[.int .i64 0, .slice none 0 0] 25)
  go_enter Tryd.func4, Tryd.ntmps4
  go_wp2_with fail
  refine (half_elem (HC.out.1.below ((Below.refl _ _).alloc (Nat.le_refl _) _)) HC.out.2.1 HC.out.2.2.1 HC.out.2.2.2).mono ?_
  rintro e w1 ⟨op, A, c, Y, rfl, hc, hz, hF, hf, hB⟩
  have H1 := Lib.hid (HX.out.below hB)
  have HF := Lib.hid hF
  have Hf := Lib.hid (show Fr (W.heap.size + 1) A Y from by rw [← size_alloc W (.cells #[.int .i64 0, .slice none 0 0] 25)]; exact hf)
  have C1 := Lib.hid (⟨hc, hz⟩ : _ ∧ _)
  have e1 : w1.heap[W.heap.size]? = some (.cells #[.int .i64 0, .slice none 0 0] 25 (0, 0)) := (hB.block _ (by rw [size_alloc]; exact Nat.lt_succ_self _)).trans (heap_alloc_new _ _)
  have E1 := Lib.hid e1
  clear hF hB hc hz HX hf e1
  go_wp2_with (refine wl_hk rfl _ _ _ rfl E1.out rfl #[.int .i64 op, .slice A Y.length c] rfl (elem_one _ _ _ _) rfl (by kernel_rfl) ?_; intro w10 x1 x2 x3)
  have X1 := Lib.hid x1
  refine bodyPost_ret (v := .agg #[.int .i64 op, .slice A Y.length c]) (results_cell_row Tryd.results4 _ _ W.heap.size 25 #[.int .i64 op, .slice A Y.length c] (0, 0) _ rfl X1.out Tryd.underlying25 rfl (by kernel_rfl)) rfl ?_
  refine ⟨op, A, c, Y, rfl, C1.out.1, C1.out.2, ?_, H1.out.1.trans x3⟩
  exact k_same HF.out (fun ad e h0 => by have := Hf.out ad e h0; omega) x2
end Go.Proofs.YtgmdpgchffapoaaDoor.draws
