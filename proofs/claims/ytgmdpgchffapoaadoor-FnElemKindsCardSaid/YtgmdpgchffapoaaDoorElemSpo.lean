/-
  'l4Spoil' of the draws: some contact or coil comes back.
  Conditions: the reader has read fewer than 50000 bytes.
-/
import Derived.Test.YtgmdpgchffapoaaDoorElemAsk
import Derived.Deep.RegionWith
import Derived.Deep.RegionLaw
import Derived.Deep.CutRange
namespace Go.Proofs.YtgmdpgchffapoaaDoor.draws
open Go Go.RowKit Go.Proofs.YtgmdpgchffapoaaDoor.part Go.Proofs.YtgmdpgchffapoaaDoor.CutEk Go.Proofs.YtgmdpgchffapoaaDoorW.PrintWords
set_option linter.unusedVariables false
set_option linter.unusedSimpArgs false
set_option maxRecDepth 100000

/-- A box's cells begin with these operands. -/
def At3 (cur : Array Value) (Y : List S31) : Prop := ∀ j (hj : j < Y.length), cur[j * 3]? = some (.int .i64 Y[j].f0) ∧ cur[j * 3 + 1]? = some (.int .i64 Y[j].f1) ∧ cur[j * 3 + 2]? = some (.int .i64 Y[j].f2)
theorem foot_at {w : World} {b g : Nat} {cs : Array Value} {t : TypeId} {fr : Nat × Nat} (h : w.heap[b]? = some (.cells cs t fr)) (hg : b ≠ g) (Y : List S31) (hY : At3 cs Y) (hl : Y.length ≤ 9223372036854775807) : Foot w g (some ⟨b, 0, none⟩) Y := by
  intro W' hk
  have h' : W'.heap[b]? = some (.cells cs t fr) := (hk.2 b (kit.box_lt h) hg (by simp)).trans h
  refine ⟨rfl, hl, fun h0 => ⟨_, rfl, fun j p hj => ?_⟩⟩
  obtain ⟨hjl, rfl⟩ := List.getElem?_eq_some_iff.1 hj
  obtain ⟨d0, d1, d2⟩ := hY j hjl
  have lift : ∀ i v, cs[i]? = some v → W'.cell? ((⟨b, 0, none⟩ : Addr).add i) = some v := by
    intro i v hv
    have := kit.box_cell h' i hv
    cases i with
    | zero => simpa [Addr.add] using this
    | succ i => simpa [Addr.add] using this
  refine ⟨_, rfl, k31_mk W' _, fun i u hu => ?_⟩
  match i, hu with
  | 0, hu => cases hu; exact lift _ _ d0
  | 1, hu => cases hu; exact lift _ _ d1
  | 2, hu => cases hu; exact lift _ _ d2
theorem At3.lt {cur : Array Value} {Y : List S31} (h : At3 cur Y) (k : Nat) (hk : k < Y.length) : k * 3 + 2 < cur.size := (Array.getElem?_eq_some_iff.1 (h k hk).2.2).1
theorem At3.put {cur : Array Value} {Y : List S31} (h : At3 cur Y) (k : Nat) (hk : k < Y.length) (x : S31) : At3 (putL cur (k * 3) [.int .i64 x.f0, .int .i64 x.f1, .int .i64 x.f2]) (Y.set k x) := by
  have hz := h.lt k hk
  intro j hj
  rw [List.length_set] at hj
  rw [putL_all _ _ _ (by simp; omega), putL_all _ _ _ (by simp; omega), putL_all _ _ _ (by simp; omega)]
  by_cases e : k = j
  · subst e
    simp only [List.length_cons, List.length_nil, List.getElem_set_self]
    rw [if_pos (by omega), if_pos (by omega), if_pos (by omega), show k * 3 - k * 3 = 0 by omega, show k * 3 + 1 - k * 3 = 1 by omega, show k * 3 + 2 - k * 3 = 2 by omega]
    exact ⟨rfl, rfl, rfl⟩
  · simp only [List.length_cons, List.length_nil, List.getElem_set_ne e]
    rw [if_neg (by omega), if_neg (by omega), if_neg (by omega)]
    exact h j hj
/-- A row of the call's own, as a box. -/
theorem own_box {w : World} {base : Nat} {v : Value} {Y : List S31} {ok : Nat → Prop} (h : Kd.R k31 31 w base ok v Y) (h0 : 0 < Y.length) : ∃ b cap cur, v = .slice (some ⟨b, 0, none⟩) Y.length cap ∧ Y.length ≤ cap ∧ base ≤ b ∧ w.heap[b]? = some (.cells cur 31 (0, 0)) ∧ At3 cur Y := by
  obtain ⟨b, cap, rfl, hb, _, cur, hcur⟩ := Kd.R_form h h0
  obtain ⟨A, c, e, hc, hC⟩ := Kd.R_reads h
  injection e with e1 _ e3
  subst e1 e3
  refine ⟨b, cap, cur, rfl, hc, hb, hcur, fun j hj => ?_⟩
  obtain ⟨ad, e2, d0, d1, d2⟩ := at_T31 hC (j : Int) (by omega) (by omega)
  obtain rfl := Option.some.inj e2
  have ev : rd_T31 Y (j : Int) = Y[j] := by
    show Y.getD (j : Int).toNat z31 = _
    simp [hj]
  rw [ev, Int.toNat_natCast, Go.WideShapes.add_plain] at d0 d1 d2
  simp only [Nat.zero_add] at d0 d1 d2
  have lift : ∀ i v, w.cell? ⟨b, i, none⟩ = some v → cur[i]? = some v := by
    intro i v hv
    simpa [World.cell?, hcur] using hv
  exact ⟨lift _ _ d0, lift _ _ d1, lift _ _ d2⟩
section
variable {B : Base} {w w1 : World} {g b : Nat} {n : Int} {bs : List (Nat × Array Value × TypeId)}
theorem Gx.pickP {φ : World → Prop} (h : Gx B g n bs w) (hn : n < 90000) (a : Int) (ha : 1 ≤ a) (hφ : ∀ W', KeepBut w W' g none → φ W') :
    Calls Tryd.prog 36 #[.pointer (some ⟨g, 0, none⟩), .int .i64 a] w fun e w' => ∃ j : Nat, e = .returned (.int .i64 j) ∧ (j : Int) < a ∧ Gx B g (n + 1) bs w' ∧ ∀ W', KeepBut w' W' g none → φ W' :=
  (pick_w h.rd (by omega) a ha).mono fun e w' ⟨q, he, q0, q1, k⟩ => by
    obtain ⟨j, rfl⟩ := Int.eq_ofNat_of_zero_le q0
    exact ⟨j, he, q1, h.step k, fun W' hk => hφ W' (k.keep.trans hk (.inl rfl))⟩
theorem Gx.anyP {φ : World → Prop} (h : Gx B g n bs w) (hn : n < 60000) (hφ : ∀ W', KeepBut w W' g none → φ W') :
    Calls Tryd.prog 52 #[.pointer (some ⟨g, 0, none⟩)] w fun e w' => ∃ a b c : Int, e = .returned (.agg #[.int .i64 a, .int .i64 b, .int .i64 c]) ∧ Gx B g (n + 7) bs w' ∧ ∀ W', KeepBut w' W' g none → φ W' :=
  (any_w h.rd (by omega)).mono fun e w' ⟨a, b, c, he, k⟩ => ⟨a, b, c, he, h.step k, fun W' hk => hφ W' (k.keep.trans hk (.inl rfl))⟩
theorem Gx.grown (h : Gx B g n bs w) {k : Nat} (hg : w.grownBy w1 (some k)) (h1 : ∀ p ∈ bs, p.1 ≠ k) (h2 : k ≠ g) (h3 : B.wf.heap.size ≤ k) (h4 : B.w0.heap.size ≤ k) : Gx B g n bs w1 := by
  have hb : ∀ i, i < w.heap.size → i ≠ k → w1.heap[i]? = w.heap[i]? := fun i hi hk => hg.block i hi (by simpa using hk)
  refine ⟨?_, fun p hp => ?_⟩
  · obtain ⟨l, p, k1, k2, k3, k4, k5, k6, k7⟩ := h.1
    refine ⟨l, p, ?_, k2, k3, k4, k5, ⟨hg.os.trans k6.os, hg.tape.trans k6.tape, hg.output.trans k6.output, Nat.le_trans k6.size hg.size, fun i hi => (hb i (Nat.lt_of_lt_of_le hi k6.size) (by omega)).trans (k6.block i hi)⟩, ?_⟩
    · obtain ⟨A0, c0, e1, e2, e3⟩ := k1
      exact ⟨A0, c0, (hb g (kit.box_lt e1) (fun e => h2 e.symm)).trans e1, e2, e3⟩
    · exact ⟨Nat.le_trans k7.1 hg.size, fun i hi hn1 hn2 => (hb i (Nat.lt_of_lt_of_le hi k7.1) (fun e => by omega)).trans (k7.2 i hi hn1 hn2)⟩
  · obtain ⟨x1, x2⟩ := h.2 p hp
    exact ⟨(hb p.1 (kit.box_lt x1) (h1 p hp)).trans x1, x2⟩
theorem Gx.grownR (h : Gx B g n bs w) {v : Value} {Y : List S31} {base : Nat} (hg : w.grownBy w1 v.ownBlock) (hR : Kd.R k31 31 w base (fun k => k ≠ g) v Y) (h3 : B.wf.heap.size ≤ base) (h4 : B.w0.heap.size ≤ base) (bs' : List (Nat × Array Value × TypeId)) (hs : ∀ p ∈ bs', p ∈ bs ∧ p.2.2 ≠ 31) : Gx B g n bs' w1 := by
  have hr : ∀ k, v.ownBlock = some k → k ≠ g ∧ base ≤ k ∧ ∃ cells, w.heap[k]? = some (.cells cells 31 (0, 0)) := by
    intro k hk
    obtain ⟨a1, a2, a3, q, hq, cells, hc⟩ := (Kd.R_bound hR).1 k hk
    rcases List.mem_cons.1 hq with rfl | hq
    · exact ⟨a1, a2, cells, hc⟩
    · exact nomatch (show q ∈ ([] : List Nat) from hq)
  have hb : ∀ i, i < w.heap.size → (∀ k, v.ownBlock = some k → i ≠ k) → w1.heap[i]? = w.heap[i]? := fun i hi hk => hg.block i hi (fun e => hk i e.symm rfl)
  refine ⟨?_, fun p hp => ?_⟩
  · obtain ⟨l, p, k1, k2, k3, k4, k5, k6, k7⟩ := h.1
    refine ⟨l, p, ?_, k2, k3, k4, k5, ⟨hg.os.trans k6.os, hg.tape.trans k6.tape, hg.output.trans k6.output, Nat.le_trans k6.size hg.size, fun i hi => (hb i (Nat.lt_of_lt_of_le hi k6.size) (fun k hk => by have := (hr k hk).2.1; omega)).trans (k6.block i hi)⟩, ?_⟩
    · obtain ⟨A0, c0, e1, e2, e3⟩ := k1
      exact ⟨A0, c0, (hb g (kit.box_lt e1) (fun k hk => fun e => (hr k hk).1 e.symm)).trans e1, e2, e3⟩
    · exact ⟨Nat.le_trans k7.1 hg.size, fun i hi hn1 hn2 => (hb i (Nat.lt_of_lt_of_le hi k7.1) (fun k hk => by have := (hr k hk).2.1; omega)).trans (k7.2 i hi hn1 hn2)⟩
  · obtain ⟨hp1, hp2⟩ := hs p hp
    obtain ⟨x1, x2⟩ := h.2 p hp1
    refine ⟨(hb p.1 (kit.box_lt x1) (fun k hk => ?_)).trans x1, x2⟩
    rintro rfl
    obtain ⟨cells, hc⟩ := (hr _ hk).2.2
    rw [x1] at hc
    simp at hc
    exact hp2 hc.2
theorem Gx.apart (h : Gx B g n bs w) {cs cur : Array Value} {t t' : TypeId} (hm : (b, cs, t) ∈ bs) {b' : Nat} (e : w.heap[b']? = some (.cells cur t' (0, 0))) (ht : t' ≠ t) : b' ≠ b := by
  rintro rfl
  have := (h.2 _ hm).1
  simp only at this
  rw [e] at this
  simp at this
  first | exact ht this.2 | exact ht this.2.symm
theorem Gx.more (h : Gx B g n bs w) {cs : Array Value} {t : TypeId} (e : w.heap[b]? = some (.cells cs t (0, 0))) (h2 : b ≠ g) (h3 : B.wf.heap.size ≤ b) (h4 : B.w0.heap.size ≤ b) : Gx B g n ((b, cs, t) :: bs) w :=
  ⟨h.1, fun p hp => by rcases List.mem_cons.1 hp with rfl | hp; exact ⟨e, h2, h3, h4⟩; exact h.2 p hp⟩
end
section
variable {P : Program} {ops : Array Oper} {rest : List Oper} {o : Oper} {a : Act} {w : World} {Q : Exit → Act → World → Prop} {B : Base} {g b : Nat} {n : Int} {bs : List (Nat × Array Value × TypeId)} {old : Array Value} {t : TypeId}
theorem wl_gsto (hgd : o.guard = none) (ty : TypeId) (x y : Operand) (ho : o.op = .store ty x y) (hst : Gx B g n bs w) (hm : (b, old, t) ∈ bs) (off : Nat) (hx : a.eval x = .pointer (some ⟨b, off, none⟩)) (cs : Array Value) (hy : a.eval y = .agg cs) (h1 : ∀ v ∈ cs, v.oneCell' = true) (hz : off + cs.size ≤ old.size) (hi : (P.info? ty).map (·.size) = some cs.size) (bs' : List (Nat × Array Value × TypeId)) (hs : ∀ p ∈ bs', p.1 ≠ b ∧ p ∈ bs)
    (h : ∀ w1, Gx B g n ((b, putL old off cs.toList, t) :: bs') w1 → wpList P ops Q rest (a.put o.dst undef) w1) : wpList P ops Q (o :: rest) a w := by
  refine wpList_plain hgd fun _ hK => ?_
  obtain ⟨w1, a1, a2, a3, a4⟩ := storeL (P := P) b off t cs.toList 0 _ w (hst.2 _ hm).1 (by simp; omega) (fun v hv => h1 v (Array.mem_toList_iff.1 hv))
  rw [Nat.add_zero] at a2
  have e : (storeVar ty ⟨b, off, none⟩ (.agg cs)).run P w = .ok () w1 := by
    cases hq : P.info? ty with
    | none => simp [hq] at hi
    | some i =>
      have hs : i.size = cs.size := by simpa [hq] using hi
      simp only [storeVar, sizeOf, typeInfo, Sem.run_bind, hq, Value.cells]
      simp [Sem.run_bind, hq, hs]
      simpa using a1
  unfold Oper.wp execOp
  simp only [ho, hx, hy, Instr.storeAt, Instr.sureAddr, Sem.run_bind, Sem.run_pure, Result.andThen_ok, e]
  exact hK _ _ (h w1 (hst.set hm a2 a3 a4 bs' hs))
end
set_option maxHeartbeats 16000000 in
theorem spoil_w {B : Base} {w : World} {g : Nat} {n : Int} (h : Rd B w g n) (hn : n < 50000) (op : Int) (A : Option Addr) (c : Nat) (Y : List S31) (z : Nat) (hc : Y.length ≤ c) (hz : Y.length ≤ z) (hz2 : z ≤ 900) (hF : Foot w g A Y) : Calls Tryd.prog 37 #[.pointer (some ⟨g, 0, none⟩), .agg #[.int .i64 op, .slice A Y.length c]] w (AnyElem ⟨B.w0, w⟩ g (n + 20) (z + 1)) := by
  have HB0 := Lib.hid hn
  have HZ := Lib.hid (⟨hc, hz, hz2⟩ : _ ∧ _ ∧ _)
  have E1 := Lib.hid (size_alloc w (.cells #[.int .i64 op, .slice A Y.length c] 25))
  have G0 := Lib.hid ((((gx_nil h).box #[.int .i64 op, .slice A Y.length c] 25).box #[.int .i64 0, .slice none 0 0] 25).below ((Below.refl _ _).alloc (Nat.le_refl _) (.cells #[] 31)))
  have HL := Lib.hid h.lt
  have HW := Lib.hid h.is.size
  obtain ⟨W3, hW3⟩ : ∃ W3, (((w.alloc (.cells #[.int .i64 op, .slice A Y.length c] 25)).alloc (.cells #[.int .i64 0, .slice none 0 0] 25)).alloc (.cells #[] 31)) = W3 := ⟨_, rfl⟩
  have HF := Lib.hid (show Foot W3 g A Y from by rw [← hW3]; exact hF.step (KeepBut.of_below ((((Below.refl w.heap.size w).alloc (Nat.le_refl _) _).alloc (by simp [size_alloc]) _).alloc (by simp [size_alloc]; try omega) _) g none))
  have Z3 : W3.heap[w.heap.size + 2]? = some (.cells #[] 31 (0, 0)) := by rw [← hW3]; have := heap_alloc_new ((w.alloc (.cells #[.int .i64 op, .slice A Y.length c] 25)).alloc (.cells #[.int .i64 0, .slice none 0 0] 25)) (.cells #[] 31); simpa [size_alloc] using this
  have S3 : W3.heap.size = w.heap.size + 3 := by rw [← hW3]; simp [size_alloc]
  rw [E1.out, hW3] at G0
  have HO : Kd.R k31 31 W3 w.heap.size (fun _ => True) (.slice (some ⟨w.heap.size + 2, 0, none⟩) 0 0) ([] : List S31) := ⟨fun _ _ => trivial, [], ⟨rfl, .inr ⟨_, 0, #[], rfl, by omega, Z3, Nat.le_refl _, by decide, rfl, rfl⟩⟩, Reps.none _ _⟩
  have H3 := Lib.hid (⟨HO, S3, hW3⟩ : _ ∧ _ ∧ _)
  clear h hn hc hz hz2 hF Z3 S3 HO hW3
  go_enter Tryd.func37, Tryd.ntmps37
  go_wp2_with (rw [H3.out.2.2]; refine Kd.R_append_rows k31 (w0 := W3) w.heap.size rfl (.tmp 7) (.tmp 9) 23 31 (.agg #[(.int .i64 0), (.int .i64 0), (.int .i64 0)]) 24 rfl Tryd.underlying23 info31 rfl (by decide) (by decide) (.slice (some ⟨w.heap.size + 2, 0, none⟩) 0 0) [] Y A Y.length c (fun _ => True) (fun _ => False) rfl rfl H3.out.1 HF.out.now (fun x cs hk => by rw [k31_open hk]; exact k31_mkM W3 _ _ x) (fun _ h => h.elim) (fun _ _ => trivial) (Below.refl _ _) (by have := H3.out.2.1; omega) (by have := HZ.out; simp only [List.length_nil]; omega) ?_; intro v1 w1 r1 r2 r3 r4)
  have HL2 := HL.out
  have HW2 := HW.out
  have G1 := G0.grown (k := w.heap.size + 2) r3 (by simp) (by omega) (by show w.heap.size ≤ _; omega) (by show B.w0.heap.size ≤ _; omega)
  rw [List.nil_append] at r1
  have S3 := H3.out.2.1
  have HR := Lib.hid (show ∀ W', KeepBut w1 W' g none → Kd.R k31 31 W' w.heap.size (fun k => k ≠ g) v1 Y from fun W' hk => Kd.R_keep (Kd.R_mono (Kd.R_bound r1) (fun k hk => by have := hk.2.1; omega)) hk (fun _ h => h))
  clear r2 r3 G0 HF H3 E1
  rcases Nat.eq_zero_or_pos Y.length with h0 | h0
  · obtain rfl := List.eq_nil_of_length_eq_zero h0
    obtain ⟨A1, c1, rfl, _, _⟩ := Kd.R_reads r1
    have HQ := Lib.hid G1
    clear r1 r4 h0 G1 S3
    go_wp2_with fail
    refine (HQ.out.pickP (by have := HB0.out; omega) 6 (by decide) HR.out).mono ?_
    rintro e w2 ⟨j, rfl, hj, G, hR⟩
    have H2 := Lib.hid G
    have HR2 := Lib.hid hR
    clear G HQ HR hR
    have hjc : j = 0 ∨ j = 1 ∨ j = 2 ∨ 3 ≤ j := by omega
    clear hj
    rcases hjc with rfl | rfl | rfl | hj3
    · go_wp2_with fail
      refine (H2.out.num (by have := HB0.out; omega) [-1, 0, 1, 5, 11, 20, 21, 26, 37, 38] _ _ _ rfl (by decide) (by decide) (rowOfG _)).mono ?_
      rintro e w3 ⟨q, rfl, _, G⟩
      have H3 := Lib.hid G
      clear G H2
      go_wp2_with (refine wl_gst rfl _ _ _ rfl H3.out (b := w.heap.size + 1) (old := #[.int .i64 0, .slice none 0 0]) (t := 25) (by simp) rfl #[.int .i64 q, .slice A1 0 c1] rfl (elem_one _ _ _ _) rfl (by kernel_rfl) [] (by simp) ?_; intro w9 G9)
      refine bodyPost_ret (v := .agg #[.int .i64 q, .slice A1 0 c1]) (results_cell_row Tryd.results37 _ _ (w.heap.size + 1) 25 #[.int .i64 q, .slice A1 0 c1] (0, 0) _ rfl (G9.2 (w.heap.size + 1, #[.int .i64 q, .slice A1 0 c1], 25) (by simp)).1 Tryd.underlying25 rfl (by kernel_rfl)) rfl ?_
      exact ⟨q, A1, c1, [], rfl, by simp, by simp, (fun W' _ => ⟨rfl, by simp, fun h => absurd h (by simp)⟩), (by intro ad e h; exact absurd h (by simp)), G9.1.le (by omega)⟩
    · go_wp2_with fail
      have HD : Hid (Gx ⟨B.w0, w⟩ g (n + 1) ((w.heap.size + 1, #[.int .i64 0, .slice none 0 0], 25) :: (w.heap.size, #[.int .i64 op, .slice A ([] : List S31).length c], 25) :: []) w2.drew) := Lib.hid H2.out.drew
      have HRD := Lib.hid (show ∀ W', KeepBut w2.drew W' g none → Kd.R k31 31 W' w.heap.size (fun k => k ≠ g) (.slice A1 0 c1) ([] : List S31) from fun W' hk => HR2.out W' hk)
      have c0 := HD.out.cell (b := w.heap.size) (cs := #[.int .i64 op, .slice A ([] : List S31).length c]) (t := 25) (by simp) 0 rfl
      go_region_law (first | (go_simp; go_at_call 52; refine (HD.out.anyP (by have := HB0.out; omega) HRD.out).mono ?_; rintro e w3 ⟨u1, u2, u3, rfl, G, hR⟩; have H3 := Lib.hid G; have HR3 := Lib.hid hR; have f0 := G.cell (b := w.heap.size) (cs := #[.int .i64 op, .slice A ([] : List S31).length c]) (t := 25) (by simp) 0 rfl; have f1 := (G.box #[.int .i64 u1, .int .i64 u2, .int .i64 u3] 31).cell (b := w.heap.size) (cs := #[.int .i64 op, .slice A ([] : List S31).length c]) (t := 25) (by simp) 0 rfl; clear G hR) | (refine Kd.R_append_step k31 (w0 := w3) w.heap.size (by rfl) (.tmp 24) (.tmp 27) 23 31 (.agg #[(.int .i64 0), (.int .i64 0), (.int .i64 0)]) 24 rfl Tryd.underlying23 info31 rfl (by decide) (by decide) (.slice A1 0 c1) ([] : List S31) (⟨u1, u2, u3⟩ : S31) [.int .i64 u1, .int .i64 u2, .int .i64 u3] (fun k => k ≠ g) (fun _ => False) rfl rfl (k31_mkM _ _ _ (⟨u1, u2, u3⟩ : S31)) (fun _ hk => hk.elim) (fun k hk => by have := H3.out.1.lt; omega) (HR3.out _ (KeepBut.refl _ _ _)) (Below.refl _ _) (by have := H3.out.lt (b := w.heap.size) (cs := #[.int .i64 op, .slice A ([] : List S31).length c]) (t := 25) (by simp); omega) (by have := HZ.out; (try simp only [List.length_nil]); omega) ?_; intro v4 w4 r1 r2 r3 r4; obtain ⟨Yl, hYl⟩ : ∃ q, ([] : List S31) ++ [(⟨u1, u2, u3⟩ : S31)] = q := ⟨_, rfl⟩; have HYl : Hid (Yl.length = 0 + 1) := Lib.hid (by rw [← hYl]; simp); rw [hYl] at r1; obtain ⟨b4, cap4, cur4, rfl, hc4, hb4, hcur4, hat4⟩ := own_box r1 (by have := HYl.out; omega); have HX0 := Gx.grownR H3.out r3 (HR3.out _ (KeepBut.refl _ _ _)) (Nat.le_refl _) HW.out [(w.heap.size + 1, #[.int .i64 0, .slice none 0 0], 25), (w.heap.size, #[.int .i64 op, .slice A ([] : List S31).length c], 25)] (by simp); have N4 := Lib.hid (HX0.apart (b := w.heap.size + 1) (cs := #[.int .i64 0, .slice none 0 0]) (t := 25) (by simp) hcur4 (by decide)); have HX := Lib.hid (HX0.more hcur4 (by have := HL.out; omega) hb4 (by have := HW.out; show B.w0.heap.size ≤ _; omega)); have HA4 := Lib.hid hat4; have HC4 := Lib.hid hc4; have HB4 := Lib.hid hb4; have f2 := HX.out.cell (b := w.heap.size) (cs := #[.int .i64 op, .slice A ([] : List S31).length c]) (t := 25) (by simp) 0 rfl; have k0 := HX.out.cell (b := w.heap.size + 1) (cs := #[.int .i64 0, .slice none 0 0]) (t := 25) (by simp) 0 rfl; have k1 := HX.out.cell (b := w.heap.size + 1) (cs := #[.int .i64 0, .slice none 0 0]) (t := 25) (by simp) 1 rfl; have q0 := HX.out.frozen (b := w.heap.size + 1) (cs := #[.int .i64 0, .slice none 0 0]) (t := 25) (by simp) 0; have q1 := HX.out.frozen (b := w.heap.size + 1) (cs := #[.int .i64 0, .slice none 0 0]) (t := 25) (by simp) 1; clear r1 r2 r3 r4 hat4 hc4 hb4 hcur4 HX0 hYl))
      all_goals
        go_wp2_with fail
        have GA := HX.out.setCell (b := w.heap.size + 1) (old := #[.int .i64 0, .slice none 0 0]) (t := 25) (by simp) 0 (.int .i64 op) [(b4, cur4, 31)] (by simp; exact N4.out)
        have G9 := GA.setCell (b := w.heap.size + 1) (old := #[.int .i64 op, .slice none 0 0]) (t := 25) (by simp) 1 (.slice (some ⟨b4, 0, none⟩) Yl.length cap4) [(b4, cur4, 31)] (by simp; exact N4.out)
        have G9 : Gx ⟨B.w0, w⟩ g (n + 1 + 7) [(w.heap.size + 1, #[.int .i64 op, .slice (some ⟨b4, 0, none⟩) Yl.length cap4], 25), (b4, cur4, 31)] _ := G9
        refine bodyPost_ret (v := .agg #[.int .i64 op, .slice (some ⟨b4, 0, none⟩) Yl.length cap4]) (results_cell_row Tryd.results37 _ _ (w.heap.size + 1) 25 #[.int .i64 op, .slice (some ⟨b4, 0, none⟩) Yl.length cap4] (0, 0) _ rfl (G9.2 (w.heap.size + 1, #[.int .i64 op, .slice (some ⟨b4, 0, none⟩) Yl.length cap4], 25) (by simp)).1 Tryd.underlying25 rfl (by kernel_rfl)) rfl ?_
        exact ⟨op, _, cap4, Yl, rfl, HC4.out, by rw [HYl.out]; have := HZ.out; omega, foot_at (G9.2 (b4, cur4, 31) (by simp)).1 (G9.ne (b := b4) (cs := cur4) (t := 31) (by simp)) Yl HA4.out (by rw [HYl.out]; have := HZ.out; omega), (by intro ad e _; cases e; exact HB4.out), G9.1.le (by omega)⟩
    · have c0 := H2.out.cell (b := w.heap.size) (cs := #[.int .i64 op, .slice A ([] : List S31).length c]) (t := 25) (by simp) 0 rfl
      go_wp2_with (refine wl_gst rfl _ _ _ rfl H2.out (b := w.heap.size + 1) (old := #[.int .i64 0, .slice none 0 0]) (t := 25) (by simp) rfl #[.int .i64 op, .slice none 0 0] rfl (elem_one _ _ _ _) rfl (by kernel_rfl) [] (by simp) ?_; intro w9 G9)
      refine bodyPost_ret (v := .agg #[.int .i64 op, .slice none 0 0]) (results_cell_row Tryd.results37 _ _ (w.heap.size + 1) 25 #[.int .i64 op, .slice none 0 0] (0, 0) _ rfl (G9.2 (w.heap.size + 1, #[.int .i64 op, .slice none 0 0], 25) (by simp)).1 Tryd.underlying25 rfl (by kernel_rfl)) rfl ?_
      exact ⟨op, none, 0, [], rfl, by simp, by simp, (fun W' _ => ⟨rfl, by simp, fun h => absurd h (by simp)⟩), (by intro ad e; cases e), G9.1.le (by omega)⟩
    · have b0 : ((j : Int) == 0) = false := beq_eq_false_iff_ne.2 (by omega)
      have b1 : ((j : Int) == 1) = false := beq_eq_false_iff_ne.2 (by omega)
      have b2 : ((j : Int) == 2) = false := beq_eq_false_iff_ne.2 (by omega)
      clear hj3
      have c0 := H2.out.cell (b := w.heap.size) (cs := #[.int .i64 op, .slice A ([] : List S31).length c]) (t := 25) (by simp) 0 rfl
      go_wp2_with (refine wl_gst rfl _ _ _ rfl H2.out (b := w.heap.size + 1) (old := #[.int .i64 0, .slice none 0 0]) (t := 25) (by simp) rfl #[.int .i64 op, .slice A1 0 c1] rfl (elem_one _ _ _ _) rfl (by kernel_rfl) [] (by simp) ?_; intro w9 G9)
      refine bodyPost_ret (v := .agg #[.int .i64 op, .slice A1 0 c1]) (results_cell_row Tryd.results37 _ _ (w.heap.size + 1) 25 #[.int .i64 op, .slice A1 0 c1] (0, 0) _ rfl (G9.2 (w.heap.size + 1, #[.int .i64 op, .slice A1 0 c1], 25) (by simp)).1 Tryd.underlying25 rfl (by kernel_rfl)) rfl ?_
      exact ⟨op, A1, c1, [], rfl, by simp, by simp, (fun W' _ => ⟨rfl, by simp, fun h => absurd h (by simp)⟩), (by intro ad e h; exact absurd h (by simp)), G9.1.le (by omega)⟩
  · obtain ⟨b, cap, cur, rfl, hcap, hb, hcur, hat⟩ := own_box r1 h0
    have hbb : w.heap.size + 2 ≤ b := by
      rcases r4 with r4 | ⟨b', r4, r5⟩
      · have := Option.some.inj r4; simp only at this; omega
      · have := Option.some.inj r4; simp only at this; omega
    have HQ := Lib.hid (G1.more hcur (by omega) (by show w.heap.size ≤ _; omega) (by show B.w0.heap.size ≤ _; omega))
    have LB := Lib.hid hbb
    have HC := Lib.hid hcap
    have HA := Lib.hid hat
    have HP := Lib.hid h0
    clear r1 r4 h0 G1 hbb hcap hat hb hcur S3
    go_wp2_with fail
    refine (HQ.out.pickP (by have := HB0.out; omega) 6 (by decide) HR.out).mono ?_
    rintro e w2 ⟨j, rfl, hj, G, hR⟩
    have H2 := Lib.hid G
    have HR2 := Lib.hid hR
    clear G HQ HR hR
    have hjc : j = 0 ∨ j = 1 ∨ j = 2 ∨ 3 ≤ j := by omega
    clear hj
    rcases hjc with rfl | rfl | rfl | hj3
    · go_wp2_with fail
      refine (H2.out.num (by have := HB0.out; omega) [-1, 0, 1, 5, 11, 20, 21, 26, 37, 38] _ _ _ rfl (by decide) (by decide) (rowOfG _)).mono ?_
      rintro e w3 ⟨q, rfl, _, G⟩
      have H3 := Lib.hid G
      clear G H2
      go_wp2_with (refine wl_gst rfl _ _ _ rfl H3.out (b := w.heap.size + 1) (old := #[.int .i64 0, .slice none 0 0]) (t := 25) (by simp) rfl #[.int .i64 q, .slice (some ⟨b, 0, none⟩) Y.length cap] rfl (elem_one _ _ _ _) rfl (by kernel_rfl) [(b, cur, 31)] (by simp; have := LB.out; omega) ?_; intro w9 G9)
      refine bodyPost_ret (v := .agg #[.int .i64 q, .slice (some ⟨b, 0, none⟩) Y.length cap]) (results_cell_row Tryd.results37 _ _ (w.heap.size + 1) 25 #[.int .i64 q, .slice (some ⟨b, 0, none⟩) Y.length cap] (0, 0) _ rfl (G9.2 (w.heap.size + 1, #[.int .i64 q, .slice (some ⟨b, 0, none⟩) Y.length cap], 25) (by simp)).1 Tryd.underlying25 rfl (by kernel_rfl)) rfl ?_
      exact ⟨q, _, cap, Y, rfl, HC.out, by have := HZ.out; omega, foot_at (G9.2 (b, cur, 31) (by simp)).1 (G9.ne (b := b) (cs := cur) (t := 31) (by simp)) Y HA.out (by have := HZ.out; omega), (by intro ad e _; cases e; have := LB.out; simp only; omega), G9.1.le (by omega)⟩
    · go_wp2_with fail
      have HD : Hid (Gx ⟨B.w0, w⟩ g (n + 1) ((b, cur, 31) :: (w.heap.size + 1, #[.int .i64 0, .slice none 0 0], 25) :: (w.heap.size, #[.int .i64 op, .slice A Y.length c], 25) :: []) w2.drew) := Lib.hid H2.out.drew
      have HRD := Lib.hid (show ∀ W', KeepBut w2.drew W' g none → Kd.R k31 31 W' w.heap.size (fun k => k ≠ g) (.slice (some ⟨b, 0, none⟩) Y.length cap) Y from fun W' hk => HR2.out W' hk)
      have c0 := HD.out.cell (b := w.heap.size) (cs := #[.int .i64 op, .slice A Y.length c]) (t := 25) (by simp) 0 rfl
      go_region_law (first | (go_simp; go_at_call 52; refine (HD.out.anyP (by have := HB0.out; omega) HRD.out).mono ?_; rintro e w3 ⟨u1, u2, u3, rfl, G, hR⟩; have H3 := Lib.hid G; have HR3 := Lib.hid hR; have f0 := G.cell (b := w.heap.size) (cs := #[.int .i64 op, .slice A Y.length c]) (t := 25) (by simp) 0 rfl; have f1 := (G.box #[.int .i64 u1, .int .i64 u2, .int .i64 u3] 31).cell (b := w.heap.size) (cs := #[.int .i64 op, .slice A Y.length c]) (t := 25) (by simp) 0 rfl; clear G hR) | (refine Kd.R_append_step k31 (w0 := w3) w.heap.size (by rfl) (.tmp 24) (.tmp 27) 23 31 (.agg #[(.int .i64 0), (.int .i64 0), (.int .i64 0)]) 24 rfl Tryd.underlying23 info31 rfl (by decide) (by decide) (.slice (some ⟨b, 0, none⟩) Y.length cap) Y (⟨u1, u2, u3⟩ : S31) [.int .i64 u1, .int .i64 u2, .int .i64 u3] (fun k => k ≠ g) (fun _ => False) rfl rfl (k31_mkM _ _ _ (⟨u1, u2, u3⟩ : S31)) (fun _ hk => hk.elim) (fun k hk => by have := H3.out.1.lt; omega) (HR3.out _ (KeepBut.refl _ _ _)) (Below.refl _ _) (by have := H3.out.lt (b := w.heap.size) (cs := #[.int .i64 op, .slice A Y.length c]) (t := 25) (by simp); omega) (by have := HZ.out; (try simp only [List.length_nil]); omega) ?_; intro v4 w4 r1 r2 r3 r4; obtain ⟨Yl, hYl⟩ : ∃ q, Y ++ [(⟨u1, u2, u3⟩ : S31)] = q := ⟨_, rfl⟩; have HYl : Hid (Yl.length = Y.length + 1) := Lib.hid (by rw [← hYl]; simp); rw [hYl] at r1; obtain ⟨b4, cap4, cur4, rfl, hc4, hb4, hcur4, hat4⟩ := own_box r1 (by have := HYl.out; omega); have HX0 := Gx.grownR H3.out r3 (HR3.out _ (KeepBut.refl _ _ _)) (Nat.le_refl _) HW.out [(w.heap.size + 1, #[.int .i64 0, .slice none 0 0], 25), (w.heap.size, #[.int .i64 op, .slice A Y.length c], 25)] (by simp); have N4 := Lib.hid (HX0.apart (b := w.heap.size + 1) (cs := #[.int .i64 0, .slice none 0 0]) (t := 25) (by simp) hcur4 (by decide)); have HX := Lib.hid (HX0.more hcur4 (by have := HL.out; omega) hb4 (by have := HW.out; show B.w0.heap.size ≤ _; omega)); have HA4 := Lib.hid hat4; have HC4 := Lib.hid hc4; have HB4 := Lib.hid hb4; have f2 := HX.out.cell (b := w.heap.size) (cs := #[.int .i64 op, .slice A Y.length c]) (t := 25) (by simp) 0 rfl; have k0 := HX.out.cell (b := w.heap.size + 1) (cs := #[.int .i64 0, .slice none 0 0]) (t := 25) (by simp) 0 rfl; have k1 := HX.out.cell (b := w.heap.size + 1) (cs := #[.int .i64 0, .slice none 0 0]) (t := 25) (by simp) 1 rfl; have q0 := HX.out.frozen (b := w.heap.size + 1) (cs := #[.int .i64 0, .slice none 0 0]) (t := 25) (by simp) 0; have q1 := HX.out.frozen (b := w.heap.size + 1) (cs := #[.int .i64 0, .slice none 0 0]) (t := 25) (by simp) 1; clear r1 r2 r3 r4 hat4 hc4 hb4 hcur4 HX0 hYl))
      all_goals
        go_wp2_with fail
        have GA := HX.out.setCell (b := w.heap.size + 1) (old := #[.int .i64 0, .slice none 0 0]) (t := 25) (by simp) 0 (.int .i64 op) [(b4, cur4, 31)] (by simp; exact N4.out)
        have G9 := GA.setCell (b := w.heap.size + 1) (old := #[.int .i64 op, .slice none 0 0]) (t := 25) (by simp) 1 (.slice (some ⟨b4, 0, none⟩) Yl.length cap4) [(b4, cur4, 31)] (by simp; exact N4.out)
        have G9 : Gx ⟨B.w0, w⟩ g (n + 1 + 7) [(w.heap.size + 1, #[.int .i64 op, .slice (some ⟨b4, 0, none⟩) Yl.length cap4], 25), (b4, cur4, 31)] _ := G9
        refine bodyPost_ret (v := .agg #[.int .i64 op, .slice (some ⟨b4, 0, none⟩) Yl.length cap4]) (results_cell_row Tryd.results37 _ _ (w.heap.size + 1) 25 #[.int .i64 op, .slice (some ⟨b4, 0, none⟩) Yl.length cap4] (0, 0) _ rfl (G9.2 (w.heap.size + 1, #[.int .i64 op, .slice (some ⟨b4, 0, none⟩) Yl.length cap4], 25) (by simp)).1 Tryd.underlying25 rfl (by kernel_rfl)) rfl ?_
        exact ⟨op, _, cap4, Yl, rfl, HC4.out, by rw [HYl.out]; have := HZ.out; omega, foot_at (G9.2 (b4, cur4, 31) (by simp)).1 (G9.ne (b := b4) (cs := cur4) (t := 31) (by simp)) Yl HA4.out (by rw [HYl.out]; have := HZ.out; omega), (by intro ad e _; cases e; exact HB4.out), G9.1.le (by omega)⟩
    · have c0 := H2.out.cell (b := w.heap.size) (cs := #[.int .i64 op, .slice A Y.length c]) (t := 25) (by simp) 0 rfl
      go_wp2_with (refine wl_gst rfl _ _ _ rfl H2.out (b := w.heap.size + 1) (old := #[.int .i64 0, .slice none 0 0]) (t := 25) (by simp) rfl #[.int .i64 op, .slice none 0 0] rfl (elem_one _ _ _ _) rfl (by kernel_rfl) [] (by simp) ?_; intro w9 G9)
      refine bodyPost_ret (v := .agg #[.int .i64 op, .slice none 0 0]) (results_cell_row Tryd.results37 _ _ (w.heap.size + 1) 25 #[.int .i64 op, .slice none 0 0] (0, 0) _ rfl (G9.2 (w.heap.size + 1, #[.int .i64 op, .slice none 0 0], 25) (by simp)).1 Tryd.underlying25 rfl (by kernel_rfl)) rfl ?_
      exact ⟨op, none, 0, [], rfl, by simp, by simp, (fun W' _ => ⟨rfl, by simp, fun h => absurd h (by simp)⟩), (by intro ad e; cases e), G9.1.le (by omega)⟩
    · have b0 : ((j : Int) == 0) = false := beq_eq_false_iff_ne.2 (by omega)
      have b1 : ((j : Int) == 1) = false := beq_eq_false_iff_ne.2 (by omega)
      have b2 : ((j : Int) == 2) = false := beq_eq_false_iff_ne.2 (by omega)
      clear hj3
      have c0 := H2.out.cell (b := w.heap.size) (cs := #[.int .i64 op, .slice A Y.length c]) (t := 25) (by simp) 0 rfl
      have hp : decide ((Y.length : Int) > 0) = true := decide_eq_true (by have := HP.out; omega)
      go_wp2_with fail
      refine (H2.out.pick (by have := HB0.out; omega) (Y.length : Int) (by have := HP.out; omega)).mono ?_
      rintro e w3 ⟨k, rfl, hk, G⟩
      have H3 := Lib.hid G
      clear G H2 c0 hp
      have Hk := Lib.hid (show k < Y.length by omega)
      have Ht := Lib.hid (HA.out.lt k Hk.out)
      obtain ⟨a0, a1, a2⟩ := HA.out k Hk.out
      have d0 := H3.out.cell (b := b) (cs := cur) (t := 31) (by simp) _ a0
      have d1 := H3.out.cell (b := b) (cs := cur) (t := 31) (by simp) _ a1
      have d2 := H3.out.cell (b := b) (cs := cur) (t := 31) (by simp) _ a2
      generalize Y[k].f0 = p0 at *
      generalize Y[k].f1 = p1 at *
      generalize Y[k].f2 = p2 at *
      clear a0 a1 a2
      go_wp2_with fail
      refine (H3.out.spoilt (by have := HB0.out; omega) p0 p1 p2).mono ?_
      rintro e w4 ⟨u1, u2, u3, rfl, G⟩
      have H4 := Lib.hid G
      clear G H3 d0 d1 d2
      go_wp2_with (refine wl_gsto rfl _ _ _ rfl H4.out (b := b) (old := cur) (t := 31) (by simp) (k * 3) rfl #[.int .i64 u1, .int .i64 u2, .int .i64 u3] rfl (dev_one _ _ _) (by have := Ht.out; simp; omega) (by kernel_rfl) [(w.heap.size + 1, #[.int .i64 0, .slice none 0 0], 25), (w.heap.size, #[.int .i64 op, .slice A Y.length c], 25)] (by simp; have := LB.out; omega) ?_; intro w5 G5)
      obtain ⟨cur2, hcur2⟩ : ∃ q, putL cur (k * 3) [.int .i64 u1, .int .i64 u2, .int .i64 u3] = q := ⟨_, rfl⟩
      obtain ⟨Y2, hY2⟩ : ∃ q, Y.set k ⟨u1, u2, u3⟩ = q := ⟨_, rfl⟩
      have HA2 : Hid (At3 cur2 Y2) := Lib.hid (by rw [← hcur2, ← hY2]; exact HA.out.put k Hk.out ⟨u1, u2, u3⟩)
      have HN2 : Hid (Y2.length = Y.length) := Lib.hid (by rw [← hY2, List.length_set])
      have H5 : Hid (Gx ⟨B.w0, w⟩ g _ [(b, cur2, 31), (w.heap.size + 1, #[.int .i64 0, .slice none 0 0], 25), (w.heap.size, #[.int .i64 op, .slice A Y.length c], 25)] w5) := Lib.hid (by rw [← hcur2]; exact G5)
      clear G5 H4 hcur2 hY2
      refine (H5.out.pick (by have := HB0.out; omega) 2 (by decide)).mono ?_
      rintro e w6 ⟨m, rfl, hm, G⟩
      have H6 := Lib.hid G
      clear G H5
      by_cases hm0 : m = 0
      · subst hm0
        clear hm
        go_wp2_with fail
        refine (H6.out.any (by have := HB0.out; omega)).mono ?_
        rintro e w7 ⟨v1, v2, v3, rfl, G⟩
        have H7 := Lib.hid G
        have Ht := Lib.hid (HA2.out.lt k (by rw [HN2.out]; exact Hk.out))
        clear G H6
        go_upto_region 14 with (refine wl_gsto rfl _ _ _ rfl H7.out (b := b) (old := cur2) (t := 31) (by simp) (k * 3) rfl #[.int .i64 v1, .int .i64 v2, .int .i64 v3] rfl (dev_one _ _ _) (by have := Ht.out; simp; omega) (by kernel_rfl) [(w.heap.size + 1, #[.int .i64 0, .slice none 0 0], 25), (w.heap.size, #[.int .i64 op, .slice A Y.length c], 25)] (by simp; have := LB.out; omega) ?_; intro w8 G5)
        obtain ⟨cur3, hcur3⟩ : ∃ q, putL cur2 (k * 3) [.int .i64 v1, .int .i64 v2, .int .i64 v3] = q := ⟨_, rfl⟩
        obtain ⟨Y3, hY3⟩ : ∃ q, Y2.set k ⟨v1, v2, v3⟩ = q := ⟨_, rfl⟩
        have HA3 : Hid (At3 cur3 Y3) := Lib.hid (by rw [← hcur3, ← hY3]; exact HA2.out.put k (by rw [HN2.out]; exact Hk.out) ⟨v1, v2, v3⟩)
        have HN3 : Hid (Y3.length = Y.length) := Lib.hid (by rw [← hY3, List.length_set, HN2.out])
        have H8 : Hid (Gx ⟨B.w0, w⟩ g _ [(b, cur3, 31), (w.heap.size + 1, #[.int .i64 0, .slice none 0 0], 25), (w.heap.size, #[.int .i64 op, .slice A Y.length c], 25)] w8) := Lib.hid (by rw [← hcur3]; exact G5)
        clear G5 H7 hcur3 hY3
        have c0 := H8.out.cell (b := w.heap.size) (cs := #[.int .i64 op, .slice A Y.length c]) (t := 25) (by simp) 0 rfl
        go_wp2_with (refine wl_gst rfl _ _ _ rfl H8.out (b := w.heap.size + 1) (old := #[.int .i64 0, .slice none 0 0]) (t := 25) (by simp) rfl #[.int .i64 op, .slice (some ⟨b, 0, none⟩) Y.length cap] rfl (elem_one _ _ _ _) rfl (by kernel_rfl) [(b, cur3, 31)] (by simp; have := LB.out; omega) ?_; intro w9 G9)
        refine bodyPost_ret (v := .agg #[.int .i64 op, .slice (some ⟨b, 0, none⟩) Y.length cap]) (results_cell_row Tryd.results37 _ _ (w.heap.size + 1) 25 #[.int .i64 op, .slice (some ⟨b, 0, none⟩) Y.length cap] (0, 0) _ rfl (G9.2 (w.heap.size + 1, #[.int .i64 op, .slice (some ⟨b, 0, none⟩) Y.length cap], 25) (by simp)).1 Tryd.underlying25 rfl (by kernel_rfl)) rfl ?_
        exact ⟨op, _, cap, Y3, by rw [HN3.out], by rw [HN3.out]; exact HC.out, by rw [HN3.out]; have := HZ.out; omega, foot_at (G9.2 (b, cur3, 31) (by simp)).1 (G9.ne (b := b) (cs := cur3) (t := 31) (by simp)) Y3 HA3.out (by rw [HN3.out]; have := HZ.out; omega), (by intro ad e _; cases e; have := LB.out; simp only; omega), G9.1.le (by omega)⟩
      · have bm0 : ((m : Int) == 0) = false := beq_eq_false_iff_ne.2 (by omega)
        clear hm hm0
        have c0 := H6.out.cell (b := w.heap.size) (cs := #[.int .i64 op, .slice A Y.length c]) (t := 25) (by simp) 0 rfl
        go_wp2_with (refine wl_gst rfl _ _ _ rfl H6.out (b := w.heap.size + 1) (old := #[.int .i64 0, .slice none 0 0]) (t := 25) (by simp) rfl #[.int .i64 op, .slice (some ⟨b, 0, none⟩) Y.length cap] rfl (elem_one _ _ _ _) rfl (by kernel_rfl) [(b, cur2, 31)] (by simp; have := LB.out; omega) ?_; intro w9 G9)
        refine bodyPost_ret (v := .agg #[.int .i64 op, .slice (some ⟨b, 0, none⟩) Y.length cap]) (results_cell_row Tryd.results37 _ _ (w.heap.size + 1) 25 #[.int .i64 op, .slice (some ⟨b, 0, none⟩) Y.length cap] (0, 0) _ rfl (G9.2 (w.heap.size + 1, #[.int .i64 op, .slice (some ⟨b, 0, none⟩) Y.length cap], 25) (by simp)).1 Tryd.underlying25 rfl (by kernel_rfl)) rfl ?_
        exact ⟨op, _, cap, Y2, by rw [HN2.out], by rw [HN2.out]; exact HC.out, by rw [HN2.out]; have := HZ.out; omega, foot_at (G9.2 (b, cur2, 31) (by simp)).1 (G9.ne (b := b) (cs := cur2) (t := 31) (by simp)) Y2 HA2.out (by rw [HN2.out]; have := HZ.out; omega), (by intro ad e _; cases e; have := LB.out; simp only; omega), G9.1.le (by omega)⟩
end Go.Proofs.YtgmdpgchffapoaaDoor.draws
