/-
  'toNet', 'toArm' of the laws, and so 'toNetS', 'toArmS': the copy they make.
  Conditions: a ladder of at most 1048576 parts.
-/
import Derived.Test.YtkiemiolellllaaTreeTo
namespace Go.Proofs.Ytkiemiolellllaa.tree
open Go Go.RowKit Go.Proofs.Ytkiemiolellllaa.part Go.Proofs.Ytkiemiolellllaa.CutTr Go.Proofs.YtkiemiolellllaaW.PrintWords
set_option linter.unusedVariables false
set_option linter.unusedSimpArgs false
set_option maxRecDepth 100000

/-- Boxes whose cells and types are known. -/
def Kx (W : World) (bs : List (Nat × Array Value × TypeId)) (w : World) : Prop := Below W.heap.size W w ∧ ∀ p ∈ bs, W.heap.size ≤ p.1 ∧ w.heap[p.1]? = some (.cells p.2.1 p.2.2 (0, 0))
theorem Kx.nil {W w : World} (h : Below W.heap.size W w) : Kx W [] w := ⟨h, fun p hp => by cases hp⟩
theorem Kx.below {W w w1 : World} {bs : List (Nat × Array Value × TypeId)} (h : Kx W bs w) (hb : Below w.heap.size w w1) : Kx W bs w1 :=
  ⟨h.1.trans (hb.mono h.1.size), fun p hp => by obtain ⟨a, e⟩ := h.2 p hp; exact ⟨a, kit.box_keep e hb (kit.box_lt e)⟩⟩
theorem Kx.box {W w : World} {bs : List (Nat × Array Value × TypeId)} (h : Kx W bs w) (cs : Array Value) (t : TypeId) : Kx W ((w.heap.size, cs, t) :: bs) (w.alloc (.cells cs t)) := by
  have h2 := h.below ((Below.refl _ _).alloc (Nat.le_refl _) (.cells cs t))
  refine ⟨h2.1, fun p hp => ?_⟩
  rcases List.mem_cons.1 hp with rfl | hp
  · exact ⟨h.1.size, heap_alloc_new _ _⟩
  · exact h2.2 p hp
theorem Kx.cell {W w : World} {bs : List (Nat × Array Value × TypeId)} (h : Kx W bs w) {g : Nat} {cs : Array Value} {t : TypeId} (hm : (g, cs, t) ∈ bs) (i : Nat) {v : Value} (hv : cs[i]? = some v) : w.cell? ⟨g, i, none⟩ = some v := kit.box_cell (h.2 _ hm).2 i hv
theorem Kx.lt {W w : World} {bs : List (Nat × Array Value × TypeId)} (h : Kx W bs w) {g : Nat} {cs : Array Value} {t : TypeId} (hm : (g, cs, t) ∈ bs) : g < w.heap.size := kit.box_lt (h.2 _ hm).2
section
variable {P : Program} {ops : Array Oper} {rest : List Oper} {o : Oper} {a : Act} {w W : World} {Q : Exit → Act → World → Prop} {b : Nat} {old cs : Array Value} {t : TypeId} {bs : List (Nat × Array Value × TypeId)}
theorem wl_kst (hgd : o.guard = none) (ty : TypeId) (x y : Operand) (ho : o.op = .store ty x y) (hst : Kx W bs w) (hm : (b, old, t) ∈ bs) (off : Nat) (hx : a.eval x = .pointer (some ⟨b, off, none⟩)) (v : Value) (hy : a.eval y = v) (h1 : ∀ u ∈ v.cells, u.oneCell' = true) (n : Nat) (hn : v.cells.size = n) (hz : off + n ≤ old.size) (hi : (P.info? ty).map (·.size) = some n) (new : Array Value) (hnew : putL old off v.cells.toList = new) (bs' : List (Nat × Array Value × TypeId)) (hs : ∀ p ∈ bs', p.1 ≠ b ∧ p ∈ bs)
    (h : ∀ w1, Kx W ((b, new, t) :: bs') w1 → (∀ k, k ≠ b → w1.heap[k]? = w.heap[k]?) → w.heap.size ≤ w1.heap.size → wpList P ops Q rest (a.put o.dst undef) w1) : wpList P ops Q (o :: rest) a w := by
  obtain ⟨hW, hb⟩ := hst.2 _ hm
  refine wl_sto hgd ty x y ho hb off hx v hy h1 n hn hz hi fun w1 a1 a2 a3 => h w1 ⟨hst.1.trans (a3.mono hW), fun p hp => ?_⟩ a2 a3.size
  rcases List.mem_cons.1 hp with rfl | hp
  · exact ⟨hW, by rw [← hnew]; exact a1⟩
  · obtain ⟨b1, b2⟩ := hst.2 p (hs p hp).2
    exact ⟨b1, (a2 p.1 (hs p hp).1).trans b2⟩
theorem wl_kld (hgd : o.guard = none) (ty : TypeId) (x : Operand) (ho : o.op = .load ty x) (hst : Kx W bs w) (hm : (b, cs, t) ∈ bs) (hx : a.eval x = .pointer (some ⟨b, 0, none⟩)) (hu : aggB P ty = true) (n : Nat) (hn : cs.size = n) (hi : (P.info? ty).map (·.size) = some n)
    (h : wpList P ops Q rest (a.put o.dst (.agg cs)) w) : wpList P ops Q (o :: rest) a w :=
  wpList_plain hgd fun _ hK => ow_hld ty x ho (hst.2 _ hm).2 hx hu n hn hi (hK _ _ h)
end
theorem toE_raw2 (x : EE) (A1 : Option Addr) (a1 : Nat) (w : World) (g1 : Kd.C k30 w A1 x.f1.length x.f1) (l1 : x.f1.length ≤ a1) (hw : x.f1.length ≤ 1048576) :
    Calls Try.prog 47 #[.agg #[.int .i64 x.f0, .slice A1 x.f1.length a1]] w fun e w' => ∃ B b, e = .returned (.agg #[.int .i64 x.f0, .slice B x.f1.length b]) ∧ x.f1.length ≤ b ∧ St w.heap.size w' (fun W' => Kd.C k32 W' B (x.f1.map cD).length (x.f1.map cD)) ∧ Below w.heap.size w w' := by
  refine (toE_raw x A1 a1 w g1 l1 hw).mono ?_
  rintro e w' ⟨B, b, h0, h1, h2, h3⟩
  rw [List.length_map] at h0 h1
  exact ⟨B, b, h0, h1, h2, h3⟩
set_option maxHeartbeats 8000000 in
theorem toN_raw (x : EN) (ih : ToNs x.f2) (A2 A3 : Option Addr) (a2 a3 : Nat) (w : World) (g2 : Kd.C k30 w A2 x.f1.f1.length x.f1.f1) (l2 : x.f1.f1.length ≤ a2) (g3 : Kd.C k42 w A3 x.f2.length x.f2) (l3 : x.f2.length ≤ a3) (hw : wN x ≤ 1048576) :
    Calls Try.prog 36 #[.agg #[.int .i64 x.f0, .int .i64 x.f1.f0, .slice A2 x.f1.f1.length a2, .slice A3 x.f2.length a3]] w fun e w' => ∃ B2 b2 B3, e = .returned (.agg #[.int .i64 x.f0, .int .i64 x.f1.f0, .slice B2 x.f1.f1.length b2, .slice B3 x.f2.length x.f2.length]) ∧ x.f1.f1.length ≤ b2 ∧ St w.heap.size w' (fun W' => Kd.C k32 W' B2 (x.f1.f1.map cD).length (x.f1.f1.map cD) ∧ Kd.C k52 W' B3 (x.f2.map cN).length (x.f2.map cN)) ∧ Below w.heap.size w w' := by
  have G2 := Lib.hid g2
  have L2 := Lib.hid l2
  have G3 := Lib.hid g3
  have L3 := Lib.hid l3
  have IH := Lib.hid ih
  rw [wN_eq] at hw
  have HW := Lib.hid hw
  clear g2 l2 g3 l3 ih hw
  have S1 := size_alloc w (.cells #[.int .i64 x.f0, .int .i64 x.f1.f0, .slice A2 x.f1.f1.length a2, .slice A3 x.f2.length a3] 42)
  have S2 := size_alloc (w.alloc (.cells #[.int .i64 x.f0, .int .i64 x.f1.f0, .slice A2 x.f1.f1.length a2, .slice A3 x.f2.length a3] 42)) (.cells #[.int .i64 0, .int .i64 0, .slice none 0 0, .slice none 0 0] 52)
  rw [S1] at S2
  have h0 := (((Kx.nil (Below.refl w.heap.size w)).box #[.int .i64 x.f0, .int .i64 x.f1.f0, .slice A2 x.f1.f1.length a2, .slice A3 x.f2.length a3] 42).box #[.int .i64 0, .int .i64 0, .slice none 0 0, .slice none 0 0] 52).box #[.int .i64 0, .int .i64 0, .slice none 0 0, .slice none 0 0] 52
  rw [S1, S2] at h0
  have H1 := Lib.hid h0
  have HS1 := Lib.hid S1
  have HS2 := Lib.hid S2
  clear h0 S1 S2
  go_enter Try.func36, Try.ntmps36
  have p0 := H1.out.cell (g := w.heap.size) (cs := #[.int .i64 x.f0, .int .i64 x.f1.f0, .slice A2 x.f1.f1.length a2, .slice A3 x.f2.length a3]) (t := 42) (by simp) 0 rfl
  go_upto_region 3 with (refine wl_kst rfl _ _ _ rfl H1.out (b := w.heap.size + 2) (old := #[.int .i64 0, .int .i64 0, .slice none 0 0, .slice none 0 0]) (t := 52) (by simp) 0 rfl (.int .i64 x.f0) rfl (by intro u hu; simp [Value.cells] at hu; rw [hu]; rfl) 1 rfl (by simp) (by kernel_rfl) #[.int .i64 x.f0, .int .i64 0, .slice none 0 0, .slice none 0 0] rfl [(w.heap.size + 1, #[.int .i64 0, .int .i64 0, .slice none 0 0, .slice none 0 0], 52), (w.heap.size, #[.int .i64 x.f0, .int .i64 x.f1.f0, .slice A2 x.f1.f1.length a2, .slice A3 x.f2.length a3], 42)] (by simp) ?_; intro w1 x1 x2 x3)
  have H2 := Lib.hid x1
  clear p0 x1 x2 x3 H1
  have p1 := H2.out.cell (g := w.heap.size) (cs := #[.int .i64 x.f0, .int .i64 x.f1.f0, .slice A2 x.f1.f1.length a2, .slice A3 x.f2.length a3]) (t := 42) (by simp) 1 rfl
  have p2 := H2.out.cell (g := w.heap.size) (cs := #[.int .i64 x.f0, .int .i64 x.f1.f0, .slice A2 x.f1.f1.length a2, .slice A3 x.f2.length a3]) (t := 42) (by simp) 2 rfl
  go_wp2_with fail
  refine (toE_raw2 x.f1 A2 a2 _ (Kd.C_below G2.out H2.out.1) L2.out (by have := HW.out; omega)).mono ?_
  rintro e w2 ⟨B2, b2, rfl, hl2, hS2, hb⟩
  have H3 := Lib.hid (H2.out.below hb)
  have LO := Lib.hid (H2.out.lt (g := w.heap.size + 2) (cs := #[.int .i64 x.f0, .int .i64 0, .slice none 0 0, .slice none 0 0]) (t := 52) (by simp))
  have P2 := Lib.hid hS2
  have Q2 := Lib.hid hl2
  clear p1 p2 hl2 hS2 hb H2
  go_upto_region 4 with (refine wl_kst rfl _ _ _ rfl H3.out (b := w.heap.size + 2) (old := #[.int .i64 x.f0, .int .i64 0, .slice none 0 0, .slice none 0 0]) (t := 52) (by simp) 1 rfl (.agg #[.int .i64 x.f1.f0, .slice B2 x.f1.f1.length b2]) rfl (by intro u hu; simp [Value.cells] at hu; rcases hu with rfl | rfl <;> rfl) 2 rfl (by simp) (by kernel_rfl) #[.int .i64 x.f0, .int .i64 x.f1.f0, .slice B2 x.f1.f1.length b2, .slice none 0 0] rfl [(w.heap.size + 1, #[.int .i64 0, .int .i64 0, .slice none 0 0, .slice none 0 0], 52), (w.heap.size, #[.int .i64 x.f0, .int .i64 x.f1.f0, .slice A2 x.f1.f1.length a2, .slice A3 x.f2.length a3], 42)] (by simp) ?_; intro w3 x1 x2 x3)
  have H4 := Lib.hid x1
  have P3 := Lib.hid (P2.out.but x3 x2 LO.out)
  clear x1 x2 x3 H3 P2
  have p3 := H4.out.cell (g := w.heap.size) (cs := #[.int .i64 x.f0, .int .i64 x.f1.f0, .slice A2 x.f1.f1.length a2, .slice A3 x.f2.length a3]) (t := 42) (by simp) 3 rfl
  go_wp2_with fail
  refine (IH.out A3 a3 _ (Kd.C_below G3.out H4.out.1) L3.out (by have := HW.out; omega)).mono ?_
  rintro e w4 ⟨rfl, hS3, hb⟩
  obtain ⟨B3, hB3⟩ : ∃ q, some (⟨w3.heap.size, 0, none⟩ : Addr) = q := ⟨_, rfl⟩
  rw [hB3] at hS3 ⊢
  have H5 := Lib.hid (H4.out.below hb)
  have L4 := Lib.hid (H4.out.lt (g := w.heap.size + 2) (cs := #[.int .i64 x.f0, .int .i64 x.f1.f0, .slice B2 x.f1.f1.length b2, .slice none 0 0]) (t := 52) (by simp))
  have P4 := Lib.hid (P3.out.below hb)
  have P5 := Lib.hid hS3
  have LW := Lib.hid H4.out.1.size
  clear p3 hS3 hb hB3 H4 P3
  go_upto_region 5 with (refine wl_kst rfl _ _ _ rfl H5.out (b := w.heap.size + 2) (old := #[.int .i64 x.f0, .int .i64 x.f1.f0, .slice B2 x.f1.f1.length b2, .slice none 0 0]) (t := 52) (by simp) 3 rfl (.slice B3 x.f2.length x.f2.length) rfl (by intro u hu; simp [Value.cells] at hu; rw [hu]; rfl) 1 rfl (by simp) (by kernel_rfl) #[.int .i64 x.f0, .int .i64 x.f1.f0, .slice B2 x.f1.f1.length b2, .slice B3 x.f2.length x.f2.length] rfl [(w.heap.size + 1, #[.int .i64 0, .int .i64 0, .slice none 0 0, .slice none 0 0], 52), (w.heap.size, #[.int .i64 x.f0, .int .i64 x.f1.f0, .slice A2 x.f1.f1.length a2, .slice A3 x.f2.length a3], 42)] (by simp) ?_; intro w5 x1 x2 x3)
  have H6 := Lib.hid x1
  have P6 := Lib.hid (P4.out.but x3 x2 LO.out)
  have P7 := Lib.hid (P5.out.but x3 x2 L4.out)
  clear x1 x2 x3 H5 P4 P5
  go_wp2_with (first | (refine wl_kld rfl _ _ rfl H6.out (b := w.heap.size + 2) (cs := #[.int .i64 x.f0, .int .i64 x.f1.f0, .slice B2 x.f1.f1.length b2, .slice B3 x.f2.length x.f2.length]) (t := 52) (by simp) rfl (by kernel_rfl) 4 rfl (by kernel_rfl) ?_) | (refine wl_kst rfl _ _ _ rfl H6.out (b := w.heap.size + 1) (old := #[.int .i64 0, .int .i64 0, .slice none 0 0, .slice none 0 0]) (t := 52) (by simp) 0 rfl (.agg #[.int .i64 x.f0, .int .i64 x.f1.f0, .slice B2 x.f1.f1.length b2, .slice B3 x.f2.length x.f2.length]) rfl (by intro u hu; simp [Value.cells] at hu; rcases hu with rfl | rfl | rfl | rfl <;> rfl) 4 rfl (by simp) (by kernel_rfl) #[.int .i64 x.f0, .int .i64 x.f1.f0, .slice B2 x.f1.f1.length b2, .slice B3 x.f2.length x.f2.length] rfl [(w.heap.size + 2, #[.int .i64 x.f0, .int .i64 x.f1.f0, .slice B2 x.f1.f1.length b2, .slice B3 x.f2.length x.f2.length], 52), (w.heap.size, #[.int .i64 x.f0, .int .i64 x.f1.f0, .slice A2 x.f1.f1.length a2, .slice A3 x.f2.length a3], 42)] (by simp) ?_; intro w6 x1 x2 x3))
  have H7 := Lib.hid x1
  have P8 := Lib.hid (P6.out.but x3 x2 (by have := LO.out; omega))
  have P9 := Lib.hid (P7.out.but x3 x2 (by have := L4.out; omega))
  clear x1 x2 x3 H6 P6 P7
  refine bodyPost_ret (v := .agg #[.int .i64 x.f0, .int .i64 x.f1.f0, .slice B2 x.f1.f1.length b2, .slice B3 x.f2.length x.f2.length]) (results_cell_row Try.results36 _ _ (w.heap.size + 1) 52 #[.int .i64 x.f0, .int .i64 x.f1.f0, .slice B2 x.f1.f1.length b2, .slice B3 x.f2.length x.f2.length] (0, 0) _ rfl (H7.out.2 (w.heap.size + 1, #[.int .i64 x.f0, .int .i64 x.f1.f0, .slice B2 x.f1.f1.length b2, .slice B3 x.f2.length x.f2.length], 52) (by simp)).2 Try.underlying52 rfl (by kernel_rfl)) rfl ?_
  exact ⟨B2, b2, B3, rfl, Q2.out, (P8.out.lower (by have := LO.out; omega)).and (P9.out.lower LW.out), H7.out.1⟩
theorem toN_of (x : EN) (ih : ToNs x.f2) : ToN x := by
  intro A2 A3 a2 a3 w g2 l2 g3 l3 hw
  refine (toN_raw x ih A2 A3 a2 a3 w g2 l2 g3 l3 hw).mono ?_
  rintro e w' ⟨B2, b2, B3, rfl, h1, h2, h3⟩
  refine ⟨_, rfl, rfl, ?_, h2.map fun W' h => ?_, h3⟩
  · intro v hv
    simp at hv
    rcases hv with rfl | rfl | rfl | rfl <;> rfl
  · have := k52_mk W' (cN x) (A2 := B2) (c2 := b2) (A3 := B3) (c3 := x.f2.length) (by rw [cN_eq]; simpa [cE] using h1) (by rw [cN_eq]; exact h.1) (by rw [cN_eq, cNs_eq, List.length_map]; exact Nat.le_refl _) (by rw [cN_eq, cNs_eq]; exact h.2)
    rw [cN_eq, cNs_eq] at this ⊢
    simp only [List.length_map] at this ⊢
    simpa [cE] using this
theorem toNs_all (Y : List EN) : ToNs Y := by
  have : ∀ (N : Nat) (Y : List EN), SizeOf.sizeOf Y ≤ N → ToNs Y := by
    intro N
    induction N with
    | zero => intro Y h; cases Y <;> simp at h
    | succ N ih =>
      intro Y h
      refine toNs_of Y fun x hx => toN_of x (ih _ ?_)
      have h1 := List.sizeOf_lt_of_mem hx
      have h2 : SizeOf.sizeOf x.f2 < SizeOf.sizeOf x := by obtain ⟨a, b, d⟩ := x; simp; omega
      omega
  exact this _ Y (Nat.le_refl _)
set_option maxHeartbeats 8000000 in
theorem toA_raw (x : EA) (ih : ToAs x.f2) (A2 A3 A4 A5 : Option Addr) (a2 a3 a4 a5 : Nat) (w : World) (g2 : Kd.C k30 w A2 x.f0.f1.f1.length x.f0.f1.f1) (l2 : x.f0.f1.f1.length ≤ a2) (g3 : Kd.C k42 w A3 x.f0.f2.length x.f0.f2) (l3 : x.f0.f2.length ≤ a3) (g4 : Kd.C k39 w A4 x.f1.length x.f1) (l4 : x.f1.length ≤ a4) (g5 : Kd.C k45 w A5 x.f2.length x.f2) (l5 : x.f2.length ≤ a5) (hw : wA x ≤ 1048576) :
    Calls Try.prog 18 #[.agg #[.int .i64 x.f0.f0, .int .i64 x.f0.f1.f0, .slice A2 x.f0.f1.f1.length a2, .slice A3 x.f0.f2.length a3, .slice A4 x.f1.length a4, .slice A5 x.f2.length a5]] w fun e w' => ∃ B2 b2 B3 B4 B5, e = .returned (.agg #[.int .i64 x.f0.f0, .int .i64 x.f0.f1.f0, .slice B2 x.f0.f1.f1.length b2, .slice B3 x.f0.f2.length x.f0.f2.length, .slice B4 x.f1.length x.f1.length, .slice B5 x.f2.length x.f2.length]) ∧ x.f0.f1.f1.length ≤ b2 ∧ St w.heap.size w' (fun W' => ((Kd.C k32 W' B2 (x.f0.f1.f1.map cD).length (x.f0.f1.f1.map cD) ∧ Kd.C k52 W' B3 (x.f0.f2.map cN).length (x.f0.f2.map cN)) ∧ Kd.C k49 W' B4 (x.f1.map cE).length (x.f1.map cE)) ∧ Kd.C k55 W' B5 (x.f2.map cA).length (x.f2.map cA)) ∧ Below w.heap.size w w' := by
  have IH := Lib.hid ih
  have G2 := Lib.hid g2
  have L2 := Lib.hid l2
  have G3 := Lib.hid g3
  have L3 := Lib.hid l3
  have G4 := Lib.hid g4
  have L4 := Lib.hid l4
  have G5 := Lib.hid g5
  have L5 := Lib.hid l5
  rw [wA_eq] at hw
  have HW := Lib.hid hw
  clear g2 l2 g3 l3 g4 l4 g5 l5 ih hw
  have S1 := size_alloc w (.cells #[.int .i64 x.f0.f0, .int .i64 x.f0.f1.f0, .slice A2 x.f0.f1.f1.length a2, .slice A3 x.f0.f2.length a3, .slice A4 x.f1.length a4, .slice A5 x.f2.length a5] 45)
  have S2 := size_alloc (w.alloc (.cells #[.int .i64 x.f0.f0, .int .i64 x.f0.f1.f0, .slice A2 x.f0.f1.f1.length a2, .slice A3 x.f0.f2.length a3, .slice A4 x.f1.length a4, .slice A5 x.f2.length a5] 45)) (.cells #[.int .i64 0, .int .i64 0, .slice none 0 0, .slice none 0 0, .slice none 0 0, .slice none 0 0] 55)
  rw [S1] at S2
  have h0 := (((Kx.nil (Below.refl w.heap.size w)).box #[.int .i64 x.f0.f0, .int .i64 x.f0.f1.f0, .slice A2 x.f0.f1.f1.length a2, .slice A3 x.f0.f2.length a3, .slice A4 x.f1.length a4, .slice A5 x.f2.length a5] 45).box #[.int .i64 0, .int .i64 0, .slice none 0 0, .slice none 0 0, .slice none 0 0, .slice none 0 0] 55).box #[.int .i64 0, .int .i64 0, .slice none 0 0, .slice none 0 0, .slice none 0 0, .slice none 0 0] 55
  rw [S1, S2] at h0
  have H1 := Lib.hid h0
  have HS1 := Lib.hid S1
  have HS2 := Lib.hid S2
  clear h0 S1 S2
  go_enter Try.func18, Try.ntmps18
  have p0 := H1.out.cell (g := w.heap.size) (cs := #[.int .i64 x.f0.f0, .int .i64 x.f0.f1.f0, .slice A2 x.f0.f1.f1.length a2, .slice A3 x.f0.f2.length a3, .slice A4 x.f1.length a4, .slice A5 x.f2.length a5]) (t := 45) (by simp) 0 rfl
  have p1 := H1.out.cell (g := w.heap.size) (cs := #[.int .i64 x.f0.f0, .int .i64 x.f0.f1.f0, .slice A2 x.f0.f1.f1.length a2, .slice A3 x.f0.f2.length a3, .slice A4 x.f1.length a4, .slice A5 x.f2.length a5]) (t := 45) (by simp) 1 rfl
  have p2 := H1.out.cell (g := w.heap.size) (cs := #[.int .i64 x.f0.f0, .int .i64 x.f0.f1.f0, .slice A2 x.f0.f1.f1.length a2, .slice A3 x.f0.f2.length a3, .slice A4 x.f1.length a4, .slice A5 x.f2.length a5]) (t := 45) (by simp) 2 rfl
  have p3 := H1.out.cell (g := w.heap.size) (cs := #[.int .i64 x.f0.f0, .int .i64 x.f0.f1.f0, .slice A2 x.f0.f1.f1.length a2, .slice A3 x.f0.f2.length a3, .slice A4 x.f1.length a4, .slice A5 x.f2.length a5]) (t := 45) (by simp) 3 rfl
  go_wp2_with fail
  refine (toN_raw x.f0 (toNs_all x.f0.f2) A2 A3 a2 a3 _ (Kd.C_below G2.out H1.out.1) L2.out (Kd.C_below G3.out H1.out.1) L3.out (by have := HW.out; omega)).mono ?_
  rintro e w2 ⟨B2, b2, B3, rfl, hl2, hS2, hb⟩
  have H3 := Lib.hid (H1.out.below hb)
  have LO := Lib.hid (H1.out.lt (g := w.heap.size + 2) (cs := #[.int .i64 0, .int .i64 0, .slice none 0 0, .slice none 0 0, .slice none 0 0, .slice none 0 0]) (t := 55) (by simp))
  obtain ⟨lo2, hlo2⟩ : ∃ q, q = (((w.alloc (.cells #[.int .i64 x.f0.f0, .int .i64 x.f0.f1.f0, .slice A2 x.f0.f1.f1.length a2, .slice A3 x.f0.f2.length a3, .slice A4 x.f1.length a4, .slice A5 x.f2.length a5] 45)).alloc (.cells #[.int .i64 0, .int .i64 0, .slice none 0 0, .slice none 0 0, .slice none 0 0, .slice none 0 0] 55)).alloc (.cells #[.int .i64 0, .int .i64 0, .slice none 0 0, .slice none 0 0, .slice none 0 0, .slice none 0 0] 55)).heap.size := ⟨_, rfl⟩
  rw [← hlo2] at hS2 LO
  have P2 := Lib.hid hS2
  have Q2 := Lib.hid hl2
  clear p0 p1 p2 p3 hl2 hS2 hb H1 hlo2
  go_upto_region 3 with (refine wl_kst rfl _ _ _ rfl H3.out (b := w.heap.size + 2) (old := #[.int .i64 0, .int .i64 0, .slice none 0 0, .slice none 0 0, .slice none 0 0, .slice none 0 0]) (t := 55) (by simp) 0 rfl (.agg #[.int .i64 x.f0.f0, .int .i64 x.f0.f1.f0, .slice B2 x.f0.f1.f1.length b2, .slice B3 x.f0.f2.length x.f0.f2.length]) rfl (by intro u hu; simp [Value.cells] at hu; rcases hu with rfl | rfl | rfl | rfl <;> rfl) 4 rfl (by simp) (by kernel_rfl) #[.int .i64 x.f0.f0, .int .i64 x.f0.f1.f0, .slice B2 x.f0.f1.f1.length b2, .slice B3 x.f0.f2.length x.f0.f2.length, .slice none 0 0, .slice none 0 0] rfl [(w.heap.size + 1, #[.int .i64 0, .int .i64 0, .slice none 0 0, .slice none 0 0, .slice none 0 0, .slice none 0 0], 55), (w.heap.size, #[.int .i64 x.f0.f0, .int .i64 x.f0.f1.f0, .slice A2 x.f0.f1.f1.length a2, .slice A3 x.f0.f2.length a3, .slice A4 x.f1.length a4, .slice A5 x.f2.length a5], 45)] (by simp) ?_; intro w3 x1 x2 x3)
  have H4 := Lib.hid x1
  have P3 := Lib.hid (P2.out.but x3 x2 LO.out)
  clear x1 x2 x3 H3 P2
  have p4 := H4.out.cell (g := w.heap.size) (cs := #[.int .i64 x.f0.f0, .int .i64 x.f0.f1.f0, .slice A2 x.f0.f1.f1.length a2, .slice A3 x.f0.f2.length a3, .slice A4 x.f1.length a4, .slice A5 x.f2.length a5]) (t := 45) (by simp) 4 rfl
  go_wp2_with fail
  refine (toEs_all x.f1 A4 a4 _ (Kd.C_below G4.out H4.out.1) L4.out (by have := HW.out; omega)).mono ?_
  rintro e w4 ⟨rfl, hS3, hb⟩
  obtain ⟨B4, hB4⟩ : ∃ q, some (⟨w3.heap.size, 0, none⟩ : Addr) = q := ⟨_, rfl⟩
  rw [hB4] at hS3 ⊢
  have H5 := Lib.hid (H4.out.below hb)
  have M4 := Lib.hid (H4.out.lt (g := w.heap.size + 2) (cs := #[.int .i64 x.f0.f0, .int .i64 x.f0.f1.f0, .slice B2 x.f0.f1.f1.length b2, .slice B3 x.f0.f2.length x.f0.f2.length, .slice none 0 0, .slice none 0 0]) (t := 55) (by simp))
  have P4 := Lib.hid ((P3.out.below hb).lower (Nat.le_refl _))
  have P5 := Lib.hid hS3
  have LW := Lib.hid H4.out.1.size
  clear p4 hS3 hb hB4 H4 P3
  go_upto_region 4 with (refine wl_kst rfl _ _ _ rfl H5.out (b := w.heap.size + 2) (old := #[.int .i64 x.f0.f0, .int .i64 x.f0.f1.f0, .slice B2 x.f0.f1.f1.length b2, .slice B3 x.f0.f2.length x.f0.f2.length, .slice none 0 0, .slice none 0 0]) (t := 55) (by simp) 4 rfl (.slice B4 x.f1.length x.f1.length) rfl (by intro u hu; simp [Value.cells] at hu; rw [hu]; rfl) 1 rfl (by simp) (by kernel_rfl) #[.int .i64 x.f0.f0, .int .i64 x.f0.f1.f0, .slice B2 x.f0.f1.f1.length b2, .slice B3 x.f0.f2.length x.f0.f2.length, .slice B4 x.f1.length x.f1.length, .slice none 0 0] rfl [(w.heap.size + 1, #[.int .i64 0, .int .i64 0, .slice none 0 0, .slice none 0 0, .slice none 0 0, .slice none 0 0], 55), (w.heap.size, #[.int .i64 x.f0.f0, .int .i64 x.f0.f1.f0, .slice A2 x.f0.f1.f1.length a2, .slice A3 x.f0.f2.length a3, .slice A4 x.f1.length a4, .slice A5 x.f2.length a5], 45)] (by simp) ?_; intro w5 x1 x2 x3)
  have H6 := Lib.hid x1
  have P6 := Lib.hid (P4.out.but x3 x2 LO.out)
  have P7 := Lib.hid (P5.out.but x3 x2 M4.out)
  clear x1 x2 x3 H5 P4 P5
  have p5 := H6.out.cell (g := w.heap.size) (cs := #[.int .i64 x.f0.f0, .int .i64 x.f0.f1.f0, .slice A2 x.f0.f1.f1.length a2, .slice A3 x.f0.f2.length a3, .slice A4 x.f1.length a4, .slice A5 x.f2.length a5]) (t := 45) (by simp) 5 rfl
  go_wp2_with fail
  refine (IH.out A5 a5 _ (Kd.C_below G5.out H6.out.1) L5.out (by have := HW.out; omega)).mono ?_
  rintro e w6 ⟨rfl, hS4, hb⟩
  obtain ⟨B5, hB5⟩ : ∃ q, some (⟨w5.heap.size, 0, none⟩ : Addr) = q := ⟨_, rfl⟩
  rw [hB5] at hS4 ⊢
  have H7 := Lib.hid (H6.out.below hb)
  have M6 := Lib.hid (H6.out.lt (g := w.heap.size + 2) (cs := #[.int .i64 x.f0.f0, .int .i64 x.f0.f1.f0, .slice B2 x.f0.f1.f1.length b2, .slice B3 x.f0.f2.length x.f0.f2.length, .slice B4 x.f1.length x.f1.length, .slice none 0 0]) (t := 55) (by simp))
  have P8 := Lib.hid (P6.out.below hb)
  have P9 := Lib.hid (P7.out.below hb)
  have P10 := Lib.hid hS4
  have LV := Lib.hid H6.out.1.size
  clear p5 hS4 hb hB5 H6 P6 P7
  go_upto_region 5 with (refine wl_kst rfl _ _ _ rfl H7.out (b := w.heap.size + 2) (old := #[.int .i64 x.f0.f0, .int .i64 x.f0.f1.f0, .slice B2 x.f0.f1.f1.length b2, .slice B3 x.f0.f2.length x.f0.f2.length, .slice B4 x.f1.length x.f1.length, .slice none 0 0]) (t := 55) (by simp) 5 rfl (.slice B5 x.f2.length x.f2.length) rfl (by intro u hu; simp [Value.cells] at hu; rw [hu]; rfl) 1 rfl (by simp) (by kernel_rfl) #[.int .i64 x.f0.f0, .int .i64 x.f0.f1.f0, .slice B2 x.f0.f1.f1.length b2, .slice B3 x.f0.f2.length x.f0.f2.length, .slice B4 x.f1.length x.f1.length, .slice B5 x.f2.length x.f2.length] rfl [(w.heap.size + 1, #[.int .i64 0, .int .i64 0, .slice none 0 0, .slice none 0 0, .slice none 0 0, .slice none 0 0], 55), (w.heap.size, #[.int .i64 x.f0.f0, .int .i64 x.f0.f1.f0, .slice A2 x.f0.f1.f1.length a2, .slice A3 x.f0.f2.length a3, .slice A4 x.f1.length a4, .slice A5 x.f2.length a5], 45)] (by simp) ?_; intro w7 x1 x2 x3)
  have H8 := Lib.hid x1
  have P11 := Lib.hid (P8.out.but x3 x2 LO.out)
  have P12 := Lib.hid (P9.out.but x3 x2 M4.out)
  have P13 := Lib.hid (P10.out.but x3 x2 M6.out)
  clear x1 x2 x3 H7 P8 P9 P10
  go_wp2_with (first | (refine wl_kld rfl _ _ rfl H8.out (b := w.heap.size + 2) (cs := #[.int .i64 x.f0.f0, .int .i64 x.f0.f1.f0, .slice B2 x.f0.f1.f1.length b2, .slice B3 x.f0.f2.length x.f0.f2.length, .slice B4 x.f1.length x.f1.length, .slice B5 x.f2.length x.f2.length]) (t := 55) (by simp) rfl (by kernel_rfl) 6 rfl (by kernel_rfl) ?_) | (refine wl_kst rfl _ _ _ rfl H8.out (b := w.heap.size + 1) (old := #[.int .i64 0, .int .i64 0, .slice none 0 0, .slice none 0 0, .slice none 0 0, .slice none 0 0]) (t := 55) (by simp) 0 rfl (.agg #[.int .i64 x.f0.f0, .int .i64 x.f0.f1.f0, .slice B2 x.f0.f1.f1.length b2, .slice B3 x.f0.f2.length x.f0.f2.length, .slice B4 x.f1.length x.f1.length, .slice B5 x.f2.length x.f2.length]) rfl (by intro u hu; simp [Value.cells] at hu; rcases hu with rfl | rfl | rfl | rfl | rfl | rfl <;> rfl) 6 rfl (by simp) (by kernel_rfl) #[.int .i64 x.f0.f0, .int .i64 x.f0.f1.f0, .slice B2 x.f0.f1.f1.length b2, .slice B3 x.f0.f2.length x.f0.f2.length, .slice B4 x.f1.length x.f1.length, .slice B5 x.f2.length x.f2.length] rfl [(w.heap.size + 2, #[.int .i64 x.f0.f0, .int .i64 x.f0.f1.f0, .slice B2 x.f0.f1.f1.length b2, .slice B3 x.f0.f2.length x.f0.f2.length, .slice B4 x.f1.length x.f1.length, .slice B5 x.f2.length x.f2.length], 55), (w.heap.size, #[.int .i64 x.f0.f0, .int .i64 x.f0.f1.f0, .slice A2 x.f0.f1.f1.length a2, .slice A3 x.f0.f2.length a3, .slice A4 x.f1.length a4, .slice A5 x.f2.length a5], 45)] (by simp) ?_; intro w8 x1 x2 x3))
  have H9 := Lib.hid x1
  have P14 := Lib.hid (P11.out.but x3 x2 (by have := LO.out; omega))
  have P15 := Lib.hid (P12.out.but x3 x2 (by have := M4.out; omega))
  have P16 := Lib.hid (P13.out.but x3 x2 (by have := M6.out; omega))
  clear x1 x2 x3 H8 P11 P12 P13
  refine bodyPost_ret (v := .agg #[.int .i64 x.f0.f0, .int .i64 x.f0.f1.f0, .slice B2 x.f0.f1.f1.length b2, .slice B3 x.f0.f2.length x.f0.f2.length, .slice B4 x.f1.length x.f1.length, .slice B5 x.f2.length x.f2.length]) (results_cell_row Try.results18 _ _ (w.heap.size + 1) 55 #[.int .i64 x.f0.f0, .int .i64 x.f0.f1.f0, .slice B2 x.f0.f1.f1.length b2, .slice B3 x.f0.f2.length x.f0.f2.length, .slice B4 x.f1.length x.f1.length, .slice B5 x.f2.length x.f2.length] (0, 0) _ rfl (H9.out.2 (w.heap.size + 1, #[.int .i64 x.f0.f0, .int .i64 x.f0.f1.f0, .slice B2 x.f0.f1.f1.length b2, .slice B3 x.f0.f2.length x.f0.f2.length, .slice B4 x.f1.length x.f1.length, .slice B5 x.f2.length x.f2.length], 55) (by simp)).2 Try.underlying55 rfl (by kernel_rfl)) rfl ?_
  exact ⟨B2, b2, B3, B4, B5, rfl, Q2.out, ((P14.out.lower (by have := LO.out; omega)).and (P15.out.lower LW.out)).and (P16.out.lower LV.out), H9.out.1⟩
theorem toA_of (x : EA) (ih : ToAs x.f2) : ToA x := by
  intro A2 A3 A4 A5 a2 a3 a4 a5 w g2 l2 g3 l3 g4 l4 g5 l5 hw
  refine (toA_raw x ih A2 A3 A4 A5 a2 a3 a4 a5 w g2 l2 g3 l3 g4 l4 g5 l5 hw).mono ?_
  rintro e w' ⟨B2, b2, B3, B4, B5, rfl, h1, h2, h3⟩
  refine ⟨_, rfl, rfl, ?_, h2.map fun W' h => ?_, h3⟩
  · intro v hv
    simp at hv
    rcases hv with rfl | rfl | rfl | rfl | rfl | rfl <;> rfl
  · have := k55_mk W' (cA x) (A2 := B2) (c2 := b2) (A3 := B3) (c3 := x.f0.f2.length) (A4 := B4) (c4 := x.f1.length) (A5 := B5) (c5 := x.f2.length) (by rw [cA_eq, cN_eq]; simpa [cE] using h1) (by rw [cA_eq, cN_eq]; exact h.1.1.1) (by rw [cA_eq, cN_eq, cNs_eq, List.length_map]; exact Nat.le_refl _) (by rw [cA_eq, cN_eq, cNs_eq]; exact h.1.1.2) (by rw [cA_eq, List.length_map]; exact Nat.le_refl _) (by rw [cA_eq]; exact h.1.2) (by rw [cA_eq, cAs_eq, List.length_map]; exact Nat.le_refl _) (by rw [cA_eq, cAs_eq]; exact h.2)
    rw [cA_eq, cN_eq, cNs_eq, cAs_eq] at this ⊢
    simp only [List.length_map] at this ⊢
    simpa [cE] using this
theorem toAs_all (Y : List EA) : ToAs Y := by
  have : ∀ (N : Nat) (Y : List EA), SizeOf.sizeOf Y ≤ N → ToAs Y := by
    intro N
    induction N with
    | zero => intro Y h; cases Y <;> simp at h
    | succ N ih =>
      intro Y h
      refine toAs_of Y fun x hx => toA_of x (ih _ ?_)
      have h1 := List.sizeOf_lt_of_mem hx
      have h2 : SizeOf.sizeOf x.f2 < SizeOf.sizeOf x := by obtain ⟨a, b, d⟩ := x; simp; omega
      omega
  exact this _ Y (Nat.le_refl _)
end Go.Proofs.Ytkiemiolellllaa.tree
