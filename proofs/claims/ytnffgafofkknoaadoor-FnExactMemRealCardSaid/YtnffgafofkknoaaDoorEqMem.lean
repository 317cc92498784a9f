/-
  'eqMem' and what it calls, of cells against themselves: true.
  Conditions: the cells have the kinds of the type.
-/
import Derived.Test.YtnffgafofkknoaaDoorPart
import Derived.Test.YtnffgafofkknoaaDoorSameFloat
import Derived.Deep.LoopGhost
import Derived.BigQuiet
import Derived.Deep.QuietTactic
import Derived.Deep.RegionWith
namespace Go.Proofs.YtnffgafofkknoaaDoor.part
open Go Go.RowKit
set_option linter.unusedVariables false
set_option linter.unusedSimpArgs false

/-- Two boxes with the same cells. -/
def Tw (t : TypeId) (cs : Array Value) (W w : World) : Prop :=
  w.heap[W.heap.size]? = some (.cells cs t (0, 0)) ∧ w.heap[W.heap.size + 1]? = some (.cells cs t (0, 0)) ∧ Below W.heap.size W w
theorem Tw.start (t : TypeId) (cs : Array Value) (W : World) : Tw t cs W ((W.alloc (.cells cs t)).alloc (.cells cs t)) := by
  have e1 := size_alloc W (.cells cs t)
  refine ⟨?_, ?_, ((Below.refl _ _).alloc (Nat.le_refl _) _).alloc (by omega) _⟩
  · rw [heap_alloc_old _ _ (by omega)]; exact heap_alloc_new _ _
  · rw [← e1]; exact heap_alloc_new _ _
theorem Tw.below {t : TypeId} {cs : Array Value} {W w w1 : World} (h : Tw t cs W w) (hb : Below w.heap.size w w1) : Tw t cs W w1 := by
  obtain ⟨a, b, d⟩ := h
  have k : ∀ {g : Nat} {o : Obj}, w.heap[g]? = some o → w1.heap[g]? = some o := fun {g o} hg => (hb.block g (Array.getElem?_eq_some_iff.1 hg).1).trans hg
  exact ⟨k a, k b, d.trans (hb.mono d.size)⟩
theorem below_drewN' (w : World) (m : Nat) : Below w.heap.size w (w.drewN m) := ⟨rfl, rfl, rfl, Nat.le_refl _, fun _ _ => rfl⟩

theorem eqTimer (d : Bool) (c : Int) (w : World) :
    Calls Tryd.prog 65 #[.agg #[.bool d, .int .u16 c], .agg #[.bool d, .int .u16 c]] w fun e w' => e = .returned (.bool true) ∧ Below w.heap.size w w' := by
  go_enter Tryd.func65, Tryd.ntmps65
  go_wp2
  go_ret
  exact ⟨rfl, ((Below.refl _ _).alloc (Nat.le_refl _) _).alloc (by simp) _⟩

theorem eqCounter (d l : Bool) (c : Int) (w : World) :
    Calls Tryd.prog 66 #[.agg #[.bool d, .bool l, .int .u16 c], .agg #[.bool d, .bool l, .int .u16 c]] w fun e w' => e = .returned (.bool true) ∧ Below w.heap.size w w' := by
  go_enter Tryd.func66, Tryd.ntmps66
  go_wp2
  go_ret
  exact ⟨rfl, ((Below.refl _ _).alloc (Nat.le_refl _) _).alloc (by simp) _⟩

set_option maxRecDepth 100000 in
theorem eqWholes (cs : Array Value) (hc : ∀ j, j < 32 → ∃ n, cs[j]? = some (.int .i16 n)) (w : World) :
    Calls Tryd.prog 48 #[.agg cs, .agg cs] w fun e w' => e = .returned (.bool true) ∧ Below w.heap.size w w' := by
  have HC := Lib.hid hc
  clear hc
  go_enter Tryd.func48, Tryd.ntmps48
  go_wp2_with fail
  go_loopg [5] 32 (fun kq v w' => ∃ i : Nat, v = .int .i64 i ∧ Hid (i + kq = 32) ∧ Tw 32 cs w w')
  case atStart => exact ⟨0, rfl, Lib.hid (by decide), Tw.start _ _ _⟩
  case round =>
    obtain ⟨i, rfl, hk, ht⟩ := hrel
    cases gk with
    | zero =>
      have hi : i = 32 := by have := hk.out; omega
      subst hi
      go_wp2_with fail
      go_ret
      exact ⟨rfl, ht.2.2⟩
    | succ k1 =>
      have hlt : i < 32 := by have := hk.out; omega
      obtain ⟨n, g0⟩ := HC.out i hlt
      have c0a := kit.box_cell ht.1 (i) g0
      have c0b := kit.box_cell ht.2.1 (i) g0
      clear g0
      go_wp2_with fail
      go_quiet (fail)
      go_wp2_with fail
      go_roundg k1
      case measure => have := hk.out; omega
      case rel => exact ⟨i + 1, by first | rfl | (push_cast; rfl), Lib.hid (by have := hk.out; omega), ht.below (below_drewN' _ _)⟩

set_option maxRecDepth 100000 in
theorem eqReals (cs : Array Value) (hc : ∀ j, j < 16 → ∃ n, cs[j]? = some (.float .f64 n)) (w : World) :
    Calls Tryd.prog 49 #[.agg cs, .agg cs] w fun e w' => e = .returned (.bool true) ∧ Below w.heap.size w w' := by
  have HC := Lib.hid hc
  clear hc
  go_enter Tryd.func49, Tryd.ntmps49
  go_wp2_with fail
  go_loopg [5] 16 (fun kq v w' => ∃ i : Nat, v = .int .i64 i ∧ Hid (i + kq = 16) ∧ Tw 34 cs w w')
  case atStart => exact ⟨0, rfl, Lib.hid (by decide), Tw.start _ _ _⟩
  case round =>
    obtain ⟨i, rfl, hk, ht⟩ := hrel
    cases gk with
    | zero =>
      have hi : i = 16 := by have := hk.out; omega
      subst hi
      go_wp2_with fail
      go_ret
      exact ⟨rfl, ht.2.2⟩
    | succ k1 =>
      have hlt : i < 16 := by have := hk.out; omega
      obtain ⟨n, g0⟩ := HC.out i hlt
      have c0a := kit.box_cell ht.1 (i) g0
      have c0b := kit.box_cell ht.2.1 (i) g0
      clear g0
      go_wp2_with fail
      go_quiet ((go_at_call 25; exact Calls.quiet_of_same ((flo.same_any n n _ (flo.Same.refl n)).mono fun _ _ h => ⟨h.1, h.2.symm⟩)))
      go_wp2_with fail
      go_roundg k1
      case measure => have := hk.out; omega
      case rel => exact ⟨i + 1, by first | rfl | (push_cast; rfl), Lib.hid (by have := hk.out; omega), ht.below (below_drewN' _ _)⟩

set_option maxRecDepth 100000 in
theorem eqTimers (cs : Array Value) (hc : ∀ j, j < 16 → ∃ d c, cs[j * 2]? = some (.bool d) ∧ cs[j * 2 + 1]? = some (.int .u16 c)) (w : World) :
    Calls Tryd.prog 46 #[.agg cs, .agg cs] w fun e w' => e = .returned (.bool true) ∧ Below w.heap.size w w' := by
  have HC := Lib.hid hc
  clear hc
  go_enter Tryd.func46, Tryd.ntmps46
  go_wp2_with fail
  go_loopg [5] 16 (fun kq v w' => ∃ i : Nat, v = .int .i64 i ∧ Hid (i + kq = 16) ∧ Tw 41 cs w w')
  case atStart => exact ⟨0, rfl, Lib.hid (by decide), Tw.start _ _ _⟩
  case round =>
    obtain ⟨i, rfl, hk, ht⟩ := hrel
    cases gk with
    | zero =>
      have hi : i = 16 := by have := hk.out; omega
      subst hi
      go_wp2_with fail
      go_ret
      exact ⟨rfl, ht.2.2⟩
    | succ k1 =>
      have hlt : i < 16 := by have := hk.out; omega
      obtain ⟨d, c, g0, g1⟩ := HC.out i hlt
      have c0a := kit.box_cell ht.1 (i * 2) g0
      have c0b := kit.box_cell ht.2.1 (i * 2) g0
      have c1a := kit.box_cell ht.1 (i * 2 + 1) g1
      have c1b := kit.box_cell ht.2.1 (i * 2 + 1) g1
      clear g0 g1
      go_wp2_with fail
      have Ht := Lib.hid ht
      clear ht
      go_region_with (go_at_call 65; refine (eqTimer d c _).mono ?_; rintro e w3 ⟨rfl, hb⟩)
      all_goals
        go_wp2_with fail
        go_roundg k1
        case measure => have := hk.out; omega
        case rel => exact ⟨i + 1, by first | rfl | (push_cast; rfl), Lib.hid (by have := hk.out; omega), Ht.out.below (by first | exact (below_drewN' _ _).trans (hb.mono (Nat.le_refl _)) | exact hb | exact (Below.refl _ _).drew.trans hb)⟩

set_option maxRecDepth 100000 in
theorem eqCounters (cs : Array Value) (hc : ∀ j, j < 16 → ∃ d l c, cs[j * 3]? = some (.bool d) ∧ cs[j * 3 + 1]? = some (.bool l) ∧ cs[j * 3 + 2]? = some (.int .u16 c)) (w : World) :
    Calls Tryd.prog 47 #[.agg cs, .agg cs] w fun e w' => e = .returned (.bool true) ∧ Below w.heap.size w w' := by
  have HC := Lib.hid hc
  clear hc
  go_enter Tryd.func47, Tryd.ntmps47
  go_wp2_with fail
  go_loopg [5] 16 (fun kq v w' => ∃ i : Nat, v = .int .i64 i ∧ Hid (i + kq = 16) ∧ Tw 43 cs w w')
  case atStart => exact ⟨0, rfl, Lib.hid (by decide), Tw.start _ _ _⟩
  case round =>
    obtain ⟨i, rfl, hk, ht⟩ := hrel
    cases gk with
    | zero =>
      have hi : i = 16 := by have := hk.out; omega
      subst hi
      go_wp2_with fail
      go_ret
      exact ⟨rfl, ht.2.2⟩
    | succ k1 =>
      have hlt : i < 16 := by have := hk.out; omega
      obtain ⟨d, l, c, g0, g1, g2⟩ := HC.out i hlt
      have c0a := kit.box_cell ht.1 (i * 3) g0
      have c0b := kit.box_cell ht.2.1 (i * 3) g0
      have c1a := kit.box_cell ht.1 (i * 3 + 1) g1
      have c1b := kit.box_cell ht.2.1 (i * 3 + 1) g1
      have c2a := kit.box_cell ht.1 (i * 3 + 2) g2
      have c2b := kit.box_cell ht.2.1 (i * 3 + 2) g2
      clear g0 g1 g2
      go_wp2_with fail
      have Ht := Lib.hid ht
      clear ht
      go_region_with (go_at_call 66; refine (eqCounter d l c _).mono ?_; rintro e w3 ⟨rfl, hb⟩)
      all_goals
        go_wp2_with fail
        go_roundg k1
        case measure => have := hk.out; omega
        case rel => exact ⟨i + 1, by first | rfl | (push_cast; rfl), Lib.hid (by have := hk.out; omega), Ht.out.below (by first | exact (below_drewN' _ _).trans (hb.mono (Nat.le_refl _)) | exact hb | exact (Below.refl _ _).drew.trans hb)⟩

/-- The kinds of a memory's cells. -/
structure Shape (cs : Array Value) : Prop where
  size : cs.size = 136
  one : ∀ x ∈ cs, x.oneCell' = true
  X : ∃ a, cs[0]? = some (.int .u32 a)
  Y : ∃ a, cs[1]? = some (.int .u32 a)
  M : ∃ a, cs[2]? = some (.int .u64 a)
  S : ∃ a, cs[3]? = some (.int .u16 a)
  E : ∃ a, cs[4]? = some (.int .u32 a)
  T : ∀ j, j < 16 → ∃ d c, cs[5 + j * 2]? = some (.bool d) ∧ cs[5 + (j * 2 + 1)]? = some (.int .u16 c)
  C : ∀ j, j < 16 → ∃ d l c, cs[37 + j * 3]? = some (.bool d) ∧ cs[37 + (j * 3 + 1)]? = some (.bool l) ∧ cs[37 + (j * 3 + 2)]? = some (.int .u16 c)
  D : ∀ j, j < 32 → ∃ n, cs[85 + j]? = some (.int .i16 n)
  R : ∀ j, j < 16 → ∃ n, cs[117 + j]? = some (.float .f64 n)
  Time : ∃ a, cs[133]? = some (.int .u32 a)
  Ran : ∃ a, cs[134]? = some (.bool a)
  Fault : ∃ a, cs[135]? = some (.bool a)

theorem cel_is {cs : Array Value} {off : Nat} {v : Value} (h : cs[off]? = some v) : cel cs off = v := by
  unfold cel
  rw [Array.getD_eq_getD_getElem?, h]
  rfl
theorem cut_at (cs : Array Value) (off n j : Nat) (hj : j < n) (h : off + n ≤ cs.size) : (cut cs off n)[j]? = cs[off + j]? := by
  unfold cut
  rw [Array.getElem?_extract, if_pos (by omega)]

section
variable {P : Program} {ops : Array Oper} {rest : List Oper} {o : Oper} {a : Act} {w W : World} {Q : Exit → Act → World → Prop} {t : TypeId} {cs : Array Value} {fr : Nat × Nat}
theorem wl_genT (h : Tw t cs W w) (k : ∀ w1, Tw t cs W w1 → wpList P ops Q rest a w1) : wpList P ops Q rest a w := k w h
theorem wl_g1 (hgd : o.guard = none) (ty : TypeId) (x : Operand) (ho : o.op = .load ty x) (g off : Nat) (hx : a.eval x = .pointer (some ⟨g, off, none⟩)) (hg : w.heap[g]? = some (.cells cs t fr)) (hoff : off < cs.size) (hu : scalarB P ty = true)
    (h : wpList P ops Q rest (a.put o.dst (cel cs off)) w) : wpList P ops Q (o :: rest) a w := by
  refine wpList_plain hgd fun _ hK => ?_
  have hc : w.cell? ⟨g, off, none⟩ = some (cel cs off) := by
    rw [cell_of_row w g off cs t _ hg]
    simp [cel, hoff]
  have e : (loadVar ty ⟨g, off, none⟩).run P w = .ok (cel cs off) w := by simp [loadVar, Sem.run_bind, scalar_run hu w, hc]
  unfold Oper.wp execOp
  simp only [ho, hx, Instr.loadAt, Instr.sureAddr, Sem.run_bind, Sem.run_pure, Result.andThen_ok, e]
  exact hK _ _ h
theorem wl_gp (hgd : o.guard = none) (ty : TypeId) (x : Operand) (ho : o.op = .load ty x) (g off n : Nat) (hx : a.eval x = .pointer (some ⟨g, off, none⟩)) (hg : w.heap[g]? = some (.cells cs t fr)) (hu : aggB P ty = true) (hi : (P.info? ty).map (·.size) = some n) (hoff : off + n ≤ cs.size)
    (h : wpList P ops Q rest (a.put o.dst (.agg (cut cs off n))) w) : wpList P ops Q (o :: rest) a w := by
  refine wpList_plain hgd fun _ hK => ?_
  unfold Oper.wp execOp
  simp only [ho, hx, Instr.loadAt, Instr.sureAddr, Sem.run_bind, Sem.run_pure, Result.andThen_ok, run_ldp hg hoff (agg_run hu w) hi]
  exact hK _ _ h
end

set_option maxRecDepth 100000 in
set_option maxHeartbeats 2000000 in
theorem eqMem (cs : Array Value) (hs : Shape cs) (w : World) :
    Calls Tryd.prog 20 #[.agg cs, .agg cs] w fun e w' => e = .returned (.bool true) ∧ Below w.heap.size w w' := by
  have HS := Lib.hid hs
  obtain ⟨x0, e0⟩ := hs.X
  obtain ⟨x1, e1⟩ := hs.Y
  obtain ⟨x2, e2⟩ := hs.M
  obtain ⟨x3, e3⟩ := hs.S
  obtain ⟨x4, e4⟩ := hs.E
  obtain ⟨x5, e5⟩ := hs.Time
  obtain ⟨x6, e6⟩ := hs.Ran
  obtain ⟨x7, e7⟩ := hs.Fault
  have c0 := cel_is e0
  have c1 := cel_is e1
  have c2 := cel_is e2
  have c3 := cel_is e3
  have c4 := cel_is e4
  have c5 := cel_is e5
  have c6 := cel_is e6
  have c7 := cel_is e7
  have hT : ∀ j, j < 16 → ∃ d c, (cut cs 5 32)[j * 2]? = some (.bool d) ∧ (cut cs 5 32)[j * 2 + 1]? = some (.int .u16 c) := fun j hj => by
    rw [cut_at _ _ _ _ (by omega) (by rw [hs.size]; decide), cut_at _ _ _ _ (by omega) (by rw [hs.size]; decide)]; exact hs.T j hj
  have hC : ∀ j, j < 16 → ∃ d l c, (cut cs 37 48)[j * 3]? = some (.bool d) ∧ (cut cs 37 48)[j * 3 + 1]? = some (.bool l) ∧ (cut cs 37 48)[j * 3 + 2]? = some (.int .u16 c) := fun j hj => by
    rw [cut_at _ _ _ _ (by omega) (by rw [hs.size]; decide), cut_at _ _ _ _ (by omega) (by rw [hs.size]; decide), cut_at _ _ _ _ (by omega) (by rw [hs.size]; decide)]; exact hs.C j hj
  have hD : ∀ j, j < 32 → ∃ n, (cut cs 85 32)[j]? = some (.int .i16 n) := fun j hj => by
    rw [cut_at _ _ _ _ (by omega) (by rw [hs.size]; decide)]; exact hs.D j hj
  have hR : ∀ j, j < 16 → ∃ n, (cut cs 117 16)[j]? = some (.float .f64 n) := fun j hj => by
    rw [cut_at _ _ _ _ (by omega) (by rw [hs.size]; decide)]; exact hs.R j hj
  have HT := Lib.hid hT
  have HC := Lib.hid hC
  have HD := Lib.hid hD
  have HR := Lib.hid hR
  clear hT hC hD hR e0 e1 e2 e3 e4 e5 e6 e7 hs
  go_enter Tryd.func20, Tryd.ntmps20
  go_wp2_with (first | (with_reducible refine wl_genT (Tw.start 45 cs w) ?_; intro w0 ht) | (refine wl_g1 rfl _ _ rfl _ _ rfl ht.1 (by rw [HS.out.size]; decide) (by decide +kernel) ?_) | (refine wl_g1 rfl _ _ rfl _ _ rfl ht.2.1 (by rw [HS.out.size]; decide) (by decide +kernel) ?_) | (refine wl_gp rfl 41 _ rfl _ _ 32 rfl ht.1 (by kernel_rfl) (by kernel_rfl) (by rw [HS.out.size]; decide) ?_) | (refine wl_gp rfl 41 _ rfl _ _ 32 rfl ht.2.1 (by kernel_rfl) (by kernel_rfl) (by rw [HS.out.size]; decide) ?_) | (refine wl_gp rfl 43 _ rfl _ _ 48 rfl ht.1 (by kernel_rfl) (by kernel_rfl) (by rw [HS.out.size]; decide) ?_) | (refine wl_gp rfl 43 _ rfl _ _ 48 rfl ht.2.1 (by kernel_rfl) (by kernel_rfl) (by rw [HS.out.size]; decide) ?_) | (refine wl_gp rfl 32 _ rfl _ _ 32 rfl ht.1 (by kernel_rfl) (by kernel_rfl) (by rw [HS.out.size]; decide) ?_) | (refine wl_gp rfl 32 _ rfl _ _ 32 rfl ht.2.1 (by kernel_rfl) (by kernel_rfl) (by rw [HS.out.size]; decide) ?_) | (refine wl_gp rfl 34 _ rfl _ _ 16 rfl ht.1 (by kernel_rfl) (by kernel_rfl) (by rw [HS.out.size]; decide) ?_) | (refine wl_gp rfl 34 _ rfl _ _ 16 rfl ht.2.1 (by kernel_rfl) (by kernel_rfl) (by rw [HS.out.size]; decide) ?_))
  refine (eqTimers _ HT.out _).mono ?_
  rintro e w3 ⟨rfl, hb⟩
  have ht2 := ht.below hb
  clear ht hb
  have ht := ht2
  clear ht2
  go_wp2_with (first | (with_reducible refine wl_genT (Tw.start 45 cs w) ?_; intro w0 ht) | (refine wl_g1 rfl _ _ rfl _ _ rfl ht.1 (by rw [HS.out.size]; decide) (by decide +kernel) ?_) | (refine wl_g1 rfl _ _ rfl _ _ rfl ht.2.1 (by rw [HS.out.size]; decide) (by decide +kernel) ?_) | (refine wl_gp rfl 41 _ rfl _ _ 32 rfl ht.1 (by kernel_rfl) (by kernel_rfl) (by rw [HS.out.size]; decide) ?_) | (refine wl_gp rfl 41 _ rfl _ _ 32 rfl ht.2.1 (by kernel_rfl) (by kernel_rfl) (by rw [HS.out.size]; decide) ?_) | (refine wl_gp rfl 43 _ rfl _ _ 48 rfl ht.1 (by kernel_rfl) (by kernel_rfl) (by rw [HS.out.size]; decide) ?_) | (refine wl_gp rfl 43 _ rfl _ _ 48 rfl ht.2.1 (by kernel_rfl) (by kernel_rfl) (by rw [HS.out.size]; decide) ?_) | (refine wl_gp rfl 32 _ rfl _ _ 32 rfl ht.1 (by kernel_rfl) (by kernel_rfl) (by rw [HS.out.size]; decide) ?_) | (refine wl_gp rfl 32 _ rfl _ _ 32 rfl ht.2.1 (by kernel_rfl) (by kernel_rfl) (by rw [HS.out.size]; decide) ?_) | (refine wl_gp rfl 34 _ rfl _ _ 16 rfl ht.1 (by kernel_rfl) (by kernel_rfl) (by rw [HS.out.size]; decide) ?_) | (refine wl_gp rfl 34 _ rfl _ _ 16 rfl ht.2.1 (by kernel_rfl) (by kernel_rfl) (by rw [HS.out.size]; decide) ?_))
  refine (eqCounters _ HC.out _).mono ?_
  rintro e w3 ⟨rfl, hb⟩
  have ht2 := ht.below hb
  clear ht hb
  have ht := ht2
  clear ht2
  go_wp2_with (first | (with_reducible refine wl_genT (Tw.start 45 cs w) ?_; intro w0 ht) | (refine wl_g1 rfl _ _ rfl _ _ rfl ht.1 (by rw [HS.out.size]; decide) (by decide +kernel) ?_) | (refine wl_g1 rfl _ _ rfl _ _ rfl ht.2.1 (by rw [HS.out.size]; decide) (by decide +kernel) ?_) | (refine wl_gp rfl 41 _ rfl _ _ 32 rfl ht.1 (by kernel_rfl) (by kernel_rfl) (by rw [HS.out.size]; decide) ?_) | (refine wl_gp rfl 41 _ rfl _ _ 32 rfl ht.2.1 (by kernel_rfl) (by kernel_rfl) (by rw [HS.out.size]; decide) ?_) | (refine wl_gp rfl 43 _ rfl _ _ 48 rfl ht.1 (by kernel_rfl) (by kernel_rfl) (by rw [HS.out.size]; decide) ?_) | (refine wl_gp rfl 43 _ rfl _ _ 48 rfl ht.2.1 (by kernel_rfl) (by kernel_rfl) (by rw [HS.out.size]; decide) ?_) | (refine wl_gp rfl 32 _ rfl _ _ 32 rfl ht.1 (by kernel_rfl) (by kernel_rfl) (by rw [HS.out.size]; decide) ?_) | (refine wl_gp rfl 32 _ rfl _ _ 32 rfl ht.2.1 (by kernel_rfl) (by kernel_rfl) (by rw [HS.out.size]; decide) ?_) | (refine wl_gp rfl 34 _ rfl _ _ 16 rfl ht.1 (by kernel_rfl) (by kernel_rfl) (by rw [HS.out.size]; decide) ?_) | (refine wl_gp rfl 34 _ rfl _ _ 16 rfl ht.2.1 (by kernel_rfl) (by kernel_rfl) (by rw [HS.out.size]; decide) ?_))
  refine (eqWholes _ HD.out _).mono ?_
  rintro e w3 ⟨rfl, hb⟩
  have ht2 := ht.below hb
  clear ht hb
  have ht := ht2
  clear ht2
  go_wp2_with (first | (with_reducible refine wl_genT (Tw.start 45 cs w) ?_; intro w0 ht) | (refine wl_g1 rfl _ _ rfl _ _ rfl ht.1 (by rw [HS.out.size]; decide) (by decide +kernel) ?_) | (refine wl_g1 rfl _ _ rfl _ _ rfl ht.2.1 (by rw [HS.out.size]; decide) (by decide +kernel) ?_) | (refine wl_gp rfl 41 _ rfl _ _ 32 rfl ht.1 (by kernel_rfl) (by kernel_rfl) (by rw [HS.out.size]; decide) ?_) | (refine wl_gp rfl 41 _ rfl _ _ 32 rfl ht.2.1 (by kernel_rfl) (by kernel_rfl) (by rw [HS.out.size]; decide) ?_) | (refine wl_gp rfl 43 _ rfl _ _ 48 rfl ht.1 (by kernel_rfl) (by kernel_rfl) (by rw [HS.out.size]; decide) ?_) | (refine wl_gp rfl 43 _ rfl _ _ 48 rfl ht.2.1 (by kernel_rfl) (by kernel_rfl) (by rw [HS.out.size]; decide) ?_) | (refine wl_gp rfl 32 _ rfl _ _ 32 rfl ht.1 (by kernel_rfl) (by kernel_rfl) (by rw [HS.out.size]; decide) ?_) | (refine wl_gp rfl 32 _ rfl _ _ 32 rfl ht.2.1 (by kernel_rfl) (by kernel_rfl) (by rw [HS.out.size]; decide) ?_) | (refine wl_gp rfl 34 _ rfl _ _ 16 rfl ht.1 (by kernel_rfl) (by kernel_rfl) (by rw [HS.out.size]; decide) ?_) | (refine wl_gp rfl 34 _ rfl _ _ 16 rfl ht.2.1 (by kernel_rfl) (by kernel_rfl) (by rw [HS.out.size]; decide) ?_))
  refine (eqReals _ HR.out _).mono ?_
  rintro e w3 ⟨rfl, hb⟩
  have ht2 := ht.below hb
  clear ht hb
  have ht := ht2
  clear ht2
  go_wp2_with (first | (with_reducible refine wl_genT (Tw.start 45 cs w) ?_; intro w0 ht) | (refine wl_g1 rfl _ _ rfl _ _ rfl ht.1 (by rw [HS.out.size]; decide) (by decide +kernel) ?_) | (refine wl_g1 rfl _ _ rfl _ _ rfl ht.2.1 (by rw [HS.out.size]; decide) (by decide +kernel) ?_) | (refine wl_gp rfl 41 _ rfl _ _ 32 rfl ht.1 (by kernel_rfl) (by kernel_rfl) (by rw [HS.out.size]; decide) ?_) | (refine wl_gp rfl 41 _ rfl _ _ 32 rfl ht.2.1 (by kernel_rfl) (by kernel_rfl) (by rw [HS.out.size]; decide) ?_) | (refine wl_gp rfl 43 _ rfl _ _ 48 rfl ht.1 (by kernel_rfl) (by kernel_rfl) (by rw [HS.out.size]; decide) ?_) | (refine wl_gp rfl 43 _ rfl _ _ 48 rfl ht.2.1 (by kernel_rfl) (by kernel_rfl) (by rw [HS.out.size]; decide) ?_) | (refine wl_gp rfl 32 _ rfl _ _ 32 rfl ht.1 (by kernel_rfl) (by kernel_rfl) (by rw [HS.out.size]; decide) ?_) | (refine wl_gp rfl 32 _ rfl _ _ 32 rfl ht.2.1 (by kernel_rfl) (by kernel_rfl) (by rw [HS.out.size]; decide) ?_) | (refine wl_gp rfl 34 _ rfl _ _ 16 rfl ht.1 (by kernel_rfl) (by kernel_rfl) (by rw [HS.out.size]; decide) ?_) | (refine wl_gp rfl 34 _ rfl _ _ 16 rfl ht.2.1 (by kernel_rfl) (by kernel_rfl) (by rw [HS.out.size]; decide) ?_))
  go_ret
  exact ⟨rfl, ht.2.2⟩
end Go.Proofs.YtnffgafofkknoaaDoor.part
