/-
  Laws of whatever program that close the row of a Go law which returns true and writes nothing that was there.
  Conditions: the arguments' and variables' types can be read as data; the walk says 'Below'.
-/
import Derived.Test.YtkiemiolellllaaRows
import Derived.WalkKit
import Derived.ProofKit
import Derived.OpenShut
import Derived.OpenVars
import Derived.ChangeOld
import Derived.Carry
import Derived.Laws.Rows
import Derived.Lib.Hide
import Derived.ChangeSlices
import Derived.SliceStrings
import Derived.FnData
import Derived.MakeChecks
namespace Go.Proofs.Ytkiemiolellllaa.kit
open Go.ChangeShapes Go.WideShapes Go.ChangeAt Go.RowKit

theorem laidOut : laidOutB Try.prog = true := by kernel_rfl
theorem own : ownKnob Try.prog.godebug = none := by kernel_rfl

def readables (P : Program) (ts : List TypeId) : Bool := ts.all fun t => P.readableRec t && decide (t < P.types.size)

theorem below_trodAll {H : Type} {enc : TypeId × Value → H} {P : Program} (hl : laidOutB P = true) {W W' : World} (hb : Below W.heap.size W W') :
    ∀ {ts : List TypeId} {vs : List Value} {ds : List (DataW H)} {ps : List MemPlace}, readables P ts = true → DataW.TrodAll enc P W 0 (fun _ => true) true ts vs ds ps →
      DataW.TrodAll enc P W' 0 (fun b => decide (b < W.heap.size)) true ts vs ds ps
  | [], [], [], _, _, h => h
  | [], [], _ :: _, _, _, h => h.elim
  | [], _ :: _, _, _, _, h => h.elim
  | _ :: _, [], _, _, _, h => h.elim
  | _ :: _, _ :: _, [], _, _, h => h.elim
  | t :: ts, v :: vs, d :: ds, ps, hr, h => by
    obtain ⟨p, q, h1, h2, e⟩ := h
    simp only [readables, List.all_cons, Bool.and_eq_true, decide_eq_true_eq] at hr
    have lt : ∀ x ∈ p, x.block < W.heap.size := by obtain ⟨m, hm⟩ := h1; exact DataW.trod_lt m _ _ _ hm
    exact ⟨p, q, Below.trod hl hr.1.1 hr.1.2 h1 hb lt, below_trodAll hl hb (by simpa [readables] using hr.2) h2, e⟩

theorem trodAll_length {H : Type} {enc : TypeId × Value → H} {P : Program} {w : World} {base : Nat} {spare : Nat → Bool} {held : Bool} :
    ∀ {ts : List TypeId} {vs : List Value} {ds : List (DataW H)} {ps : List MemPlace}, DataW.TrodAll enc P w base spare held ts vs ds ps → vs.length = ts.length ∧ ds.length = ts.length
  | [], [], [], _, _ => ⟨rfl, rfl⟩
  | [], [], _ :: _, _, h => h.elim
  | [], _ :: _, _, _, h => h.elim
  | _ :: _, [], _, _, h => h.elim
  | _ :: _, _ :: _, [], _, h => h.elim
  | _ :: _, _ :: _, _ :: _, _, h => by
    obtain ⟨p, q, _, h2, _⟩ := h
    have := trodAll_length h2
    simp [this.1, this.2]

theorem trodVars_length {H : Type} {enc : TypeId × Value → H} {P : Program} {w : World} {spare : Nat → Bool} :
    ∀ {ns : List String} {ds : List (DataW H)} {ps : List MemPlace}, DataW.TrodVars enc P w spare ns ds ps → ds.length = ns.length
  | [], [], _, _ => rfl
  | [], _ :: _, _, h => h.elim
  | _ :: _, [], _, h => h.elim
  | _ :: _, _ :: _, _, h => by
    obtain ⟨_, _, _, _, _, _, _, _, _, _, h2, _⟩ := h
    simp [trodVars_length h2]

theorem post_true {H : Type} {enc : TypeId × Value → H} {P : Program} {fn : Func} {s : ChangeSpec} {W W' : World} {args : Array Value} {ds gs : List (DataW H)} {before : List MemPlace} {tb : TypeId}
    (hl : laidOutB P = true) (hr : readables P fn.params.toList = true) (hv : varsRowed P s.vars = true) (hres : fn.resultTypes = #[tb]) (hb : P.underlying tb = some .bool)
    (hW : DataW.Whole enc P fn.params.toList s.vars false W args.toList ds gs before)
    (hs : ds.length = fn.params.toList.length → gs.length = s.vars.length → s.fn H (ds ++ gs) = { results := [.lit (.bool true)], args := ds, vars := gs })
    (bel : Below W.heap.size W W') : s.post enc P fn false true false false W args (.bool true) W' := by
  have hW' := hW
  obtain ⟨p, q, hA, hV, _, _, _⟩ := hW
  have e := hs (trodAll_length hA).2 (trodVars_length hV)
  refine ⟨ds, gs, before, [], p, q, hW', ?_, ?_, ?_, bel.frame _, fun h => by cases h⟩
  · rw [e, hres]
    exact trodAll_mk1 (shut_bool hb _)
  · rw [e]
    exact below_trodAll hl bel hr hA
  · rw [e]
    exact Below.trodVars hl bel hv hV

/-! ### lists and arrays of a known length -/
theorem list0 {α : Type} {l : List α} (h : l.length = 0) : l = [] := by cases l <;> simp_all
theorem list1 {α : Type} {l : List α} (h : l.length = 1) : ∃ a, l = [a] := by
  match l, h with
  | [a], _ => exact ⟨a, rfl⟩
theorem list2 {α : Type} {l : List α} (h : l.length = 2) : ∃ a b, l = [a, b] := by
  match l, h with
  | [a, b], _ => exact ⟨a, b, rfl⟩
theorem list3 {α : Type} {l : List α} (h : l.length = 3) : ∃ a b c, l = [a, b, c] := by
  match l, h with
  | [a, b, c], _ => exact ⟨a, b, c, rfl⟩
theorem list4 {α : Type} {l : List α} (h : l.length = 4) : ∃ a b c d, l = [a, b, c, d] := by
  match l, h with
  | [a, b, c, d], _ => exact ⟨a, b, c, d, rfl⟩
theorem arr0 {α : Type} {a : Array α} (h : a.toList.length = 0) : a = #[] := by obtain ⟨l⟩ := a; obtain rfl := list0 h; rfl
theorem arr1 {α : Type} {a : Array α} (h : a.toList.length = 1) : ∃ x, a = #[x] := by obtain ⟨l⟩ := a; obtain ⟨x, rfl⟩ := list1 h; exact ⟨x, rfl⟩
theorem arr2 {α : Type} {a : Array α} (h : a.toList.length = 2) : ∃ x y, a = #[x, y] := by obtain ⟨l⟩ := a; obtain ⟨x, y, rfl⟩ := list2 h; exact ⟨x, y, rfl⟩
theorem arr3 {α : Type} {a : Array α} (h : a.toList.length = 3) : ∃ x y z, a = #[x, y, z] := by obtain ⟨l⟩ := a; obtain ⟨x, y, z, rfl⟩ := list3 h; exact ⟨x, y, z, rfl⟩

/-! ### what a value of a scalar type is -/
section
variable {P : Program} {w : World} {r : Reach} {b : Nat} {t : TypeId} {v : Value}
theorem ok_int {k : IntKind} (ht : P.underlying t = some (.int k)) (h : Value.okWide P w r b t v) : ∃ n, v = .int k n ∧ k.min ≤ n ∧ n ≤ k.max := by
  obtain ⟨n, rfl⟩ := okWide_int ht h
  simp only [Value.okWide, ht, Cell.okWide, Cell.ok, IntKind.has] at h
  exact ⟨n, rfl, h.2⟩
theorem ok_float {k : FloatKind} (ht : P.underlying t = some (.float k)) (h : Value.okWide P w r b t v) : ∃ n, v = .float k n ∧ k.has n := by
  simp only [Value.okWide, ht, Cell.okWide] at h
  cases v <;> simp_all [Cell.ok]
theorem ok_cells {fs : Array Field} (ht : P.underlying t = some (.struct fs)) (h : Value.okWide P w r b t v) :
    ∃ cs, v = .agg cs ∧ cs.size = P.cellsOf t ∧ ∀ ts, P.cellTypes P.depth t = some ts → ∀ i x, cs[i]? = some x → ∃ u, ts[i % ts.length]? = some u ∧ Cell.okWide P w r b u x := by
  simp only [Value.okWide, ht] at h
  obtain ⟨cs, h1, h2, ts, h3, _, h5⟩ := h
  exact ⟨cs, h1, h2, fun ts' h' => by obtain rfl := Option.some.inj (h3.symm.trans h'); exact h5⟩
theorem cell_int {k : IntKind} (ht : P.underlying t = some (.int k)) (h : Cell.okWide P w r b t v) : ∃ n, v = .int k n ∧ k.min ≤ n ∧ n ≤ k.max := by
  simp only [ht, Cell.okWide] at h
  cases v <;> simp_all [Cell.ok, IntKind.has]
theorem cell_bool (ht : P.underlying t = some .bool) (h : Cell.okWide P w r b t v) : ∃ n, v = .bool n := by
  simp only [ht, Cell.okWide] at h
  cases v <;> simp_all [Cell.ok]
theorem cell_float {k : FloatKind} (ht : P.underlying t = some (.float k)) (h : Cell.okWide P w r b t v) : ∃ n, v = .float k n ∧ k.has n := by
  simp only [ht, Cell.okWide] at h
  cases v <;> simp_all [Cell.ok]
theorem cell_slice {e : TypeId} (ht : P.underlying t = some (.slice e)) (h : Cell.okWide P w r b t v) : ∃ a l c, v = .slice a l c := by
  simp only [ht, Cell.okWide] at h
  cases v <;> simp_all [Cell.ok]
end

/-! ### listed variables -/
theorem laid_reads {P : Program} {w : World} : ∀ {l : List (String × DataW Unit)} {ps : List MemPlace}, DataW.LaidVars P w l ps → ∀ n d, (n, d) ∈ l →
    ∃ g t cs fuel p, P.globalNamed n = some g ∧ (P.globals[g]?).map (·.type) = some t ∧ w.var? P n = some cs ∧ DataW.trod (fun _ => ()) P w 0 (fun _ => true) false fuel t cs.toList = some (d, p)
  | [], _, _, _, _, hm => by cases hm
  | (n', d') :: r, ps, h, n, d, hm => by
    obtain ⟨g, t, cs, fuel, p, q, h1, h2, h3, h4, h5, _⟩ := h
    rcases List.mem_cons.1 hm with e | e
    · cases e
      exact ⟨g, t, cs, fuel, p, h1, h2, h3, h4⟩
    · exact laid_reads h5 n d e

theorem lits_inj {H : Type} {k : IntKind} {xs ys : List Int} (h : (lits k xs : List (DataW H)) = lits k ys) : xs = ys := by
  induction xs generalizing ys with
  | nil => cases ys <;> simp_all [lits]
  | cons x xs ih =>
    cases ys with
    | nil => simp [lits] at h
    | cons y ys => simp only [lits, List.map_cons, List.cons.injEq, DataW.lit.injEq, Lit.int.injEq, true_and] at h; rw [h.1, ih h.2]

theorem lits_nil {H : Type} {k : IntKind} {xs : List Int} (h : (lits k xs : List (DataW H)) = []) : xs = [] := by cases xs <;> simp_all [lits]

/-- A listed slice of integers: the variable's cell, and its elements'. -/
theorem laid_ints {P : Program} {W : World} {l : List (String × DataW Unit)} {n : String} {g : Nat} {t e : TypeId} {k : IntKind} {zs : List Int} (h : laidMetH P l W) (hp : (l.all fun x => x.2.handleName?.isNone) = true)
    (hm : (n, .slice (lits k zs) []) ∈ l) (hg : P.globalNamed n = some g) (ht : (P.globals[g]?).map (·.type) = some t) (hs : P.underlying t = some (.slice e)) (he : P.underlying e = some (.int k)) (hc : P.cellsOf e = 1) (h0 : 0 < zs.length) :
    ∃ b off, W.cell? ⟨g, 0, none⟩ = some (.slice (some ⟨b, off, none⟩) zs.length zs.length) ∧ ∀ j, j < zs.length → W.cell? ⟨b, off + j, none⟩ = some (.int k (zs.getD j 0)) := by
  rw [MakeChecks.laidMetH_plain _ _ _ hp] at h
  obtain ⟨ps, hl, _⟩ := h
  obtain ⟨g', t', cs, fuel, p, hg', ht', hv, hd⟩ := laid_reads hl n _ hm
  obtain rfl := Option.some.inj (hg.symm.trans hg')
  obtain rfl := Option.some.inj (ht.symm.trans ht')
  rcases open_ints hs he hc hd with ⟨_, hx⟩ | ⟨a, len, cap, zs', hcs, _, hlc, _, hz, hx, hcell, _⟩
  · simp at hx
  simp only [Prod.mk.injEq, DataW.slice.injEq] at hx
  have e1 := lits_inj hx.1.1
  have e2 := lits_nil hx.1.2.symm
  simp only [if_true] at hz
  have e3 : zs'.drop len = [] := e2
  have hlen : zs'.length ≤ len := by simpa using e3
  have e4 : zs = zs' := by rw [e1, List.take_of_length_le hlen]
  subst e4
  obtain ⟨b, off, rfl, hcell'⟩ := ints_at hcell h0
  obtain rfl : len = zs.length := by omega
  obtain rfl : cap = zs.length := by omega
  refine ⟨b, off, ?_, hcell'⟩
  have := World.var?_cell hg hv 0
  obtain ⟨cl⟩ := cs
  simp only at hcs
  subst hcs
  simpa using this

theorem strs_inj {H : Type} {xs : List ByteArray} {ys : List (List UInt8)} (h : (ChangeShapes.strs xs : List (DataW H)) = ys.map fun y => .lit (.string y)) : xs.map (·.data.toList) = ys := by
  induction xs generalizing ys with
  | nil => cases ys <;> simp_all [ChangeShapes.strs]
  | cons x xs ih =>
    cases ys with
    | nil => simp [ChangeShapes.strs] at h
    | cons y ys => simp only [ChangeShapes.strs, List.map_cons, List.cons.injEq, DataW.lit.injEq, Lit.string.injEq] at h; simp only [List.map_cons]; rw [h.1, ih h.2]

theorem strs_nil {H : Type} {xs : List ByteArray} (h : (ChangeShapes.strs xs : List (DataW H)) = []) : xs = [] := by cases xs <;> simp_all [ChangeShapes.strs]

theorem strs_at {w : World} {a : Addr} {ss : List ByteArray} (h : ∀ i, i < ss.length → w.cell? (a.add i) = some (.string (ss.getD i ByteArray.empty))) (hp : 0 < ss.length) :
    ∃ b off, a = ⟨b, off, none⟩ ∧ ∀ j, j < ss.length → w.cell? ⟨b, off + j, none⟩ = some (.string (ss.getD j ByteArray.empty)) := by
  obtain ⟨b, off, spot⟩ := a
  have hspot : spot = none := by simpa [Addr.add] using World.cell?_spot (h 0 hp)
  subst hspot
  exact ⟨b, off, rfl, fun j hj => by rw [← Go.WideShapes.add_plain]; exact h j hj⟩

/-- A listed slice of strings: the variable's cell, and its elements'. -/
theorem laid_strs {P : Program} {W : World} {l : List (String × DataW Unit)} {n : String} {g : Nat} {t e : TypeId} {L : List (List UInt8)} (h : laidMetH P l W) (hp : (l.all fun x => x.2.handleName?.isNone) = true)
    (hm : (n, .slice (L.map fun y => .lit (.string y)) []) ∈ l) (hg : P.globalNamed n = some g) (ht : (P.globals[g]?).map (·.type) = some t) (hs : P.underlying t = some (.slice e)) (he : P.underlying e = some .string) (hc : P.cellsOf e = 1) (h0 : 0 < L.length) :
    ∃ b off, W.cell? ⟨g, 0, none⟩ = some (.slice (some ⟨b, off, none⟩) L.length L.length) ∧ ∀ j, j < L.length → W.cell? ⟨b, off + j, none⟩ = some (.string ⟨(L.getD j []).toArray⟩) := by
  rw [MakeChecks.laidMetH_plain _ _ _ hp] at h
  obtain ⟨ps, hl, _⟩ := h
  obtain ⟨g', t', cs, fuel, p, hg', ht', hv, hd⟩ := laid_reads hl n _ hm
  obtain rfl := Option.some.inj (hg.symm.trans hg')
  obtain rfl := Option.some.inj (ht.symm.trans ht')
  rcases open_strings hs he hc hd with ⟨_, hx⟩ | ⟨a, len, cap, ss, hcs, _, hlc, _, hz, hx, hcell, _⟩
  · simp at hx
  simp only [Prod.mk.injEq, DataW.slice.injEq] at hx
  have e1 := strs_inj hx.1.1.symm
  have e2 := strs_nil hx.1.2.symm
  simp only [if_true] at hz
  have hlen : ss.length ≤ len := by simpa using e2
  rw [List.take_of_length_le hlen] at e1
  subst e1
  obtain ⟨b, off, rfl, hcell'⟩ := strs_at hcell (by simpa using h0)
  obtain rfl : len = ss.length := by omega
  obtain rfl : cap = ss.length := by omega
  refine ⟨b, off, ?_, fun j hj => ?_⟩
  · have := World.var?_cell hg hv 0
    obtain ⟨cl⟩ := cs
    simp only at hcs
    subst hcs
    simpa using this
  · rw [List.length_map] at hj
    rw [hcell' j hj]
    simp only [List.getD_eq_getElem?_getD, List.getElem?_map, List.getElem?_eq_getElem hj, Option.map_some, Option.getD_some]

theorem ret_int {k : IntKind} {a b : Int} (h : a = b) : Ending.returned (.int k a) = .returned (.int k b) := by rw [h]
theorem ret_bool {a b : Bool} (h : a = b) : Ending.returned (.bool a) = .returned (.bool b) := by rw [h]
/-! ### a block that is known whole -/
theorem box_new (w : World) (cs : Array Value) (t : TypeId) : (w.alloc (.cells cs t)).heap[w.heap.size]? = some (.cells cs t (0, 0)) := heap_alloc_new w _
theorem box_keep {w w' : World} {g B : Nat} {o : Obj} (h : w.heap[g]? = some o) (hb : Below B w w') (hg : g < B) : w'.heap[g]? = some o := (hb.block g hg).trans h
theorem box_lt {w : World} {g : Nat} {o : Obj} (h : w.heap[g]? = some o) : g < w.heap.size := (Array.getElem?_eq_some_iff.1 h).1
theorem box_cell {w : World} {g : Nat} {cs : Array Value} {t : TypeId} {fr : Nat × Nat} (h : w.heap[g]? = some (.cells cs t fr)) (i : Nat) {v : Value} (hv : cs[i]? = some v) : w.cell? ⟨g, i, none⟩ = some v := (cell_of_row w g i cs t fr h).trans hv
theorem box_free {w : World} {g : Nat} {cs : Array Value} {t : TypeId} (h : w.heap[g]? = some (.cells cs t (0, 0))) (i : Nat) : w.frozen? ⟨g, i, none⟩ = false := frozen_of_row w g i cs t h
end Go.Proofs.Ytkiemiolellllaa.kit
