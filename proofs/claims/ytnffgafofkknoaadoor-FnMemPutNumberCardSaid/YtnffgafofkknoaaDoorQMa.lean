/-
  Lemmas that a law of the seat uses, part 1: contracts of the functions that it reaches and plain laws.
  Conditions: none beyond those that each lemma states.
-/
import Derived.Test.YtnffgafofkknoaaDoorRows
import Derived.WalkKit
import Derived.ProofKit
import Derived.OpenShut
import Derived.OpenVars
import Derived.ChangeOld
import Derived.Carry
import Derived.Laws.Rows
import Derived.Lib.Hide
import Derived.ChangeSlices
import Derived.SliceStrings
import Derived.FnData
import Derived.MakeChecks
import Derived.SizedLaws
import Derived.WalkLawsBesides
import Ieee.Arith
import Derived.Laws.FloatArith
import Derived.Deep.LoopGhost
import Derived.BigQuiet
import Derived.Deep.QuietTactic
import Derived.Deep.RegionWith
import Derived.RegionTactic
import Derived.Deep.Cut
import Derived.DeepKeys
import Derived.Laws.StructEq
import Derived.Test.YtnffgafofkknoaaDoorPFnMemPutx1
import Derived.Laws.Closers25b
/-! Kit -/
namespace Go.Proofs.YtnffgafofkknoaaDoor.kit
open Go.ChangeShapes Go.WideShapes Go.ChangeAt Go.RowKit

theorem laidOut : laidOutB Tryd.prog = true := by kernel_rfl
theorem own : ownKnob Tryd.prog.godebug = none := by kernel_rfl

def readables (P : Program) (ts : List TypeId) : Bool := ts.all fun t => P.readableRec t && decide (t < P.types.size)

theorem below_trodAll {H : Type} {enc : TypeId × Value → H} {P : Program} (hl : laidOutB P = true) {W W' : World} (hb : Below W.heap.size W W') :
    ∀ {ts : List TypeId} {vs : List Value} {ds : List (DataW H)} {ps : List MemPlace}, readables P ts = true → DataW.TrodAll enc P W 0 (fun _ => true) true ts vs ds ps →
      DataW.TrodAll enc P W' 0 (fun b => decide (b < W.heap.size)) true ts vs ds ps
  | [], [], [], _, _, h => h
  | [], [], _ :: _, _, _, h => h.elim
  | [], _ :: _, _, _, _, h => h.elim
  | _ :: _, [], _, _, _, h => h.elim
  | _ :: _, _ :: _, [], _, _, h => h.elim
  | t :: ts, v :: vs, d :: ds, ps, hr, h => by
    obtain ⟨p, q, h1, h2, e⟩ := h
    simp only [readables, List.all_cons, Bool.and_eq_true, decide_eq_true_eq] at hr
    have lt : ∀ x ∈ p, x.block < W.heap.size := by obtain ⟨m, hm⟩ := h1; exact DataW.trod_lt m _ _ _ hm
    exact ⟨p, q, Below.trod hl hr.1.1 hr.1.2 h1 hb lt, below_trodAll hl hb (by simpa [readables] using hr.2) h2, e⟩

theorem trodAll_length {H : Type} {enc : TypeId × Value → H} {P : Program} {w : World} {base : Nat} {spare : Nat → Bool} {held : Bool} :
    ∀ {ts : List TypeId} {vs : List Value} {ds : List (DataW H)} {ps : List MemPlace}, DataW.TrodAll enc P w base spare held ts vs ds ps → vs.length = ts.length ∧ ds.length = ts.length
  | [], [], [], _, _ => ⟨rfl, rfl⟩
  | [], [], _ :: _, _, h => h.elim
  | [], _ :: _, _, _, h => h.elim
  | _ :: _, [], _, _, h => h.elim
  | _ :: _, _ :: _, [], _, h => h.elim
  | _ :: _, _ :: _, _ :: _, _, h => by
    obtain ⟨p, q, _, h2, _⟩ := h
    have := trodAll_length h2
    simp [this.1, this.2]

theorem trodVars_length {H : Type} {enc : TypeId × Value → H} {P : Program} {w : World} {spare : Nat → Bool} :
    ∀ {ns : List String} {ds : List (DataW H)} {ps : List MemPlace}, DataW.TrodVars enc P w spare ns ds ps → ds.length = ns.length
  | [], [], _, _ => rfl
  | [], _ :: _, _, h => h.elim
  | _ :: _, [], _, h => h.elim
  | _ :: _, _ :: _, _, h => by
    obtain ⟨_, _, _, _, _, _, _, _, _, _, h2, _⟩ := h
    simp [trodVars_length h2]

theorem post_true {H : Type} {enc : TypeId × Value → H} {P : Program} {fn : Func} {s : ChangeSpec} {W W' : World} {args : Array Value} {ds gs : List (DataW H)} {before : List MemPlace} {tb : TypeId}
    (hl : laidOutB P = true) (hr : readables P fn.params.toList = true) (hv : varsRowed P s.vars = true) (hres : fn.resultTypes = #[tb]) (hb : P.underlying tb = some .bool)
    (hW : DataW.Whole enc P fn.params.toList s.vars false W args.toList ds gs before)
    (hs : ds.length = fn.params.toList.length → gs.length = s.vars.length → s.fn H (ds ++ gs) = { results := [.lit (.bool true)], args := ds, vars := gs })
    (bel : Below W.heap.size W W') : s.post enc P fn false true false false W args (.bool true) W' := by
  have hW' := hW
  obtain ⟨p, q, hA, hV, _, _, _⟩ := hW
  have e := hs (trodAll_length hA).2 (trodVars_length hV)
  refine ⟨ds, gs, before, [], p, q, hW', ?_, ?_, ?_, bel.frame _, fun h => by cases h⟩
  · rw [e, hres]
    exact trodAll_mk1 (shut_bool hb _)
  · rw [e]
    exact below_trodAll hl bel hr hA
  · rw [e]
    exact Below.trodVars hl bel hv hV

/-! ### lists and arrays of a known length -/
theorem list0 {α : Type} {l : List α} (h : l.length = 0) : l = [] := by cases l <;> simp_all
theorem list1 {α : Type} {l : List α} (h : l.length = 1) : ∃ a, l = [a] := by
  match l, h with
  | [a], _ => exact ⟨a, rfl⟩
theorem list2 {α : Type} {l : List α} (h : l.length = 2) : ∃ a b, l = [a, b] := by
  match l, h with
  | [a, b], _ => exact ⟨a, b, rfl⟩
theorem list3 {α : Type} {l : List α} (h : l.length = 3) : ∃ a b c, l = [a, b, c] := by
  match l, h with
  | [a, b, c], _ => exact ⟨a, b, c, rfl⟩
theorem list4 {α : Type} {l : List α} (h : l.length = 4) : ∃ a b c d, l = [a, b, c, d] := by
  match l, h with
  | [a, b, c, d], _ => exact ⟨a, b, c, d, rfl⟩
theorem arr0 {α : Type} {a : Array α} (h : a.toList.length = 0) : a = #[] := by obtain ⟨l⟩ := a; obtain rfl := list0 h; rfl
theorem arr1 {α : Type} {a : Array α} (h : a.toList.length = 1) : ∃ x, a = #[x] := by obtain ⟨l⟩ := a; obtain ⟨x, rfl⟩ := list1 h; exact ⟨x, rfl⟩
theorem arr2 {α : Type} {a : Array α} (h : a.toList.length = 2) : ∃ x y, a = #[x, y] := by obtain ⟨l⟩ := a; obtain ⟨x, y, rfl⟩ := list2 h; exact ⟨x, y, rfl⟩
theorem arr3 {α : Type} {a : Array α} (h : a.toList.length = 3) : ∃ x y z, a = #[x, y, z] := by obtain ⟨l⟩ := a; obtain ⟨x, y, z, rfl⟩ := list3 h; exact ⟨x, y, z, rfl⟩

/-! ### what a value of a scalar type is -/
section
variable {P : Program} {w : World} {r : Reach} {b : Nat} {t : TypeId} {v : Value}
theorem ok_int {k : IntKind} (ht : P.underlying t = some (.int k)) (h : Value.okWide P w r b t v) : ∃ n, v = .int k n ∧ k.min ≤ n ∧ n ≤ k.max := by
  obtain ⟨n, rfl⟩ := okWide_int ht h
  simp only [Value.okWide, ht, Cell.okWide, Cell.ok, IntKind.has] at h
  exact ⟨n, rfl, h.2⟩
theorem ok_float {k : FloatKind} (ht : P.underlying t = some (.float k)) (h : Value.okWide P w r b t v) : ∃ n, v = .float k n ∧ k.has n := by
  simp only [Value.okWide, ht, Cell.okWide] at h
  cases v <;> simp_all [Cell.ok]
theorem ok_cells {fs : Array Field} (ht : P.underlying t = some (.struct fs)) (h : Value.okWide P w r b t v) :
    ∃ cs, v = .agg cs ∧ cs.size = P.cellsOf t ∧ ∀ ts, P.cellTypes P.depth t = some ts → ∀ i x, cs[i]? = some x → ∃ u, ts[i % ts.length]? = some u ∧ Cell.okWide P w r b u x := by
  simp only [Value.okWide, ht] at h
  obtain ⟨cs, h1, h2, ts, h3, _, h5⟩ := h
  exact ⟨cs, h1, h2, fun ts' h' => by obtain rfl := Option.some.inj (h3.symm.trans h'); exact h5⟩
theorem cell_int {k : IntKind} (ht : P.underlying t = some (.int k)) (h : Cell.okWide P w r b t v) : ∃ n, v = .int k n ∧ k.min ≤ n ∧ n ≤ k.max := by
  simp only [ht, Cell.okWide] at h
  cases v <;> simp_all [Cell.ok, IntKind.has]
theorem cell_bool (ht : P.underlying t = some .bool) (h : Cell.okWide P w r b t v) : ∃ n, v = .bool n := by
  simp only [ht, Cell.okWide] at h
  cases v <;> simp_all [Cell.ok]
theorem cell_float {k : FloatKind} (ht : P.underlying t = some (.float k)) (h : Cell.okWide P w r b t v) : ∃ n, v = .float k n ∧ k.has n := by
  simp only [ht, Cell.okWide] at h
  cases v <;> simp_all [Cell.ok]
theorem cell_slice {e : TypeId} (ht : P.underlying t = some (.slice e)) (h : Cell.okWide P w r b t v) : ∃ a l c, v = .slice a l c := by
  simp only [ht, Cell.okWide] at h
  cases v <;> simp_all [Cell.ok]
end

/-! ### listed variables -/
theorem laid_reads {P : Program} {w : World} : ∀ {l : List (String × DataW Unit)} {ps : List MemPlace}, DataW.LaidVars P w l ps → ∀ n d, (n, d) ∈ l →
    ∃ g t cs fuel p, P.globalNamed n = some g ∧ (P.globals[g]?).map (·.type) = some t ∧ w.var? P n = some cs ∧ DataW.trod (fun _ => ()) P w 0 (fun _ => true) false fuel t cs.toList = some (d, p)
  | [], _, _, _, _, hm => by cases hm
  | (n', d') :: r, ps, h, n, d, hm => by
    obtain ⟨g, t, cs, fuel, p, q, h1, h2, h3, h4, h5, _⟩ := h
    rcases List.mem_cons.1 hm with e | e
    · cases e
      exact ⟨g, t, cs, fuel, p, h1, h2, h3, h4⟩
    · exact laid_reads h5 n d e

theorem lits_inj {H : Type} {k : IntKind} {xs ys : List Int} (h : (lits k xs : List (DataW H)) = lits k ys) : xs = ys := by
  induction xs generalizing ys with
  | nil => cases ys <;> simp_all [lits]
  | cons x xs ih =>
    cases ys with
    | nil => simp [lits] at h
    | cons y ys => simp only [lits, List.map_cons, List.cons.injEq, DataW.lit.injEq, Lit.int.injEq, true_and] at h; rw [h.1, ih h.2]

theorem lits_nil {H : Type} {k : IntKind} {xs : List Int} (h : (lits k xs : List (DataW H)) = []) : xs = [] := by cases xs <;> simp_all [lits]

/-- A listed slice of integers: the variable's cell, and its elements'. -/
theorem laid_ints {P : Program} {W : World} {l : List (String × DataW Unit)} {n : String} {g : Nat} {t e : TypeId} {k : IntKind} {zs : List Int} (h : laidMetH P l W) (hp : (l.all fun x => x.2.handleName?.isNone) = true)
    (hm : (n, .slice (lits k zs) []) ∈ l) (hg : P.globalNamed n = some g) (ht : (P.globals[g]?).map (·.type) = some t) (hs : P.underlying t = some (.slice e)) (he : P.underlying e = some (.int k)) (hc : P.cellsOf e = 1) (h0 : 0 < zs.length) :
    ∃ b off, W.cell? ⟨g, 0, none⟩ = some (.slice (some ⟨b, off, none⟩) zs.length zs.length) ∧ ∀ j, j < zs.length → W.cell? ⟨b, off + j, none⟩ = some (.int k (zs.getD j 0)) := by
  rw [MakeChecks.laidMetH_plain _ _ _ hp] at h
  obtain ⟨ps, hl, _⟩ := h
  obtain ⟨g', t', cs, fuel, p, hg', ht', hv, hd⟩ := laid_reads hl n _ hm
  obtain rfl := Option.some.inj (hg.symm.trans hg')
  obtain rfl := Option.some.inj (ht.symm.trans ht')
  rcases open_ints hs he hc hd with ⟨_, hx⟩ | ⟨a, len, cap, zs', hcs, _, hlc, _, hz, hx, hcell, _⟩
  · simp at hx
  simp only [Prod.mk.injEq, DataW.slice.injEq] at hx
  have e1 := lits_inj hx.1.1
  have e2 := lits_nil hx.1.2.symm
  simp only [if_true] at hz
  have e3 : zs'.drop len = [] := e2
  have hlen : zs'.length ≤ len := by simpa using e3
  have e4 : zs = zs' := by rw [e1, List.take_of_length_le hlen]
  subst e4
  obtain ⟨b, off, rfl, hcell'⟩ := ints_at hcell h0
  obtain rfl : len = zs.length := by omega
  obtain rfl : cap = zs.length := by omega
  refine ⟨b, off, ?_, hcell'⟩
  have := World.var?_cell hg hv 0
  obtain ⟨cl⟩ := cs
  simp only at hcs
  subst hcs
  simpa using this

theorem strs_inj {H : Type} {xs : List ByteArray} {ys : List (List UInt8)} (h : (ChangeShapes.strs xs : List (DataW H)) = ys.map fun y => .lit (.string y)) : xs.map (·.data.toList) = ys := by
  induction xs generalizing ys with
  | nil => cases ys <;> simp_all [ChangeShapes.strs]
  | cons x xs ih =>
    cases ys with
    | nil => simp [ChangeShapes.strs] at h
    | cons y ys => simp only [ChangeShapes.strs, List.map_cons, List.cons.injEq, DataW.lit.injEq, Lit.string.injEq] at h; simp only [List.map_cons]; rw [h.1, ih h.2]

theorem strs_nil {H : Type} {xs : List ByteArray} (h : (ChangeShapes.strs xs : List (DataW H)) = []) : xs = [] := by cases xs <;> simp_all [ChangeShapes.strs]

theorem strs_at {w : World} {a : Addr} {ss : List ByteArray} (h : ∀ i, i < ss.length → w.cell? (a.add i) = some (.string (ss.getD i ByteArray.empty))) (hp : 0 < ss.length) :
    ∃ b off, a = ⟨b, off, none⟩ ∧ ∀ j, j < ss.length → w.cell? ⟨b, off + j, none⟩ = some (.string (ss.getD j ByteArray.empty)) := by
  obtain ⟨b, off, spot⟩ := a
  have hspot : spot = none := by simpa [Addr.add] using World.cell?_spot (h 0 hp)
  subst hspot
  exact ⟨b, off, rfl, fun j hj => by rw [← Go.WideShapes.add_plain]; exact h j hj⟩

/-- A listed slice of strings: the variable's cell, and its elements'. -/
theorem laid_strs {P : Program} {W : World} {l : List (String × DataW Unit)} {n : String} {g : Nat} {t e : TypeId} {L : List (List UInt8)} (h : laidMetH P l W) (hp : (l.all fun x => x.2.handleName?.isNone) = true)
    (hm : (n, .slice (L.map fun y => .lit (.string y)) []) ∈ l) (hg : P.globalNamed n = some g) (ht : (P.globals[g]?).map (·.type) = some t) (hs : P.underlying t = some (.slice e)) (he : P.underlying e = some .string) (hc : P.cellsOf e = 1) (h0 : 0 < L.length) :
    ∃ b off, W.cell? ⟨g, 0, none⟩ = some (.slice (some ⟨b, off, none⟩) L.length L.length) ∧ ∀ j, j < L.length → W.cell? ⟨b, off + j, none⟩ = some (.string ⟨(L.getD j []).toArray⟩) := by
  rw [MakeChecks.laidMetH_plain _ _ _ hp] at h
  obtain ⟨ps, hl, _⟩ := h
  obtain ⟨g', t', cs, fuel, p, hg', ht', hv, hd⟩ := laid_reads hl n _ hm
  obtain rfl := Option.some.inj (hg.symm.trans hg')
  obtain rfl := Option.some.inj (ht.symm.trans ht')
  rcases open_strings hs he hc hd with ⟨_, hx⟩ | ⟨a, len, cap, ss, hcs, _, hlc, _, hz, hx, hcell, _⟩
  · simp at hx
  simp only [Prod.mk.injEq, DataW.slice.injEq] at hx
  have e1 := strs_inj hx.1.1.symm
  have e2 := strs_nil hx.1.2.symm
  simp only [if_true] at hz
  have hlen : ss.length ≤ len := by simpa using e2
  rw [List.take_of_length_le hlen] at e1
  subst e1
  obtain ⟨b, off, rfl, hcell'⟩ := strs_at hcell (by simpa using h0)
  obtain rfl : len = ss.length := by omega
  obtain rfl : cap = ss.length := by omega
  refine ⟨b, off, ?_, fun j hj => ?_⟩
  · have := World.var?_cell hg hv 0
    obtain ⟨cl⟩ := cs
    simp only at hcs
    subst hcs
    simpa using this
  · rw [List.length_map] at hj
    rw [hcell' j hj]
    simp only [List.getD_eq_getElem?_getD, List.getElem?_map, List.getElem?_eq_getElem hj, Option.map_some, Option.getD_some]

theorem ret_int {k : IntKind} {a b : Int} (h : a = b) : Ending.returned (.int k a) = .returned (.int k b) := by rw [h]
theorem ret_bool {a b : Bool} (h : a = b) : Ending.returned (.bool a) = .returned (.bool b) := by rw [h]
/-! ### a block that is known whole -/
theorem box_new (w : World) (cs : Array Value) (t : TypeId) : (w.alloc (.cells cs t)).heap[w.heap.size]? = some (.cells cs t (0, 0)) := heap_alloc_new w _
theorem box_keep {w w' : World} {g B : Nat} {o : Obj} (h : w.heap[g]? = some o) (hb : Below B w w') (hg : g < B) : w'.heap[g]? = some o := (hb.block g hg).trans h
theorem box_lt {w : World} {g : Nat} {o : Obj} (h : w.heap[g]? = some o) : g < w.heap.size := (Array.getElem?_eq_some_iff.1 h).1
theorem box_cell {w : World} {g : Nat} {cs : Array Value} {t : TypeId} {fr : Nat × Nat} (h : w.heap[g]? = some (.cells cs t fr)) (i : Nat) {v : Value} (hv : cs[i]? = some v) : w.cell? ⟨g, i, none⟩ = some v := (cell_of_row w g i cs t fr h).trans hv
theorem box_free {w : World} {g : Nat} {cs : Array Value} {t : TypeId} (h : w.heap[g]? = some (.cells cs t (0, 0))) (i : Nat) : w.frozen? ⟨g, i, none⟩ = false := frozen_of_row w g i cs t h
end Go.Proofs.YtnffgafofkknoaaDoor.kit

/-! Bytes -/
namespace Go.Proofs.YtnffgafofkknoaaDoor.kit
open Go.ChangeShapes Go.WideShapes Go.ChangeAt Go.RowKit

/-- A slice of whole numbers of kind k, as the world holds it. -/
def IsRow (k : IntKind) (w : World) (a : Option Addr) (len cap : Nat) (zs : List Int) : Prop :=
  (a = none ∧ len = 0 ∧ cap = 0 ∧ zs = []) ∨
  ∃ x, a = some x ∧ len ≤ cap ∧ cap ≤ maxLen ∧ zs.length = cap ∧ (∀ i, i < zs.length → w.cell? (x.add i) = some (.int k (zs.getD i 0))) ∧ ∀ n ∈ zs, (Lit.int k n).wf = true

def Bytes (W : World) (v : Value) : Prop := ∃ a len cap zs, v = .slice a len cap ∧ IsRow .u8 W a len cap zs ∧ len * 1 ≤ 140737488351232

theorem bytes_arg {H : Type} {enc : TypeId × Value → H} {P : Program} {W : World} {tp : Nat} {t e : TypeId} {v : Value} {d : DataW H} {ps : List MemPlace} {ts : List TypeId} {ds : List (DataW H)} {j : Nat}
    (hu : P.underlying t = some (.slice e)) (he : P.underlying e = some (.int .u8)) (hc : P.cellsOf e = 1) (hB : P.bytesOf e = 1)
    (hok : Value.okWide P W .any tp t v)
    (h : DataW.Trod enc P W 0 (fun _ => true) true t v d ps)
    (hsz : (DataW.weightsEach P ts ds).all (· ≤ reachBytes) = true) (ht : ts[j]? = some t) (hd : ds[j]? = some d) : Bytes W v := by
  obtain ⟨a, len, cap, rfl⟩ := okWide_slice hu hok
  obtain ⟨fuel, hf⟩ := h
  rcases open_ints hu he hc hf with ⟨hcs, _⟩ | ⟨x, l, c, zs, hcs, _, hl, hm, hz, hx, hcell, hwz⟩
  · simp [Value.cells] at hcs
    obtain ⟨rfl, rfl, rfl⟩ := hcs
    exact ⟨_, _, _, [], rfl, .inl ⟨rfl, rfl, rfl, rfl⟩, by simp⟩
  · simp [Value.cells] at hcs
    obtain ⟨rfl, rfl, rfl⟩ := hcs
    refine ⟨_, _, _, zs, rfl, .inr ⟨_, rfl, hl, hm, by simpa using hz, hcell, hwz⟩, ?_⟩
    obtain ⟨hx, _⟩ := Prod.mk.inj hx
    subst hx
    have z := sized_slice hsz ht hd hu
    rw [hB] at z
    have hl2 : len ≤ zs.length := by
      rw [hz]
      split
      · exact hl
      · exact Nat.le_refl _
    have h1 : (lits (H := H) .u8 (zs.take len)).length + (lits (H := H) .u8 (zs.drop len)).length = zs.length := by
      simp [lits]
      omega
    rw [h1] at z
    exact Nat.le_trans (Nat.mul_le_mul_right _ hl2) z

end Go.Proofs.YtnffgafofkknoaaDoor.kit

/-! Part -/
namespace Go.Proofs.YtnffgafofkknoaaDoor.part
open Go Go.RowKit
set_option linter.unusedVariables false
set_option linter.unusedSimpArgs false

theorem zero_run {P : Program} {t : TypeId} {n : Nat} (h : (P.info? t).any (fun i => match i.zero with | some (.agg cs) => cs.size == n | _ => false) = true) :
    ∃ z : Array Value, z.size = n ∧ ∀ w, (zeroValue t).run P w = .ok (.agg z) w := by
  cases hi : P.info? t with
  | none => rw [hi] at h; cases h
  | some i =>
    rw [hi] at h
    simp only [Option.any_some] at h
    cases hz : i.zero with
    | none => rw [hz] at h; cases h
    | some v =>
      rw [hz] at h
      cases v <;> simp at h
      rename_i cs
      exact ⟨cs, h, fun w => by simp [zeroValue, Sem.run_bind, typeInfo, hi, hz]⟩

theorem add_at (g off i : Nat) : (⟨g, off, none⟩ : Addr).add i = ⟨g, off + i, none⟩ := by
  unfold Addr.add
  split
  · rename_i h; subst h; rfl
  · rfl

theorem store_part {P : Program} (g off : Nat) (t : TypeId) : ∀ (vs : List Value) (i : Nat) (cur : Array Value) (w : World), w.heap[g]? = some (.cells cur t (0, 0)) → off + i + vs.length ≤ cur.size → (∀ v ∈ vs, v.oneCell' = true) →
    ∃ w1 cur', (storeCells ⟨g, off, none⟩ vs i).run P w = .ok () w1 ∧ w1.heap[g]? = some (.cells cur' t (0, 0)) ∧ cur'.size = cur.size ∧ (∀ j, j < off + i → cur'[j]? = cur[j]?) ∧ (∀ j, j < vs.length → cur'[off + i + j]? = vs[j]?) ∧ Below g w w1
  | [], i, cur, w, hg, hl, _ => ⟨w, cur, rfl, hg, rfl, fun _ _ => rfl, fun j hj => by simp at hj, Below.refl _ _⟩
  | v :: rest, i, cur, w, hg, hl, h1 => by
    simp only [List.length_cons] at hl
    have hi : off + i < cur.size := by omega
    have hcell : w.cell? ⟨g, off + i, none⟩ = some cur[off + i] := by simp [World.cell?, hg, hi]
    have hfro : w.frozen? ⟨g, off + i, none⟩ = false := by simp [World.frozen?, hg]
    have hst : (store ((⟨g, off, none⟩ : Addr).add i) v).run P w = .ok () (w.setCell ⟨g, off + i, none⟩ v) := by
      rw [add_at, run_store P w _ v _ (h1 v (by simp)), hcell]
      simp [hfro]
    have hg2 : (w.setCell ⟨g, off + i, none⟩ v).heap[g]? = some (.cells (cur.setIfInBounds (off + i) v) t (0, 0)) := by
      rw [setCell_eq_setRow w g (off + i) cur t (0, 0) v hg]
      exact setRow_heap w g cur _ t _ hg
    obtain ⟨w1, cur', a1, a2, a3, a4, a5, a6⟩ := store_part (P := P) g off t rest (i + 1) _ _ hg2 (by simp; omega) (fun x hx => h1 x (by simp [hx]))
    refine ⟨w1, cur', ?_, a2, by simpa using a3, ?_, ?_, ((Below.refl g w).setCell (p := ⟨g, off + i, none⟩) (Nat.le_refl _) v).trans a6⟩
    · simp only [storeCells, Sem.run_bind, hst, Result.andThen_ok, a1]
    · intro j hj
      rw [a4 j (by omega), Array.getElem?_setIfInBounds_ne (by omega)]
    · intro j hj
      cases j with
      | zero =>
        have := a4 (off + i) (by omega)
        simp only [Nat.add_zero, List.getElem?_cons_zero]
        rw [this, Array.getElem?_setIfInBounds_self_of_lt hi]
      | succ j =>
        have := a5 j (by simpa using hj)
        rw [List.getElem?_cons_succ, ← this]
        congr 1
        omega

/-- The state of a copier: the source's box, the result's, the copy's, of which the first m cells are the source's. -/
def St (t1 t2 : TypeId) (cs : Array Value) (W w : World) (m : Nat) : Prop :=
  w.heap[W.heap.size]? = some (.cells cs t1 (0, 0)) ∧
  (∃ r, w.heap[W.heap.size + 1]? = some (.cells r t2 (0, 0)) ∧ r.size = cs.size) ∧
  (∃ z, w.heap[W.heap.size + 2]? = some (.cells z t2 (0, 0)) ∧ z.size = cs.size ∧ ∀ j, j < m → z[j]? = cs[j]?) ∧ Below W.heap.size W w

theorem size_alloc (w : World) (o : Obj) : (w.alloc o).heap.size = w.heap.size + 1 := by
  show (w.heap.push o).size = _
  simp
theorem St.start (t1 t2 : TypeId) (cs r z : Array Value) (W : World) (hr : r.size = cs.size) (hz : z.size = cs.size) : St t1 t2 cs W (((W.alloc (.cells cs t1)).alloc (.cells r t2)).alloc (.cells z t2)) 0 := by
  have e1 := size_alloc W (.cells cs t1)
  have e2 := size_alloc (W.alloc (.cells cs t1)) (.cells r t2)
  refine ⟨?_, ⟨r, ?_, hr⟩, ⟨z, ?_, hz, fun j hj => by omega⟩, ?_⟩
  · rw [(heap_alloc_old ((W.alloc (.cells cs t1)).alloc (.cells r t2)) _ (by omega)), (heap_alloc_old (W.alloc (.cells cs t1)) _ (by omega))]; exact heap_alloc_new _ _
  · rw [(heap_alloc_old ((W.alloc (.cells cs t1)).alloc (.cells r t2)) _ (by omega)), ← e1]; exact heap_alloc_new _ _
  · rw [show W.heap.size + 2 = ((W.alloc (.cells cs t1)).alloc (.cells r t2)).heap.size by omega]; exact heap_alloc_new _ _
  · exact (((Below.refl _ _).alloc (Nat.le_refl _) _).alloc (by omega) _).alloc (by omega) _
theorem St.below {t1 t2 : TypeId} {cs : Array Value} {W w w1 : World} {m : Nat} (h : St t1 t2 cs W w m) (hb : Below w.heap.size w w1) : St t1 t2 cs W w1 m := by
  obtain ⟨a, ⟨r, b, b2⟩, ⟨z, c, c2, c3⟩, d⟩ := h
  have k : ∀ {g : Nat} {o : Obj}, w.heap[g]? = some o → w1.heap[g]? = some o := fun {g o} hg => (hb.block g (Array.getElem?_eq_some_iff.1 hg).1).trans hg
  exact ⟨k a, ⟨r, k b, b2⟩, ⟨z, k c, c2, c3⟩, d.trans (hb.mono d.size)⟩

theorem St.run_ld1 {P : Program} {t1 t2 ty : TypeId} {cs : Array Value} {W w : World} {m : Nat} (h : St t1 t2 cs W w m) {off : Nat} (ho : off < cs.size) (hu : (isAgg ty).run P w = .ok false w) :
    (loadVar ty ⟨W.heap.size, off, none⟩).run P w = .ok (cs.getD off undef) w := by
  have hc : w.cell? ⟨W.heap.size, off, none⟩ = some (cs.getD off undef) := by
    rw [cell_of_row w _ off cs t1 _ h.1]
    simp [ho]
  simp [loadVar, Sem.run_bind, hu, hc]

theorem run_ldp {P : Program} {t1 ty : TypeId} {cs : Array Value} {w : World} {g off n : Nat} {fr : Nat × Nat} (h : w.heap[g]? = some (.cells cs t1 fr)) (ho : off + n ≤ cs.size) (hu : (isAgg ty).run P w = .ok true w) (hi : (P.info? ty).map (·.size) = some n) :
    (loadVar ty ⟨g, off, none⟩).run P w = .ok (.agg (cs.extract off (off + n))) w := by
  have hs : (cs.extract off (off + n)).toList.length = n := by simp; omega
  have hl := run_loadCells_list (P := P) w ⟨g, off, none⟩ (cs.extract off (off + n)).toList (fun j v hv => by
    have hj : j < n := by
      have := (List.getElem?_eq_some_iff.1 hv).1
      rw [hs] at this
      exact this
    rw [add_at, cell_of_row w _ _ cs t1 _ h, ← hv, Array.getElem?_toList, Array.getElem?_extract, if_pos (by omega)])
  rw [hs] at hl
  cases hq : P.info? ty with
  | none => simp [hq] at hi
  | some i =>
    have h2 : i.size = n := by simpa [hq] using hi
    simp only [Array.toArray_toList] at hl
    simp [loadVar, Sem.run_bind, hu, sizeOf, typeInfo, hq, h2, hl]

theorem St.run_st {P : Program} {t1 t2 ty : TypeId} {cs : Array Value} {W w : World} {m n : Nat} (h : St t1 t2 cs W w m) {v : Value} (hv : v.cells = cs.extract m (m + n)) (ho : m + n ≤ cs.size) (h1 : ∀ x ∈ cs, x.oneCell' = true) (hi : (P.info? ty).map (·.size) = some n) :
    ∃ w1, (storeVar ty ⟨W.heap.size + 2, m, none⟩ v).run P w = .ok () w1 ∧ St t1 t2 cs W w1 (m + n) := by
  obtain ⟨a, ⟨r, b, b2⟩, ⟨z, c, c2, c3⟩, d⟩ := h
  have hlen : (cs.extract m (m + n)).toList.length = n := by simp; omega
  obtain ⟨w1, z1, e1, e2, e3, e4, e5, e6⟩ := store_part (P := P) (W.heap.size + 2) m t2 (cs.extract m (m + n)).toList 0 z w c (by rw [hlen]; omega) (fun x hx => h1 x (by
    have hx2 : x ∈ cs.extract m (m + n) := Array.mem_toList_iff.1 hx
    obtain ⟨j, hj, e⟩ := Array.mem_iff_getElem.1 hx2
    rw [← e, Array.getElem_extract]
    exact Array.getElem_mem _))
  refine ⟨w1, ?_, (e6.block _ (by omega)).trans a, ⟨r, (e6.block _ (by omega)).trans b, b2⟩, ⟨z1, e2, e3.trans c2, ?_⟩, d.trans (e6.mono (by omega))⟩
  · cases hq : P.info? ty with
    | none => simp [hq] at hi
    | some i =>
      have hs : i.size = n := by simpa [hq] using hi
      have hsz : (cs.extract m (m + n)).size = n := by rw [← Array.length_toList]; exact hlen
      simp only [storeVar, sizeOf, typeInfo, Sem.run_bind, hq, hv]
      simp [Sem.run_bind, hq, hs, hsz]
      simpa using e1
  · intro j hj
    by_cases hjm : j < m
    · rw [e4 j (by omega)]; exact c3 j hjm
    · have := e5 (j - m) (by omega)
      rw [show m + 0 + (j - m) = j by omega] at this
      rw [this, Array.getElem?_toList, Array.getElem?_extract, if_pos (by omega), show m + (j - m) = j by omega]

/-! ### the arms of the walk -/
def cel (cs : Array Value) (off : Nat) : Value := cs.getD off undef
def cut (cs : Array Value) (off n : Nat) : Array Value := cs.extract off (off + n)
def scalarB (P : Program) (t : TypeId) : Bool := match P.underlying t with | some (.struct _) => false | some (.array _ _) => false | some _ => true | none => false
def aggB (P : Program) (t : TypeId) : Bool := match P.underlying t with | some (.struct _) => true | some (.array _ _) => true | _ => false
theorem scalar_run {P : Program} {t : TypeId} (h : scalarB P t = true) (w : World) : (isAgg t).run P w = .ok false w := by
  unfold scalarB at h
  cases hu : P.underlying t with
  | none => rw [hu] at h; cases h
  | some d =>
    rw [hu] at h
    unfold isAgg
    rw [Sem.run_bind, run_underlying hu w]
    cases d <;> simp_all
theorem agg_run {P : Program} {t : TypeId} (h : aggB P t = true) (w : World) : (isAgg t).run P w = .ok true w := by
  unfold aggB at h
  cases hu : P.underlying t with
  | none => rw [hu] at h; cases h
  | some d =>
    rw [hu] at h
    unfold isAgg
    rw [Sem.run_bind, run_underlying hu w]
    cases d <;> simp_all

theorem cel_cells {cs : Array Value} (h1 : ∀ x ∈ cs, x.oneCell' = true) {off : Nat} (ho : off < cs.size) : (cel cs off).cells = cs.extract off (off + 1) := by
  have e : cel cs off = cs[off] := by simp [cel, ho]
  have h2 := h1 cs[off] (Array.getElem_mem ho)
  rw [e]
  have e2 : cs.extract off (off + 1) = #[cs[off]] := by
    apply Array.ext
    · simp; omega
    · intro i hi1 hi2
      simp at hi2
      subst hi2
      simp
  rw [e2]
  generalize cs[off] = v at *
  cases v <;> simp [Value.oneCell'] at h2 <;> rfl

section
variable {P : Program} {ops : Array Oper} {rest : List Oper} {o : Oper} {a : Act} {w W : World} {Q : Exit → Act → World → Prop} {t1 t2 : TypeId} {cs : Array Value} {m : Nat}

theorem wl_gen (h : St t1 t2 cs W w m) (k : ∀ w1, St t1 t2 cs W w1 m → wpList P ops Q rest a w1) : wpList P ops Q rest a w := k w h

theorem wl_ld1 (hgd : o.guard = none) (ty : TypeId) (x : Operand) (ho : o.op = .load ty x) (hst : St t1 t2 cs W w m) (off : Nat) (hx : a.eval x = .pointer (some ⟨W.heap.size, off, none⟩)) (hoff : off < cs.size) (hu : scalarB P ty = true)
    (h : wpList P ops Q rest (a.put o.dst (cel cs off)) w) : wpList P ops Q (o :: rest) a w := by
  refine wpList_plain hgd fun _ hK => ?_
  unfold Oper.wp execOp
  simp only [ho, hx, Instr.loadAt, Instr.sureAddr, Sem.run_bind, Sem.run_pure, Result.andThen_ok, hst.run_ld1 hoff (scalar_run hu w)]
  exact hK _ _ h

theorem wl_ldp (hgd : o.guard = none) (ty : TypeId) (x : Operand) (ho : o.op = .load ty x) (hst : St t1 t2 cs W w m) (off n : Nat) (hx : a.eval x = .pointer (some ⟨W.heap.size, off, none⟩)) (hu : aggB P ty = true) (hi : (P.info? ty).map (·.size) = some n) (hoff : off + n ≤ cs.size)
    (h : wpList P ops Q rest (a.put o.dst (.agg (cut cs off n))) w) : wpList P ops Q (o :: rest) a w := by
  refine wpList_plain hgd fun _ hK => ?_
  unfold Oper.wp execOp
  simp only [ho, hx, Instr.loadAt, Instr.sureAddr, Sem.run_bind, Sem.run_pure, Result.andThen_ok, run_ldp hst.1 hoff (agg_run hu w) hi]
  exact hK _ _ h

theorem wl_stv (hgd : o.guard = none) (ty : TypeId) (x y : Operand) (ho : o.op = .store ty x y) (hst : St t1 t2 cs W w m) (h1 : ∀ x ∈ cs, x.oneCell' = true) (n : Nat) (v : Value) (hx : a.eval x = .pointer (some ⟨W.heap.size + 2, m, none⟩)) (hy : a.eval y = v) (hv : v.cells = cs.extract m (m + n)) (hi : (P.info? ty).map (·.size) = some n) (hoff : m + n ≤ cs.size)
    (h : ∀ w1, St t1 t2 cs W w1 (m + n) → wpList P ops Q rest (a.put o.dst undef) w1) : wpList P ops Q (o :: rest) a w := by
  refine wpList_plain hgd fun _ hK => ?_
  obtain ⟨w1, e1, e2⟩ := hst.run_st (P := P) (ty := ty) hv hoff h1 hi
  unfold Oper.wp execOp
  simp only [ho, hx, hy, Instr.storeAt, Instr.sureAddr, Sem.run_bind, Sem.run_pure, Result.andThen_ok, e1]
  exact hK _ _ (h w1 e2)

theorem wl_ldo (hgd : o.guard = none) (ty : TypeId) (x : Operand) (ho : o.op = .load ty x) (hst : St t1 t2 cs W w m) (hx : a.eval x = .pointer (some ⟨W.heap.size + 2, 0, none⟩)) (hm : m = cs.size) (hu : aggB P ty = true) (hi : (P.info? ty).map (·.size) = some m)
    (h : wpList P ops Q rest (a.put o.dst (.agg cs)) w) : wpList P ops Q (o :: rest) a w := by
  obtain ⟨_, _, ⟨z, c, c2, c3⟩, _⟩ := hst
  have ez : z = cs := by
    apply Array.ext (by omega)
    intro i h1 h2
    have := c3 i (by omega)
    rw [Array.getElem?_eq_getElem h1, Array.getElem?_eq_getElem h2] at this
    exact Option.some.inj this
  subst ez
  refine wpList_plain hgd fun _ hK => ?_
  have e := run_ldp (P := P) (ty := ty) (off := 0) (n := m) c (by omega) (agg_run hu w) hi
  have e2 : z.extract 0 (0 + m) = z := by rw [hm]; simp
  rw [e2] at e
  unfold Oper.wp execOp
  simp only [ho, hx, Instr.loadAt, Instr.sureAddr, Sem.run_bind, Sem.run_pure, Result.andThen_ok, e]
  exact hK _ _ h

/-- Behind the store into the result. -/
def En (t2 : TypeId) (cs : Array Value) (W w : World) : Prop := w.heap[W.heap.size + 1]? = some (.cells cs t2 (0, 0)) ∧ Below W.heap.size W w

theorem wl_sto (hgd : o.guard = none) (ty : TypeId) (x y : Operand) (ho : o.op = .store ty x y) (hst : St t1 t2 cs W w m) (h1 : ∀ x ∈ cs, x.oneCell' = true) (hx : a.eval x = .pointer (some ⟨W.heap.size + 1, 0, none⟩)) (hy : a.eval y = .agg cs) (hi : (P.info? ty).map (·.size) = some cs.size)
    (h : ∀ w1, En t2 cs W w1 → wpList P ops Q rest (a.put o.dst undef) w1) : wpList P ops Q (o :: rest) a w := by
  refine wpList_plain hgd fun _ hK => ?_
  obtain ⟨_, ⟨r, b, b2⟩, _, d⟩ := hst
  obtain ⟨w1, z1, e1, e2, e3, _, e5, e6⟩ := store_part (P := P) (W.heap.size + 1) 0 t2 cs.toList 0 r w b (by simp; omega) (fun x hx => h1 x (Array.mem_toList_iff.1 hx))
  have ez : z1 = cs := by
    apply Array.ext (by omega)
    intro i k1 k2
    have := e5 i (by simpa using k2)
    rw [show 0 + 0 + i = i by omega, Array.getElem?_toList, Array.getElem?_eq_getElem k1, Array.getElem?_eq_getElem k2] at this
    exact Option.some.inj this
  subst ez
  have e : (storeVar ty ⟨W.heap.size + 1, 0, none⟩ (.agg z1)).run P w = .ok () w1 := by
    cases hq : P.info? ty with
    | none => simp [hq] at hi
    | some i =>
      have hs : i.size = z1.size := by simpa [hq] using hi
      simp only [storeVar, sizeOf, typeInfo, Sem.run_bind, hq, Value.cells]
      simp [Sem.run_bind, hq, hs]
      simpa using e1
  unfold Oper.wp execOp
  simp only [ho, hx, hy, Instr.storeAt, Instr.sureAddr, Sem.run_bind, Sem.run_pure, Result.andThen_ok, e]
  exact hK _ _ (h w1 ⟨e2, d.trans (e6.mono (by omega))⟩)
end
end Go.Proofs.YtnffgafofkknoaaDoor.part

/-! Fl -/
namespace Go.Proofs.YtnffgafofkknoaaDoor.fl
open Ieee

/-- The value of a rung, in units of 2^-1074. -/
def V (r : Nat) : Nat := if r < 2 ^ 52 then r else (2 ^ 52 + r % 2 ^ 52) * 2 ^ (r / 2 ^ 52 - 1)
def INF : Nat := 2047 * 2 ^ 52

theorem binade_eq : double.binade = 2 ^ 52 := rfl
theorem inf_eq : double.infRung = INF := rfl
theorem sign_eq : double.signWeight = 2 ^ 63 := rfl
theorem least_eq : double.leastPlace = -1074 := rfl
theorem frac_eq : double.fractionBits = 52 := rfl

theorem read_eq (x : Nat) : double.read x =
    if x % 2 ^ 63 < 2 ^ 52 then .number (x / 2 ^ 63 % 2 == 1) (x % 2 ^ 63) (-1074)
    else if x % 2 ^ 63 < INF then .number (x / 2 ^ 63 % 2 == 1) (2 ^ 52 + x % 2 ^ 63 % 2 ^ 52) (-1074 + ((x % 2 ^ 63 / 2 ^ 52 - 1 : Nat) : Int))
    else if x % 2 ^ 63 = INF then .infinity (x / 2 ^ 63 % 2 == 1)
    else .nan (x / 2 ^ 63 % 2 == 1) (x % 2 ^ 63 - INF) := rfl

theorem shl (n k : Nat) : n <<< k = n * 2 ^ k := Nat.shiftLeft_eq n k

theorem cut_exact (neg : Bool) (c drop : Nat) : Toward.even.cut neg (c * 2 ^ drop) drop = c := by
  have hpos : 0 < 2 ^ drop := Nat.two_pow_pos drop
  rcases Nat.eq_zero_or_pos c with h | h
  · subst h
    simp only [Nat.zero_mul, Toward.cut, shl, Nat.zero_mod, Nat.zero_div]
    simp
  · have hl : drop ≤ (c * 2 ^ drop).log2 := by
      rw [Nat.le_log2 (by have := Nat.mul_pos h hpos; omega)]
      exact Nat.le_mul_of_pos_left _ h
    simp only [Toward.cut, shl]
    rw [Nat.min_eq_left (by omega)]
    simp only [Nat.one_mul, Nat.mul_mod_left, Nat.mul_div_cancel _ hpos]
    have : (2 ^ drop == 0) = false := by simp
    simp [this]

theorem log2_shift {m k : Nat} (h : 0 < m) : (m * 2 ^ k).log2 = m.log2 + k := by
  rw [Nat.log2_eq_iff (by have := Nat.mul_pos h (Nat.two_pow_pos k); omega)]
  have h1 := (Nat.le_log2 (n := m) (k := m.log2) (by omega)).1 (Nat.le_refl _)
  have h2 := (Nat.log2_lt (n := m) (k := m.log2 + 1) (by omega)).1 (by omega)
  constructor
  · rw [Nat.pow_add]; exact Nat.mul_le_mul_right _ h1
  · rw [show m.log2 + k + 1 = (m.log2 + 1) + k by omega, Nat.pow_add]; exact Nat.mul_lt_mul_of_pos_right h2 (Nat.two_pow_pos k)

theorem V_pos {r : Nat} (h : 0 < r) : 0 < V r := by
  unfold V
  split
  · exact h
  · exact Nat.mul_pos (by omega) (Nat.two_pow_pos _)

theorem V_log2_small {r : Nat} (h0 : 0 < r) (h : r < 2 ^ 52) : (V r).log2 < 52 := by
  unfold V
  rw [if_pos h]
  exact (Nat.log2_lt (by omega)).2 h

theorem V_log2_big {r : Nat} (h : ¬ r < 2 ^ 52) : (V r).log2 = 52 + (r / 2 ^ 52 - 1) := by
  unfold V
  rw [if_neg h, log2_shift (by omega)]
  congr 1
  rw [Nat.log2_eq_iff (by omega)]
  omega

/-- WHAT 'nearest' GIVES OF A VALUE THAT THE FORMAT HAS. 'mag * 2^up = V r * 2^down' with 'place = up - down - 1074'. -/
theorem nearest_exact (neg : Bool) (mag : Nat) (place : Int) (r : Nat) (hr : r < INF) (hv : mag * 2 ^ (place + 1074).toNat = V r * 2 ^ (-1074 - place).toNat) : double.nearest neg mag place = double.word neg r := by
  unfold Format.nearest
  rcases Nat.eq_zero_or_pos mag with h | h
  · subst h
    rw [if_pos rfl]
    rcases Nat.eq_zero_or_pos r with h | h
    · rw [h]
    · have := Nat.mul_pos (V_pos h) (Nat.two_pow_pos (-1074 - place).toNat)
      omega
  · rw [if_neg (by omega)]
    have hr0 : 0 < r := by
      rcases Nat.eq_zero_or_pos r with e | e
      · subst e
        have h1 := Nat.mul_pos h (Nat.two_pow_pos (place + 1074).toNat)
        have : V 0 = 0 := rfl
        rw [this] at hv
        omega
      · exact e
    have hl : mag.log2 + (place + 1074).toNat = (V r).log2 + (-1074 - place).toNat := by
      rw [← log2_shift h, ← log2_shift (V_pos hr0), hv]
    rw [frac_eq, least_eq, binade_eq, inf_eq]
    have hq : max (place + (mag.log2 : Int) - (52 : Nat)) (-1074) = (((V r).log2 - 52 : Nat) : Int) - 1074 := by omega
    rw [hq]
    generalize hL : (V r).log2 - 52 = q
    have e1 : ((q : Int) - 1074 - (-1074)).toNat = q := by omega
    simp only [e1]
    -- the digits that are kept
    have keep : ∃ c, V r = c * 2 ^ q ∧ q * 2 ^ 52 + c = r := by
      by_cases hs : r < 2 ^ 52
      · have := V_log2_small hr0 hs
        have hq0 : q = 0 := by omega
        subst hq0
        refine ⟨r, ?_, by rw [Nat.zero_mul, Nat.zero_add]⟩
        unfold V; rw [if_pos hs]; simp
      · have := V_log2_big hs
        have hq0 : q = r / 2 ^ 52 - 1 := by omega
        refine ⟨2 ^ 52 + r % 2 ^ 52, ?_, ?_⟩
        · unfold V; rw [if_neg hs, hq0]
        · rw [hq0]; omega
    obtain ⟨c, hc1, hc2⟩ := keep
    have hcut : Toward.even.cut neg (mag <<< (place - ((q : Int) - 1074)).toNat) ((q : Int) - 1074 - place).toNat = c := by
      rw [shl]
      have hx : mag * 2 ^ (place - ((q : Int) - 1074)).toNat = c * 2 ^ ((q : Int) - 1074 - place).toNat := by
        rw [hc1] at hv
        by_cases hp : 0 ≤ place + 1074
        · have e2 : (-1074 - place).toNat = 0 := by omega
          rw [e2, Nat.pow_zero, Nat.mul_one] at hv
          by_cases hp2 : (q : Int) ≤ place + 1074
          · have e3 : ((q : Int) - 1074 - place).toNat = 0 := by omega
            rw [e3, Nat.pow_zero, Nat.mul_one]
            have e4 : (place + 1074).toNat = (place - ((q : Int) - 1074)).toNat + q := by omega
            rw [e4, Nat.pow_add, ← Nat.mul_assoc] at hv
            exact Nat.eq_of_mul_eq_mul_right (Nat.two_pow_pos q) hv
          · have e3 : (place - ((q : Int) - 1074)).toNat = 0 := by omega
            rw [e3, Nat.pow_zero, Nat.mul_one]
            have e4 : q = ((q : Int) - 1074 - place).toNat + (place + 1074).toNat := by omega
            have e5 : c * 2 ^ q = c * 2 ^ ((q : Int) - 1074 - place).toNat * 2 ^ (place + 1074).toNat := by
              rw [Nat.mul_assoc, ← Nat.pow_add, ← e4]
            rw [e5] at hv
            exact Nat.eq_of_mul_eq_mul_right (Nat.two_pow_pos _) hv
        · have e2 : (place + 1074).toNat = 0 := by omega
          rw [e2, Nat.pow_zero, Nat.mul_one] at hv
          have e3 : (place - ((q : Int) - 1074)).toNat = 0 := by omega
          rw [e3, Nat.pow_zero, Nat.mul_one, hv, Nat.mul_assoc, ← Nat.pow_add]
          congr 2
          omega
      rw [hx, cut_exact]
    rw [hcut]
    rw [hc2, Nat.min_eq_left (Nat.le_of_lt hr)]


/-! ### a finite word, its value, the order -/
/-- A word of 64 bits. -/
def neg (x : Nat) : Bool := x / 2 ^ 63 % 2 == 1
def mag (x : Nat) : Nat := x % 2 ^ 63
/-- The value of a finite word, in units of 2^-1074, with its sign. -/
def sv (x : Nat) : Int := if neg x then -(V (mag x) : Int) else V (mag x)

theorem read_fin {x : Nat} (h : mag x < INF) : ∃ m e, double.read x = .number (neg x) m e ∧ -1074 ≤ e ∧ m * 2 ^ (e + 1074).toNat = V (mag x) ∧ m < 2 ^ 53 := by
  rw [read_eq]
  by_cases h1 : x % 2 ^ 63 < 2 ^ 52
  · rw [if_pos h1]
    refine ⟨_, _, rfl, by omega, ?_, by omega⟩
    unfold V mag
    rw [if_pos h1]
    simp
  · rw [if_neg h1, if_pos (show x % 2 ^ 63 < INF from h)]
    refine ⟨_, _, rfl, by omega, ?_, by omega⟩
    unfold V mag
    rw [if_neg h1]
    congr 2
    omega

theorem compare_mul {a b : Int} {c : Int} (hc : 0 < c) : compare (a * c) (b * c) = compare a b := by
  simp only [compare, compareOfLessAndEq]
  have h1 : a * c < b * c ↔ a < b := Int.mul_lt_mul_right hc
  have h2 : a * c = b * c ↔ a = b := ⟨fun h => Int.eq_of_mul_eq_mul_right (by omega) h, fun h => by rw [h]⟩
  simp only [h1, h2]

theorem signed_eq (s : Bool) (m up : Nat) : signed s m up = (if s then -(m : Int) else m) * 2 ^ up := by
  unfold signed
  rw [shl]
  cases s <;> simp [Int.neg_mul]

theorem order_num {s t : Bool} {m n : Nat} {i j : Int} {a b : Nat} (hi : -1074 ≤ i) (hj : -1074 ≤ j) (ha : m * 2 ^ (i + 1074).toNat = a) (hb : n * 2 ^ (j + 1074).toNat = b) :
    (Datum.number s m i).order (.number t n j) = some (compare (if s then -(a : Int) else a) (if t then -(b : Int) else b)) := by
  simp only [Datum.order, Option.some.injEq, signed_eq]
  generalize hk : min i j = k
  have hk1 : -1074 ≤ k := by omega
  rw [← compare_mul (c := 2 ^ (k + 1074).toNat) (Int.pow_pos (by decide))]
  have e1 : ∀ (u : Bool) (q : Nat) (l : Int), k ≤ l → (if u then -(q : Int) else q) * 2 ^ (l - k).toNat * 2 ^ (k + 1074).toNat = if u then -((q * 2 ^ (l + 1074).toNat : Nat) : Int) else ((q * 2 ^ (l + 1074).toNat : Nat) : Int) := by
    intro u q l hl
    rw [Int.mul_assoc, ← Int.pow_add, show (l - k).toNat + (k + 1074).toNat = (l + 1074).toNat by omega]
    cases u <;> simp [Int.neg_mul]
  rw [e1 s m i (by omega), e1 t n j (by omega), ha, hb]

theorem order_fin {x y : Nat} (hx : mag x < INF) (hy : mag y < INF) : double.order x y = some (compare (sv x) (sv y)) := by
  obtain ⟨m, i, e1, h1, h2, _⟩ := read_fin hx
  obtain ⟨n, j, e2, h3, h4, _⟩ := read_fin hy
  unfold Format.order
  rw [e1, e2, order_num h1 h3 h2 h4]
  rfl

/-- Every whole number of fewer than 54 digits, times a power of two, is a value. -/
theorem rep (c k : Nat) (hc : c < 2 ^ 53) (hk : k ≤ 2045) : ∃ r, r < INF ∧ V r = c * 2 ^ k := by
  by_cases hs : c * 2 ^ k < 2 ^ 52
  · refine ⟨c * 2 ^ k, by unfold INF; omega, ?_⟩
    unfold V
    rw [if_pos hs]
  · have hc0 : 0 < c := by
      rcases Nat.eq_zero_or_pos c with e | e
      · subst e; simp at hs
      · exact e
    have l1 := (Nat.le_log2 (n := c) (k := c.log2) (by omega)).1 (Nat.le_refl _)
    have l2 := (Nat.log2_lt (n := c) (k := c.log2 + 1) (by omega)).1 (by omega)
    have l3 : c.log2 < 53 := (Nat.log2_lt (by omega)).2 hc
    have l4 : 52 ≤ c.log2 + k := by
      have h := (Nat.le_log2 (n := c * 2 ^ k) (k := 52) (by have := Nat.mul_pos hc0 (Nat.two_pow_pos k); omega)).2 (by omega)
      rw [log2_shift hc0] at h
      exact h
    generalize c.log2 = L at *
    have p1 : 2 ^ 52 ≤ c * 2 ^ (52 - L) := by
      have := Nat.mul_le_mul_right (2 ^ (52 - L)) l1
      rw [← Nat.pow_add, show L + (52 - L) = 52 by omega] at this
      exact this
    have p2 : c * 2 ^ (52 - L) < 2 ^ 53 := by
      have := Nat.mul_lt_mul_of_pos_right l2 (Nat.two_pow_pos (52 - L))
      rw [← Nat.pow_add, show L + 1 + (52 - L) = 53 by omega] at this
      exact this
    have p3 : c * 2 ^ k = (c * 2 ^ (52 - L)) * 2 ^ (k - (52 - L)) := by
      rw [Nat.mul_assoc, ← Nat.pow_add, show 52 - L + (k - (52 - L)) = k by omega]
    generalize c * 2 ^ (52 - L) = d at *
    refine ⟨(k - (52 - L) + 1) * 2 ^ 52 + (d - 2 ^ 52), by unfold INF; omega, ?_⟩
    unfold V
    rw [if_neg (by omega), p3]
    have q1 : ((k - (52 - L) + 1) * 2 ^ 52 + (d - 2 ^ 52)) / 2 ^ 52 = k - (52 - L) + 1 := by omega
    have q2 : ((k - (52 - L) + 1) * 2 ^ 52 + (d - 2 ^ 52)) % 2 ^ 52 = d - 2 ^ 52 := by omega
    rw [q1, q2, show 2 ^ 52 + (d - 2 ^ 52) = d by omega, show k - (52 - L) + 1 - 1 = k - (52 - L) by omega]

/-- Cutting towards zero. -/
theorem cut_zero (s : Bool) (n drop : Nat) : Toward.zero.cut s n drop = n / 2 ^ drop := by
  unfold Toward.cut
  simp only [shl, Nat.one_mul, Bool.toNat_false, Nat.add_zero]
  by_cases h : drop ≤ n.log2 + 2
  · rw [Nat.min_eq_left h]
  · rw [Nat.min_eq_right (by omega)]
    have l2 : n < 2 ^ (n.log2 + 2) := by
      rcases Nat.eq_zero_or_pos n with e | e
      · rw [e]; exact Nat.two_pow_pos _
      · exact (Nat.log2_lt (by omega)).1 (by omega)
    have l3 : n < 2 ^ drop := Nat.lt_of_lt_of_le l2 (Nat.pow_le_pow_right (by omega) (by omega))
    rw [Nat.div_eq_of_lt l2, Nat.div_eq_of_lt l3]

theorem trunc_gen (s : Bool) {K m : Nat} {e : Int} {a : Nat} (he : -(K : Int) ≤ e) (ha : m * 2 ^ (e + K).toNat = a) : Toward.zero.cut s (m <<< e.toNat) (-e).toNat = a / 2 ^ K := by
  rw [cut_zero, shl]
  by_cases h : 0 ≤ e
  · rw [show (-e).toNat = 0 by omega, Nat.pow_zero, Nat.div_one, ← ha, show (e + K).toNat = e.toNat + K by omega, Nat.pow_add, ← Nat.mul_assoc, Nat.mul_div_cancel _ (Nat.two_pow_pos K)]
  · rw [show e.toNat = 0 by omega, Nat.pow_zero, Nat.mul_one, ← ha]
    have h1 : (2 : Nat) ^ K = 2 ^ (-e).toNat * 2 ^ (e + K).toNat := by rw [← Nat.pow_add]; congr 1; omega
    rw [h1, Nat.mul_div_mul_right _ _ (Nat.two_pow_pos _)]

/-- 2^1074, kept behind a name. -/
def K74 : Nat := 1074
def ONE : Nat := 2 ^ K74
theorem ONE_pos : 0 < ONE := Nat.two_pow_pos K74
theorem trunc_val (s : Bool) {m : Nat} {e : Int} {a : Nat} (he : -1074 ≤ e) (ha : m * 2 ^ (e + 1074).toNat = a) : Toward.zero.cut s (m <<< e.toNat) (-e).toNat = a / ONE :=
  trunc_gen (K := K74) s he ha

/-- A finite word cut towards zero: the integer, and the word of it. -/
theorem toInt_fin {x : Nat} (h : mag x < INF) : (double.read x).toInt .zero = some (if neg x then -((V (mag x) / ONE : Nat) : Int) else ((V (mag x) / ONE : Nat) : Int)) := by
  obtain ⟨m, e, e1, h1, h2, _⟩ := read_fin h
  unfold Datum.toInt Datum.integral
  rw [e1]
  simp only [trunc_val _ h1 h2, signed_eq, Int.pow_zero, Int.mul_one]

theorem V_lt {r : Nat} (h : r < INF) : V r < 2 ^ 53 * 2 ^ 2045 := by
  unfold V
  unfold INF at h
  split
  · have := Nat.mul_le_mul_left (2 ^ 52) (Nat.two_pow_pos 2045)
    omega
  · have h1 : r / 2 ^ 52 - 1 ≤ 2045 := by omega
    have h2 := Nat.pow_le_pow_right (n := 2) (by omega) h1
    have h3 : 2 ^ 52 + r % 2 ^ 52 < 2 ^ 53 := by omega
    calc (2 ^ 52 + r % 2 ^ 52) * 2 ^ (r / 2 ^ 52 - 1) < 2 ^ 53 * 2 ^ (r / 2 ^ 52 - 1) := Nat.mul_lt_mul_of_pos_right h3 (Nat.two_pow_pos _)
      _ ≤ 2 ^ 53 * 2 ^ 2045 := Nat.mul_le_mul_left _ h2

/-- The integer that a finite word is cut to. -/
def tr (x : Nat) : Int := if neg x then -((V (mag x) / ONE : Nat) : Int) else ((V (mag x) / ONE : Nat) : Int)

theorem word_neg (s : Bool) {r : Nat} (h : r ≤ INF) : neg (double.word s r) = s := by
  unfold neg Format.word
  rw [sign_eq]
  unfold INF at h
  cases s
  · simp only [Bool.false_eq_true, if_false]
    have : r / 2 ^ 63 % 2 = 0 := by omega
    rw [this]; rfl
  · simp only [if_true]
    have : (2 ^ 63 + r) / 2 ^ 63 % 2 = 1 := by omega
    rw [this]; rfl
theorem word_mag (s : Bool) {r : Nat} (h : r ≤ INF) : mag (double.word s r) = r := by
  unfold mag Format.word
  rw [sign_eq]
  unfold INF at h
  cases s
  · simp only [Bool.false_eq_true, if_false]; omega
  · simp only [if_true]; omega

theorem whole_rung {r : Nat} (h : r < INF) : ∃ q, q < INF ∧ V q = V r / ONE * ONE := by
  by_cases hs : V r / ONE < 2 ^ 53
  · exact rep (V r / ONE) K74 hs (by unfold K74; omega)
  · refine ⟨r, h, ?_⟩
    have h1 : 2 ^ 53 * ONE ≤ V r := by
      have := Nat.div_mul_le_self (V r) ONE
      have h2 := Nat.mul_le_mul_right ONE (Nat.not_lt.1 hs)
      exact Nat.le_trans h2 this
    have hb : ¬ r < 2 ^ 52 := by
      intro hb
      unfold V at h1
      rw [if_pos hb] at h1
      have := Nat.mul_le_mul_left (2 ^ 53) ONE_pos
      omega
    have e : V r = (2 ^ 52 + r % 2 ^ 52) * 2 ^ (r / 2 ^ 52 - 1) := by unfold V; rw [if_neg hb]
    have h3 : K74 ≤ r / 2 ^ 52 - 1 := by
      rcases Nat.lt_or_ge (r / 2 ^ 52 - 1) K74 with hk | hk
      · exfalso
        rw [e] at h1
        have h4 : 2 ^ 52 + r % 2 ^ 52 < 2 ^ 53 := by omega
        have h5 := Nat.pow_le_pow_right (n := 2) (by omega) (Nat.le_of_lt hk)
        have h6 : (2 ^ 52 + r % 2 ^ 52) * 2 ^ (r / 2 ^ 52 - 1) < 2 ^ 53 * 2 ^ K74 := Nat.mul_lt_mul_of_lt_of_le h4 h5 (Nat.two_pow_pos _)
        unfold ONE at h1
        omega
      · exact hk
    have h7 : ∃ c, V r = c * ONE := by
      refine ⟨(2 ^ 52 + r % 2 ^ 52) * 2 ^ (r / 2 ^ 52 - 1 - K74), ?_⟩
      rw [e]
      unfold ONE
      rw [Nat.mul_assoc, ← Nat.pow_add, Nat.sub_add_cancel h3]
    obtain ⟨c, hc⟩ := h7
    rw [hc, Nat.mul_div_cancel _ ONE_pos]

/-- 'math.Trunc' of a finite word: a finite word of the same sign; its value is the whole part. -/
theorem trunc_word {x : Nat} (h : mag x < INF) : ∃ y, double.write ((double.read x).integral .zero) = y ∧ mag y < INF ∧ neg y = neg x ∧ V (mag y) = V (mag x) / ONE * ONE := by
  obtain ⟨m, e, e1, h1, h2, _⟩ := read_fin h
  obtain ⟨q, hq, hv⟩ := whole_rung h
  have hw : double.write ((double.read x).integral .zero) = double.word (neg x) q := by
    rw [e1]
    unfold Datum.integral Format.write
    simp only [trunc_val _ h1 h2]
    refine nearest_exact _ _ _ q hq ?_
    rw [hv, show ((0 : Int) + 1074).toNat = K74 from rfl, show ((-1074 : Int) - 0).toNat = 0 from rfl, Nat.pow_zero, Nat.mul_one]
    generalize V (mag x) / ONE = u
    unfold ONE
    rfl
  refine ⟨_, hw, ?_, word_neg _ (Nat.le_of_lt hq), ?_⟩
  · rw [word_mag _ (Nat.le_of_lt hq)]; exact hq
  · rw [word_mag _ (Nat.le_of_lt hq), hv]

theorem sv_whole {x y : Nat} (hn : neg y = neg x) (hv : V (mag y) = V (mag x) / ONE * ONE) : sv y = tr x * ONE := by
  unfold sv tr
  rw [hn, hv]
  cases neg x <;> simp [Int.neg_mul]
theorem tr_whole {x y : Nat} (hn : neg y = neg x) (hv : V (mag y) = V (mag x) / ONE * ONE) : tr y = tr x := by
  unfold tr
  rw [hn, hv, Nat.mul_div_cancel _ ONE_pos]

/-- Against a whole number: the value and its whole part. -/
theorem sv_lt {x : Nat} {n : Int} (hn : 0 < n) : sv x < n * ONE ↔ tr x < n := by
  have hp := ONE_pos
  have e : ((V (mag x) / ONE : Nat) : Int) = (V (mag x) : Int) / ONE := by simp
  have h0 : 0 ≤ (V (mag x) : Int) / ONE := Int.ediv_nonneg (by omega) (by omega)
  unfold sv tr
  split
  · rw [e]
    constructor
    · intro _
      omega
    · intro _
      have : 0 < n * (ONE : Int) := Int.mul_pos hn (by omega)
      omega
  · rw [e]
    exact (Int.ediv_lt_iff_lt_mul (by omega)).symm
theorem lt_sv {x : Nat} {n : Int} (hn : n < 0) : n * ONE < sv x ↔ n < tr x := by
  have hp := ONE_pos
  have e : ((V (mag x) / ONE : Nat) : Int) = (V (mag x) : Int) / ONE := by simp
  have h0 : 0 ≤ (V (mag x) : Int) / ONE := Int.ediv_nonneg (by omega) (by omega)
  unfold sv tr
  split
  · rw [e]
    have := Int.ediv_lt_iff_lt_mul (a := (V (mag x) : Int)) (b := -n) (c := (ONE : Int)) (by omega)
    rw [Int.neg_mul] at this
    omega
  · rw [e]
    constructor
    · intro _
      omega
    · intro _
      have : 0 < -n * (ONE : Int) := Int.mul_pos (by omega) (by omega)
      rw [Int.neg_mul] at this
      omega
end Go.Proofs.YtnffgafofkknoaaDoor.fl

/-! Flo -/
namespace Go.Proofs.YtnffgafofkknoaaDoor.flo
open Go.RowKit
set_option linter.unusedVariables false
set_option linter.unusedSimpArgs false

/-- A word that is no number. -/
def isNan (x : Nat) : Bool := (Ieee.double.read x).isNaN

/-- The word that the model draws for an operation without an answer. -/
def nanAt (x y : Nat) (w : World) : Nat := (Question.nanBits .f64 x y).cut (w.tape w.drawn (.nanBits .f64 x y))

theorem read_nan {x : Nat} (h : fl.INF < x % 2 ^ 63) : isNan x = true := by
  have h1 : ¬ x % 2 ^ 63 < 2 ^ 52 := by unfold fl.INF at h; omega
  have h2 : ¬ x % 2 ^ 63 < fl.INF := by omega
  have h3 : ¬ x % 2 ^ 63 = fl.INF := by omega
  unfold isNan
  rw [fl.read_eq, if_neg h1, if_neg h2, if_neg h3]
  rfl

theorem nanAt_nan (x y : Nat) (w : World) : isNan (nanAt x y w) = true := by
  apply read_nan
  have key : ∀ a u : Nat, u < 2 ^ 52 - 1 → fl.INF < (a * 2 ^ 63 + (0x7ff0000000000000 + 1 + u)) % 2 ^ 63 := by
    intro a u hu
    rw [Nat.mul_add_mod_self_right]
    unfold fl.INF
    omega
  have e := key (w.tape w.drawn (Question.nanBits .f64 x y) % 2) ((w.tape w.drawn (Question.nanBits .f64 x y) / 2) % (2 ^ 52 - 1)) (Nat.mod_lt _ (by decide))
  unfold nanAt Question.cut
  simp only [Nat.add_assoc] at e ⊢
  exact e

theorem run_nan {P : Program} (op : BinOp) (t : TypeId) (x y : Nat) (hop : op = .add ∨ op = .sub ∨ op = .mul ∨ op = .quo) (h : floatBits op .f64 x y = none) (w : World) :
    (binOp op t (.float .f64 x) (.float .f64 y)).run P w = .ok (.float .f64 (nanAt x y w)) w.drew := by
  unfold floatBits at h
  rcases hop with rfl | rfl | rfl | rfl
  all_goals
    simp only at h
    simp [binOp, Op.floatArith, h, nanAt, Question.forced]

theorem order_nan_left {x y : Nat} (h : isNan x = true) : FloatKind.f64.format.order x y = none := by
  unfold isNan at h
  show (Ieee.double.read x).order (Ieee.double.read y) = none
  revert h
  cases Ieee.double.read x <;> simp [Ieee.Datum.isNaN, Ieee.Datum.order]
theorem order_nan_right {x y : Nat} (h : isNan y = true) : FloatKind.f64.format.order x y = none := by
  unfold isNan at h
  show (Ieee.double.read x).order (Ieee.double.read y) = none
  revert h
  cases Ieee.double.read y <;> cases Ieee.double.read x <;> simp [Ieee.Datum.isNaN, Ieee.Datum.order]

theorem order_self {x : Nat} (h : isNan x = false) : FloatKind.f64.format.order x x = some .eq := by
  unfold isNan at h
  show (Ieee.double.read x).order (Ieee.double.read x) = some .eq
  revert h
  cases Ieee.double.read x <;> simp [Ieee.Datum.isNaN, Ieee.Datum.order]

theorem order_num {x y : Nat} (hx : isNan x = false) (hy : isNan y = false) : ∃ c, FloatKind.f64.format.order x y = some c := by
  unfold isNan at hx hy
  show ∃ c, (Ieee.double.read x).order (Ieee.double.read y) = some c
  revert hx hy
  cases Ieee.double.read y <;> cases Ieee.double.read x <;> simp [Ieee.Datum.isNaN, Ieee.Datum.order]

/-- 1 by a zero is an infinity. -/
theorem one_by_zero {x : Nat} (h : FloatKind.f64.format.order x 0 = some .eq) : ∃ q, floatBits .quo .f64 4607182418800017408 x = some q := by
  have h0 : Ieee.double.read 0 = .number false 0 (-1074) := by decide +kernel
  have h1 : Ieee.double.read 4607182418800017408 = .number false 4503599627370496 (-52) := by decide +kernel
  change (Ieee.double.read x).order (Ieee.double.read 0) = some .eq at h
  show ∃ q, ((Ieee.double.read 4607182418800017408).quotient (Ieee.double.fractionBits + 2) (Ieee.double.read x)).map Ieee.double.write = some q
  rw [h0] at h
  rw [h1]
  revert h
  cases Ieee.double.read x with
  | nan _ _ => simp [Ieee.Datum.order]
  | infinity s => cases s <;> simp [Ieee.Datum.order]
  | number s m i =>
    intro h
    simp only [Ieee.Datum.order, Option.some.injEq] at h
    have hm : m = 0 := by
      have h2 := Std.compare_eq_iff_eq.1 h
      unfold Ieee.signed at h2
      simp only [fl.shl, Nat.zero_mul] at h2
      have hp : (2 : Int) ^ (i - min i (-1074)).toNat > 0 := Int.pow_pos (by decide)
      revert h2
      cases s <;> simp
      all_goals
        intro h2
        rcases Int.mul_eq_zero.1 h2 with e | e
        · omega
        · omega
    subst hm
    simp [Ieee.Datum.quotient]

/-- Two words that are one value: both no number, or the same word. -/
def Same (x y : Nat) : Prop := (isNan x = true ∧ isNan y = true) ∨ x = y
theorem Same.refl (x : Nat) : Same x x := .inr rfl
end Go.Proofs.YtnffgafofkknoaaDoor.flo

/-! SameFloat -/
namespace Go.Proofs.YtnffgafofkknoaaDoor.flo
open Go.RowKit
set_option linter.unusedVariables false
set_option linter.unusedSimpArgs false

theorem same_nan (x y : Nat) (w : World) (hx : isNan x = true) (hy : isNan y = true) : Calls Tryd.prog 25 #[.float .f64 x, .float .f64 y] w fun e w' => e = .returned (.bool true) ∧ w = w' := by
  have ox := order_nan_left (y := x) hx
  have oy := order_nan_left (y := y) hy
  clear hx hy
  go_enter Tryd.func25, Tryd.ntmps25
  go_wp2
  go_ret
  exact ⟨rfl, rfl⟩

theorem same_num (x : Nat) (w : World) (hx : isNan x = false) : Calls Tryd.prog 25 #[.float .f64 x, .float .f64 x] w fun e w' => e = .returned (.bool true) ∧ w = w' := by
  have ox := order_self hx
  obtain ⟨c, hc⟩ := order_num (y := 0) hx (by decide +kernel)
  clear hx
  cases c with
  | eq =>
    obtain ⟨q, hq⟩ := one_by_zero hc
    have rq := fun (w : World) => run_float_arith (P := Tryd.prog) w .quo 33 .f64 _ _ _ hq
    clear hq
    go_enter Tryd.func25, Tryd.ntmps25
    go_wp2
    go_ret
    exact ⟨rfl, rfl⟩
  | lt =>
    go_enter Tryd.func25, Tryd.ntmps25
    go_wp2
    go_ret
    exact ⟨rfl, rfl⟩
  | gt =>
    go_enter Tryd.func25, Tryd.ntmps25
    go_wp2
    go_ret
    exact ⟨rfl, rfl⟩

theorem same_any (x y : Nat) (w : World) (h : Same x y) : Calls Tryd.prog 25 #[.float .f64 x, .float .f64 y] w fun e w' => e = .returned (.bool true) ∧ w = w' := by
  rcases h with ⟨hx, hy⟩ | rfl
  · exact same_nan x y w hx hy
  · cases hx : isNan x with
    | true => exact same_nan x x w hx hx
    | false => exact same_num x w hx
end Go.Proofs.YtnffgafofkknoaaDoor.flo

/-! EqMem -/
namespace Go.Proofs.YtnffgafofkknoaaDoor.part
open Go Go.RowKit
set_option linter.unusedVariables false
set_option linter.unusedSimpArgs false

/-- Two boxes with the same cells. -/
def Tw (t : TypeId) (cs : Array Value) (W w : World) : Prop :=
  w.heap[W.heap.size]? = some (.cells cs t (0, 0)) ∧ w.heap[W.heap.size + 1]? = some (.cells cs t (0, 0)) ∧ Below W.heap.size W w
theorem Tw.start (t : TypeId) (cs : Array Value) (W : World) : Tw t cs W ((W.alloc (.cells cs t)).alloc (.cells cs t)) := by
  have e1 := size_alloc W (.cells cs t)
  refine ⟨?_, ?_, ((Below.refl _ _).alloc (Nat.le_refl _) _).alloc (by omega) _⟩
  · rw [heap_alloc_old _ _ (by omega)]; exact heap_alloc_new _ _
  · rw [← e1]; exact heap_alloc_new _ _
theorem Tw.below {t : TypeId} {cs : Array Value} {W w w1 : World} (h : Tw t cs W w) (hb : Below w.heap.size w w1) : Tw t cs W w1 := by
  obtain ⟨a, b, d⟩ := h
  have k : ∀ {g : Nat} {o : Obj}, w.heap[g]? = some o → w1.heap[g]? = some o := fun {g o} hg => (hb.block g (Array.getElem?_eq_some_iff.1 hg).1).trans hg
  exact ⟨k a, k b, d.trans (hb.mono d.size)⟩
theorem below_drewN' (w : World) (m : Nat) : Below w.heap.size w (w.drewN m) := ⟨rfl, rfl, rfl, Nat.le_refl _, fun _ _ => rfl⟩

theorem eqTimer (d : Bool) (c : Int) (w : World) :
    Calls Tryd.prog 65 #[.agg #[.bool d, .int .u16 c], .agg #[.bool d, .int .u16 c]] w fun e w' => e = .returned (.bool true) ∧ Below w.heap.size w w' := by
  go_enter Tryd.func65, Tryd.ntmps65
  go_wp2
  go_ret
  exact ⟨rfl, ((Below.refl _ _).alloc (Nat.le_refl _) _).alloc (by simp) _⟩

theorem eqCounter (d l : Bool) (c : Int) (w : World) :
    Calls Tryd.prog 66 #[.agg #[.bool d, .bool l, .int .u16 c], .agg #[.bool d, .bool l, .int .u16 c]] w fun e w' => e = .returned (.bool true) ∧ Below w.heap.size w w' := by
  go_enter Tryd.func66, Tryd.ntmps66
  go_wp2
  go_ret
  exact ⟨rfl, ((Below.refl _ _).alloc (Nat.le_refl _) _).alloc (by simp) _⟩

set_option maxRecDepth 100000 in
theorem eqWholes (cs : Array Value) (hc : ∀ j, j < 32 → ∃ n, cs[j]? = some (.int .i16 n)) (w : World) :
    Calls Tryd.prog 48 #[.agg cs, .agg cs] w fun e w' => e = .returned (.bool true) ∧ Below w.heap.size w w' := by
  have HC := Lib.hid hc
  clear hc
  go_enter Tryd.func48, Tryd.ntmps48
  go_wp2_with fail
  go_loopg [5] 32 (fun kq v w' => ∃ i : Nat, v = .int .i64 i ∧ Hid (i + kq = 32) ∧ Tw 32 cs w w')
  case atStart => exact ⟨0, rfl, Lib.hid (by decide), Tw.start _ _ _⟩
  case round =>
    obtain ⟨i, rfl, hk, ht⟩ := hrel
    cases gk with
    | zero =>
      have hi : i = 32 := by have := hk.out; omega
      subst hi
      go_wp2_with fail
      go_ret
      exact ⟨rfl, ht.2.2⟩
    | succ k1 =>
      have hlt : i < 32 := by have := hk.out; omega
      obtain ⟨n, g0⟩ := HC.out i hlt
      have c0a := kit.box_cell ht.1 (i) g0
      have c0b := kit.box_cell ht.2.1 (i) g0
      clear g0
      go_wp2_with fail
      go_quiet (fail)
      go_wp2_with fail
      go_roundg k1
      case measure => have := hk.out; omega
      case rel => exact ⟨i + 1, by first | rfl | (push_cast; rfl), Lib.hid (by have := hk.out; omega), ht.below (below_drewN' _ _)⟩

set_option maxRecDepth 100000 in
theorem eqReals (cs : Array Value) (hc : ∀ j, j < 16 → ∃ n, cs[j]? = some (.float .f64 n)) (w : World) :
    Calls Tryd.prog 49 #[.agg cs, .agg cs] w fun e w' => e = .returned (.bool true) ∧ Below w.heap.size w w' := by
  have HC := Lib.hid hc
  clear hc
  go_enter Tryd.func49, Tryd.ntmps49
  go_wp2_with fail
  go_loopg [5] 16 (fun kq v w' => ∃ i : Nat, v = .int .i64 i ∧ Hid (i + kq = 16) ∧ Tw 34 cs w w')
  case atStart => exact ⟨0, rfl, Lib.hid (by decide), Tw.start _ _ _⟩
  case round =>
    obtain ⟨i, rfl, hk, ht⟩ := hrel
    cases gk with
    | zero =>
      have hi : i = 16 := by have := hk.out; omega
      subst hi
      go_wp2_with fail
      go_ret
      exact ⟨rfl, ht.2.2⟩
    | succ k1 =>
      have hlt : i < 16 := by have := hk.out; omega
      obtain ⟨n, g0⟩ := HC.out i hlt
      have c0a := kit.box_cell ht.1 (i) g0
      have c0b := kit.box_cell ht.2.1 (i) g0
      clear g0
      go_wp2_with fail
      go_quiet ((go_at_call 25; exact Calls.quiet_of_same ((flo.same_any n n _ (flo.Same.refl n)).mono fun _ _ h => ⟨h.1, h.2.symm⟩)))
      go_wp2_with fail
      go_roundg k1
      case measure => have := hk.out; omega
      case rel => exact ⟨i + 1, by first | rfl | (push_cast; rfl), Lib.hid (by have := hk.out; omega), ht.below (below_drewN' _ _)⟩

set_option maxRecDepth 100000 in
theorem eqTimers (cs : Array Value) (hc : ∀ j, j < 16 → ∃ d c, cs[j * 2]? = some (.bool d) ∧ cs[j * 2 + 1]? = some (.int .u16 c)) (w : World) :
    Calls Tryd.prog 46 #[.agg cs, .agg cs] w fun e w' => e = .returned (.bool true) ∧ Below w.heap.size w w' := by
  have HC := Lib.hid hc
  clear hc
  go_enter Tryd.func46, Tryd.ntmps46
  go_wp2_with fail
  go_loopg [5] 16 (fun kq v w' => ∃ i : Nat, v = .int .i64 i ∧ Hid (i + kq = 16) ∧ Tw 41 cs w w')
  case atStart => exact ⟨0, rfl, Lib.hid (by decide), Tw.start _ _ _⟩
  case round =>
    obtain ⟨i, rfl, hk, ht⟩ := hrel
    cases gk with
    | zero =>
      have hi : i = 16 := by have := hk.out; omega
      subst hi
      go_wp2_with fail
      go_ret
      exact ⟨rfl, ht.2.2⟩
    | succ k1 =>
      have hlt : i < 16 := by have := hk.out; omega
      obtain ⟨d, c, g0, g1⟩ := HC.out i hlt
      have c0a := kit.box_cell ht.1 (i * 2) g0
      have c0b := kit.box_cell ht.2.1 (i * 2) g0
      have c1a := kit.box_cell ht.1 (i * 2 + 1) g1
      have c1b := kit.box_cell ht.2.1 (i * 2 + 1) g1
      clear g0 g1
      go_wp2_with fail
      have Ht := Lib.hid ht
      clear ht
      go_region_with (go_at_call 65; refine (eqTimer d c _).mono ?_; rintro e w3 ⟨rfl, hb⟩)
      all_goals
        go_wp2_with fail
        go_roundg k1
        case measure => have := hk.out; omega
        case rel => exact ⟨i + 1, by first | rfl | (push_cast; rfl), Lib.hid (by have := hk.out; omega), Ht.out.below (by first | exact (below_drewN' _ _).trans (hb.mono (Nat.le_refl _)) | exact hb | exact (Below.refl _ _).drew.trans hb)⟩

set_option maxRecDepth 100000 in
theorem eqCounters (cs : Array Value) (hc : ∀ j, j < 16 → ∃ d l c, cs[j * 3]? = some (.bool d) ∧ cs[j * 3 + 1]? = some (.bool l) ∧ cs[j * 3 + 2]? = some (.int .u16 c)) (w : World) :
    Calls Tryd.prog 47 #[.agg cs, .agg cs] w fun e w' => e = .returned (.bool true) ∧ Below w.heap.size w w' := by
  have HC := Lib.hid hc
  clear hc
  go_enter Tryd.func47, Tryd.ntmps47
  go_wp2_with fail
  go_loopg [5] 16 (fun kq v w' => ∃ i : Nat, v = .int .i64 i ∧ Hid (i + kq = 16) ∧ Tw 43 cs w w')
  case atStart => exact ⟨0, rfl, Lib.hid (by decide), Tw.start _ _ _⟩
  case round =>
    obtain ⟨i, rfl, hk, ht⟩ := hrel
    cases gk with
    | zero =>
      have hi : i = 16 := by have := hk.out; omega
      subst hi
      go_wp2_with fail
      go_ret
      exact ⟨rfl, ht.2.2⟩
    | succ k1 =>
      have hlt : i < 16 := by have := hk.out; omega
      obtain ⟨d, l, c, g0, g1, g2⟩ := HC.out i hlt
      have c0a := kit.box_cell ht.1 (i * 3) g0
      have c0b := kit.box_cell ht.2.1 (i * 3) g0
      have c1a := kit.box_cell ht.1 (i * 3 + 1) g1
      have c1b := kit.box_cell ht.2.1 (i * 3 + 1) g1
      have c2a := kit.box_cell ht.1 (i * 3 + 2) g2
      have c2b := kit.box_cell ht.2.1 (i * 3 + 2) g2
      clear g0 g1 g2
      go_wp2_with fail
      have Ht := Lib.hid ht
      clear ht
      go_region_with (go_at_call 66; refine (eqCounter d l c _).mono ?_; rintro e w3 ⟨rfl, hb⟩)
      all_goals
        go_wp2_with fail
        go_roundg k1
        case measure => have := hk.out; omega
        case rel => exact ⟨i + 1, by first | rfl | (push_cast; rfl), Lib.hid (by have := hk.out; omega), Ht.out.below (by first | exact (below_drewN' _ _).trans (hb.mono (Nat.le_refl _)) | exact hb | exact (Below.refl _ _).drew.trans hb)⟩

/-- The kinds of a memory's cells. -/
structure Shape (cs : Array Value) : Prop where
  size : cs.size = 136
  one : ∀ x ∈ cs, x.oneCell' = true
  X : ∃ a, cs[0]? = some (.int .u32 a)
  Y : ∃ a, cs[1]? = some (.int .u32 a)
  M : ∃ a, cs[2]? = some (.int .u64 a)
  S : ∃ a, cs[3]? = some (.int .u16 a)
  E : ∃ a, cs[4]? = some (.int .u32 a)
  T : ∀ j, j < 16 → ∃ d c, cs[5 + j * 2]? = some (.bool d) ∧ cs[5 + (j * 2 + 1)]? = some (.int .u16 c)
  C : ∀ j, j < 16 → ∃ d l c, cs[37 + j * 3]? = some (.bool d) ∧ cs[37 + (j * 3 + 1)]? = some (.bool l) ∧ cs[37 + (j * 3 + 2)]? = some (.int .u16 c)
  D : ∀ j, j < 32 → ∃ n, cs[85 + j]? = some (.int .i16 n)
  R : ∀ j, j < 16 → ∃ n, cs[117 + j]? = some (.float .f64 n)
  Time : ∃ a, cs[133]? = some (.int .u32 a)
  Ran : ∃ a, cs[134]? = some (.bool a)
  Fault : ∃ a, cs[135]? = some (.bool a)

theorem cel_is {cs : Array Value} {off : Nat} {v : Value} (h : cs[off]? = some v) : cel cs off = v := by
  unfold cel
  rw [Array.getD_eq_getD_getElem?, h]
  rfl
theorem cut_at (cs : Array Value) (off n j : Nat) (hj : j < n) (h : off + n ≤ cs.size) : (cut cs off n)[j]? = cs[off + j]? := by
  unfold cut
  rw [Array.getElem?_extract, if_pos (by omega)]

section
variable {P : Program} {ops : Array Oper} {rest : List Oper} {o : Oper} {a : Act} {w W : World} {Q : Exit → Act → World → Prop} {t : TypeId} {cs : Array Value} {fr : Nat × Nat}
theorem wl_genT (h : Tw t cs W w) (k : ∀ w1, Tw t cs W w1 → wpList P ops Q rest a w1) : wpList P ops Q rest a w := k w h
theorem wl_g1 (hgd : o.guard = none) (ty : TypeId) (x : Operand) (ho : o.op = .load ty x) (g off : Nat) (hx : a.eval x = .pointer (some ⟨g, off, none⟩)) (hg : w.heap[g]? = some (.cells cs t fr)) (hoff : off < cs.size) (hu : scalarB P ty = true)
    (h : wpList P ops Q rest (a.put o.dst (cel cs off)) w) : wpList P ops Q (o :: rest) a w := by
  refine wpList_plain hgd fun _ hK => ?_
  have hc : w.cell? ⟨g, off, none⟩ = some (cel cs off) := by
    rw [cell_of_row w g off cs t _ hg]
    simp [cel, hoff]
  have e : (loadVar ty ⟨g, off, none⟩).run P w = .ok (cel cs off) w := by simp [loadVar, Sem.run_bind, scalar_run hu w, hc]
  unfold Oper.wp execOp
  simp only [ho, hx, Instr.loadAt, Instr.sureAddr, Sem.run_bind, Sem.run_pure, Result.andThen_ok, e]
  exact hK _ _ h
theorem wl_gp (hgd : o.guard = none) (ty : TypeId) (x : Operand) (ho : o.op = .load ty x) (g off n : Nat) (hx : a.eval x = .pointer (some ⟨g, off, none⟩)) (hg : w.heap[g]? = some (.cells cs t fr)) (hu : aggB P ty = true) (hi : (P.info? ty).map (·.size) = some n) (hoff : off + n ≤ cs.size)
    (h : wpList P ops Q rest (a.put o.dst (.agg (cut cs off n))) w) : wpList P ops Q (o :: rest) a w := by
  refine wpList_plain hgd fun _ hK => ?_
  unfold Oper.wp execOp
  simp only [ho, hx, Instr.loadAt, Instr.sureAddr, Sem.run_bind, Sem.run_pure, Result.andThen_ok, run_ldp hg hoff (agg_run hu w) hi]
  exact hK _ _ h
end

set_option maxRecDepth 100000 in
set_option maxHeartbeats 2000000 in
theorem eqMem (cs : Array Value) (hs : Shape cs) (w : World) :
    Calls Tryd.prog 20 #[.agg cs, .agg cs] w fun e w' => e = .returned (.bool true) ∧ Below w.heap.size w w' := by
  have HS := Lib.hid hs
  obtain ⟨x0, e0⟩ := hs.X
  obtain ⟨x1, e1⟩ := hs.Y
  obtain ⟨x2, e2⟩ := hs.M
  obtain ⟨x3, e3⟩ := hs.S
  obtain ⟨x4, e4⟩ := hs.E
  obtain ⟨x5, e5⟩ := hs.Time
  obtain ⟨x6, e6⟩ := hs.Ran
  obtain ⟨x7, e7⟩ := hs.Fault
  have c0 := cel_is e0
  have c1 := cel_is e1
  have c2 := cel_is e2
  have c3 := cel_is e3
  have c4 := cel_is e4
  have c5 := cel_is e5
  have c6 := cel_is e6
  have c7 := cel_is e7
  have hT : ∀ j, j < 16 → ∃ d c, (cut cs 5 32)[j * 2]? = some (.bool d) ∧ (cut cs 5 32)[j * 2 + 1]? = some (.int .u16 c) := fun j hj => by
    rw [cut_at _ _ _ _ (by omega) (by rw [hs.size]; decide), cut_at _ _ _ _ (by omega) (by rw [hs.size]; decide)]; exact hs.T j hj
  have hC : ∀ j, j < 16 → ∃ d l c, (cut cs 37 48)[j * 3]? = some (.bool d) ∧ (cut cs 37 48)[j * 3 + 1]? = some (.bool l) ∧ (cut cs 37 48)[j * 3 + 2]? = some (.int .u16 c) := fun j hj => by
    rw [cut_at _ _ _ _ (by omega) (by rw [hs.size]; decide), cut_at _ _ _ _ (by omega) (by rw [hs.size]; decide), cut_at _ _ _ _ (by omega) (by rw [hs.size]; decide)]; exact hs.C j hj
  have hD : ∀ j, j < 32 → ∃ n, (cut cs 85 32)[j]? = some (.int .i16 n) := fun j hj => by
    rw [cut_at _ _ _ _ (by omega) (by rw [hs.size]; decide)]; exact hs.D j hj
  have hR : ∀ j, j < 16 → ∃ n, (cut cs 117 16)[j]? = some (.float .f64 n) := fun j hj => by
    rw [cut_at _ _ _ _ (by omega) (by rw [hs.size]; decide)]; exact hs.R j hj
  have HT := Lib.hid hT
  have HC := Lib.hid hC
  have HD := Lib.hid hD
  have HR := Lib.hid hR
  clear hT hC hD hR e0 e1 e2 e3 e4 e5 e6 e7 hs
  go_enter Tryd.func20, Tryd.ntmps20
  go_wp2_with (first | (with_reducible refine wl_genT (Tw.start 45 cs w) ?_; intro w0 ht) | (refine wl_g1 rfl _ _ rfl _ _ rfl ht.1 (by rw [HS.out.size]; decide) (by decide +kernel) ?_) | (refine wl_g1 rfl _ _ rfl _ _ rfl ht.2.1 (by rw [HS.out.size]; decide) (by decide +kernel) ?_) | (refine wl_gp rfl 41 _ rfl _ _ 32 rfl ht.1 (by kernel_rfl) (by kernel_rfl) (by rw [HS.out.size]; decide) ?_) | (refine wl_gp rfl 41 _ rfl _ _ 32 rfl ht.2.1 (by kernel_rfl) (by kernel_rfl) (by rw [HS.out.size]; decide) ?_) | (refine wl_gp rfl 43 _ rfl _ _ 48 rfl ht.1 (by kernel_rfl) (by kernel_rfl) (by rw [HS.out.size]; decide) ?_) | (refine wl_gp rfl 43 _ rfl _ _ 48 rfl ht.2.1 (by kernel_rfl) (by kernel_rfl) (by rw [HS.out.size]; decide) ?_) | (refine wl_gp rfl 32 _ rfl _ _ 32 rfl ht.1 (by kernel_rfl) (by kernel_rfl) (by rw [HS.out.size]; decide) ?_) | (refine wl_gp rfl 32 _ rfl _ _ 32 rfl ht.2.1 (by kernel_rfl) (by kernel_rfl) (by rw [HS.out.size]; decide) ?_) | (refine wl_gp rfl 34 _ rfl _ _ 16 rfl ht.1 (by kernel_rfl) (by kernel_rfl) (by rw [HS.out.size]; decide) ?_) | (refine wl_gp rfl 34 _ rfl _ _ 16 rfl ht.2.1 (by kernel_rfl) (by kernel_rfl) (by rw [HS.out.size]; decide) ?_))
  refine (eqTimers _ HT.out _).mono ?_
  rintro e w3 ⟨rfl, hb⟩
  have ht2 := ht.below hb
  clear ht hb
  have ht := ht2
  clear ht2
  go_wp2_with (first | (with_reducible refine wl_genT (Tw.start 45 cs w) ?_; intro w0 ht) | (refine wl_g1 rfl _ _ rfl _ _ rfl ht.1 (by rw [HS.out.size]; decide) (by decide +kernel) ?_) | (refine wl_g1 rfl _ _ rfl _ _ rfl ht.2.1 (by rw [HS.out.size]; decide) (by decide +kernel) ?_) | (refine wl_gp rfl 41 _ rfl _ _ 32 rfl ht.1 (by kernel_rfl) (by kernel_rfl) (by rw [HS.out.size]; decide) ?_) | (refine wl_gp rfl 41 _ rfl _ _ 32 rfl ht.2.1 (by kernel_rfl) (by kernel_rfl) (by rw [HS.out.size]; decide) ?_) | (refine wl_gp rfl 43 _ rfl _ _ 48 rfl ht.1 (by kernel_rfl) (by kernel_rfl) (by rw [HS.out.size]; decide) ?_) | (refine wl_gp rfl 43 _ rfl _ _ 48 rfl ht.2.1 (by kernel_rfl) (by kernel_rfl) (by rw [HS.out.size]; decide) ?_) | (refine wl_gp rfl 32 _ rfl _ _ 32 rfl ht.1 (by kernel_rfl) (by kernel_rfl) (by rw [HS.out.size]; decide) ?_) | (refine wl_gp rfl 32 _ rfl _ _ 32 rfl ht.2.1 (by kernel_rfl) (by kernel_rfl) (by rw [HS.out.size]; decide) ?_) | (refine wl_gp rfl 34 _ rfl _ _ 16 rfl ht.1 (by kernel_rfl) (by kernel_rfl) (by rw [HS.out.size]; decide) ?_) | (refine wl_gp rfl 34 _ rfl _ _ 16 rfl ht.2.1 (by kernel_rfl) (by kernel_rfl) (by rw [HS.out.size]; decide) ?_))
  refine (eqCounters _ HC.out _).mono ?_
  rintro e w3 ⟨rfl, hb⟩
  have ht2 := ht.below hb
  clear ht hb
  have ht := ht2
  clear ht2
  go_wp2_with (first | (with_reducible refine wl_genT (Tw.start 45 cs w) ?_; intro w0 ht) | (refine wl_g1 rfl _ _ rfl _ _ rfl ht.1 (by rw [HS.out.size]; decide) (by decide +kernel) ?_) | (refine wl_g1 rfl _ _ rfl _ _ rfl ht.2.1 (by rw [HS.out.size]; decide) (by decide +kernel) ?_) | (refine wl_gp rfl 41 _ rfl _ _ 32 rfl ht.1 (by kernel_rfl) (by kernel_rfl) (by rw [HS.out.size]; decide) ?_) | (refine wl_gp rfl 41 _ rfl _ _ 32 rfl ht.2.1 (by kernel_rfl) (by kernel_rfl) (by rw [HS.out.size]; decide) ?_) | (refine wl_gp rfl 43 _ rfl _ _ 48 rfl ht.1 (by kernel_rfl) (by kernel_rfl) (by rw [HS.out.size]; decide) ?_) | (refine wl_gp rfl 43 _ rfl _ _ 48 rfl ht.2.1 (by kernel_rfl) (by kernel_rfl) (by rw [HS.out.size]; decide) ?_) | (refine wl_gp rfl 32 _ rfl _ _ 32 rfl ht.1 (by kernel_rfl) (by kernel_rfl) (by rw [HS.out.size]; decide) ?_) | (refine wl_gp rfl 32 _ rfl _ _ 32 rfl ht.2.1 (by kernel_rfl) (by kernel_rfl) (by rw [HS.out.size]; decide) ?_) | (refine wl_gp rfl 34 _ rfl _ _ 16 rfl ht.1 (by kernel_rfl) (by kernel_rfl) (by rw [HS.out.size]; decide) ?_) | (refine wl_gp rfl 34 _ rfl _ _ 16 rfl ht.2.1 (by kernel_rfl) (by kernel_rfl) (by rw [HS.out.size]; decide) ?_))
  refine (eqWholes _ HD.out _).mono ?_
  rintro e w3 ⟨rfl, hb⟩
  have ht2 := ht.below hb
  clear ht hb
  have ht := ht2
  clear ht2
  go_wp2_with (first | (with_reducible refine wl_genT (Tw.start 45 cs w) ?_; intro w0 ht) | (refine wl_g1 rfl _ _ rfl _ _ rfl ht.1 (by rw [HS.out.size]; decide) (by decide +kernel) ?_) | (refine wl_g1 rfl _ _ rfl _ _ rfl ht.2.1 (by rw [HS.out.size]; decide) (by decide +kernel) ?_) | (refine wl_gp rfl 41 _ rfl _ _ 32 rfl ht.1 (by kernel_rfl) (by kernel_rfl) (by rw [HS.out.size]; decide) ?_) | (refine wl_gp rfl 41 _ rfl _ _ 32 rfl ht.2.1 (by kernel_rfl) (by kernel_rfl) (by rw [HS.out.size]; decide) ?_) | (refine wl_gp rfl 43 _ rfl _ _ 48 rfl ht.1 (by kernel_rfl) (by kernel_rfl) (by rw [HS.out.size]; decide) ?_) | (refine wl_gp rfl 43 _ rfl _ _ 48 rfl ht.2.1 (by kernel_rfl) (by kernel_rfl) (by rw [HS.out.size]; decide) ?_) | (refine wl_gp rfl 32 _ rfl _ _ 32 rfl ht.1 (by kernel_rfl) (by kernel_rfl) (by rw [HS.out.size]; decide) ?_) | (refine wl_gp rfl 32 _ rfl _ _ 32 rfl ht.2.1 (by kernel_rfl) (by kernel_rfl) (by rw [HS.out.size]; decide) ?_) | (refine wl_gp rfl 34 _ rfl _ _ 16 rfl ht.1 (by kernel_rfl) (by kernel_rfl) (by rw [HS.out.size]; decide) ?_) | (refine wl_gp rfl 34 _ rfl _ _ 16 rfl ht.2.1 (by kernel_rfl) (by kernel_rfl) (by rw [HS.out.size]; decide) ?_))
  refine (eqReals _ HR.out _).mono ?_
  rintro e w3 ⟨rfl, hb⟩
  have ht2 := ht.below hb
  clear ht hb
  have ht := ht2
  clear ht2
  go_wp2_with (first | (with_reducible refine wl_genT (Tw.start 45 cs w) ?_; intro w0 ht) | (refine wl_g1 rfl _ _ rfl _ _ rfl ht.1 (by rw [HS.out.size]; decide) (by decide +kernel) ?_) | (refine wl_g1 rfl _ _ rfl _ _ rfl ht.2.1 (by rw [HS.out.size]; decide) (by decide +kernel) ?_) | (refine wl_gp rfl 41 _ rfl _ _ 32 rfl ht.1 (by kernel_rfl) (by kernel_rfl) (by rw [HS.out.size]; decide) ?_) | (refine wl_gp rfl 41 _ rfl _ _ 32 rfl ht.2.1 (by kernel_rfl) (by kernel_rfl) (by rw [HS.out.size]; decide) ?_) | (refine wl_gp rfl 43 _ rfl _ _ 48 rfl ht.1 (by kernel_rfl) (by kernel_rfl) (by rw [HS.out.size]; decide) ?_) | (refine wl_gp rfl 43 _ rfl _ _ 48 rfl ht.2.1 (by kernel_rfl) (by kernel_rfl) (by rw [HS.out.size]; decide) ?_) | (refine wl_gp rfl 32 _ rfl _ _ 32 rfl ht.1 (by kernel_rfl) (by kernel_rfl) (by rw [HS.out.size]; decide) ?_) | (refine wl_gp rfl 32 _ rfl _ _ 32 rfl ht.2.1 (by kernel_rfl) (by kernel_rfl) (by rw [HS.out.size]; decide) ?_) | (refine wl_gp rfl 34 _ rfl _ _ 16 rfl ht.1 (by kernel_rfl) (by kernel_rfl) (by rw [HS.out.size]; decide) ?_) | (refine wl_gp rfl 34 _ rfl _ _ 16 rfl ht.2.1 (by kernel_rfl) (by kernel_rfl) (by rw [HS.out.size]; decide) ?_))
  go_ret
  exact ⟨rfl, ht.2.2⟩
end Go.Proofs.YtnffgafofkknoaaDoor.part

/-! Shape -/
namespace Go.Proofs.YtnffgafofkknoaaDoor.part
open Go Go.RowKit
set_option linter.unusedVariables false
set_option linter.unusedSimpArgs false

def at_ (P : Program) (t : TypeId) (i : Nat) : Option TypeDesc := match P.cellTypes P.depth t with | some ts => (ts[i % ts.length]?).bind P.underlying | none => none
def tag (d : Option TypeDesc) : Nat := match d with | some .bool => 1 | some (.int .u32) => 2 | some (.int .u64) => 3 | some (.int .u16) => 4 | some (.int .i16) => 5 | some (.float .f64) => 6 | _ => 0
def tags : List Nat := [2, 2, 3, 4, 2] ++ [1, 4, 1, 4, 1, 4, 1, 4, 1, 4, 1, 4, 1, 4, 1, 4, 1, 4, 1, 4, 1, 4, 1, 4, 1, 4, 1, 4, 1, 4, 1, 4] ++
  [1, 1, 4, 1, 1, 4, 1, 1, 4, 1, 1, 4, 1, 1, 4, 1, 1, 4, 1, 1, 4, 1, 1, 4, 1, 1, 4, 1, 1, 4, 1, 1, 4, 1, 1, 4, 1, 1, 4, 1, 1, 4, 1, 1, 4, 1, 1, 4] ++ List.replicate 32 5 ++ List.replicate 16 6 ++ [2, 1, 1]
theorem tags_ok : ∀ i, i < 136 → tag (at_ Tryd.prog 36 i) = tags.getD i 0 := by decide +kernel
theorem size_ok : Tryd.prog.cellsOf 36 = 136 := by decide +kernel
theorem tag1 {d : Option TypeDesc} (h : tag d = 1) : d = some .bool := by
  unfold tag at h
  split at h <;> first | rfl | cases h
theorem tag2 {d : Option TypeDesc} (h : tag d = 2) : d = some (.int .u32) := by
  unfold tag at h
  split at h <;> first | rfl | cases h
theorem tag3 {d : Option TypeDesc} (h : tag d = 3) : d = some (.int .u64) := by
  unfold tag at h
  split at h <;> first | rfl | cases h
theorem tag4 {d : Option TypeDesc} (h : tag d = 4) : d = some (.int .u16) := by
  unfold tag at h
  split at h <;> first | rfl | cases h
theorem tag5 {d : Option TypeDesc} (h : tag d = 5) : d = some (.int .i16) := by
  unfold tag at h
  split at h <;> first | rfl | cases h
theorem tag6 {d : Option TypeDesc} (h : tag d = 6) : d = some (.float .f64) := by
  unfold tag at h
  split at h <;> first | rfl | cases h
theorem tags_any : ∀ i, i < 136 → tags.getD i 0 = 1 ∨ tags.getD i 0 = 2 ∨ tags.getD i 0 = 3 ∨ tags.getD i 0 = 4 ∨ tags.getD i 0 = 5 ∨ tags.getD i 0 = 6 := by decide +kernel

set_option maxRecDepth 100000 in
theorem shape_of {W : World} {base : Nat} {v : Value} (h : Value.okWide Tryd.prog W .any base 36 v) : ∃ cs, v = .agg cs ∧ Shape cs := by
  obtain ⟨cs, rfl, hsz, hts⟩ := kit.ok_cells Tryd.underlying36 h
  rw [size_ok] at hsz
  have get : ∀ i, i < 136 → ∃ u x, cs[i]? = some x ∧ Tryd.prog.underlying u = at_ Tryd.prog 36 i ∧ Cell.okWide Tryd.prog W .any base u x ∧ (∃ d, at_ Tryd.prog 36 i = some d) := by
    intro i hi
    have ht := tags_ok i hi
    cases hc : Tryd.prog.cellTypes Tryd.prog.depth 36 with
    | none =>
      have e : at_ Tryd.prog 36 i = none := by unfold at_; rw [hc]
      rw [e] at ht
      have := tags_any i hi
      simp only [tag] at ht
      omega
    | some ts =>
      have hx : cs[i]? = some cs[i] := Array.getElem?_eq_getElem (by omega)
      obtain ⟨u, hu, hok⟩ := hts ts hc i _ hx
      have e : at_ Tryd.prog 36 i = Tryd.prog.underlying u := by unfold at_; rw [hc]; simp only [hu, Option.bind_some]
      refine ⟨u, _, hx, e.symm, hok, ?_⟩
      cases hd : at_ Tryd.prog 36 i with
      | some d => exact ⟨d, rfl⟩
      | none =>
        rw [hd] at ht
        have := tags_any i hi
        simp only [tag] at ht
        omega
  have gb : ∀ i, i < 136 → tags.getD i 0 = 1 → ∃ a, cs[i]? = some (.bool a) := by
    intro i hi ht
    obtain ⟨u, x, hx, hu, hok, _⟩ := get i hi
    rw [tag1 ((tags_ok i hi).trans ht)] at hu
    obtain ⟨n, rfl⟩ := kit.cell_bool hu hok
    exact ⟨n, hx⟩
  have g2 : ∀ i, i < 136 → tags.getD i 0 = 2 → ∃ a, cs[i]? = some (.int .u32 a) := by
    intro i hi ht
    obtain ⟨u, x, hx, hu, hok, _⟩ := get i hi
    rw [tag2 ((tags_ok i hi).trans ht)] at hu
    obtain ⟨n, rfl, _⟩ := kit.cell_int hu hok
    exact ⟨n, hx⟩
  have g3 : ∀ i, i < 136 → tags.getD i 0 = 3 → ∃ a, cs[i]? = some (.int .u64 a) := by
    intro i hi ht
    obtain ⟨u, x, hx, hu, hok, _⟩ := get i hi
    rw [tag3 ((tags_ok i hi).trans ht)] at hu
    obtain ⟨n, rfl, _⟩ := kit.cell_int hu hok
    exact ⟨n, hx⟩
  have g4 : ∀ i, i < 136 → tags.getD i 0 = 4 → ∃ a, cs[i]? = some (.int .u16 a) := by
    intro i hi ht
    obtain ⟨u, x, hx, hu, hok, _⟩ := get i hi
    rw [tag4 ((tags_ok i hi).trans ht)] at hu
    obtain ⟨n, rfl, _⟩ := kit.cell_int hu hok
    exact ⟨n, hx⟩
  have g5 : ∀ i, i < 136 → tags.getD i 0 = 5 → ∃ a, cs[i]? = some (.int .i16 a) := by
    intro i hi ht
    obtain ⟨u, x, hx, hu, hok, _⟩ := get i hi
    rw [tag5 ((tags_ok i hi).trans ht)] at hu
    obtain ⟨n, rfl, _⟩ := kit.cell_int hu hok
    exact ⟨n, hx⟩
  have g6 : ∀ i, i < 136 → tags.getD i 0 = 6 → ∃ a, cs[i]? = some (.float .f64 a) := by
    intro i hi ht
    obtain ⟨u, x, hx, hu, hok, _⟩ := get i hi
    rw [tag6 ((tags_ok i hi).trans ht)] at hu
    obtain ⟨n, rfl, _⟩ := kit.cell_float hu hok
    exact ⟨n, hx⟩
  refine ⟨cs, rfl, hsz, ?_, g2 0 (by decide) (by decide), g2 1 (by decide) (by decide), g3 2 (by decide) (by decide), g4 3 (by decide) (by decide), g2 4 (by decide) (by decide), ?_, ?_, ?_, ?_, g2 133 (by decide) (by decide), gb 134 (by decide) (by decide), gb 135 (by decide) (by decide)⟩
  · intro x hx
    obtain ⟨i, hi, e⟩ := Array.mem_iff_getElem.1 hx
    have hx2 : cs[i]? = some x := by rw [Array.getElem?_eq_getElem hi, e]
    have hi2 : i < 136 := by omega
    have : ∃ v : Value, cs[i]? = some v ∧ v.oneCell' = true := by
      rcases tags_any i hi2 with h | h | h | h | h | h
      · obtain ⟨a, e⟩ := gb i hi2 h; exact ⟨_, e, rfl⟩
      · obtain ⟨a, e⟩ := g2 i hi2 h; exact ⟨_, e, rfl⟩
      · obtain ⟨a, e⟩ := g3 i hi2 h; exact ⟨_, e, rfl⟩
      · obtain ⟨a, e⟩ := g4 i hi2 h; exact ⟨_, e, rfl⟩
      · obtain ⟨a, e⟩ := g5 i hi2 h; exact ⟨_, e, rfl⟩
      · obtain ⟨a, e⟩ := g6 i hi2 h; exact ⟨_, e, rfl⟩
    obtain ⟨v, e1, e2⟩ := this
    rw [hx2] at e1
    cases e1
    exact e2
  · intro j hj
    obtain ⟨d, e1⟩ := gb (5 + j * 2) (by omega) ((by decide : ∀ j, j < 16 → tags.getD (5 + j * 2) 0 = 1) j hj)
    obtain ⟨c, e2⟩ := g4 (5 + (j * 2 + 1)) (by omega) ((by decide : ∀ j, j < 16 → tags.getD (5 + (j * 2 + 1)) 0 = 4) j hj)
    exact ⟨d, c, e1, e2⟩
  · intro j hj
    obtain ⟨d, e1⟩ := gb (37 + j * 3) (by omega) ((by decide : ∀ j, j < 16 → tags.getD (37 + j * 3) 0 = 1) j hj)
    obtain ⟨l, e2⟩ := gb (37 + (j * 3 + 1)) (by omega) ((by decide : ∀ j, j < 16 → tags.getD (37 + (j * 3 + 1)) 0 = 1) j hj)
    obtain ⟨c, e3⟩ := g4 (37 + (j * 3 + 2)) (by omega) ((by decide : ∀ j, j < 16 → tags.getD (37 + (j * 3 + 2)) 0 = 4) j hj)
    exact ⟨d, l, c, e1, e2, e3⟩
  · intro j hj
    exact g5 (85 + j) (by omega) ((by decide : ∀ j, j < 32 → tags.getD (85 + j) 0 = 5) j hj)
  · intro j hj
    exact g6 (117 + j) (by omega) ((by decide : ∀ j, j < 16 → tags.getD (117 + j) 0 = 6) j hj)

/-- One cell put. -/
theorem Shape.put_ran {cs : Array Value} (h : Shape cs) (b : Bool) : Shape (cs.setIfInBounds 134 (.bool b)) := by
  have k : ∀ i, i ≠ 134 → (cs.setIfInBounds 134 (.bool b))[i]? = cs[i]? := fun i hi => Array.getElem?_setIfInBounds_ne (by omega)
  refine ⟨by simpa using h.size, ?_, ?_, ?_, ?_, ?_, ?_, ?_, ?_, ?_, ?_, ?_, ⟨b, Array.getElem?_setIfInBounds_self_of_lt (by rw [h.size]; decide)⟩, ?_⟩
  · intro x hx
    obtain ⟨i, hi, e⟩ := Array.mem_iff_getElem.1 hx
    have hi2 : i < cs.size := by simpa using hi
    by_cases h4 : i = 134
    · subst h4
      rw [Array.getElem_setIfInBounds_self] at e
      rw [← e]
      rfl
    · rw [Array.getElem_setIfInBounds_ne hi2 (by omega)] at e
      rw [← e]
      exact h.one _ (Array.getElem_mem hi2)
  · rw [k _ (by decide)]; exact h.X
  · rw [k _ (by decide)]; exact h.Y
  · rw [k _ (by decide)]; exact h.M
  · rw [k _ (by decide)]; exact h.S
  · rw [k _ (by decide)]; exact h.E
  · intro j hj; rw [k _ (by omega), k _ (by omega)]; exact h.T j hj
  · intro j hj; rw [k _ (by omega), k _ (by omega), k _ (by omega)]; exact h.C j hj
  · intro j hj; rw [k _ (by omega)]; exact h.D j hj
  · intro j hj; rw [k _ (by omega)]; exact h.R j hj
  · rw [k _ (by decide)]; exact h.Time
  · rw [k _ (by decide)]; exact h.Fault
end Go.Proofs.YtnffgafofkknoaaDoor.part

/-! Box -/
namespace Go.Proofs.YtnffgafofkknoaaDoor.part
open Go Go.RowKit
set_option linter.unusedVariables false
set_option linter.unusedSimpArgs false

/-- The box at place W.heap.size + k, the result's cell at place r. -/
def Bo (t : TypeId) (cs : Array Value) (W w : World) (b r : Nat) : Prop :=
  W.heap.size ≤ b ∧ W.heap.size ≤ r ∧ b ≠ r ∧ w.heap[b]? = some (.cells cs t (0, 0)) ∧ (∃ o, w.heap[r]? = some (.cells o t (0, 0)) ∧ o.size = cs.size) ∧ Below W.heap.size W w

theorem Bo.start1 (t : TypeId) (cs o : Array Value) (W : World) (ho : o.size = cs.size) : Bo t cs W ((W.alloc (.cells cs t)).alloc (.cells o t)) W.heap.size (W.heap.size + 1) := by
  have e1 := size_alloc W (.cells cs t)
  refine ⟨Nat.le_refl _, by omega, by omega, ?_, ⟨o, ?_, ho⟩, ((Below.refl _ _).alloc (Nat.le_refl _) _).alloc (by omega) _⟩
  · rw [heap_alloc_old _ _ (by omega)]; exact heap_alloc_new _ _
  · rw [← e1]; exact heap_alloc_new _ _
theorem Bo.below {t : TypeId} {cs : Array Value} {W w w1 : World} {b r : Nat} (h : Bo t cs W w b r) (hb : Below w.heap.size w w1) : Bo t cs W w1 b r := by
  obtain ⟨a1, a2, a3, b1, ⟨o, b2, b3⟩, d⟩ := h
  have k : ∀ {g : Nat} {o : Obj}, w.heap[g]? = some o → w1.heap[g]? = some o := fun {g o} hg => (hb.block g (Array.getElem?_eq_some_iff.1 hg).1).trans hg
  exact ⟨a1, a2, a3, k b1, ⟨o, k b2, b3⟩, d.trans (hb.mono d.size)⟩
theorem Bo.set {t : TypeId} {cs : Array Value} {W w : World} {b r : Nat} (h : Bo t cs W w b r) (off : Nat) (v : Value) : Bo t (cs.setIfInBounds off v) W (w.setCell ⟨b, off, none⟩ v) b r := by
  obtain ⟨a1, a2, a3, b1, ⟨o, b2, b3⟩, d⟩ := h
  refine ⟨a1, a2, a3, ?_, ⟨o, ?_, by simpa using b3⟩, d.setCell (p := ⟨b, off, none⟩) a1 v⟩
  · rw [setCell_eq_setRow w b off cs t (0, 0) v b1]
    exact setRow_heap w b cs _ t _ b1
  · rw [Below.heap_setCell w ⟨b, off, none⟩ v r (by show r ≠ b; omega)]; exact b2

/-- Behind the store into the result. -/
def Bn (t : TypeId) (cs : Array Value) (W w : World) (r : Nat) : Prop := w.heap[r]? = some (.cells cs t (0, 0)) ∧ Below W.heap.size W w

section
variable {P : Program} {ops : Array Oper} {rest : List Oper} {o : Oper} {a : Act} {w W : World} {Q : Exit → Act → World → Prop} {t : TypeId} {cs : Array Value} {b r : Nat}
theorem wl_genB (h : Bo t cs W w b r) (k : ∀ w1, Bo t cs W w1 b r → wpList P ops Q rest a w1) : wpList P ops Q rest a w := k w h

theorem wl_bst (hgd : o.guard = none) (ty : TypeId) (x y : Operand) (ho : o.op = .store ty x y) (hst : Bo t cs W w b r) (off : Nat) (v : Value) (hx : a.eval x = .pointer (some ⟨b, off, none⟩)) (hy : a.eval y = v) (h1 : v.oneCell' = true) (hi : (P.info? ty).map (·.size) = some 1) (hoff : off < cs.size)
    (h : ∀ w1, Bo t (cs.setIfInBounds off v) W w1 b r → wpList P ops Q rest (a.put o.dst undef) w1) : wpList P ops Q (o :: rest) a w := by
  refine wpList_plain hgd fun _ hK => ?_
  have hb := hst.2.2.2.1
  have hcell : w.cell? ⟨b, off, none⟩ = some cs[off] := by simp [World.cell?, hb, hoff]
  have hfro : w.frozen? ⟨b, off, none⟩ = false := by simp [World.frozen?, hb]
  have hc1 : v.cells = #[v] := by cases v <;> simp [Value.oneCell'] at h1 <;> rfl
  have e : (storeVar ty ⟨b, off, none⟩ v).run P w = .ok () (w.setCell ⟨b, off, none⟩ v) := by
    have hs : (store ((⟨b, off, none⟩ : Addr).add 0) v).run P w = .ok () (w.setCell ⟨b, off, none⟩ v) := by
      rw [add_at, Nat.add_zero, run_store P w _ v _ h1, hcell]
      simp [hfro]
    cases hq : P.info? ty with
    | none => simp [hq] at hi
    | some i =>
      have hs1 : i.size = 1 := by simpa [hq] using hi
      simp only [storeVar, sizeOf, typeInfo, Sem.run_bind, hq, hc1]
      simp [Sem.run_bind, hq, hs1, storeCells, hs]
  unfold Oper.wp execOp
  simp only [ho, hx, hy, Instr.storeAt, Instr.sureAddr, Sem.run_bind, Sem.run_pure, Result.andThen_ok, e]
  exact hK _ _ (h _ (hst.set off v))

theorem wl_bld (hgd : o.guard = none) (ty : TypeId) (x : Operand) (ho : o.op = .load ty x) (hst : Bo t cs W w b r) (hx : a.eval x = .pointer (some ⟨b, 0, none⟩)) (hu : aggB P ty = true) (n : Nat) (hn : cs.size = n) (hi : (P.info? ty).map (·.size) = some n)
    (h : wpList P ops Q rest (a.put o.dst (.agg cs)) w) : wpList P ops Q (o :: rest) a w := by
  refine wpList_plain hgd fun _ hK => ?_
  have e := run_ldp (P := P) (ty := ty) (off := 0) (n := n) hst.2.2.2.1 (by omega) (agg_run hu w) hi
  have e2 : cs.extract 0 (0 + n) = cs := by rw [← hn]; simp
  rw [e2] at e
  unfold Oper.wp execOp
  simp only [ho, hx, Instr.loadAt, Instr.sureAddr, Sem.run_bind, Sem.run_pure, Result.andThen_ok, e]
  exact hK _ _ h

theorem wl_bsto (hgd : o.guard = none) (ty : TypeId) (x y : Operand) (ho : o.op = .store ty x y) (hst : Bo t cs W w b r) (hx : a.eval x = .pointer (some ⟨r, 0, none⟩)) (hy : a.eval y = .agg cs) (h1 : ∀ x ∈ cs, x.oneCell' = true) (n : Nat) (hn : cs.size = n) (hi : (P.info? ty).map (·.size) = some n)
    (h : ∀ w1, Bn t cs W w1 r → wpList P ops Q rest (a.put o.dst undef) w1) : wpList P ops Q (o :: rest) a w := by
  refine wpList_plain hgd fun _ hK => ?_
  obtain ⟨a1, a2, a3, b1, ⟨oo, b2, b3⟩, d⟩ := hst
  obtain ⟨w1, z1, e1, e2, e3, _, e5, e6⟩ := store_part (P := P) r 0 t cs.toList 0 oo w b2 (by simp; omega) (fun x hx => h1 x (Array.mem_toList_iff.1 hx))
  have ez : z1 = cs := by
    apply Array.ext (by omega)
    intro i k1 k2
    have := e5 i (by simpa using k2)
    rw [show 0 + 0 + i = i by omega, Array.getElem?_toList, Array.getElem?_eq_getElem k1, Array.getElem?_eq_getElem k2] at this
    exact Option.some.inj this
  subst ez
  have e : (storeVar ty ⟨r, 0, none⟩ (.agg z1)).run P w = .ok () w1 := by
    cases hq : P.info? ty with
    | none => simp [hq] at hi
    | some i =>
      have hs : i.size = z1.size := by rw [hn]; simpa [hq] using hi
      simp only [storeVar, sizeOf, typeInfo, Sem.run_bind, hq, Value.cells]
      simp [Sem.run_bind, hq, hs]
      simpa using e1
  unfold Oper.wp execOp
  simp only [ho, hx, hy, Instr.storeAt, Instr.sureAddr, Sem.run_bind, Sem.run_pure, Result.andThen_ok, e]
  exact hK _ _ (h w1 ⟨e2, d.trans (e6.mono a2)⟩)
end
end Go.Proofs.YtnffgafofkknoaaDoor.part

/-! Orders -/
namespace Go.Proofs.YtnffgafofkknoaaDoor.part
open Go Go.RowKit
set_option linter.unusedVariables false
set_option linter.unusedSimpArgs false

def open_ (listed : Array Bool) : Nat := (listed.toList.filter (fun b => !b)).length

theorem open_set (listed : Array Bool) (i : Nat) (h : listed.getD i true = false) : open_ (listed.setIfInBounds i true) + 1 = open_ listed := by
  unfold open_
  have hi : i < listed.size := by
    rcases Nat.lt_or_ge i listed.size with h1 | h1
    · exact h1
    · rw [Array.getD_eq_getD_getElem?, Array.getElem?_eq_none h1] at h; cases h
  have hv : listed.toList[i]? = some false := by
    rw [Array.getElem?_toList, Array.getElem?_eq_getElem hi]
    rw [Array.getD_eq_getD_getElem?, Array.getElem?_eq_getElem hi] at h
    exact congrArg some h
  rw [Array.toList_setIfInBounds]
  generalize listed.toList = l at *
  clear h hi
  induction l generalizing i with
  | nil => simp at hv
  | cons b l ih =>
    cases i with
    | zero =>
      simp only [List.getElem?_cons_zero, Option.some.injEq] at hv
      subst hv
      simp
    | succ i =>
      have := ih i (by simpa using hv)
      cases b <;> simp at this ⊢ <;> omega

section
variable {P : Program} {ops : Array Oper} {md : Region.Mode} {Q : Exit → Act → World → Prop}

theorem wpAny_inv (I : Array Bool → Act → World → Prop)
    (hsz : ∀ listed a w, I listed a w → listed.size = ops.size)
    (hg : ∀ (i : Nat) (o : Oper), ops[i]? = some o → o.guard = none)
    (step : ∀ (listed : Array Bool) (a : Act) (w : World) (i : Nat) (o : Oper), I listed a w → ops[i]? = some o → listed.getD i true = false →
      (∀ e ∈ o.after, Region.binds md e = true → listed.getD e.on false = true) →
      ∀ K : Act → World → Prop, (∀ a' w', I (listed.setIfInBounds i true) a' w' → K a' w') → o.wp P a w K Q)
    (fin : ∀ listed a w, I listed a w → Region.ready md ops listed = [] → Q .normal a w) :
    ∀ (fuel : Nat) (listed : Array Bool) (a : Act) (w : World), open_ listed ≤ fuel → I listed a w → wpAny P md ops Q fuel listed a w
  | 0, listed, a, w, hf, h => by
    have hr : Region.ready md ops listed = [] := by
      rw [List.eq_nil_iff_forall_not_mem]
      intro j hj
      have h1 := (mem_ready.1 hj).1
      have := open_set listed j h1
      omega
    exact ⟨hr, fin listed a w h hr⟩
  | fuel + 1, listed, a, w, hf, h => by
    refine ⟨fun hr => fin listed a w h hr, fun i hi => ?_⟩
    obtain ⟨h0, o, ho, hd⟩ := mem_ready.1 hi
    have hs := open_set listed i h0
    unfold wpOp
    simp only [ho]
    have hw : Region.wanted o (yielded ops a.tmps) = true := by unfold Region.wanted; rw [hg i o ho]
    rw [if_pos hw]
    exact .inl (step listed a w i o h ho h0 hd _ fun a' w' h' => wpAny_inv I hsz hg step fin fuel _ a' w' (by omega) h')

/-- The operations' edges point backward. -/
def backB (ops : Array Oper) : Bool := (List.range ops.size).all fun i => match ops[i]? with | some o => o.after.all fun e => decide (e.on < i) | none => true
theorem all_listed (hb : backB ops = true) {listed : Array Bool} (hs : listed.size = ops.size) (hr : Region.ready md ops listed = []) : ∀ j, j < ops.size → listed.getD j false = true := by
  intro j
  induction j using Nat.strongRecOn with
  | ind j ih =>
    intro hj
    have ho : ops[j]? = some ops[j] := Array.getElem?_eq_getElem hj
    cases hl : listed.getD j false with
    | true => rfl
    | false =>
      exfalso
      have h1 : j ∈ Region.ready md ops listed := mem_ready.2 ⟨by
        rw [Array.getD_eq_getD_getElem?, Array.getElem?_eq_getElem (by omega)] at hl ⊢
        exact hl, ops[j], ho, fun e he _ => by
        have h2 := List.all_eq_true.1 hb j (List.mem_range.2 hj)
        rw [ho] at h2
        have h3 := (Array.all_eq_true_iff_forall_mem.1 h2) e he
        have h4 : e.on < j := of_decide_eq_true h3
        exact ih e.on h4 (by omega)⟩
      rw [hr] at h1
      cases h1
theorem set_other {listed : Array Bool} {i j : Nat} (h : i ≠ j) (hl : (listed.setIfInBounds i true).getD j false = true) : listed.getD j false = true := by
  rw [Array.getD_eq_getD_getElem?, Array.getElem?_setIfInBounds_ne h] at hl
  rw [Array.getD_eq_getD_getElem?]; exact hl
theorem ow_hld {o : Oper} {a : Act} {w : World} {K : Act → World → Prop} {t : TypeId} {cs : Array Value} {g : Nat} {fr : Nat × Nat} (ty : TypeId) (x : Operand) (ho : o.op = .load ty x) (hg : w.heap[g]? = some (.cells cs t fr)) (hx : a.eval x = .pointer (some ⟨g, 0, none⟩)) (hu : aggB P ty = true) (n : Nat) (hn : cs.size = n) (hi : (P.info? ty).map (·.size) = some n)
    (h : K (a.put o.dst (.agg cs)) w) : o.wp P a w K Q := by
  have e := run_ldp (P := P) (ty := ty) (off := 0) (n := n) hg (by omega) (agg_run hu w) hi
  have e2 : cs.extract 0 (0 + n) = cs := by rw [← hn]; simp
  rw [e2] at e
  unfold Oper.wp execOp
  simp only [ho, hx, Instr.loadAt, Instr.sureAddr, Sem.run_bind, Sem.run_pure, Result.andThen_ok, e]
  exact h
end
end Go.Proofs.YtnffgafofkknoaaDoor.part

/-! Store -/
namespace Go.Proofs.YtnffgafofkknoaaDoor.part
open Go Go.RowKit
set_option linter.unusedVariables false
set_option linter.unusedSimpArgs false

section
variable {P : Program} {ops : Array Oper} {rest : List Oper} {o : Oper} {a : Act} {w W : World} {Q : Exit → Act → World → Prop} {t : TypeId} {cs old : Array Value} {g : Nat} {fr : Nat × Nat}
theorem wl_hld (hgd : o.guard = none) (ty : TypeId) (x : Operand) (ho : o.op = .load ty x) (hg : w.heap[g]? = some (.cells cs t fr)) (hx : a.eval x = .pointer (some ⟨g, 0, none⟩)) (hu : aggB P ty = true) (n : Nat) (hn : cs.size = n) (hi : (P.info? ty).map (·.size) = some n)
    (h : wpList P ops Q rest (a.put o.dst (.agg cs)) w) : wpList P ops Q (o :: rest) a w := by
  refine wpList_plain hgd fun _ hK => ?_
  have e := run_ldp (P := P) (ty := ty) (off := 0) (n := n) hg (by omega) (agg_run hu w) hi
  have e2 : cs.extract 0 (0 + n) = cs := by rw [← hn]; simp
  rw [e2] at e
  unfold Oper.wp execOp
  simp only [ho, hx, Instr.loadAt, Instr.sureAddr, Sem.run_bind, Sem.run_pure, Result.andThen_ok, e]
  exact hK _ _ h
theorem wl_hst (hgd : o.guard = none) (ty : TypeId) (x y : Operand) (ho : o.op = .store ty x y) (hg : w.heap[g]? = some (.cells old t (0, 0))) (hold : old.size = cs.size) (hx : a.eval x = .pointer (some ⟨g, 0, none⟩)) (hy : a.eval y = .agg cs) (h1 : ∀ x ∈ cs, x.oneCell' = true) (n : Nat) (hn : cs.size = n) (hi : (P.info? ty).map (·.size) = some n)
    (h : ∀ w1, w1.heap[g]? = some (.cells cs t (0, 0)) → Below g w w1 → wpList P ops Q rest (a.put o.dst undef) w1) : wpList P ops Q (o :: rest) a w := by
  refine wpList_plain hgd fun _ hK => ?_
  obtain ⟨w1, z1, e1, e2, e3, _, e5, e6⟩ := store_part (P := P) g 0 t cs.toList 0 old w hg (by simp; omega) (fun x hx => h1 x (Array.mem_toList_iff.1 hx))
  have ez : z1 = cs := by
    apply Array.ext (by omega)
    intro i k1 k2
    have := e5 i (by simpa using k2)
    rw [show 0 + 0 + i = i by omega, Array.getElem?_toList, Array.getElem?_eq_getElem k1, Array.getElem?_eq_getElem k2] at this
    exact Option.some.inj this
  subst ez
  have e : (storeVar ty ⟨g, 0, none⟩ (.agg z1)).run P w = .ok () w1 := by
    cases hq : P.info? ty with
    | none => simp [hq] at hi
    | some i =>
      have hs : i.size = z1.size := by rw [hn]; simpa [hq] using hi
      simp only [storeVar, sizeOf, typeInfo, Sem.run_bind, hq, Value.cells]
      simp [Sem.run_bind, hq, hs]
      simpa using e1
  unfold Oper.wp execOp
  simp only [ho, hx, hy, Instr.storeAt, Instr.sureAddr, Sem.run_bind, Sem.run_pure, Result.andThen_ok, e]
  exact hK _ _ (h w1 e2 e6)
end

/-- A memory in a box, a sample in a box, the result. -/
def Bs (t ts : TypeId) (cs ss : Array Value) (W w : World) : Prop := Bo t cs W w W.heap.size (W.heap.size + 2) ∧ w.heap[W.heap.size + 1]? = some (.cells ss ts (0, 0))
theorem Bs.start (t ts : TypeId) (cs ss o : Array Value) (W : World) (ho : o.size = cs.size) : Bs t ts cs ss W (((W.alloc (.cells cs t)).alloc (.cells ss ts)).alloc (.cells o t)) := by
  have e1 := size_alloc W (.cells cs t)
  have e2 := size_alloc (W.alloc (.cells cs t)) (.cells ss ts)
  refine ⟨⟨Nat.le_refl _, by omega, by omega, ?_, ⟨o, ?_, ho⟩, (((Below.refl _ _).alloc (Nat.le_refl _) _).alloc (by omega) _).alloc (by omega) _⟩, ?_⟩
  · rw [heap_alloc_old _ _ (by omega), heap_alloc_old _ _ (by omega)]; exact heap_alloc_new _ _
  · rw [show W.heap.size + 2 = ((W.alloc (.cells cs t)).alloc (.cells ss ts)).heap.size by omega]; exact heap_alloc_new _ _
  · rw [heap_alloc_old _ _ (by omega), ← e1]; exact heap_alloc_new _ _
theorem Bs.set {t ts : TypeId} {cs ss : Array Value} {W w : World} (h : Bs t ts cs ss W w) (off : Nat) (v : Value) : Bs t ts (cs.setIfInBounds off v) ss W (w.setCell ⟨W.heap.size, off, none⟩ v) :=
  ⟨h.1.set off v, by rw [Below.heap_setCell w ⟨W.heap.size, off, none⟩ v _ (by show W.heap.size + 1 ≠ W.heap.size; omega)]; exact h.2⟩

section
variable {P : Program} {ops : Array Oper} {rest : List Oper} {o : Oper} {a : Act} {w W : World} {Q : Exit → Act → World → Prop} {t ts : TypeId} {cs ss : Array Value}
theorem wl_genS (h : Bs t ts cs ss W w) (k : ∀ w1, Bs t ts cs ss W w1 → wpList P ops Q rest a w1) : wpList P ops Q rest a w := k w h
theorem wl_sst (hgd : o.guard = none) (ty : TypeId) (x y : Operand) (ho : o.op = .store ty x y) (hst : Bs t ts cs ss W w) (off : Nat) (v : Value) (hx : a.eval x = .pointer (some ⟨W.heap.size, off, none⟩)) (hy : a.eval y = v) (h1 : v.oneCell' = true) (hi : (P.info? ty).map (·.size) = some 1) (hoff : off < cs.size)
    (h : ∀ w1, Bs t ts (cs.setIfInBounds off v) ss W w1 → wpList P ops Q rest (a.put o.dst undef) w1) : wpList P ops Q (o :: rest) a w := by
  refine wpList_plain hgd fun _ hK => ?_
  have hb := hst.1.2.2.2.1
  have hcell : w.cell? ⟨W.heap.size, off, none⟩ = some cs[off] := by simp [World.cell?, hb, hoff]
  have hfro : w.frozen? ⟨W.heap.size, off, none⟩ = false := by simp [World.frozen?, hb]
  have hc1 : v.cells = #[v] := by cases v <;> simp [Value.oneCell'] at h1 <;> rfl
  have e : (storeVar ty ⟨W.heap.size, off, none⟩ v).run P w = .ok () (w.setCell ⟨W.heap.size, off, none⟩ v) := by
    have hs : (store ((⟨W.heap.size, off, none⟩ : Addr).add 0) v).run P w = .ok () (w.setCell ⟨W.heap.size, off, none⟩ v) := by
      rw [add_at, Nat.add_zero, run_store P w _ v _ h1, hcell]
      simp [hfro]
    cases hq : P.info? ty with
    | none => simp [hq] at hi
    | some i =>
      have hs1 : i.size = 1 := by simpa [hq] using hi
      simp only [storeVar, sizeOf, typeInfo, Sem.run_bind, hq, hc1]
      simp [Sem.run_bind, hq, hs1, storeCells, hs]
  unfold Oper.wp execOp
  simp only [ho, hx, hy, Instr.storeAt, Instr.sureAddr, Sem.run_bind, Sem.run_pure, Result.andThen_ok, e]
  exact hK _ _ (h _ (hst.set off v))
end

theorem wp_genS {P : Program} {c : Code} {Q : Exit → Act → World → Prop} {a : Act} {t ts : TypeId} {cs ss : Array Value} {W w : World} (h : Bs t ts cs ss W w) (k : ∀ w1, Bs t ts cs ss W w1 → c.wp P Q a w1) : c.wp P Q a w := k w h
theorem Bs.below {t ts : TypeId} {cs ss : Array Value} {W w w1 : World} (h : Bs t ts cs ss W w) (hb : Below w.heap.size w w1) : Bs t ts cs ss W w1 := ⟨h.1.below hb, kit.box_keep h.2 hb (kit.box_lt h.2)⟩
theorem Bs.bel {t ts : TypeId} {cs ss : Array Value} {W w : World} (h : Bs t ts cs ss W w) : Below W.heap.size W w := h.1.2.2.2.2.2
theorem ow_hst {P : Program} {o : Oper} {a : Act} {w : World} {K : Act → World → Prop} {Q : Exit → Act → World → Prop} {t : TypeId} {cs old : Array Value} {g : Nat} (ty : TypeId) (x y : Operand) (ho : o.op = .store ty x y) (hg : w.heap[g]? = some (.cells old t (0, 0))) (hold : old.size = cs.size) (hx : a.eval x = .pointer (some ⟨g, 0, none⟩)) (hy : a.eval y = .agg cs) (h1 : ∀ x ∈ cs, x.oneCell' = true) (n : Nat) (hn : cs.size = n) (hi : (P.info? ty).map (·.size) = some n)
    (h : ∀ w1, w1.heap[g]? = some (.cells cs t (0, 0)) → Below g w w1 → K (a.put o.dst undef) w1) : o.wp P a w K Q := by
  obtain ⟨w1, z1, e1, e2, e3, _, e5, e6⟩ := store_part (P := P) g 0 t cs.toList 0 old w hg (by simp; omega) (fun x hx => h1 x (Array.mem_toList_iff.1 hx))
  have ez : z1 = cs := by
    apply Array.ext (by omega)
    intro i k1 k2
    have := e5 i (by simpa using k2)
    rw [show 0 + 0 + i = i by omega, Array.getElem?_toList, Array.getElem?_eq_getElem k1, Array.getElem?_eq_getElem k2] at this
    exact Option.some.inj this
  subst ez
  have e : (storeVar ty ⟨g, 0, none⟩ (.agg z1)).run P w = .ok () w1 := by
    cases hq : P.info? ty with
    | none => simp [hq] at hi
    | some i =>
      have hs : i.size = z1.size := by rw [hn]; simpa [hq] using hi
      simp only [storeVar, sizeOf, typeInfo, Sem.run_bind, hq, Value.cells]
      simp [Sem.run_bind, hq, hs]
      simpa using e1
  unfold Oper.wp execOp
  simp only [ho, hx, hy, Instr.storeAt, Instr.sureAddr, Sem.run_bind, Sem.run_pure, Result.andThen_ok, e]
  exact h w1 e2 e6

/-- A box of the call's own with 136 cells; done: they are those of ce. -/
def Own (B : Nat) (ce : Array Value) (w : World) (v : Value) (done : Bool) : Prop := ∃ g o, v = .pointer (some ⟨g, 0, none⟩) ∧ B ≤ g ∧ w.heap[g]? = some (.cells o 45 (0, 0)) ∧ o.size = 136 ∧ (done = true → o = ce)
theorem Own.below {B : Nat} {ce : Array Value} {w w1 : World} {v : Value} {done : Bool} (h : Own B ce w v done) (hb : Below w.heap.size w w1) : Own B ce w1 v done := by
  obtain ⟨g, o, a, b, c, d⟩ := h
  exact ⟨g, o, a, b, kit.box_keep c hb (kit.box_lt c), d⟩

end Go.Proofs.YtnffgafofkknoaaDoor.part

/-! Tagged -/
namespace Go.Proofs.YtnffgafofkknoaaDoor.part
open Go Go.RowKit
set_option linter.unusedVariables false
set_option linter.unusedSimpArgs false

def tv : Value → Nat | .bool _ => 1 | .int .u32 _ => 2 | .int .u64 _ => 3 | .int .u16 _ => 4 | .int .i16 _ => 5 | .float .f64 _ => 6 | _ => 0
structure Tagged (cs : Array Value) : Prop where
  size : cs.size = 136
  all : ∀ i, i < 136 → ∃ v, cs[i]? = some v ∧ tv v = tags.getD i 0
theorem tv1 {v : Value} (h : tv v = 1) : ∃ a, v = .bool a := by
  unfold tv at h
  split at h <;> first | exact ⟨_, rfl⟩ | cases h
theorem tv2 {v : Value} (h : tv v = 2) : ∃ a, v = .int .u32 a := by
  unfold tv at h
  split at h <;> first | exact ⟨_, rfl⟩ | cases h
theorem tv3 {v : Value} (h : tv v = 3) : ∃ a, v = .int .u64 a := by
  unfold tv at h
  split at h <;> first | exact ⟨_, rfl⟩ | cases h
theorem tv4 {v : Value} (h : tv v = 4) : ∃ a, v = .int .u16 a := by
  unfold tv at h
  split at h <;> first | exact ⟨_, rfl⟩ | cases h
theorem tv5 {v : Value} (h : tv v = 5) : ∃ a, v = .int .i16 a := by
  unfold tv at h
  split at h <;> first | exact ⟨_, rfl⟩ | cases h
theorem tv6 {v : Value} (h : tv v = 6) : ∃ a, v = .float .f64 a := by
  unfold tv at h
  split at h <;> first | exact ⟨_, rfl⟩ | cases h
theorem tv_one {v : Value} (h : tv v = 1 ∨ tv v = 2 ∨ tv v = 3 ∨ tv v = 4 ∨ tv v = 5 ∨ tv v = 6) : v.oneCell' = true := by
  rcases h with h | h | h | h | h | h
  · obtain ⟨a, rfl⟩ := tv1 h; rfl
  · obtain ⟨a, rfl⟩ := tv2 h; rfl
  · obtain ⟨a, rfl⟩ := tv3 h; rfl
  · obtain ⟨a, rfl⟩ := tv4 h; rfl
  · obtain ⟨a, rfl⟩ := tv5 h; rfl
  · obtain ⟨a, rfl⟩ := tv6 h; rfl

theorem Tagged.put {cs : Array Value} (h : Tagged cs) (off : Nat) (v : Value) (hv : tv v = tags.getD off 0) : Tagged (cs.setIfInBounds off v) := by
  refine ⟨by simpa using h.size, fun i hi => ?_⟩
  by_cases e : i = off
  · subst e
    exact ⟨v, Array.getElem?_setIfInBounds_self_of_lt (by rw [h.size]; exact hi), hv⟩
  · obtain ⟨x, hx, ht⟩ := h.all i hi
    exact ⟨x, by rw [Array.getElem?_setIfInBounds_ne (by omega)]; exact hx, ht⟩

theorem Tagged.shape {cs : Array Value} (h : Tagged cs) : Shape cs := by
  have gb : ∀ i, i < 136 → tags.getD i 0 = 1 → ∃ a, cs[i]? = some (.bool a) := fun i hi ht => by
    obtain ⟨v, hv, e⟩ := h.all i hi; obtain ⟨a, rfl⟩ := tv1 (e.trans ht); exact ⟨a, hv⟩
  have g2 : ∀ i, i < 136 → tags.getD i 0 = 2 → ∃ a, cs[i]? = some (.int .u32 a) := fun i hi ht => by
    obtain ⟨v, hv, e⟩ := h.all i hi; obtain ⟨a, rfl⟩ := tv2 (e.trans ht); exact ⟨a, hv⟩
  have g3 : ∀ i, i < 136 → tags.getD i 0 = 3 → ∃ a, cs[i]? = some (.int .u64 a) := fun i hi ht => by
    obtain ⟨v, hv, e⟩ := h.all i hi; obtain ⟨a, rfl⟩ := tv3 (e.trans ht); exact ⟨a, hv⟩
  have g4 : ∀ i, i < 136 → tags.getD i 0 = 4 → ∃ a, cs[i]? = some (.int .u16 a) := fun i hi ht => by
    obtain ⟨v, hv, e⟩ := h.all i hi; obtain ⟨a, rfl⟩ := tv4 (e.trans ht); exact ⟨a, hv⟩
  have g5 : ∀ i, i < 136 → tags.getD i 0 = 5 → ∃ a, cs[i]? = some (.int .i16 a) := fun i hi ht => by
    obtain ⟨v, hv, e⟩ := h.all i hi; obtain ⟨a, rfl⟩ := tv5 (e.trans ht); exact ⟨a, hv⟩
  have g6 : ∀ i, i < 136 → tags.getD i 0 = 6 → ∃ a, cs[i]? = some (.float .f64 a) := fun i hi ht => by
    obtain ⟨v, hv, e⟩ := h.all i hi; obtain ⟨a, rfl⟩ := tv6 (e.trans ht); exact ⟨a, hv⟩
  refine ⟨h.size, ?_, g2 0 (by decide) (by decide), g2 1 (by decide) (by decide), g3 2 (by decide) (by decide), g4 3 (by decide) (by decide), g2 4 (by decide) (by decide), ?_, ?_, ?_, ?_, g2 133 (by decide) (by decide), gb 134 (by decide) (by decide), gb 135 (by decide) (by decide)⟩
  · intro x hx
    obtain ⟨i, hi, e⟩ := Array.mem_iff_getElem.1 hx
    have hx2 : cs[i]? = some x := by rw [Array.getElem?_eq_getElem hi, e]
    have hi2 : i < 136 := by have := h.size; omega
    obtain ⟨v, hv, ht⟩ := h.all i hi2
    rw [hx2] at hv
    cases hv
    exact tv_one (by rw [ht]; exact tags_any i hi2)
  · intro j hj
    obtain ⟨d, e1⟩ := gb (5 + j * 2) (by omega) ((by decide : ∀ j, j < 16 → tags.getD (5 + j * 2) 0 = 1) j hj)
    obtain ⟨c, e2⟩ := g4 (5 + (j * 2 + 1)) (by omega) ((by decide : ∀ j, j < 16 → tags.getD (5 + (j * 2 + 1)) 0 = 4) j hj)
    exact ⟨d, c, e1, e2⟩
  · intro j hj
    obtain ⟨d, e1⟩ := gb (37 + j * 3) (by omega) ((by decide : ∀ j, j < 16 → tags.getD (37 + j * 3) 0 = 1) j hj)
    obtain ⟨l, e2⟩ := gb (37 + (j * 3 + 1)) (by omega) ((by decide : ∀ j, j < 16 → tags.getD (37 + (j * 3 + 1)) 0 = 1) j hj)
    obtain ⟨c, e3⟩ := g4 (37 + (j * 3 + 2)) (by omega) ((by decide : ∀ j, j < 16 → tags.getD (37 + (j * 3 + 2)) 0 = 4) j hj)
    exact ⟨d, l, c, e1, e2, e3⟩
  · intro j hj
    exact g5 (85 + j) (by omega) ((by decide : ∀ j, j < 32 → tags.getD (85 + j) 0 = 5) j hj)
  · intro j hj
    exact g6 (117 + j) (by omega) ((by decide : ∀ j, j < 16 → tags.getD (117 + j) 0 = 6) j hj)

theorem Shape.tagged {cs : Array Value} (h : Shape cs) : Tagged cs := by
  refine ⟨h.size, fun i hi => ?_⟩
  have hc : i = 0 ∨ i = 1 ∨ i = 2 ∨ i = 3 ∨ i = 4 ∨ (∃ j, j < 16 ∧ i = 5 + j * 2) ∨ (∃ j, j < 16 ∧ i = 5 + (j * 2 + 1)) ∨ (∃ j, j < 16 ∧ i = 37 + j * 3) ∨ (∃ j, j < 16 ∧ i = 37 + (j * 3 + 1)) ∨ (∃ j, j < 16 ∧ i = 37 + (j * 3 + 2)) ∨ (∃ j, j < 32 ∧ i = 85 + j) ∨ (∃ j, j < 16 ∧ i = 117 + j) ∨ i = 133 ∨ i = 134 ∨ i = 135 := by
    by_cases h1 : i < 5
    · omega
    by_cases h2 : i < 37
    · by_cases h3 : (i - 5) % 2 = 0
      · exact .inr (.inr (.inr (.inr (.inr (.inl ⟨(i - 5) / 2, by omega, by omega⟩)))))
      · exact .inr (.inr (.inr (.inr (.inr (.inr (.inl ⟨(i - 5) / 2, by omega, by omega⟩))))))
    by_cases h4 : i < 85
    · have h5 : (i - 37) % 3 = 0 ∨ (i - 37) % 3 = 1 ∨ (i - 37) % 3 = 2 := by omega
      rcases h5 with h5 | h5 | h5
      · exact .inr (.inr (.inr (.inr (.inr (.inr (.inr (.inl ⟨(i - 37) / 3, by omega, by omega⟩)))))))
      · exact .inr (.inr (.inr (.inr (.inr (.inr (.inr (.inr (.inl ⟨(i - 37) / 3, by omega, by omega⟩))))))))
      · exact .inr (.inr (.inr (.inr (.inr (.inr (.inr (.inr (.inr (.inl ⟨(i - 37) / 3, by omega, by omega⟩)))))))))
    by_cases h6 : i < 117
    · exact .inr (.inr (.inr (.inr (.inr (.inr (.inr (.inr (.inr (.inr (.inl ⟨i - 85, by omega, by omega⟩))))))))))
    by_cases h7 : i < 133
    · exact .inr (.inr (.inr (.inr (.inr (.inr (.inr (.inr (.inr (.inr (.inr (.inl ⟨i - 117, by omega, by omega⟩)))))))))))
    · omega
  rcases hc with rfl | rfl | rfl | rfl | rfl | ⟨j, hj, rfl⟩ | ⟨j, hj, rfl⟩ | ⟨j, hj, rfl⟩ | ⟨j, hj, rfl⟩ | ⟨j, hj, rfl⟩ | ⟨j, hj, rfl⟩ | ⟨j, hj, rfl⟩ | rfl | rfl | rfl
  · obtain ⟨a, e⟩ := h.X; exact ⟨_, e, rfl⟩
  · obtain ⟨a, e⟩ := h.Y; exact ⟨_, e, rfl⟩
  · obtain ⟨a, e⟩ := h.M; exact ⟨_, e, rfl⟩
  · obtain ⟨a, e⟩ := h.S; exact ⟨_, e, rfl⟩
  · obtain ⟨a, e⟩ := h.E; exact ⟨_, e, rfl⟩
  · obtain ⟨d, c, e, _⟩ := h.T j hj; exact ⟨_, e, ((by decide : ∀ j, j < 16 → 1 = tags.getD (5 + j * 2) 0) j hj)⟩
  · obtain ⟨d, c, _, e⟩ := h.T j hj; exact ⟨_, e, ((by decide : ∀ j, j < 16 → 4 = tags.getD (5 + (j * 2 + 1)) 0) j hj)⟩
  · obtain ⟨d, l, c, e, _, _⟩ := h.C j hj; exact ⟨_, e, ((by decide : ∀ j, j < 16 → 1 = tags.getD (37 + j * 3) 0) j hj)⟩
  · obtain ⟨d, l, c, _, e, _⟩ := h.C j hj; exact ⟨_, e, ((by decide : ∀ j, j < 16 → 1 = tags.getD (37 + (j * 3 + 1)) 0) j hj)⟩
  · obtain ⟨d, l, c, _, _, e⟩ := h.C j hj; exact ⟨_, e, ((by decide : ∀ j, j < 16 → 4 = tags.getD (37 + (j * 3 + 2)) 0) j hj)⟩
  · obtain ⟨n, e⟩ := h.D j hj; exact ⟨_, e, ((by decide : ∀ j, j < 32 → 5 = tags.getD (85 + j) 0) j hj)⟩
  · obtain ⟨n, e⟩ := h.R j hj; exact ⟨_, e, ((by decide : ∀ j, j < 16 → 6 = tags.getD (117 + j) 0) j hj)⟩
  · obtain ⟨a, e⟩ := h.Time; exact ⟨_, e, rfl⟩
  · obtain ⟨a, e⟩ := h.Ran; exact ⟨_, e, rfl⟩
  · obtain ⟨a, e⟩ := h.Fault; exact ⟨_, e, rfl⟩
end Go.Proofs.YtnffgafofkknoaaDoor.part

/-! Range -/
namespace Go.Proofs.YtnffgafofkknoaaDoor.part
open Go Go.RowKit
set_option linter.unusedVariables false
set_option linter.unusedSimpArgs false

def Rg (cs : Array Value) : Prop := ∀ (i : Nat) (k : IntKind) (a : Int), cs[i]? = some (.int k a) → k.min ≤ a ∧ a ≤ k.max
theorem cell_rg {P : Program} {w : World} {r : Reach} {b : Nat} {t : TypeId} {k : IntKind} {a : Int} (h : Cell.okWide P w r b t (.int k a)) : k.min ≤ a ∧ a ≤ k.max := by
  cases hu : P.underlying t with
  | none => simp only [hu, Cell.okWide, Cell.ok] at h
  | some d => cases d <;> simp_all [Cell.okWide, Cell.ok, IntKind.has]
set_option maxRecDepth 100000 in
theorem rg_of {W : World} {base : Nat} {cs : Array Value} (h : Value.okWide Tryd.prog W .any base 36 (.agg cs)) : Rg cs := by
  intro i k a hi
  obtain ⟨cs', e, hsz, hts⟩ := kit.ok_cells Tryd.underlying36 h
  cases e
  cases hc : Tryd.prog.cellTypes Tryd.prog.depth 36 with
  | none =>
    have ht := tags_ok 0 (by decide)
    rw [show at_ Tryd.prog 36 0 = none by unfold at_; rw [hc]] at ht
    cases ht
  | some ts =>
    obtain ⟨u, hu, hok⟩ := hts ts hc i _ hi
    exact cell_rg hok
theorem Rg.put {cs : Array Value} (h : Rg cs) (off : Nat) (v : Value) (hv : ∀ k a, v = .int k a → k.min ≤ a ∧ a ≤ k.max) : Rg (cs.setIfInBounds off v) := by
  intro i k a hi
  by_cases e : off = i
  · subst e
    by_cases hs : off < cs.size
    · rw [Array.getElem?_setIfInBounds_self_of_lt hs] at hi
      exact hv k a (Option.some.inj hi)
    · rw [Array.getElem?_eq_none (by simp; omega)] at hi; cases hi
  · rw [Array.getElem?_setIfInBounds_ne e] at hi
    exact h i k a hi
end Go.Proofs.YtnffgafofkknoaaDoor.part

/-! Nan -/
namespace Go.Proofs.YtnffgafofkknoaaDoor.flo
open Go.RowKit
set_option linter.unusedVariables false
set_option linter.unusedSimpArgs false

/-- The call returns a word of which P holds; what was there stays. -/
def Flt (P : Nat → Prop) (w : World) (e : Ending) (w' : World) : Prop := ∃ x, e = .returned (.float .f64 x) ∧ P x ∧ Below w.heap.size w w'
/-- What an operation gives: its word, or a NaN. -/
def Res (op : BinOp) (a b x : Nat) : Prop := match floatBits op .f64 a b with | some r => x = r | none => isNan x = true
theorem Res.same {op : BinOp} {a b x y : Nat} (hx : Res op a b x) (hy : Res op a b y) : Same y x := by
  unfold Res at hx hy
  cases h : floatBits op .f64 a b with
  | some r => rw [h] at hx hy; exact .inr (hy.trans hx.symm)
  | none => rw [h] at hx hy; exact .inl ⟨hy, hx⟩
theorem below_drew (w : World) : Below w.heap.size w w.drew := (Below.refl _ _).drew

theorem frombits_any (n : Int) (w : World) : (callFunc 82 #[.int .u64 n]).run Tryd.prog w = .ok (.value (.float .f64 n.toNat)) w := by
  rw [run_callFunc_extern Tryd.func82 (by kernel_rfl) (by kernel_rfl) (by kernel_rfl) (e := Extern.MathFloatBits.float64frombits) (by kernel_rfl)]
  rfl

theorem nan_any (w : World) : Calls Tryd.prog 69 #[] w (Flt (fun x => isNan x = true) w) := by
  have hn : isNan 9221120237041090561 = true := by decide +kernel
  have Hn := Lib.hid hn
  clear hn
  have hx := frombits_any
  go_enter Tryd.func69, Tryd.ntmps69
  go_wp2
  go_ret
  exact ⟨_, rfl, Hn.out, Below.refl _ _⟩

theorem l3Nan_any (w : World) : Calls Tryd.prog 77 #[] w (Flt (fun x => isNan x = true) w) := by
  have h0 : floatBits .quo .f64 0 0 = none := by decide +kernel
  have rq := run_nan (P := Tryd.prog) .quo 33 0 0 (by decide) h0
  clear h0
  go_enter Tryd.func77, Tryd.ntmps77
  go_wp2
  go_ret
  exact ⟨_, rfl, nanAt_nan _ _ _, below_drew w⟩

theorem tobits_any (n : Nat) (w : World) : (callFunc 76 #[.float .f64 n]).run Tryd.prog w = .ok (.value (.int .u64 n)) w := by
  rw [run_callFunc_extern Tryd.func76 (by kernel_rfl) (by kernel_rfl) (by kernel_rfl) (e := Extern.MathFloatBits.float64bits) (by kernel_rfl)]
  rfl

theorem inf_pos (w : World) : Calls Tryd.prog 70 #[.int .i64 1] w fun e w' => e = .returned (.float .f64 9218868437227405312) ∧ w = w' := by
  have hx := frombits_any
  go_enter Tryd.func70, Tryd.ntmps70
  go_wp2
  go_ret
  exact ⟨rfl, rfl⟩
theorem inf_neg (w : World) : Calls Tryd.prog 70 #[.int .i64 (-1)] w fun e w' => e = .returned (.float .f64 18442240474082181120) ∧ w = w' := by
  have hx := frombits_any
  go_enter Tryd.func70, Tryd.ntmps70
  go_wp2
  go_ret
  exact ⟨rfl, rfl⟩
/-- The infinity of a sign. -/
def infW (n : Int) : Nat := if 0 ≤ n then 9218868437227405312 else 18442240474082181120
theorem inf_any (n : Int) (w : World) : Calls Tryd.prog 70 #[.int .i64 n] w fun e w' => e = .returned (.float .f64 (infW n)) ∧ w = w' := by
  have hx := frombits_any
  by_cases h : 0 ≤ n
  · have hv : Hid (9218868437227405312 = infW n) := Lib.hid (by rw [infW, if_pos h])
    go_enter Tryd.func70, Tryd.ntmps70
    go_wp2
    go_ret
    exact ⟨by rw [← hv.out]; rfl, rfl⟩
  · have hv : Hid (18442240474082181120 = infW n) := Lib.hid (by rw [infW, if_neg h])
    go_enter Tryd.func70, Tryd.ntmps70
    go_wp2
    go_ret
    exact ⟨by rw [← hv.out]; rfl, rfl⟩
theorem nan_exact (w : World) : Calls Tryd.prog 69 #[] w fun e w' => e = .returned (.float .f64 9221120237041090561) ∧ w = w' := by
  have hx := frombits_any
  go_enter Tryd.func69, Tryd.ntmps69
  go_wp2
  go_ret
  exact ⟨rfl, rfl⟩
theorem copysign_zero (w : World) : Calls Tryd.prog 71 #[.float .f64 0, .float .f64 13830554455654793216] w fun e w' => e = .returned (.float .f64 9223372036854775808) ∧ w = w' := by
  have hx := frombits_any
  have hy := tobits_any
  go_enter Tryd.func71, Tryd.ntmps71
  go_wp2
  go_ret
  exact ⟨rfl, rfl⟩

theorem l3Inf_any (w : World) : Calls Tryd.prog 78 #[] w fun e w' => e = .returned (.float .f64 9218868437227405312) ∧ w = w' := by
  have h0 : floatBits .quo .f64 4607182418800017408 0 = some 9218868437227405312 := by decide +kernel
  have rq := fun (w : World) => run_float_arith (P := Tryd.prog) w .quo 33 .f64 _ _ _ h0
  clear h0
  go_enter Tryd.func78, Tryd.ntmps78
  go_wp2
  go_ret
  exact ⟨rfl, rfl⟩

/-- The number that a word stands for. -/
def WordIs (n : Int) (x : Nat) : Prop := if n = 0 then isNan x = true else if n = 1 then x = 9218868437227405312 else if n = 2 then x = 18442240474082181120 else x = 9223372036854775808
theorem WordIs.same {n : Int} {x y : Nat} (hx : WordIs n x) (hy : WordIs n y) : Same y x := by
  unfold WordIs at hx hy
  split at hx
  · rename_i h; rw [if_pos h] at hy; exact .inl ⟨hy, hx⟩
  rename_i h; rw [if_neg h] at hy
  split at hx
  · rename_i h; rw [if_pos h] at hy; exact .inr (hy.trans hx.symm)
  rename_i h; rw [if_neg h] at hy
  split at hx
  · rename_i h; rw [if_pos h] at hy; exact .inr (hy.trans hx.symm)
  rename_i h; rw [if_neg h] at hy
  exact .inr (hy.trans hx.symm)

theorem neg_inf : Op.negFloat .f64 9218868437227405312 = 18442240474082181120 := by decide +kernel
theorem neg_zero : Op.negFloat .f64 0 = 9223372036854775808 := by decide +kernel
theorem run_neg (x : Nat) (w : World) : (Op.unary .neg (.float .f64 x)).run Tryd.prog w = .ok (.float .f64 (Op.negFloat .f64 x)) w := rfl
theorem l3Word_any (n : Int) (w : World) (h : 0 ≤ n ∧ n ≤ 3) : Calls Tryd.prog 67 #[.int .i64 n] w (Flt (WordIs n) w) := by
  have hn : n = 0 ∨ n = 1 ∨ n = 2 ∨ n = 3 := by omega
  clear h
  have n1 := neg_inf
  have n2 := neg_zero
  have n3 := run_neg
  rcases hn with rfl | rfl | rfl | rfl
  · go_enter Tryd.func67, Tryd.ntmps67
    go_wp2_with fail
    refine (l3Nan_any _).mono ?_
    rintro e w1 ⟨x, rfl, hx, hb⟩
    have Hx := Lib.hid hx
    clear hx
    go_wp2_with fail
    go_ret
    exact ⟨x, rfl, Hx.out, hb⟩
  · go_enter Tryd.func67, Tryd.ntmps67
    go_wp2_with fail
    refine (l3Inf_any _).mono ?_
    rintro e w1 ⟨rfl, rfl⟩
    go_wp2_with fail
    go_ret
    exact ⟨_, rfl, rfl, Below.refl _ _⟩
  · go_enter Tryd.func67, Tryd.ntmps67
    go_wp2_with fail
    refine (l3Inf_any _).mono ?_
    rintro e w1 ⟨rfl, rfl⟩
    go_wp2_with fail
    go_ret
    exact ⟨_, rfl, rfl, Below.refl _ _⟩
  · go_enter Tryd.func67, Tryd.ntmps67
    go_wp2_with fail
    go_ret
    exact ⟨_, rfl, rfl, Below.refl _ _⟩
end Go.Proofs.YtnffgafofkknoaaDoor.flo

/-! MemSame -/
namespace Go.Proofs.YtnffgafofkknoaaDoor.part
open Go Go.RowKit Go.Proofs.YtnffgafofkknoaaDoor.flo
set_option linter.unusedVariables false
set_option linter.unusedSimpArgs false
set_option maxRecDepth 100000

/-! ### '==' of two memories -/
section
variable {P : Program} {d : Nat} {xs ys cs ds : Array Value} {f : Field} {fs : List Field} {a b : Value} {r s : Bool} {w : World}
theorem ef_cons (hn : (f.name == "_") = false) (ha : (part f.type xs f.offset).run P w = .ok a w) (hb : (part f.type ys f.offset).run P w = .ok b w) (he : (Op.equalIn d f.type a b).run P w = .ok r w) (hr : (Op.eqFields d xs ys fs).run P w = .ok s w) : (Op.eqFields d xs ys (f :: fs)).run P w = .ok (r && s) w := by
  have hn' : f.name ≠ "_" := by simpa using hn
  rw [Op.eqFields]
  simp only [if_pos hn', Sem.run_bind, ha, hb, he, Result.andThen_ok]
  cases r
  · simp
  · simpa using hr
theorem ef_nil : (Op.eqFields d xs ys []).run P w = .ok true w := by simp [Op.eqFields]
theorem psc {t : TypeId} (h : scalarB P t = true) {off : Nat} {v : Value} (hv : cs[off]? = some v) : (part t cs off).run P w = .ok v w := by
  simp [part, Sem.run_bind, scalar_run h w, hv]
theorem pag {t : TypeId} (h : aggB P t = true) {n : Nat} (hi : (P.info? t).map (·.size) = some n) (off : Nat) : (part t cs off).run P w = .ok (.agg (cs.extract off (off + n))) w := by
  cases hq : P.info? t with
  | none => simp [hq] at hi
  | some i =>
    have hs : i.size = n := by simpa [hq] using hi
    simp [part, Sem.run_bind, agg_run h w, sizeOf, typeInfo, hq, hs]
theorem items_run {e : TypeId} {n dd : Nat} (r : Nat → Bool) : ∀ (is : List Nat), (∀ i ∈ is, ∃ a b, (part e xs (i * n)).run P w = .ok a w ∧ (part e ys (i * n)).run P w = .ok b w ∧ (Op.equalIn dd e a b).run P w = .ok (r i) w) → (Op.eqItems dd e n xs ys is).run P w = .ok (is.all r) w
  | [], _ => by simp [Op.eqItems]
  | i :: is, h => by
    obtain ⟨a, b, h1, h2, h3⟩ := h i List.mem_cons_self
    have ih := items_run r is (fun j hj => h j (List.mem_cons_of_mem _ hj))
    simp only [Op.eqItems, Sem.run_bind, h1, h2, h3, Result.andThen_ok, List.all_cons]
    cases r i
    · simp
    · simpa using ih
end

/-! ### the memories -/
theorem storeP {P : Program} (g off : Nat) (t : TypeId) : ∀ (vs : List Value) (i : Nat) (cur : Array Value) (w : World), w.heap[g]? = some (.cells cur t (0, 0)) → off + i + vs.length ≤ cur.size → (∀ v ∈ vs, v.oneCell' = true) →
    ∃ w1 cur', (storeCells ⟨g, off, none⟩ vs i).run P w = .ok () w1 ∧ w1.heap[g]? = some (.cells cur' t (0, 0)) ∧ cur'.size = cur.size ∧ (∀ j, j < off + i → cur'[j]? = cur[j]?) ∧ (∀ j, j < vs.length → cur'[off + i + j]? = vs[j]?) ∧ (∀ j, off + i + vs.length ≤ j → cur'[j]? = cur[j]?) ∧ (∀ k, k ≠ g → w1.heap[k]? = w.heap[k]?) ∧ Below g w w1
  | [], i, cur, w, hg, hl, _ => ⟨w, cur, rfl, hg, rfl, fun _ _ => rfl, fun j hj => by simp at hj, fun _ _ => rfl, fun _ _ => rfl, Below.refl _ _⟩
  | v :: rest, i, cur, w, hg, hl, h1 => by
    simp only [List.length_cons] at hl
    have hi : off + i < cur.size := by omega
    have hcell : w.cell? ⟨g, off + i, none⟩ = some cur[off + i] := by simp [World.cell?, hg, hi]
    have hfro : w.frozen? ⟨g, off + i, none⟩ = false := by simp [World.frozen?, hg]
    have hst : (store ((⟨g, off, none⟩ : Addr).add i) v).run P w = .ok () (w.setCell ⟨g, off + i, none⟩ v) := by
      rw [part.add_at, run_store P w _ v _ (h1 v (by simp)), hcell]
      simp [hfro]
    have hg2 : (w.setCell ⟨g, off + i, none⟩ v).heap[g]? = some (.cells (cur.setIfInBounds (off + i) v) t (0, 0)) := by
      rw [setCell_eq_setRow w g (off + i) cur t (0, 0) v hg]
      exact setRow_heap w g cur _ t _ hg
    obtain ⟨w1, cur', a1, a2, a3, a4, a5, a6, a7, a8⟩ := storeP (P := P) g off t rest (i + 1) _ _ hg2 (by simp; omega) (fun x hx => h1 x (by simp [hx]))
    refine ⟨w1, cur', ?_, a2, by simpa using a3, ?_, ?_, ?_, fun k hk => (a7 k hk).trans (Below.heap_setCell w ⟨g, off + i, none⟩ v k hk), ((Below.refl g w).setCell (p := ⟨g, off + i, none⟩) (Nat.le_refl _) v).trans a8⟩
    · simp only [storeCells, Sem.run_bind, hst, Result.andThen_ok, a1]
    · intro j hj
      rw [a4 j (by omega), Array.getElem?_setIfInBounds_ne (by omega)]
    · intro j hj
      cases j with
      | zero =>
        have := a4 (off + i) (by omega)
        simp only [Nat.add_zero, List.getElem?_cons_zero]
        rw [this, Array.getElem?_setIfInBounds_self_of_lt hi]
      | succ j =>
        have := a5 j (by simpa using hj)
        rw [List.getElem?_cons_succ, ← this]
        congr 1
        omega
    · intro j hj
      simp only [List.length_cons] at hj
      rw [a6 j (by omega), Array.getElem?_setIfInBounds_ne (by omega)]
/-- Two cells are equal. -/
def ceq : Value → Value → Bool | .bool a, .bool b => a == b | .int _ a, .int _ b => a == b | .float k a, .float _ b => Op.floatEq k a b | _, _ => false
def cq (cs ds : Array Value) (i : Nat) : Bool := ceq (cs.getD i undef) (ds.getD i undef)
theorem ceq_same {v u : Value} (h : tv v = tv u) (hc : tv v = 1 ∨ tv v = 2 ∨ tv v = 3 ∨ tv v = 4 ∨ tv v = 5) : ceq v u = true ↔ v = u := by
  rcases hc with h1 | h1 | h1 | h1 | h1
  · obtain ⟨a, rfl⟩ := tv1 h1
    obtain ⟨b, rfl⟩ := tv1 (h.symm.trans h1)
    simp [ceq]
  · obtain ⟨a, rfl⟩ := tv2 h1
    obtain ⟨b, rfl⟩ := tv2 (h.symm.trans h1)
    simp [ceq]
  · obtain ⟨a, rfl⟩ := tv3 h1
    obtain ⟨b, rfl⟩ := tv3 (h.symm.trans h1)
    simp [ceq]
  · obtain ⟨a, rfl⟩ := tv4 h1
    obtain ⟨b, rfl⟩ := tv4 (h.symm.trans h1)
    simp [ceq]
  · obtain ⟨a, rfl⟩ := tv5 h1
    obtain ⟨b, rfl⟩ := tv5 (h.symm.trans h1)
    simp [ceq]
theorem getD_of {cs : Array Value} {i : Nat} {v : Value} (h : cs[i]? = some v) : cs.getD i undef = v := by
  rw [Array.getD_eq_getD_getElem?, h]; rfl
theorem eqc {t : TypeId} {d : Nat} {w : World} {v u : Value} (hb : tv v = tv u) (hk : (Tryd.prog.underlying t = some .bool ∧ tv v = 1) ∨ (∃ k, Tryd.prog.underlying t = some (.int k) ∧ (tv v = 2 ∨ tv v = 3 ∨ tv v = 4 ∨ tv v = 5)) ∨ (Tryd.prog.underlying t = some (.float .f64) ∧ tv v = 6)) : (Op.equalIn (d + 1) t v u).run Tryd.prog w = .ok (ceq v u) w := by
  rcases hk with ⟨hu, h1⟩ | ⟨k, hu, h1⟩ | ⟨hu, h1⟩
  · obtain ⟨a, rfl⟩ := tv1 h1
    obtain ⟨b, rfl⟩ := tv1 (hb.symm.trans h1)
    exact run_equalIn_bool w d t a b hu
  · rcases h1 with h1 | h1 | h1 | h1
    · obtain ⟨a, rfl⟩ := tv2 h1
      obtain ⟨b, rfl⟩ := tv2 (hb.symm.trans h1)
      exact run_equalIn_int w d t _ k a b hu
    · obtain ⟨a, rfl⟩ := tv3 h1
      obtain ⟨b, rfl⟩ := tv3 (hb.symm.trans h1)
      exact run_equalIn_int w d t _ k a b hu
    · obtain ⟨a, rfl⟩ := tv4 h1
      obtain ⟨b, rfl⟩ := tv4 (hb.symm.trans h1)
      exact run_equalIn_int w d t _ k a b hu
    · obtain ⟨a, rfl⟩ := tv5 h1
      obtain ⟨b, rfl⟩ := tv5 (hb.symm.trans h1)
      exact run_equalIn_int w d t _ k a b hu
  · obtain ⟨a, rfl⟩ := tv6 h1
    obtain ⟨b, rfl⟩ := tv6 (hb.symm.trans h1)
    simp [Op.equalIn, run_underlying hu, ceq]
theorem cell_at {cs : Array Value} (h : Tagged cs) {i : Nat} (hi : i < 136) : cs[i]? = some (cs.getD i undef) ∧ tv (cs.getD i undef) = tags.getD i 0 := by
  obtain ⟨v, hv, ht⟩ := h.all i hi
  rw [getD_of hv]
  exact ⟨hv, ht⟩
theorem ext_at {cs : Array Value} (h : Tagged cs) {off n j : Nat} (hj : j < n) (ho : off + n ≤ 136) : (cs.extract off (off + n))[j]? = some (cs.getD (off + j) undef) := by
  have hs := h.size
  rw [Array.getElem?_extract, if_pos (by omega)]
  exact (cell_at h (by omega)).1

theorem arrT (cs ds : Array Value) (h1 : Tagged cs) (h2 : Tagged ds) (d : Nat) (w : World) : (Op.equalIn (d + 3) 41 (.agg (cs.extract 5 (5 + 32))) (.agg (ds.extract 5 (5 + 32)))).run Tryd.prog w = .ok ((List.range 16).all fun i => (cq cs ds (5 + (i * 2 + 0)) && (cq cs ds (5 + (i * 2 + 1)) && true))) w := by
  obtain ⟨info, hi⟩ : ∃ i, Tryd.prog.info? 40 = some i := info_of_underlying Tryd.underlying40
  rw [run_equalIn_array w (d + 2) _ _ Tryd.underlying41 hi, show Tryd.prog.cellsOf 40 = 2 by kernel_rfl]
  refine items_run (fun i => (cq cs ds (5 + (i * 2 + 0)) && (cq cs ds (5 + (i * 2 + 1)) && true))) _ (fun i hir => ?_)
  have hi2 : i < 16 := List.mem_range.1 hir
  refine ⟨_, _, pag (n := 2) (by kernel_rfl) (by kernel_rfl) (i * 2), pag (n := 2) (by kernel_rfl) (by kernel_rfl) (i * 2), ?_⟩
  rw [run_equalIn_struct w _ _ _ _ (by kernel_rfl) (by kernel_rfl)]
  have ex : ∀ {xs : Array Value}, Tagged xs → ∀ j, j < 2 → ((xs.extract 5 (5 + 32)).extract (i * 2) (i * 2 + 2))[j]? = some (xs.getD (5 + (i * 2 + j)) undef) := by
    intro xs hx j hj
    have hs := hx.size
    rw [Array.getElem?_extract, if_pos (by simp; omega)]
    exact ext_at hx (by omega) (by omega)
  have t0 : tags.getD (5 + (i * 2 + 0)) 0 = 1 := (by decide : ∀ j, j < 16 → tags.getD (5 + (j * 2 + 0)) 0 = 1) i hi2
  have a0 := cell_at h1 (i := 5 + (i * 2 + 0)) (by omega)
  have b0 := cell_at h2 (i := 5 + (i * 2 + 0)) (by omega)
  have t1 : tags.getD (5 + (i * 2 + 1)) 0 = 4 := (by decide : ∀ j, j < 16 → tags.getD (5 + (j * 2 + 1)) 0 = 4) i hi2
  have a1 := cell_at h1 (i := 5 + (i * 2 + 1)) (by omega)
  have b1 := cell_at h2 (i := 5 + (i * 2 + 1)) (by omega)
  refine ef_cons (by rfl) (psc (by kernel_rfl) (ex h1 0 (by decide))) (psc (by kernel_rfl) (ex h2 0 (by decide))) (eqc (by rw [a0.2, b0.2]) (.inl ⟨Tryd.underlying4, a0.2.trans t0⟩)) ?_
  refine ef_cons (by rfl) (psc (by kernel_rfl) (ex h1 1 (by decide))) (psc (by kernel_rfl) (ex h2 1 (by decide))) (eqc (by rw [a1.2, b1.2]) (.inr (.inl ⟨_, Tryd.underlying24, by rw [a1.2, t1]; decide⟩))) ?_
  exact ef_nil

theorem arrC (cs ds : Array Value) (h1 : Tagged cs) (h2 : Tagged ds) (d : Nat) (w : World) : (Op.equalIn (d + 3) 43 (.agg (cs.extract 37 (37 + 48))) (.agg (ds.extract 37 (37 + 48)))).run Tryd.prog w = .ok ((List.range 16).all fun i => (cq cs ds (37 + (i * 3 + 0)) && (cq cs ds (37 + (i * 3 + 1)) && (cq cs ds (37 + (i * 3 + 2)) && true)))) w := by
  obtain ⟨info, hi⟩ : ∃ i, Tryd.prog.info? 42 = some i := info_of_underlying Tryd.underlying42
  rw [run_equalIn_array w (d + 2) _ _ Tryd.underlying43 hi, show Tryd.prog.cellsOf 42 = 3 by kernel_rfl]
  refine items_run (fun i => (cq cs ds (37 + (i * 3 + 0)) && (cq cs ds (37 + (i * 3 + 1)) && (cq cs ds (37 + (i * 3 + 2)) && true)))) _ (fun i hir => ?_)
  have hi2 : i < 16 := List.mem_range.1 hir
  refine ⟨_, _, pag (n := 3) (by kernel_rfl) (by kernel_rfl) (i * 3), pag (n := 3) (by kernel_rfl) (by kernel_rfl) (i * 3), ?_⟩
  rw [run_equalIn_struct w _ _ _ _ (by kernel_rfl) (by kernel_rfl)]
  have ex : ∀ {xs : Array Value}, Tagged xs → ∀ j, j < 3 → ((xs.extract 37 (37 + 48)).extract (i * 3) (i * 3 + 3))[j]? = some (xs.getD (37 + (i * 3 + j)) undef) := by
    intro xs hx j hj
    have hs := hx.size
    rw [Array.getElem?_extract, if_pos (by simp; omega)]
    exact ext_at hx (by omega) (by omega)
  have t0 : tags.getD (37 + (i * 3 + 0)) 0 = 1 := (by decide : ∀ j, j < 16 → tags.getD (37 + (j * 3 + 0)) 0 = 1) i hi2
  have a0 := cell_at h1 (i := 37 + (i * 3 + 0)) (by omega)
  have b0 := cell_at h2 (i := 37 + (i * 3 + 0)) (by omega)
  have t1 : tags.getD (37 + (i * 3 + 1)) 0 = 1 := (by decide : ∀ j, j < 16 → tags.getD (37 + (j * 3 + 1)) 0 = 1) i hi2
  have a1 := cell_at h1 (i := 37 + (i * 3 + 1)) (by omega)
  have b1 := cell_at h2 (i := 37 + (i * 3 + 1)) (by omega)
  have t2 : tags.getD (37 + (i * 3 + 2)) 0 = 4 := (by decide : ∀ j, j < 16 → tags.getD (37 + (j * 3 + 2)) 0 = 4) i hi2
  have a2 := cell_at h1 (i := 37 + (i * 3 + 2)) (by omega)
  have b2 := cell_at h2 (i := 37 + (i * 3 + 2)) (by omega)
  refine ef_cons (by rfl) (psc (by kernel_rfl) (ex h1 0 (by decide))) (psc (by kernel_rfl) (ex h2 0 (by decide))) (eqc (by rw [a0.2, b0.2]) (.inl ⟨Tryd.underlying4, a0.2.trans t0⟩)) ?_
  refine ef_cons (by rfl) (psc (by kernel_rfl) (ex h1 1 (by decide))) (psc (by kernel_rfl) (ex h2 1 (by decide))) (eqc (by rw [a1.2, b1.2]) (.inl ⟨Tryd.underlying4, a1.2.trans t1⟩)) ?_
  refine ef_cons (by rfl) (psc (by kernel_rfl) (ex h1 2 (by decide))) (psc (by kernel_rfl) (ex h2 2 (by decide))) (eqc (by rw [a2.2, b2.2]) (.inr (.inl ⟨_, Tryd.underlying24, by rw [a2.2, t2]; decide⟩))) ?_
  exact ef_nil

theorem arrD (cs ds : Array Value) (h1 : Tagged cs) (h2 : Tagged ds) (d : Nat) (w : World) : (Op.equalIn (d + 3) 32 (.agg (cs.extract 85 (85 + 32))) (.agg (ds.extract 85 (85 + 32)))).run Tryd.prog w = .ok ((List.range 32).all fun i => cq cs ds (85 + i)) w := by
  obtain ⟨info, hi⟩ : ∃ i, Tryd.prog.info? 31 = some i := info_of_underlying Tryd.underlying31
  rw [run_equalIn_array w (d + 2) _ _ Tryd.underlying32 hi, show Tryd.prog.cellsOf 31 = 1 by kernel_rfl]
  refine items_run (fun i => cq cs ds (85 + i)) _ (fun i hir => ?_)
  have hi2 : i < 32 := List.mem_range.1 hir
  have c1 := cell_at h1 (i := 85 + i) (by omega)
  have c2 := cell_at h2 (i := 85 + i) (by omega)
  have ht : tags.getD (85 + i) 0 = 5 := (by decide : ∀ j, j < 32 → tags.getD (85 + j) 0 = 5) i hi2
  rw [Nat.mul_one]
  refine ⟨_, _, psc (by kernel_rfl) (ext_at h1 (j := i) (by omega) (by omega)), psc (by kernel_rfl) (ext_at h2 (j := i) (by omega) (by omega)), eqc (by rw [c1.2, c2.2]) (.inr (.inl ⟨_, Tryd.underlying31, by rw [c1.2, ht]; decide⟩))⟩

theorem arrR (cs ds : Array Value) (h1 : Tagged cs) (h2 : Tagged ds) (d : Nat) (w : World) : (Op.equalIn (d + 3) 34 (.agg (cs.extract 117 (117 + 16))) (.agg (ds.extract 117 (117 + 16)))).run Tryd.prog w = .ok ((List.range 16).all fun i => cq cs ds (117 + i)) w := by
  obtain ⟨info, hi⟩ : ∃ i, Tryd.prog.info? 33 = some i := info_of_underlying Tryd.underlying33
  rw [run_equalIn_array w (d + 2) _ _ Tryd.underlying34 hi, show Tryd.prog.cellsOf 33 = 1 by kernel_rfl]
  refine items_run (fun i => cq cs ds (117 + i)) _ (fun i hir => ?_)
  have hi2 : i < 16 := List.mem_range.1 hir
  have c1 := cell_at h1 (i := 117 + i) (by omega)
  have c2 := cell_at h2 (i := 117 + i) (by omega)
  have ht : tags.getD (117 + i) 0 = 6 := (by decide : ∀ j, j < 16 → tags.getD (117 + j) 0 = 6) i hi2
  rw [Nat.mul_one]
  refine ⟨_, _, psc (by kernel_rfl) (ext_at h1 (j := i) (by omega) (by omega)), psc (by kernel_rfl) (ext_at h2 (j := i) (by omega) (by omega)), eqc (by rw [c1.2, c2.2]) (.inr (.inr ⟨Tryd.underlying33, c1.2.trans ht⟩))⟩

/-- All cells but the real numbers are equal. -/
def Rest (cs ds : Array Value) : Prop := ∀ i, i < 136 → (i < 117 ∨ 133 ≤ i) → cs[i]? = ds[i]?
theorem mem_eq (cs ds : Array Value) (h1 : Tagged cs) (h2 : Tagged ds) (hR : ∀ j, j < 16 → cq cs ds (117 + j) = true) : ∃ r : Bool, (∀ w, (binOp .eql 45 (.agg cs) (.agg ds)).run Tryd.prog w = .ok (.bool r) w) ∧ (r = true ↔ Rest cs ds) := by
  have sc : ∀ i, i < 136 → cs[i]? = some (cs.getD i undef) := fun i hi => (cell_at h1 hi).1
  have sd : ∀ i, i < 136 → ds[i]? = some (ds.getD i undef) := fun i hi => (cell_at h2 hi).1
  have tc : ∀ i, i < 136 → tv (cs.getD i undef) = tags.getD i 0 := fun i hi => (cell_at h1 hi).2
  have td : ∀ i, i < 136 → tv (ds.getD i undef) = tags.getD i 0 := fun i hi => (cell_at h2 hi).2
  refine ⟨cq cs ds 0 && (cq cs ds 1 && (cq cs ds 2 && (cq cs ds 3 && (cq cs ds 4 && (((List.range 16).all fun i => (cq cs ds (5 + (i * 2 + 0)) && (cq cs ds (5 + (i * 2 + 1)) && true))) && (((List.range 16).all fun i => (cq cs ds (37 + (i * 3 + 0)) && (cq cs ds (37 + (i * 3 + 1)) && (cq cs ds (37 + (i * 3 + 2)) && true)))) && (((List.range 32).all fun i => cq cs ds (85 + i)) && (((List.range 16).all fun i => cq cs ds (117 + i)) && (cq cs ds 133 && (cq cs ds 134 && (cq cs ds 135 && true))))))))))), fun w => ?_, ?_⟩
  case refine_1 =>
    rw [run_eql_struct, run_equalIn_struct w _ _ _ _ (by kernel_rfl) (by kernel_rfl)]
    have he : (Op.eqFields 9999 cs ds (Tryd.prog.fieldsOf 45).toList).run Tryd.prog w = .ok (cq cs ds 0 && (cq cs ds 1 && (cq cs ds 2 && (cq cs ds 3 && (cq cs ds 4 && (((List.range 16).all fun i => (cq cs ds (5 + (i * 2 + 0)) && (cq cs ds (5 + (i * 2 + 1)) && true))) && (((List.range 16).all fun i => (cq cs ds (37 + (i * 3 + 0)) && (cq cs ds (37 + (i * 3 + 1)) && (cq cs ds (37 + (i * 3 + 2)) && true)))) && (((List.range 32).all fun i => cq cs ds (85 + i)) && (((List.range 16).all fun i => cq cs ds (117 + i)) && (cq cs ds 133 && (cq cs ds 134 && (cq cs ds 135 && true)))))))))))) w := by
      refine ef_cons (by rfl) (psc (by kernel_rfl) (sc 0 (by decide))) (psc (by kernel_rfl) (sd 0 (by decide))) (eqc (by rw [tc 0 (by decide), td 0 (by decide)]) (.inr (.inl ⟨_, Tryd.underlying22, by rw [tc 0 (by decide)]; decide⟩))) ?_
      refine ef_cons (by rfl) (psc (by kernel_rfl) (sc 1 (by decide))) (psc (by kernel_rfl) (sd 1 (by decide))) (eqc (by rw [tc 1 (by decide), td 1 (by decide)]) (.inr (.inl ⟨_, Tryd.underlying22, by rw [tc 1 (by decide)]; decide⟩))) ?_
      refine ef_cons (by rfl) (psc (by kernel_rfl) (sc 2 (by decide))) (psc (by kernel_rfl) (sd 2 (by decide))) (eqc (by rw [tc 2 (by decide), td 2 (by decide)]) (.inr (.inl ⟨_, Tryd.underlying23, by rw [tc 2 (by decide)]; decide⟩))) ?_
      refine ef_cons (by rfl) (psc (by kernel_rfl) (sc 3 (by decide))) (psc (by kernel_rfl) (sd 3 (by decide))) (eqc (by rw [tc 3 (by decide), td 3 (by decide)]) (.inr (.inl ⟨_, Tryd.underlying24, by rw [tc 3 (by decide)]; decide⟩))) ?_
      refine ef_cons (by rfl) (psc (by kernel_rfl) (sc 4 (by decide))) (psc (by kernel_rfl) (sd 4 (by decide))) (eqc (by rw [tc 4 (by decide), td 4 (by decide)]) (.inr (.inl ⟨_, Tryd.underlying22, by rw [tc 4 (by decide)]; decide⟩))) ?_
      refine ef_cons (by rfl) (pag (n := 32) (by kernel_rfl) (by kernel_rfl) 5) (pag (n := 32) (by kernel_rfl) (by kernel_rfl) 5) (arrT cs ds h1 h2 _ w) ?_
      refine ef_cons (by rfl) (pag (n := 48) (by kernel_rfl) (by kernel_rfl) 37) (pag (n := 48) (by kernel_rfl) (by kernel_rfl) 37) (arrC cs ds h1 h2 _ w) ?_
      refine ef_cons (by rfl) (pag (n := 32) (by kernel_rfl) (by kernel_rfl) 85) (pag (n := 32) (by kernel_rfl) (by kernel_rfl) 85) (arrD cs ds h1 h2 _ w) ?_
      refine ef_cons (by rfl) (pag (n := 16) (by kernel_rfl) (by kernel_rfl) 117) (pag (n := 16) (by kernel_rfl) (by kernel_rfl) 117) (arrR cs ds h1 h2 _ w) ?_
      refine ef_cons (by rfl) (psc (by kernel_rfl) (sc 133 (by decide))) (psc (by kernel_rfl) (sd 133 (by decide))) (eqc (by rw [tc 133 (by decide), td 133 (by decide)]) (.inr (.inl ⟨_, Tryd.underlying22, by rw [tc 133 (by decide)]; decide⟩))) ?_
      refine ef_cons (by rfl) (psc (by kernel_rfl) (sc 134 (by decide))) (psc (by kernel_rfl) (sd 134 (by decide))) (eqc (by rw [tc 134 (by decide), td 134 (by decide)]) (.inl ⟨Tryd.underlying4, tc 134 (by decide)⟩)) ?_
      refine ef_cons (by rfl) (psc (by kernel_rfl) (sc 135 (by decide))) (psc (by kernel_rfl) (sd 135 (by decide))) (eqc (by rw [tc 135 (by decide), td 135 (by decide)]) (.inl ⟨Tryd.underlying4, tc 135 (by decide)⟩)) ?_
      exact ef_nil
    rw [he]
    rfl
  case refine_2 =>
    simp only [Bool.and_eq_true, List.all_eq_true, List.mem_range, and_true]
    have one : ∀ i, i < 136 → (i < 117 ∨ 133 ≤ i) → (cq cs ds i = true ↔ cs[i]? = ds[i]?) := fun i hi hr => by
      rw [sc i hi, sd i hi, Option.some.injEq]
      have h6 : tags.getD i 0 ≠ 6 := (by decide : ∀ i, i < 136 → (i < 117 ∨ 133 ≤ i) → tags.getD i 0 ≠ 6) i hi hr
      have h0 := tags_any i hi
      exact ceq_same (by rw [tc i hi, td i hi]) (by rw [tc i hi]; omega)
    constructor
    · rintro ⟨x0, x1, x2, x3, x4, hT, hC, hD, _, x9, x10, x11⟩ i hi hr
      refine (one i hi hr).1 ?_
      have hc : i = 0 ∨ i = 1 ∨ i = 2 ∨ i = 3 ∨ i = 4 ∨ (5 ≤ i ∧ i < 37) ∨ (37 ≤ i ∧ i < 85) ∨ (85 ≤ i ∧ i < 117) ∨ i = 133 ∨ i = 134 ∨ i = 135 := by omega
      rcases hc with rfl | rfl | rfl | rfl | rfl | ⟨a, b⟩ | ⟨a, b⟩ | ⟨a, b⟩ | rfl | rfl | rfl
      · exact x0
      · exact x1
      · exact x2
      · exact x3
      · exact x4
      · have h := hT ((i - 5) / 2) (by omega)
        have hm : i = 5 + ((i - 5) / 2 * 2 + 0) ∨ i = 5 + ((i - 5) / 2 * 2 + 1) := by omega
        rcases hm with e | e
        · rw [e]; exact h.1
        · rw [e]; exact h.2
      · have h := hC ((i - 37) / 3) (by omega)
        have hm : i = 37 + ((i - 37) / 3 * 3 + 0) ∨ i = 37 + ((i - 37) / 3 * 3 + 1) ∨ i = 37 + ((i - 37) / 3 * 3 + 2) := by omega
        rcases hm with e | e | e
        · rw [e]; exact h.1
        · rw [e]; exact h.2.1
        · rw [e]; exact h.2.2
      · have h := hD (i - 85) (by omega)
        rw [show 85 + (i - 85) = i by omega] at h
        exact h
      · exact x9
      · exact x10
      · exact x11
    · intro h
      have g : ∀ i, i < 136 → (i < 117 ∨ 133 ≤ i) → cq cs ds i = true := fun i hi hr => (one i hi hr).2 (h i hi hr)
      exact ⟨g 0 (by omega) (by omega), g 1 (by omega) (by omega), g 2 (by omega) (by omega), g 3 (by omega) (by omega), g 4 (by omega) (by omega),
        fun j hj => ⟨g _ (by omega) (by omega), g _ (by omega) (by omega)⟩, fun j hj => ⟨g _ (by omega) (by omega), g _ (by omega) (by omega), g _ (by omega) (by omega)⟩, fun j hj => g _ (by omega) (by omega), fun j hj => hR j hj,
        g 133 (by omega) (by omega), g 134 (by omega) (by omega), g 135 (by omega) (by omega)⟩

/-! ### 'realSame' -/
theorem isnan_t (x : Nat) (w : World) (h : isNan x = true) : Calls Tryd.prog 75 #[.float .f64 x] w fun e w' => e = .returned (.bool true) ∧ w = w' := by
  have ox := order_nan_left (y := x) h
  clear h
  go_enter Tryd.func75, Tryd.ntmps75
  go_wp2
  go_ret
  exact ⟨rfl, rfl⟩
theorem isnan_f (x : Nat) (w : World) (h : isNan x = false) : Calls Tryd.prog 75 #[.float .f64 x] w fun e w' => e = .returned (.bool false) ∧ w = w' := by
  have ox := order_self h
  clear h
  go_enter Tryd.func75, Tryd.ntmps75
  go_wp2
  go_ret
  exact ⟨rfl, rfl⟩
def sameB (x y : Nat) : Bool := (isNan x && isNan y) || ((x : Int) == (y : Int))
theorem sameB_iff (x y : Nat) : sameB x y = true ↔ Same x y := by
  unfold sameB Same
  simp only [Bool.or_eq_true, Bool.and_eq_true, beq_iff_eq, Int.natCast_inj]
theorem rs_any (x y : Nat) (w : World) : Calls Tryd.prog 59 #[.float .f64 x, .float .f64 y] w fun e w' => e = .returned (.bool (sameB x y)) ∧ w = w' := by
  have tb := tobits_any
  cases hx : isNan x with
  | true =>
    have HX := Lib.hid hx
    cases hy : isNan y with
    | true =>
      have HY := Lib.hid hy
      have HS := Lib.hid (show true = sameB x y by unfold sameB; rw [hx, hy]; rfl)
      clear hx hy
      go_enter Tryd.func59, Tryd.ntmps59
      go_wp2_with fail
      refine (isnan_t _ _ HX.out).mono ?_
      rintro e w' ⟨rfl, rfl⟩
      go_wp2_with fail
      refine (isnan_t _ _ HY.out).mono ?_
      rintro e w' ⟨rfl, rfl⟩
      go_wp2_with fail
      go_ret
      exact ⟨kit.ret_bool HS.out, rfl⟩
    | false =>
      have HY := Lib.hid hy
      have HS := Lib.hid (show ((x : Int) == (y : Int)) = sameB x y by unfold sameB; rw [hx, hy]; rfl)
      clear hx hy
      go_enter Tryd.func59, Tryd.ntmps59
      go_wp2_with fail
      refine (isnan_t _ _ HX.out).mono ?_
      rintro e w' ⟨rfl, rfl⟩
      go_wp2_with fail
      refine (isnan_f _ _ HY.out).mono ?_
      rintro e w' ⟨rfl, rfl⟩
      go_wp2_with fail
      go_ret
      exact ⟨kit.ret_bool HS.out, rfl⟩
  | false =>
    have HX := Lib.hid hx
    have HS := Lib.hid (show ((x : Int) == (y : Int)) = sameB x y by unfold sameB; rw [hx]; simp)
    clear hx
    go_enter Tryd.func59, Tryd.ntmps59
    go_wp2_with fail
    refine (isnan_f _ _ HX.out).mono ?_
    rintro e w' ⟨rfl, rfl⟩
    go_wp2_with fail
    go_ret
    exact ⟨kit.ret_bool HS.out, rfl⟩

/-! ### 'MemSame' -/
section
variable {P : Program} {ops : Array Oper} {rest : List Oper} {o : Oper} {a : Act} {w : World} {Q : Exit → Act → World → Prop} {t : TypeId} {cs : Array Value} {g : Nat} {fr : Nat × Nat}
/-- A part of a box, loaded. -/
theorem wl_pld (hgd : o.guard = none) (ty : TypeId) (x : Operand) (ho : o.op = .load ty x) (hg : w.heap[g]? = some (.cells cs t fr)) (off n : Nat) (hx : a.eval x = .pointer (some ⟨g, off, none⟩)) (hu : aggB P ty = true) (hi : (P.info? ty).map (·.size) = some n) (hoff : off + n ≤ cs.size)
    (h : wpList P ops Q rest (a.put o.dst (.agg (cs.extract off (off + n)))) w) : wpList P ops Q (o :: rest) a w := by
  refine wpList_plain hgd fun _ hK => ?_
  unfold Oper.wp execOp
  simp only [ho, hx, Instr.loadAt, Instr.sureAddr, Sem.run_bind, Sem.run_pure, Result.andThen_ok, run_ldp hg hoff (agg_run hu w) hi]
  exact hK _ _ h
/-- A part of a box, stored. -/
theorem wl_pst (hgd : o.guard = none) (ty : TypeId) (x y : Operand) (ho : o.op = .store ty x y) (hg : w.heap[g]? = some (.cells cs t (0, 0))) (off n : Nat) (vs : Array Value) (hx : a.eval x = .pointer (some ⟨g, off, none⟩)) (hy : a.eval y = .agg vs) (h1 : ∀ v ∈ vs, v.oneCell' = true) (hn : vs.size = n) (hi : (P.info? ty).map (·.size) = some n) (hoff : off + n ≤ cs.size)
    (h : ∀ w1 cs1, w1.heap[g]? = some (.cells cs1 t (0, 0)) → cs1.size = cs.size → (∀ j, j < off → cs1[j]? = cs[j]?) → (∀ j, j < n → cs1[off + j]? = vs[j]?) → (∀ j, off + n ≤ j → cs1[j]? = cs[j]?) → (∀ k, k ≠ g → w1.heap[k]? = w.heap[k]?) → Below g w w1 → wpList P ops Q rest (a.put o.dst undef) w1) : wpList P ops Q (o :: rest) a w := by
  refine wpList_plain hgd fun _ hK => ?_
  obtain ⟨w1, cs1, a1, a2, a3, a4, a5, a6, a7, a8⟩ := storeP (P := P) g off t vs.toList 0 cs w hg (by simp; omega) (fun v hv => h1 v (Array.mem_toList_iff.1 hv))
  have e : (storeVar ty ⟨g, off, none⟩ (.agg vs)).run P w = .ok () w1 := by
    cases hq : P.info? ty with
    | none => simp [hq] at hi
    | some i =>
      have hs : i.size = n := by simpa [hq] using hi
      simp only [storeVar, sizeOf, typeInfo, Sem.run_bind, hq, Value.cells]
      simp [Sem.run_bind, hq, hs, hn]
      simpa using a1
  unfold Oper.wp execOp
  simp only [ho, hx, hy, Instr.storeAt, Instr.sureAddr, Sem.run_bind, Sem.run_pure, Result.andThen_ok, e]
  refine hK _ _ (h w1 cs1 a2 a3 (fun j hj => a4 j (by omega)) (fun j hj => ?_) (fun j hj => a6 j (by simp; omega)) a7 a8)
  have := a5 j (by simp; omega)
  rw [Nat.add_zero] at this
  rw [this, Array.getElem?_toList]
end
theorem idx_run {cs : Array Value} (hs : cs.size = 136) {k : Nat} (hk : k < 16) {x : Nat} (hx : cs[117 + k]? = some (.float .f64 x)) (w : World) : (Instr.index 34 (.agg (cs.extract 117 (117 + 16))) (.int .i64 (k : Int))).run Tryd.prog w = .ok (.float .f64 x) w := by
  have hc : (cs.extract 117 (117 + 16))[k]? = some (.float .f64 x) := by rw [Array.getElem?_extract, if_pos (by omega)]; exact hx
  obtain ⟨i, hi⟩ : ∃ i, Tryd.prog.info? 33 = some i := info_of_underlying Tryd.underlying33
  have hsz : i.size = 1 := by
    have : (Tryd.prog.info? 33).map (·.size) = some 1 := by kernel_rfl
    simpa [hi] using this
  simp only [Instr.index, Sem.run_bind, asIntOf, Sem.run_pure, Result.andThen_ok, run_underlying Tryd.underlying34 w]
  rw [if_pos (by constructor <;> omega)]
  simp only [Sem.run_bind, sizeOf, typeInfo]
  simp [Sem.run_bind, hi, hsz, Result.andThen]
  exact psc (by kernel_rfl) hc

def fnm : Value → Nat | .float _ q => q | _ => 0
/-- Register j of both is one value. -/
def rb (cs ds : Array Value) (j : Nat) : Bool := sameB (fnm (cs.getD (117 + j) undef)) (fnm (ds.getD (117 + j) undef))
def MemEq (cs ds : Array Value) : Prop := (∀ j, j < 16 → rb cs ds j = true) ∧ Rest cs ds
theorem MemEq.refl (cs : Array Value) : MemEq cs cs := ⟨fun j _ => (sameB_iff _ _).2 (Same.refl _), fun _ _ _ => rfl⟩
def zs16 : Array Value := Array.replicate 16 (.float .f64 0)
theorem zeroed {cs cs1 : Array Value} (h : Tagged cs) (h1 : cs1.size = cs.size) (h2 : ∀ j, j < 117 → cs1[j]? = cs[j]?) (h3 : ∀ j, j < 16 → cs1[117 + j]? = zs16[j]?) (h4 : ∀ j, 117 + 16 ≤ j → cs1[j]? = cs[j]?) : Tagged cs1 ∧ ∀ j, j < 16 → cs1.getD (117 + j) undef = .float .f64 0 := by
  have z : ∀ j, j < 16 → cs1[117 + j]? = some (.float .f64 0) := fun j hj => by
    rw [h3 j hj]
    simp [zs16, hj]
  refine ⟨⟨h1.trans h.size, fun i hi => ?_⟩, fun j hj => getD_of (z j hj)⟩
  by_cases a : i < 117
  · rw [h2 i a]; exact h.all i hi
  · by_cases b : i < 133
    · have := z (i - 117) (by omega)
      rw [show 117 + (i - 117) = i by omega] at this
      refine ⟨_, this, ?_⟩
      exact (by decide : ∀ i, i < 136 → ¬ i < 117 → i < 133 → 6 = tags.getD i 0) i hi a b
    · rw [h4 i (by omega)]; exact h.all i hi
/-- What 'MemSame' returns. -/
def SameR (cs ds : Array Value) (w : World) (e : Ending) (w' : World) : Prop := ∃ r : Bool, e = .returned (.bool r) ∧ (r = true ↔ MemEq cs ds) ∧ Below w.heap.size w w'
set_option maxHeartbeats 4000000 in
theorem memSame_any (cs ds : Array Value) (hs : Shape cs) (hd : Shape ds) (w : World) : Calls Tryd.prog 29 #[.agg cs, .agg ds] w (SameR cs ds w) := by
  have ka := heap_alloc2_old w (.cells cs 45) (.cells ds 45)
  have kd := heap_alloc2_new w (.cells cs 45) (.cells ds 45)
  have B0 := Lib.hid (((Below.refl w.heap.size w).alloc (Nat.le_refl _) (.cells cs 45)).alloc (by simp) (.cells ds 45))
  have Ka := Lib.hid ka
  have Kd := Lib.hid kd
  have HS := Lib.hid hs
  have HD := Lib.hid hd
  clear ka kd hs hd
  have hbd : ∀ w, (Instr.build 34 #[]).run Tryd.prog w = .ok (.agg zs16) w := fun _ => by kernel_rfl
  go_enter Tryd.func29, Tryd.ntmps29
  go_wp2_with (refine wl_pld rfl _ _ rfl Ka.out 117 16 rfl (by kernel_rfl) (by kernel_rfl) (by rw [HS.out.size]; decide) ?_)
  go_loop [9] (fun i => ∃ k : Nat, k ≤ 16 ∧ i = .int .i64 k ∧ Hid (∀ j, j < k → rb cs ds j = true)) (fun i => 16 - (intOf i).toNat)
  case atStart => exact ⟨0, by omega, rfl, Lib.hid (fun j hj => by omega)⟩
  case round =>
    obtain ⟨k, hk, rfl, HL⟩ := hrel
    by_cases hlt : k < 16
    · obtain ⟨x, hx⟩ := HS.out.R k hlt
      obtain ⟨y, hy⟩ := HD.out.R k hlt
      have hix := idx_run HS.out.size hlt hx
      have cb := kit.box_cell Kd.out (117 + k) hy
      have Hr := Lib.hid (show rb cs ds k = sameB x y by unfold rb; rw [getD_of hx, getD_of hy]; rfl)
      clear hx hy
      go_wp2_with fail
      refine (rs_any x y _).mono ?_
      rintro e w' ⟨rfl, rfl⟩
      cases hb : sameB x y with
      | true =>
        have Hb := Lib.hid (Hr.out.trans hb)
        clear hb Hr
        go_wp2_with fail
        go_round
        case rel => exact ⟨k + 1, by omega, by go_num, Lib.hid (fun j hj => by
          by_cases e : j = k
          · subst e; exact Hb.out
          · exact HL.out j (by omega))⟩
        case measure => simp [intOf]; omega
      | false =>
        have Hb := Lib.hid (Hr.out.trans hb)
        clear hb Hr
        go_wp2_with fail
        go_ret
        exact ⟨false, rfl, ⟨fun h => (by cases h), fun h => by have := h.1 k hlt; rw [Hb.out] at this; cases this⟩, B0.out⟩
    · obtain rfl : k = 16 := by omega
      clear hk hlt
      have hone : ∀ v ∈ zs16, v.oneCell' = true := by intro v hv; have := Array.eq_of_mem_replicate hv; rw [this]; rfl
      have H1 := Lib.hid hone
      clear hone
      go_upto_region 8 with (first | (refine wl_pst rfl _ _ _ rfl Ka.out 117 16 zs16 rfl rfl H1.out rfl (by kernel_rfl) (by rw [HS.out.size]; decide) ?_; intro w1 cs1 a1 a2 a3 a4 a5 a6 a7; have KA := Lib.hid (And.intro a1 (And.intro a2 (And.intro a3 (And.intro a4 a5)))); have KD := Lib.hid ((a6 (w.heap.size + 1) (by omega)).trans Kd.out); have B1 := Lib.hid (B0.out.trans a7); clear a1 a2 a3 a4 a5 a6 a7) | (refine wl_pst rfl _ _ _ rfl KD.out 117 16 zs16 rfl rfl H1.out rfl (by kernel_rfl) (by rw [HD.out.size]; decide) ?_; intro w2 ds1 b1 b2 b3 b4 b5 b6 b7; have KB := Lib.hid (And.intro b1 (And.intro b2 (And.intro b3 (And.intro b4 b5)))); have KC := Lib.hid ((b6 w.heap.size (by omega)).trans KA.out.1); have B2 := Lib.hid (B1.out.trans (b7.mono (by omega))); clear b1 b2 b3 b4 b5 b6 b7))
      obtain ⟨t1, z1⟩ := zeroed HS.out.tagged KA.out.2.1 KA.out.2.2.1 KA.out.2.2.2.1 KA.out.2.2.2.2
      obtain ⟨t2, z2⟩ := zeroed HD.out.tagged KB.out.2.1 KB.out.2.2.1 KB.out.2.2.2.1 KB.out.2.2.2.2
      obtain ⟨r, heq, hiff⟩ := mem_eq cs1 ds1 t1 t2 (fun j hj => by unfold cq; rw [z1 j hj, z2 j hj]; decide +kernel)
      have Hi := Lib.hid hiff
      have heg := fun (w : World) => run_eqGuard_agg (P := Tryd.prog) w .eql 45 (.tmp 25) (.tmp 26) cs1 ds1 (by kernel_rfl)
      have S1 := Lib.hid t1.size
      have S2 := Lib.hid t2.size
      clear t1 z1 t2 z2 hiff
      go_wp2_with (first | (refine wl_hld rfl _ _ rfl KC.out rfl (by kernel_rfl) 136 S1.out (by kernel_rfl) ?_) | (refine wl_hld rfl _ _ rfl KB.out.1 rfl (by kernel_rfl) 136 S2.out (by kernel_rfl) ?_))
      go_ret
      refine ⟨r, rfl, ?_, B2.out⟩
      rw [Hi.out]
      have hR : Rest cs1 ds1 ↔ Rest cs ds := by
        have e1 : ∀ i, (i < 117 ∨ 133 ≤ i) → cs1[i]? = cs[i]? := fun i hi => hi.elim (KA.out.2.2.1 i) (fun h => KA.out.2.2.2.2 i (by omega))
        have e2 : ∀ i, (i < 117 ∨ 133 ≤ i) → ds1[i]? = ds[i]? := fun i hi => hi.elim (KB.out.2.2.1 i) (fun h => KB.out.2.2.2.2 i (by omega))
        exact ⟨fun h i hi hr => by rw [← e1 i hr, ← e2 i hr]; exact h i hi hr, fun h i hi hr => by rw [e1 i hr, e2 i hr]; exact h i hi hr⟩
      rw [hR]
      exact ⟨fun h => ⟨HL.out, h⟩, fun h => h.2⟩

end Go.Proofs.YtnffgafofkknoaaDoor.part

/-! Vals -/
namespace Go.Proofs.YtnffgafofkknoaaDoor.part
open Go Go.RowKit
set_option linter.unusedVariables false
set_option linter.unusedSimpArgs false

/-- The operations' edges that bind point backward. -/
def backA (ops : Array Oper) : Bool := (List.range ops.size).all fun i => match ops[i]? with | some o => o.after.all fun e => !Region.binds .any e || decide (e.on < i) | none => true
theorem all_listedA {ops : Array Oper} (hb : backA ops = true) {listed : Array Bool} (hs : listed.size = ops.size) (hr : Region.ready .any ops listed = []) : ∀ j, j < ops.size → listed.getD j false = true := by
  intro j
  induction j using Nat.strongRecOn with
  | ind j ih =>
    intro hj
    have ho : ops[j]? = some ops[j] := Array.getElem?_eq_getElem hj
    cases hl : listed.getD j false with
    | true => rfl
    | false =>
      exfalso
      have h1 : j ∈ Region.ready .any ops listed := mem_ready.2 ⟨by
        rw [Array.getD_eq_getD_getElem?, Array.getElem?_eq_getElem (by omega)] at hl ⊢
        exact hl, ops[j], ho, fun e he hbi => by
        have h2 := List.all_eq_true.1 hb j (List.mem_range.2 hj)
        rw [ho] at h2
        have h3 := (Array.all_eq_true_iff_forall_mem.1 h2) e he
        rw [hbi] at h3
        have h4 : e.on < j := of_decide_eq_true (by simpa using h3)
        exact ih e.on h4 (by omega)⟩
      rw [hr] at h1
      cases h1
def dstAt (ops : Array Oper) (j : Nat) : Option Tmp := (ops[j]?).bind (·.dst)
def opB (ops : Array Oper) (N i : Nat) (o : Oper) : Bool :=
  (match o.dst with | some t => decide (t < N) && (List.range ops.size).all fun j => j == i || dstAt ops j != some t | none => false) &&
  ((o.looksAt ops).all fun t => (List.range ops.size).all fun j => dstAt ops j != some t || o.after.any fun e => Region.binds .any e && e.on == j) &&
  (o.after.all fun e => !Region.binds .any e || decide (e.on < i)) && (match o.op with | .select .. => false | _ => true)
def valsB (ops : Array Oper) (N : Nat) : Bool := (List.range ops.size).all fun i => match ops[i]? with | some o => opB ops N i o | none => true

theorem valsB_at {ops : Array Oper} {N i : Nat} {o : Oper} (h : valsB ops N = true) (ho : ops[i]? = some o) : opB ops N i o = true := by
  have := List.all_eq_true.1 h i (List.mem_range.2 (Array.getElem?_eq_some_iff.1 ho).1)
  rw [ho] at this
  exact this
theorem opB_dst {ops : Array Oper} {N i : Nat} {o : Oper} (h : opB ops N i o = true) : ∃ t, o.dst = some t ∧ t < N ∧ ∀ j, j < ops.size → j ≠ i → dstAt ops j ≠ some t := by
  simp only [opB, Bool.and_eq_true] at h
  obtain ⟨⟨⟨h1, _⟩, _⟩, _⟩ := h
  cases hd : o.dst with
  | none => rw [hd] at h1; cases h1
  | some t =>
    rw [hd] at h1
    simp only [Bool.and_eq_true, decide_eq_true_eq, List.all_eq_true, List.mem_range, Bool.or_eq_true, beq_iff_eq, bne_iff_ne] at h1
    exact ⟨t, rfl, h1.1, fun j hj hne => (h1.2 j hj).resolve_left hne⟩
theorem opB_looks {ops : Array Oper} {N i : Nat} {o : Oper} (h : opB ops N i o = true) {t : Tmp} (ht : t ∈ o.looksAt ops) {j : Nat} (hj : dstAt ops j = some t) : ∃ e ∈ o.after, Region.binds .any e = true ∧ e.on = j := by
  simp only [opB, Bool.and_eq_true] at h
  obtain ⟨⟨⟨_, h2⟩, _⟩, _⟩ := h
  have hjs : j < ops.size := by
    rcases Nat.lt_or_ge j ops.size with h | h
    · exact h
    · unfold dstAt at hj; rw [Array.getElem?_eq_none h] at hj; cases hj
  have := List.all_eq_true.1 (List.all_eq_true.1 h2 t ht) j (List.mem_range.2 hjs)
  rw [hj] at this
  simp only [bne_self_eq_false, Bool.false_or, Array.any_eq_true'] at this
  obtain ⟨e, he, h3⟩ := this
  simp only [Bool.and_eq_true, beq_iff_eq] at h3
  exact ⟨e, he, h3⟩
theorem opB_sel {ops : Array Oper} {N i : Nat} {o : Oper} (h : opB ops N i o = true) (cs : Array SelectCase) (b : Bool) : o.op ≠ .select cs b := by
  intro e
  simp only [opB, Bool.and_eq_true] at h
  rw [e] at h
  cases h.2
theorem valsB_back {ops : Array Oper} {N : Nat} (h : valsB ops N = true) : backA ops = true := by
  refine List.all_eq_true.2 fun i hi => ?_
  cases ho : ops[i]? with
  | none => rfl
  | some o =>
    have := valsB_at h ho
    simp only [opB, Bool.and_eq_true] at this
    exact this.1.2

theorem upon_vals {P : Program} {o : Oper} {aa a : Act} {R : World → Prop} {K : Act → World → Prop} {Q : Exit → Act → World → Prop} {t : Tmp} (hd : o.dst = some t) (ht : t < aa.tmps.size) {r : Result Next}
    (h : o.upon P aa (fun a' w' => a' = aa ∧ R w') (fun _ _ _ => False) r) (hK : ∀ w', R w' → K (a.put o.dst (aa.tmps.getD t undef)) w') : o.upon P a K Q r := by
  have key : ∀ (b : Act) (v : Value), b.tmps = aa.tmps → b.put o.dst v = aa → v = aa.tmps.getD t undef := by
    intro b v hb e
    rw [← e, hd]
    simp [Act.put, hb, ht]
  cases r with
  | ok n w' =>
    cases n <;> simp only [Oper.upon] at h ⊢
    case value u => rw [key aa u rfl h.1]; exact hK _ h.2
    case skip => rw [key aa undef rfl h.1]; exact hK _ h.2
    case defer d =>
      exfalso
      have := congrArg (fun x : Act => x.defers.length) h.1
      rw [hd] at this
      simp [Act.put] at this
    case enter f args =>
      refine Calls.mono h fun e w'' he => ?_
      cases e with
      | returned u => rw [key aa u rfl he.1]; exact hK _ he.2
      | panicked c => exact he.elim
      | outgrown => obtain ⟨_, _, hf⟩ := he; exact hf.elim
    case row row args => exact Rows.mono h fun u w'' he => by rw [key aa u rfl he.1]; exact hK _ he.2
  | halt x w' =>
    cases x <;> simp only [Oper.upon] at h ⊢

/-- What an operation must do in the frame that stands behind the region. -/
def Does (P : Program) (ops : Array Oper) (aa : Act) (R : World → Prop) (o : Oper) : Prop :=
  (Region.wanted o (yielded ops aa.tmps) = true ∧ ∀ w, R w → o.wp P aa w (fun a' w' => a' = aa ∧ R w') (fun _ _ _ => False)) ∨
  (Region.wanted o (yielded ops aa.tmps) = false ∧ ∀ t, o.dst = some t → aa.tmps.getD t undef = undef)

def Iv (ops : Array Oper) (aa : Act) (R : World → Prop) (listed : Array Bool) (a : Act) (w : World) : Prop :=
  listed.size = ops.size ∧ a.defers = aa.defers ∧ a.tmps.size = aa.tmps.size ∧
  (∀ t, (∀ j, dstAt ops j = some t → listed.getD j false = true) → a.tmps.getD t undef = aa.tmps.getD t undef) ∧ R w

section
variable {P : Program} {ops : Array Oper} {Q : Exit → Act → World → Prop} {aa : Act} {R : World → Prop}
theorem Iv.put {listed : Array Bool} {a : Act} {w w' : World} {i : Nat} {o : Oper} {t : Tmp} (h : Iv ops aa R listed a w) (ho : ops[i]? = some o) (hd : o.dst = some t) (ht : t < aa.tmps.size) (hdis : ∀ j, j < ops.size → j ≠ i → dstAt ops j ≠ some t) (hR : R w') :
    Iv ops aa R (listed.setIfInBounds i true) (a.put o.dst (aa.tmps.getD t undef)) w' := by
  obtain ⟨h1, h2, h3, h4, h5⟩ := h
  rw [hd]
  refine ⟨by simpa using h1, h2, by simpa [Act.put] using h3, fun u hu => ?_, hR⟩
  by_cases e : u = t
  · subst e
    simp only [Act.put]
    rw [Array.getD_eq_getD_getElem?, Array.getElem?_setIfInBounds_self_of_lt (by rw [h3]; exact ht)]
    rfl
  · simp only [Act.put]
    rw [Array.getD_eq_getD_getElem?, Array.getElem?_setIfInBounds_ne (fun x => e x.symm), ← Array.getD_eq_getD_getElem?]
    refine h4 u (fun j hj => ?_)
    have hji : i ≠ j := by
      intro x
      subst x
      unfold dstAt at hj
      rw [ho, Option.bind_some, hd] at hj
      exact e (Option.some.inj hj).symm
    exact set_other hji (hu j hj)

theorem wpAny_vals (hv : valsB ops aa.tmps.size = true) (hdo : ∀ (i : Nat) (o : Oper), ops[i]? = some o → Does P ops aa R o) (fin : ∀ w, R w → Q .normal aa w) :
    ∀ (fuel : Nat) (listed : Array Bool) (a : Act) (w : World), open_ listed ≤ fuel → Iv ops aa R listed a w → wpAny P .any ops Q fuel listed a w := by
  have last : ∀ (listed : Array Bool) (a : Act) (w : World), Iv ops aa R listed a w → Region.ready .any ops listed = [] → Q .normal a w := by
    intro listed a w h hr
    obtain ⟨h1, h2, h3, h4, h5⟩ := h
    have hall := all_listedA (valsB_back hv) h1 hr
    have e : a = aa := by
      obtain ⟨at_, ad⟩ := a
      obtain ⟨bt, bd⟩ := aa
      simp only at h2 h3 h4
      subst h2
      congr 1
      apply Array.ext h3
      intro i hi1 hi2
      have := h4 i (fun j hj => hall j (by
        rcases Nat.lt_or_ge j ops.size with h | h
        · exact h
        · unfold dstAt at hj; rw [Array.getElem?_eq_none h] at hj; cases hj))
      simpa [Array.getD_eq_getD_getElem?, hi1, hi2] using this
    rw [e]
    exact fin w h5
  have step : ∀ (listed : Array Bool) (a : Act) (w : World) (i : Nat), Iv ops aa R listed a w → i ∈ Region.ready .any ops listed →
      ∀ K : Act → World → Prop, (∀ a' w', Iv ops aa R (listed.setIfInBounds i true) a' w' → K a' w') → wpOp P ops Q i K a w := by
    intro listed a w i h hi K hK
    obtain ⟨h0, o, ho, hd⟩ := mem_ready.1 hi
    have hb := valsB_at hv ho
    obtain ⟨t, ht1, ht2, ht3⟩ := opB_dst hb
    have look : ∀ u ∈ o.looksAt ops, a.tmps.getD u undef = aa.tmps.getD u undef := fun u hu => h.2.2.2.1 u (fun j hj => by
      obtain ⟨e, he, hbi, hon⟩ := opB_looks hb hu hj
      rw [← hon]
      exact hd e he hbi)
    have hop : execOp a.eval o = execOp aa.eval o := execOp_congr o (opB_sel hb) fun x hx => by
      cases x with
      | tmp u => exact look u (List.mem_append_left _ (List.mem_filterMap.2 ⟨.tmp u, by simpa using hx, rfl⟩))
      | _ => rfl
    have hw : Region.wanted o (yielded ops a.tmps) = Region.wanted o (yielded ops aa.tmps) := by
      unfold Region.wanted
      cases hg : o.guard with
      | none => rfl
      | some gw =>
        obtain ⟨g, want⟩ := gw
        have hy : yielded ops a.tmps g = yielded ops aa.tmps g := by
          unfold yielded
          cases hdt : (ops[g]?).bind (·.dst) with
          | none => rfl
          | some u =>
            have hu := look u (by simp [Oper.looksAt, hg, hdt])
            have e : a.tmps[u]? = aa.tmps[u]? := by
              have h3 : a.tmps.size = aa.tmps.size := h.2.2.1
              rcases Nat.lt_or_ge u a.tmps.size with hlt | hge
              · have hlt2 : u < aa.tmps.size := by rw [← h3]; exact hlt
                rw [Array.getElem?_eq_getElem hlt, Array.getElem?_eq_getElem hlt2]
                congr 1
                simpa [Array.getD_eq_getD_getElem?, hlt, hlt2] using hu
              · rw [Array.getElem?_eq_none hge, Array.getElem?_eq_none (show aa.tmps.size ≤ u by rw [← h3]; exact hge)]
            simp only [Option.bind_some, e]
        simp only [hy]
    unfold wpOp
    simp only [ho]
    rw [hw]
    rcases hdo i o ho with ⟨h1, h2⟩ | ⟨h1, h2⟩
    · rw [if_pos h1]
      refine .inl ?_
      have h3 := h2 w h.2.2.2.2
      unfold Oper.wp at h3 ⊢
      rw [hop]
      exact upon_vals ht1 ht2 h3 fun w' hR => hK _ _ (h.put ho ht1 ht2 ht3 hR)
    · rw [if_neg (by rw [h1]; decide)]
      have := h.put ho ht1 ht2 ht3 h.2.2.2.2
      rw [h2 t ht1] at this
      exact hK _ _ this
  intro fuel
  induction fuel with
  | zero =>
    intro listed a w hf h
    have hr : Region.ready .any ops listed = [] := by
      rw [List.eq_nil_iff_forall_not_mem]
      intro j hj
      have h1 := (mem_ready.1 hj).1
      have := open_set listed j h1
      omega
    exact ⟨hr, last listed a w h hr⟩
  | succ fuel ih =>
    intro listed a w hf h
    refine ⟨fun hr => last listed a w h hr, fun i hi => ?_⟩
    have hs := open_set listed i (mem_ready.1 hi).1
    exact step listed a w i h hi _ fun a' w' h' => ih _ a' w' (by omega) h'

/-- The frame with values put. -/
def putD (a : Act) : List (Tmp × Value) → Act
  | [] => a
  | p :: r => putD (a.put (some p.1) p.2) r
def dstsB (ops : Array Oper) (D : List Tmp) : Bool := (List.range ops.size).map (fun i => (dstAt ops i).getD 0) == D && (List.range ops.size).all fun i => (dstAt ops i).isSome
theorem putD_frame : ∀ (D : List (Tmp × Value)) (a : Act), (∀ t, t ∉ D.map (·.1) → (putD a D).tmps.getD t undef = a.tmps.getD t undef) ∧ (putD a D).tmps.size = a.tmps.size ∧ (putD a D).defers = a.defers
  | [], a => ⟨fun _ _ => rfl, rfl, rfl⟩
  | p :: r, a => by
    obtain ⟨h1, h2, h3⟩ := putD_frame r (a.put (some p.1) p.2)
    refine ⟨fun t ht => ?_, h2.trans (by simp [Act.put]), h3⟩
    simp only [List.map_cons, List.mem_cons, not_or] at ht
    unfold putD
    rw [h1 t ht.2]
    simp only [Act.put]
    rw [Array.getD_eq_getD_getElem?, Array.getElem?_setIfInBounds_ne (fun e => ht.1 e.symm), ← Array.getD_eq_getD_getElem?]
theorem wp_region_vals {id : Nat} {a : Act} {w : World} (D : List (Tmp × Value)) (hL : aa = putD a D) (hm : P.follows .mixedOrders = true) (hv : valsB ops aa.tmps.size = true) (hD : dstsB ops (D.map (·.1)) = true)
    (hR : R { w with drawn := w.drawn + 1 }) (hdo : ∀ (i : Nat) (o : Oper), ops[i]? = some o → Does P ops aa R o) (fin : ∀ w, R w → Q .normal aa w) : (Code.region id ops true).wp P Q a w := by
  refine wp_region_any hm (wpAny_vals hv hdo fin ops.size _ a _ (by
    unfold open_
    refine Nat.le_trans (List.length_filter_le _ _) ?_
    simp) ?_)
  obtain ⟨f1, f2, f3⟩ := putD_frame D a
  rw [← hL] at f1 f2 f3
  refine ⟨by simp, f3.symm, f2.symm, fun t ht => (f1 t (fun hm => ?_)).symm, hR⟩
  simp only [dstsB, Bool.and_eq_true, beq_iff_eq, List.all_eq_true, List.mem_range] at hD
  rw [← hD.1] at hm
  obtain ⟨j, hj, e⟩ := List.mem_map.1 hm
  have hj2 := hD.2 j (List.mem_range.1 hj)
  obtain ⟨d, hd⟩ := Option.isSome_iff_exists.1 hj2
  rw [hd, Option.getD_some] at e
  subst e
  have := ht j hd
  rw [Array.getD_eq_getD_getElem?] at this
  simp [Array.getElem?_replicate] at this
  split at this <;> cases this
end
end Go.Proofs.YtnffgafofkknoaaDoor.part

/-! Draws -/
namespace Go.Proofs.YtnffgafofkknoaaDoor.draws
open Go.RowKit Go.Proofs.YtnffgafofkknoaaDoor.PFnMemPut Go.Proofs.YtnffgafofkknoaaDoorW.PrintWords Go.Proofs.YtnffgafofkknoaaDoorW.PrintLast Go.Proofs.YtnffgafofkknoaaDoorW.PrintMore
set_option linter.unusedVariables false
set_option linter.unusedSimpArgs false

/-! ### numbers -/
theorem w64 (n : Int) (h : -9223372036854775808 ≤ n ∧ n ≤ 9223372036854775807) : wrap64 n = n := by unfold wrap64; omega
theorem w16 (n : Int) : IntKind.i16.wrap n = (n + 32768) % 65536 - 32768 := by
  simp [IntKind.wrap, IntKind.bits, IntKind.signed]
  omega
theorem xor_pos (a b : Int) (ha : 0 ≤ a ∧ a < 2 ^ 40) (hb : 0 ≤ b ∧ b < 2 ^ 40) : 0 ≤ Go.bits .xor .i64 a b ∧ Go.bits .xor .i64 a b < 2 ^ 40 := by
  obtain ⟨x, rfl⟩ := Int.eq_ofNat_of_zero_le ha.1
  obtain ⟨y, rfl⟩ := Int.eq_ofNat_of_zero_le hb.1
  have hx : x < 2 ^ 40 := by omega
  have hy : y < 2 ^ 40 := by omega
  have h3 : x ^^^ y < 2 ^ 40 := Nat.xor_lt_two_pow hx hy
  have h1 : (BitVec.ofInt 64 (x : Int)).toNat = x := by
    rw [BitVec.ofInt_natCast, BitVec.toNat_ofNat]; exact Nat.mod_eq_of_lt (by omega)
  have h2 : (BitVec.ofInt 64 (y : Int)).toNat = y := by
    rw [BitVec.ofInt_natCast, BitVec.toNat_ofNat]; exact Nat.mod_eq_of_lt (by omega)
  have e : Go.bits .xor .i64 (x : Int) (y : Int) = ((x ^^^ y : Nat) : Int) := by
    show IntKind.i64.wrap ((BitVec.ofInt 64 (x : Int) ^^^ BitVec.ofInt 64 (y : Int)).toNat : Int) = _
    rw [BitVec.toNat_xor, h1, h2, IntKind.wrap_i64]
    omega
  rw [e]; omega

theorem rd_byte (l : List Int) (h : ∀ x ∈ l, (Lit.int .u8 x).wf = true) (i : Int) : 0 ≤ rd l i ∧ rd l i ≤ 255 := by
  unfold rd
  rcases Nat.lt_or_ge i.toNat l.length with hi | hi
  · have := h (l[i.toNat]) (List.getElem_mem hi)
    rw [List.getD_eq_getElem?_getD, List.getElem?_eq_getElem hi, Option.getD_some]
    simp [Lit.wf, IntKind.min, IntKind.max, IntKind.signed, IntKind.bits] at this
    omega
  · rw [List.getD_eq_getElem?_getD, List.getElem?_eq_none hi, Option.getD_none]; omega

theorem tm (a b : Int) (ha : 0 ≤ a) (hb : 0 < b) : 0 ≤ Int.tmod a b ∧ Int.tmod a b < b := by
  rw [Int.tmod_eq_emod_of_nonneg ha]
  exact ⟨Int.emod_nonneg _ (by omega), Int.emod_lt_of_pos _ hb⟩
theorem td (a b : Int) (ha : 0 ≤ a) (hb : 0 < b) : 0 ≤ Int.tdiv a b ∧ Int.tdiv a b ≤ a := by
  rw [Int.tdiv_eq_ediv_of_nonneg ha]
  exact ⟨Int.ediv_nonneg ha (by omega), Int.ediv_le_self _ ha⟩

theorem pick (k : Nat) (l : List Int) (p n : Int) (hl : l.length ≤ 1048576) (h : ∀ x ∈ l, (Lit.int .u8 x).wf = true) (hp : 0 ≤ p ∧ p < 1000000) (hn : 1 ≤ n) :
    ∃ r, spec_l26Rd_pick.f (k + 1) l p n = some (r, p + 1) ∧ 0 ≤ r ∧ r < n := by
  have e1 : wrap64 (p + 1) = p + 1 := w64 _ (by omega)
  have e2 : wrap64 (p + 1 - 1) = p := by rw [w64 _ (by omega)]; omega
  unfold spec_l26Rd_pick.f
  rw [if_neg (by omega), e1]
  unfold spec_l26Rd_pick.j0
  simp only [e2]
  split
  · exact ⟨0, rfl, by omega, by omega⟩
  next h0 =>
  have hL : (0 : Int) < l.length := by
    rcases Nat.eq_zero_or_pos l.length with h1 | h1
    · simp [h1] at h0
    · omega
  split
  · rw [if_pos (by omega), if_neg (by omega)]
    have hb := rd_byte l h p
    refine ⟨_, rfl, ?_⟩
    rw [w64 _ (by omega)]
    exact tm _ _ (by omega) (by omega)
  · have hk := tm p l.length (by omega) hL
    have e7 : wrap64 (wrap64 (p * 7) + 3) = p * 7 + 3 := by rw [w64 (p * 7) (by omega), w64 _ (by omega)]
    have hk7 := tm (p * 7 + 3) l.length (by omega) hL
    have ha := rd_byte l h (Int.tmod p l.length)
    have hb := rd_byte l h (Int.tmod (p * 7 + 3) l.length)
    have hd := td p l.length (by omega) hL
    rw [if_neg (by omega), if_pos hk.1, if_pos hk.2, e7, if_pos hk7.1, if_pos hk7.2, if_neg (by omega)]
    generalize rd l (Int.tmod p l.length) = a at ha
    generalize rd l (Int.tmod (p * 7 + 3) l.length) = b at hb
    generalize Int.tdiv p l.length = d at hd
    have ex : wrap64 ((wrap64 ((wrap64 ((wrap64 ((wrap64 a) * 131)) + (wrap64 ((wrap64 b) * 1117)))) + (wrap64 (p * 29)))) + (wrap64 ((wrap64 d) * 53))) = a * 131 + b * 1117 + p * 29 + d * 53 := by
      rw [w64 a (by omega), w64 b (by omega), w64 d (by omega), w64 (a * 131) (by omega), w64 (b * 1117) (by omega), w64 (p * 29) (by omega), w64 (d * 53) (by omega), w64 (a * 131 + b * 1117) (by omega),
        w64 (a * 131 + b * 1117 + p * 29) (by omega), w64 _ (by omega)]
    rw [ex]
    have hx : 0 ≤ a * 131 + b * 1117 + p * 29 + d * 53 ∧ a * 131 + b * 1117 + p * 29 + d * 53 < 2 ^ 40 := by omega
    generalize a * 131 + b * 1117 + p * 29 + d * 53 = x at hx
    have h64 := td x 64 hx.1 (by omega)
    rw [w64 (Int.tdiv x 64) (by omega)]
    have hz := xor_pos x (Int.tdiv x 64) hx (by omega)
    exact ⟨_, rfl, tm _ _ hz.1 (by omega)⟩

theorem pick0 (k : Nat) (l : List Int) (p n : Int) (hl : l.length ≤ 1048576) (h : ∀ x ∈ l, (Lit.int .u8 x).wf = true) (hp : 0 ≤ p ∧ p < 1000000) :
    ∃ r, spec_l26Rd_pick.f (k + 1) l p n = some (r, p + 1) := by
  by_cases hn : 1 ≤ n
  · obtain ⟨r, h1, _⟩ := pick k l p n hl h hp hn
    exact ⟨r, h1⟩
  · have e1 : wrap64 (p + 1) = p + 1 := w64 _ (by omega)
    refine ⟨0, ?_⟩
    unfold spec_l26Rd_pick.f
    rw [if_pos (by omega), e1]
    unfold spec_l26Rd_pick.j0
    simp only [if_true]
theorem num (k : Nat) (l : List Int) (p : Int) (xs : List Int) (hl : l.length ≤ 1048576) (h : ∀ x ∈ l, (Lit.int .u8 x).wf = true) (hp : 0 ≤ p ∧ p < 1000000) (hn : 1 ≤ xs.length) :
    ∃ r, spec_l26Rd_num.f (k + 1) l p xs = some (r, p + 1) ∧ r ∈ xs := by
  obtain ⟨r, h1, h2, h3⟩ := pick k l p xs.length hl h hp (by omega)
  refine ⟨rd xs r, ?_, ?_⟩
  · unfold spec_l26Rd_num.f
    rw [h1, Option.bind_some, if_pos h2, if_pos h3]
  · unfold rd
    rw [List.getD_eq_getElem?_getD, List.getElem?_eq_getElem (by omega), Option.getD_some]
    exact List.getElem_mem _

/-! ### the reader -/
/-- Where the reader's bytes lie; since when all but the reader stays as it was. -/
structure Base where
  w0 : World
  wf : World
/-- A reader at place g that has read at most n bytes. -/
def Rd (B : Base) (w : World) (g : Nat) (n : Int) : Prop := ∃ l p, IsS108 B.w0 w g l p ∧ l.length ≤ 1048576 ∧ (∀ x ∈ l, (Lit.int .u8 x).wf = true) ∧ 0 ≤ p ∧ p ≤ n ∧ Below B.w0.heap.size B.w0 w ∧ KeepBut B.wf w g none
theorem Rd.below {B : Base} {w w1 : World} {g : Nat} {n : Int} (h : Rd B w g n) (hb : Below w.heap.size w w1) : Rd B w1 g n := by
  obtain ⟨l, p, h1, h2, h3, h4, h5, h6, h7⟩ := h
  exact ⟨l, p, h1.below hb, h2, h3, h4, h5, below_step h6 hb, h7.trans (KeepBut.of_below hb g none) (.inl rfl)⟩
theorem Rd.is {B : Base} {w : World} {g : Nat} {n : Int} (h : Rd B w g n) : Below B.w0.heap.size B.w0 w := by
  obtain ⟨_, _, _, _, _, _, _, h, _⟩ := h; exact h
theorem Rd.keep {B : Base} {w : World} {g : Nat} {n : Int} (h : Rd B w g n) : KeepBut B.wf w g none := by
  obtain ⟨_, _, _, _, _, _, _, _, h⟩ := h; exact h
theorem Rd.drew {B : Base} {w : World} {g : Nat} {n : Int} (h : Rd B w g n) : Rd B w.drew g n := h.below (flo.below_drew w)
theorem Rd.lt {B : Base} {w : World} {g : Nat} {n : Int} (h : Rd B w g n) : g < w.heap.size := by
  obtain ⟨_, _, h, _⟩ := h; exact h.lt
theorem Rd.le {B : Base} {w : World} {g : Nat} {n m : Int} (h : Rd B w g n) (hm : n ≤ m) : Rd B w g m := by
  obtain ⟨l, p, h1, h2, h3, h4, h5, h6, h7⟩ := h
  exact ⟨l, p, h1, h2, h3, h4, by omega, h6, h7⟩
theorem Rd.now {B : Base} {w : World} {g : Nat} {n : Int} (h : Rd B w g n) : Rd ⟨B.w0, w⟩ w g n := by
  obtain ⟨l, p, h1, h2, h3, h4, h5, h6, h7⟩ := h
  exact ⟨l, p, h1, h2, h3, h4, h5, h6, KeepBut.refl w g none⟩
theorem Rd.since {B : Base} {w w1 : World} {g : Nat} {n m : Int} (h : Rd B w g n) (k : Rd ⟨B.w0, w⟩ w1 g m) : Rd B w1 g m := by
  obtain ⟨l, p, h1, h2, h3, h4, h5, h6, h7⟩ := k
  exact ⟨l, p, h1, h2, h3, h4, h5, h6, h.keep.trans h7 (.inl rfl)⟩

theorem pick_w {B : Base} {w : World} {g : Nat} {n : Int} (h : Rd B w g n) (hn : n < 100000) (a : Int) (ha : 1 ≤ a) :
    Calls Tryd.prog 55 #[.pointer (some ⟨g, 0, none⟩), .int .i64 a] w fun e w' => ∃ r, e = .returned (.int .i64 r) ∧ 0 ≤ r ∧ r < a ∧ Rd B w' g (n + 1) := by
  obtain ⟨l, p, h1, h2, h3, h4, h5, h6, h7⟩ := h
  obtain ⟨r, e, g1, g2⟩ := pick 0 l p a h2 h3 (by omega) ha
  refine (spec_l26Rd_pick.calls 1 g l p a r (p + 1) B.w0 w h1 h6 e).mono ?_
  rintro e w' ⟨rfl, i1, i2, i3⟩
  exact ⟨r, rfl, g1, g2, l, p + 1, i1, h2, h3, by omega, by omega, i2, h7.trans i3 (.inl rfl)⟩

theorem pick_any {B : Base} {w : World} {g : Nat} {n : Int} (h : Rd B w g n) (hn : n < 100000) (a : Int) :
    Calls Tryd.prog 55 #[.pointer (some ⟨g, 0, none⟩), .int .i64 a] w fun e w' => ∃ r, e = .returned (.int .i64 r) ∧ Rd B w' g (n + 1) := by
  obtain ⟨l, p, h1, h2, h3, h4, h5, h6, h7⟩ := h
  obtain ⟨r, e⟩ := pick0 0 l p a h2 h3 (by omega)
  refine (spec_l26Rd_pick.calls 1 g l p a r (p + 1) B.w0 w h1 h6 e).mono ?_
  rintro e w' ⟨rfl, i1, i2, i3⟩
  exact ⟨r, rfl, l, p + 1, i1, h2, h3, by omega, by omega, i2, h7.trans i3 (.inl rfl)⟩
theorem num_w {B : Base} {w : World} {g : Nat} {n : Int} (h : Rd B w g n) (hn : n < 100000) (b : Nat) (xs : List Int) (cs : Array Value) (t : TypeId) (fr : Nat × Nat) (hx : 1 ≤ xs.length) (hm : xs.length ≤ 1000) (hb : w.heap[b]? = some (.cells cs t fr)) (hc : ∀ j, j < xs.length → cs[j]? = some (.int .i64 (xs.getD j 0))) (hg : b ≠ g) :
    Calls Tryd.prog 73 #[.pointer (some ⟨g, 0, none⟩), .slice (some ⟨b, 0, none⟩) xs.length xs.length] w fun e w' => ∃ r, e = .returned (.int .i64 r) ∧ r ∈ xs ∧ Rd B w' g (n + 1) := by
  obtain ⟨l, p, h1, h2, h3, h4, h5, h6, h7⟩ := h
  obtain ⟨r, e, hr⟩ := num 0 l p xs h2 h3 (by omega) hx
  have hrd : ReadsInt w .i64 (some ⟨b, 0, none⟩) xs.length xs := ⟨rfl, by omega, fun _ => ⟨_, rfl, fun j hj => by
    have := kit.box_cell hb j (hc j hj)
    cases j with
    | zero => simpa [Addr.add] using this
    | succ j => simpa [Addr.add] using this⟩⟩
  refine (spec_l26Rd_num.calls 1 g l p (some ⟨b, 0, none⟩) xs.length xs r (p + 1) B.w0 w h1 h6 (Kd.C_of_reads (d := (0 : Int)) (h1 := fun _ => rfl) hrd) (Nat.le_refl _) (fun ad e _ => by cases e; exact hg) e).mono ?_
  rintro e w' ⟨rfl, i1, i2, i3⟩
  exact ⟨r, rfl, hr, l, p + 1, i1, h2, h3, by omega, by omega, i2, h7.trans i3 (.inl rfl)⟩

theorem open_w {W w : World} {A : Option Addr} {l : List Int} {c : Nat} (hb : Below W.heap.size W w) (hr : ReadsInt W .u8 A l.length l) (hc : l.length ≤ c) (hl : l.length ≤ 1048576) (hw : ∀ x ∈ l, (Lit.int .u8 x).wf = true) :
    Calls Tryd.prog 54 #[.slice A l.length c] w fun e w' => ∃ g, e = .returned (.pointer (some ⟨g, 0, none⟩)) ∧ Rd ⟨W, W⟩ w' g 0 ∧ Below w.heap.size w w' := by
  obtain ⟨m, e0, hm, hwm⟩ : ∃ m : List Int, spec_l26Open.f l = some (m, 0) ∧ m.length ≤ 1048576 ∧ ∀ x ∈ m, (Lit.int .u8 x).wf = true := by
    unfold spec_l26Open.f
    split
    · rw [if_pos (by omega)]
      exact ⟨_, rfl, by rw [List.length_take]; omega, fun x hx => hw x (List.mem_of_mem_take hx)⟩
    · exact ⟨_, rfl, hl, hw⟩
  refine (spec_l26Open.calls A c l m 0 W w hb (Kd.C_of_reads (d := (0 : Int)) (h1 := fun _ => rfl) hr) hc e0).mono ?_
  rintro e w' ⟨g, rfl, h1, h2, h3⟩
  exact ⟨g, rfl, ⟨m, 0, h1, hm, hwm, by omega, by omega, h2, KeepBut.of_below h2 g none⟩, h3⟩

theorem word_u {B : Base} {w : World} {g : Nat} {n : Int} (h : Rd B w g n) (hn : n < 99000) :
    Calls Tryd.prog 74 #[.pointer (some ⟨g, 0, none⟩)] w fun e w' => ∃ r, e = .returned (.int .u64 r) ∧ (IntKind.u64.min ≤ r ∧ r ≤ IntKind.u64.max) ∧ Rd B w' g (n + 8) := by
  have H := Lib.hid h
  clear h
  go_enter Tryd.func74, Tryd.ntmps74
  go_wp2
  go_loopw [3, 4] (fun x i wr => ∃ (c : Nat) (q : Int), c ≤ 8 ∧ i = .int .i64 c ∧ x = .int .u64 q ∧ Hid (IntKind.u64.min ≤ q ∧ q ≤ IntKind.u64.max) ∧ Hid (Rd B wr g (n + c))) (fun _ i _ => 8 - (intOf i).toNat)
  case atStart => exact ⟨0, 0, by omega, rfl, rfl, Lib.hid (by decide), Lib.hid (H.out.le (by omega))⟩
  case round =>
    obtain ⟨c, q, hc, rfl, rfl, HQ, HR⟩ := hrel
    by_cases hlt : c < 8
    · go_wp2_with fail
      refine (pick_w HR.out (by omega) 256 (by decide)).mono ?_
      rintro e w2 ⟨r, rfl, _, _, h2⟩
      have H2 := Lib.hid (show Rd B w2 g (n + ((c + 1 : Nat) : Int)) from h2.le (by omega))
      clear h2
      go_wp2_with fail
      go_roundw
      case rel => exact ⟨c + 1, _, by omega, by go_num, rfl, Lib.hid (wrap_within .u64 _), H2⟩
      case measure => simp [intOf]; omega
    · obtain rfl : c = 8 := by omega
      go_wp2_with fail
      go_ret
      exact ⟨q, rfl, HQ.out, HR.out⟩
theorem word_w {B : Base} {w : World} {g : Nat} {n : Int} (h : Rd B w g n) (hn : n < 99000) :
    Calls Tryd.prog 74 #[.pointer (some ⟨g, 0, none⟩)] w fun e w' => ∃ r, e = .returned (.int .u64 r) ∧ Rd B w' g (n + 8) :=
  (word_u h hn).mono fun e w' ⟨r, a, _, b⟩ => ⟨r, a, b⟩

theorem whole_w {B : Base} {w : World} {g : Nat} {n : Int} (h : Rd B w g n) (hn : n < 90000) :
    Calls Tryd.prog 60 #[.pointer (some ⟨g, 0, none⟩)] w fun e w' => ∃ r, e = .returned (.int .i16 r) ∧ (-32768 ≤ r ∧ r ≤ 32767) ∧ Rd B w' g (n + 2) := by
  have H := Lib.hid h
  clear h
  go_enter Tryd.func60, Tryd.ntmps60
  go_wp2_with fail
  refine (pick_w H.out (by omega) 4 (by decide)).mono ?_
  rintro e w1 ⟨r, rfl, g1, g2, h1⟩
  have H1 := Lib.hid h1
  have hlt := h1.lt
  clear h1
  by_cases hr : r = 0
  · subst hr
    go_wp2_with fail
    refine (num_w (xs := [32767, -32768, 0, -1, 1, 32766, -32767, 181, 182, -182]) (H1.out.below ((Below.refl _ _).alloc (Nat.le_refl _) _)) (by omega) _ _ _ _ (by decide) (by decide) (kit.box_new _ _ _) (by intro j hj; match j, hj with | 0, _ => rfl | 1, _ => rfl | 2, _ => rfl | 3, _ => rfl | 4, _ => rfl | 5, _ => rfl | 6, _ => rfl | 7, _ => rfl | 8, _ => rfl | 9, _ => rfl) (by omega)).mono ?_
    rintro e w2 ⟨q2, rfl, _, h2⟩
    have H2 := Lib.hid h2
    clear h2
    go_wp2_with fail
    go_ret
    exact ⟨_, rfl, wrap_within .i16 _, H2.out.le (by omega)⟩
  · have hb : (r == 0) = false := beq_eq_false_iff_ne.2 hr
    clear hr g1 g2
    go_wp2_with fail
    refine (pick_w H1.out (by omega) 65536 (by decide)).mono ?_
    rintro e w2 ⟨q2, rfl, a2, b2, h2⟩
    have H2 := Lib.hid (show Rd B w2 g (n + 2) from h2.le (by omega))
    clear h2
    go_wp2_with fail
    go_ret
    exact ⟨_, rfl, by omega, H2.out⟩

/-! ### floats -/
theorem arith_any (o : BinOp) (ho : o = .add ∨ o = .sub ∨ o = .mul ∨ o = .quo) (a b : Nat) :
    (∃ r, ∀ w, (binOp o 33 (.float .f64 a) (.float .f64 b)).run Tryd.prog w = .ok (.float .f64 r) w) ∨
    ∀ w, (binOp o 33 (.float .f64 a) (.float .f64 b)).run Tryd.prog w = .ok (.float .f64 (flo.nanAt a b w)) w.drew := by
  cases h : floatBits o .f64 a b with
  | some r => exact .inl ⟨r, fun w => run_float_arith (P := Tryd.prog) w o 33 .f64 _ _ _ h⟩
  | none => exact .inr (flo.run_nan (P := Tryd.prog) o 33 a b ho h)

/-- What an operation gives, and the world after it. -/
def arV (o : BinOp) (a b : Nat) (w : World) : Nat := match floatBits o .f64 a b with | some r => r | none => flo.nanAt a b w
def arW (o : BinOp) (a b : Nat) (w : World) : World := match floatBits o .f64 a b with | some _ => w | none => w.drew
theorem ar_run (o : BinOp) (ho : o = .add ∨ o = .sub ∨ o = .mul ∨ o = .quo) (a b : Nat) (w : World) :
    (binOp o 33 (.float .f64 a) (.float .f64 b)).run Tryd.prog w = .ok (.float .f64 (arV o a b w)) (arW o a b w) := by
  unfold arV arW
  cases h : floatBits o .f64 a b with
  | some r => exact run_float_arith (P := Tryd.prog) w o 33 .f64 _ _ _ h
  | none => exact flo.run_nan (P := Tryd.prog) o 33 a b ho h w
theorem Rd.ar {w0 : Base} {w : World} {g : Nat} {n : Int} (h : Rd w0 w g n) (o : BinOp) (a b : Nat) : Rd w0 (arW o a b w) g n := by
  unfold arW
  split
  · exact h
  · exact h.drew

def Real (w0 : Base) (g : Nat) (n : Int) (e : Ending) (w' : World) : Prop := ∃ x, e = .returned (.float .f64 x) ∧ Rd w0 w' g n
end Go.Proofs.YtnffgafofkknoaaDoor.draws

/-! Real -/
namespace Go.Proofs.YtnffgafofkknoaaDoor.draws
open Go.RowKit Go.Proofs.YtnffgafofkknoaaDoorW.PrintWords
set_option linter.unusedVariables false
set_option linter.unusedSimpArgs false

theorem l3Real_w {w0 : Base} {w : World} {g : Nat} {n : Int} (hr : Rd w0 w g n) (hn : n < 90000) :
    Calls Tryd.prog 61 #[.pointer (some ⟨g, 0, none⟩)] w (Real w0 g (n + 12)) := by
  have A := Lib.hid arith_any
  have n3 := flo.run_neg
  have hn1 : n < 100000 := by omega
  have Hn := Lib.hid hn
  clear hn
  have Hr := Lib.hid hr
  clear hr
  go_enter Tryd.func61, Tryd.ntmps61
  go_wp2_with fail
  refine (pick_w Hr.out hn1 16 (by decide)).mono ?_
  rintro e w1 ⟨r, rfl, g1, g2, h1⟩
  have H1 := Lib.hid h1
  have hlt := h1.lt
  clear h1 Hr
  have hcase : r = 0 ∨ r = 1 ∨ r = 2 ∨ r = 3 ∨ r = 4 ∨ r = 5 ∨ r = 6 ∨ r = 7 ∨ r = 8 ∨ r = 9 ∨ r = 10 ∨ r = 11 ∨ 12 ≤ r := by omega
  clear g1 g2
  rcases hcase with rfl | rfl | rfl | rfl | rfl | rfl | rfl | rfl | rfl | rfl | rfl | rfl | g12
  · go_wp2_with fail
    refine (flo.l3Nan_any _).mono ?_
    rintro e w2 ⟨x, rfl, _, hb⟩
    go_wp2_with fail
    go_ret
    exact ⟨_, rfl, (H1.out.below hb).le (by omega)⟩
  · go_wp2_with fail
    refine (flo.l3Inf_any _).mono ?_
    rintro e w2 ⟨rfl, rfl⟩
    go_wp2_with fail
    go_ret
    exact ⟨_, rfl, H1.out.le (by omega)⟩
  · go_wp2_with fail
    refine (flo.l3Inf_any _).mono ?_
    rintro e w2 ⟨rfl, rfl⟩
    go_wp2_with fail
    go_ret
    exact ⟨_, rfl, H1.out.le (by omega)⟩
  · go_wp2_with fail
    go_ret
    exact ⟨_, rfl, H1.out.le (by omega)⟩
  · go_wp2_with fail
    go_ret
    exact ⟨_, rfl, H1.out.le (by omega)⟩
  · go_wp2_with fail
    refine (pick_w H1.out (by have := Hn.out; omega) 40 (by decide)).mono ?_
    rintro e w2 ⟨q2, rfl, a2, b2, h2⟩
    have H2 := Lib.hid h2
    clear h2
    rcases A.out .mul (by decide) 1 (floatOfInt .f64 (1 + q2)) with ⟨y, rq⟩ | rq
    · go_wp2_with fail
      go_ret
      exact ⟨_, rfl, H2.out.le (by omega)⟩
    · go_wp2_with fail
      go_ret
      exact ⟨_, rfl, H2.out.drew.le (by omega)⟩
  · go_wp2_with fail
    go_ret
    exact ⟨_, rfl, H1.out.le (by omega)⟩
  · go_wp2_with fail
    go_ret
    exact ⟨_, rfl, H1.out.le (by omega)⟩
  · go_wp2_with fail
    refine (pick_w H1.out (by have := Hn.out; omega) 9 (by decide)).mono ?_
    rintro e w2 ⟨q2, rfl, a2, b2, h2⟩
    have H2 := Lib.hid h2
    clear h2
    rcases A.out .mul (by decide) 1 (floatOfInt .f64 (q2 - 4)) with ⟨y, rq⟩ | rq
    · rcases A.out .add (by decide) 4503599627370496 y with ⟨z, rz⟩ | rz
      · go_wp2_with fail
        go_ret
        exact ⟨_, rfl, H2.out.le (by omega)⟩
      · go_wp2_with fail
        go_ret
        exact ⟨_, rfl, H2.out.drew.le (by omega)⟩
    · rcases A.out .add (by decide) 4503599627370496 (flo.nanAt 1 (floatOfInt .f64 (q2 - 4)) w2) with ⟨z, rz⟩ | rz
      · go_wp2_with fail
        go_ret
        exact ⟨_, rfl, H2.out.drew.le (by omega)⟩
      · go_wp2_with fail
        go_ret
        exact ⟨_, rfl, H2.out.drew.drew.le (by omega)⟩
  · have rm := ar_run .mul (by decide)
    have rq := ar_run .quo (by decide)
    go_wp2_with fail
    refine (word_w H1.out (by have := Hn.out; omega)).mono ?_
    rintro e w2 ⟨q2, rfl, h2⟩
    have H2 := Lib.hid h2
    clear h2
    go_wp2_with fail
    refine (pick_w H2.out (by have := Hn.out; omega) 200 (by decide)).mono ?_
    rintro e w3 ⟨q3, rfl, a3, b3, h3⟩
    have H3 := Lib.hid h3
    clear h3
    go_wp2_with fail
    refine (pick_w (H3.out.ar _ _ _) (by have := Hn.out; omega) 100 (by decide)).mono ?_
    rintro e w4 ⟨q4, rfl, a4, b4, h4⟩
    have H4 := Lib.hid h4
    clear h4
    obtain ⟨k, rfl⟩ := Int.eq_ofNat_of_zero_le a4
    go_wp2_with fail
    go_loopg [4, 5] k (fun kq v4 v5 w' => ∃ (x : Nat), v4 = .float .f64 x ∧ v5 = .int .i64 (kq : Int) ∧ Hid (kq ≤ k) ∧ Hid (Rd w0 w' g (n + 1 + 8 + 1 + 1)))
    case atStart => exact ⟨_, rfl, rfl, Lib.hid (Nat.le_refl _), H4⟩
    case round =>
      obtain ⟨x, rfl, rfl, hk, HR⟩ := hrel
      cases gk with
      | zero =>
        go_wp2_with fail
        go_ret
        exact ⟨_, rfl, HR.out.le (by omega)⟩
      | succ k1 =>
        go_wp2_with fail
        go_roundg k1
        case measure => have := hk.out; omega
        case rel => exact ⟨_, rfl, by have := hk.out; rw [w64 _ (by omega)], Lib.hid (by have := hk.out; omega), Lib.hid (HR.out.ar _ _ _)⟩
  · have rm := ar_run .mul (by decide)
    have ra := ar_run .add (by decide)
    go_wp2_with fail
    refine (num_w (xs := [32767, 32768, -32768, -32769, 32766]) (H1.out.below ((Below.refl _ _).alloc (Nat.le_refl _) _)) (by have := Hn.out; omega) _ _ _ _ (by decide) (by decide) (kit.box_new _ _ _) (by intro j hj; match j, hj with | 0, _ => rfl | 1, _ => rfl | 2, _ => rfl | 3, _ => rfl | 4, _ => rfl) (by omega)).mono ?_
    rintro e w2 ⟨q2, rfl, _, h2⟩
    have H2 := Lib.hid h2
    clear h2
    go_wp2_with fail
    refine (pick_w H2.out (by have := Hn.out; omega) 5 (by decide)).mono ?_
    rintro e w3 ⟨q3, rfl, a3, b3, h3⟩
    have H3 := Lib.hid h3
    clear h3
    go_wp2_with fail
    go_ret
    exact ⟨_, rfl, ((H3.out.ar _ _ _).ar _ _ _).le (by omega)⟩
  · go_wp2_with fail
    refine (word_w H1.out (by have := Hn.out; omega)).mono ?_
    rintro e w2 ⟨q2, rfl, h2⟩
    have H2 := Lib.hid h2
    clear h2
    go_wp2_with fail
    go_ret
    exact ⟨_, rfl, H2.out.le (by omega)⟩
  · have c0 : (r == 0) = false := beq_eq_false_iff_ne.2 (by omega)
    have c1 : (r == 1) = false := beq_eq_false_iff_ne.2 (by omega)
    have c2 : (r == 2) = false := beq_eq_false_iff_ne.2 (by omega)
    have c3 : (r == 3) = false := beq_eq_false_iff_ne.2 (by omega)
    have c4 : (r == 4) = false := beq_eq_false_iff_ne.2 (by omega)
    have c5 : (r == 5) = false := beq_eq_false_iff_ne.2 (by omega)
    have c6 : (r == 6) = false := beq_eq_false_iff_ne.2 (by omega)
    have c7 : (r == 7) = false := beq_eq_false_iff_ne.2 (by omega)
    have c8 : (r == 8) = false := beq_eq_false_iff_ne.2 (by omega)
    have c9 : (r == 9) = false := beq_eq_false_iff_ne.2 (by omega)
    have c10 : (r == 10) = false := beq_eq_false_iff_ne.2 (by omega)
    have c11 : (r == 11) = false := beq_eq_false_iff_ne.2 (by omega)
    clear g12
    go_wp2_with fail
    refine (pick_w H1.out (by have := Hn.out; omega) 41 (by decide)).mono ?_
    rintro e w2 ⟨q2, rfl, a2, b2, h2⟩
    have H2 := Lib.hid h2
    clear h2
    rcases A.out .mul (by decide) (floatOfInt .f64 (q2 - 20)) 4598175219545276416 with ⟨y, rq⟩ | rq
    · go_wp2_with fail
      go_ret
      exact ⟨_, rfl, H2.out.le (by omega)⟩
    · go_wp2_with fail
      go_ret
      exact ⟨_, rfl, H2.out.drew.le (by omega)⟩
end Go.Proofs.YtnffgafofkknoaaDoor.draws
