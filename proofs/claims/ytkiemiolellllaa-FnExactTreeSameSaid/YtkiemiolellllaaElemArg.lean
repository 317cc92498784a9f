/-
  What a row knows of an argument that is a contact or a coil: its number, and its operands' cells.
  Conditions: the type is a struct of a whole number and a slice of structs of three whole numbers.
-/
import Derived.Test.YtkiemiolellllaaKit
import Derived.Deep.Slices
import Derived.Deep.Fields
import Derived.ChangeSame
import Derived.Lib.SmallJoins
namespace Go.Proofs.Ytkiemiolellllaa.kit
open Go.ChangeShapes Go.WideShapes Go.Deep Go.Joins Go.RowKit

/-- Three whole numbers in line, over and over. -/
def Tris (w : World) (A : Option Addr) (l : List (Int × Int × Int)) : Prop :=
  ∀ i, i < l.length → ∃ a, A = some a ∧ w.cell? (a.add (i * 3)) = some (.int .i64 (l.getD i (0, 0, 0)).1) ∧ w.cell? (a.add (i * 3 + 1)) = some (.int .i64 (l.getD i (0, 0, 0)).2.1) ∧ w.cell? (a.add (i * 3 + 2)) = some (.int .i64 (l.getD i (0, 0, 0)).2.2)

section
variable {H : Type} {enc : TypeId × Value → H} {P : Program} {w : World} {base : Nat} {spare : Nat → Bool} {held : Bool}
theorem ints_in_line {e : TypeId} {f0 f1 f2 : Field} {fuel : Nat} {cs : List Value} {x : DataW H × List MemPlace} (he : P.underlying e = some (.struct #[f0, f1, f2])) (hC : P.cellsOf e = 3) (ho : f0.offset = 0 ∧ f1.offset = 1 ∧ f2.offset = 2)
    (h0 : P.underlying f0.type = some (.int .i64)) (h1 : P.underlying f1.type = some (.int .i64)) (h2 : P.underlying f2.type = some (.int .i64)) (hc : P.cellsOf f0.type = 1 ∧ P.cellsOf f1.type = 1 ∧ P.cellsOf f2.type = 1)
    (h : DataW.trod enc P w base spare held fuel e cs = some x) : ∃ p q r : Int, cs = [.int .i64 p, .int .i64 q, .int .i64 r] := by
  obtain ⟨xs, n, _, _, hl, hlen, hf⟩ := DataW.trod_struct he h
  rw [hC] at hl
  match xs, hlen, cs, hl with
  | [y0, y1, y2], _, [c0, c1, c2], _ =>
    have g0 := hf 0 f0 rfl
    have g1 := hf 1 f1 rfl
    have g2 := hf 2 f2 rfl
    rw [ho.1, hc.1] at g0
    rw [ho.2.1, hc.2.1] at g1
    rw [ho.2.2, hc.2.2] at g2
    obtain ⟨p, e0, _⟩ := DataW.trod_int h0 g0
    obtain ⟨q, e1, _⟩ := DataW.trod_int h1 g1
    obtain ⟨r, e2, _⟩ := DataW.trod_int h2 g2
    simp at e0 e1 e2
    exact ⟨p, q, r, by rw [e0, e1, e2]⟩

theorem slice_tris {t e : TypeId} {f0 f1 f2 : Field} {fuel : Nat} {cs : List Value} {x : DataW H × List MemPlace} (ht : P.underlying t = some (.slice e)) (he : P.underlying e = some (.struct #[f0, f1, f2])) (hC : P.cellsOf e = 3) (ho : f0.offset = 0 ∧ f1.offset = 1 ∧ f2.offset = 2)
    (h0 : P.underlying f0.type = some (.int .i64)) (h1 : P.underlying f1.type = some (.int .i64)) (h2 : P.underlying f2.type = some (.int .i64)) (hc : P.cellsOf f0.type = 1 ∧ P.cellsOf f1.type = 1 ∧ P.cellsOf f2.type = 1)
    (h : DataW.trod enc P w base spare held fuel t cs = some x) : ∃ (A : Option Addr) (c : Nat) (l : List (Int × Int × Int)), cs = [.slice A l.length c] ∧ l.length ≤ c ∧ c ≤ maxLen ∧ Tris w A l := by
  rcases open_slice ht h with h0 | ⟨a, len, cap, m, n, D, Pl, hcs, hb, hl, hm, hmm, hx, hi⟩
  · exact ⟨none, 0, [], h0.1, Nat.le_refl _, Nat.zero_le _, fun i hi => by simp at hi⟩
  · have hlm : len ≤ m := by rw [hmm]; split <;> omega
    have hex : ∀ i : Nat, ∃ y : Int × Int × Int, i < len → w.cell? (a.add (i * 3)) = some (.int .i64 y.1) ∧ w.cell? (a.add (i * 3 + 1)) = some (.int .i64 y.2.1) ∧ w.cell? (a.add (i * 3 + 2)) = some (.int .i64 y.2.2) := by
      intro i
      by_cases hil : i < len
      · obtain ⟨cs', hcc, ht'⟩ := hi i (by omega)
        rw [hC] at hcc
        obtain ⟨_, _, hat⟩ := World.cells?_some hcc
        obtain ⟨p, q, r, rfl⟩ := ints_in_line he hC ho h0 h1 h2 hc ht'
        refine ⟨(p, q, r), fun _ => ⟨?_, ?_, ?_⟩⟩
        · have := hat 0 (by omega)
          rw [Go.Deep.add_add] at this
          exact this
        · have := hat 1 (by omega)
          rw [Go.Deep.add_add] at this
          exact this
        · have := hat 2 (by omega)
          rw [Go.Deep.add_add] at this
          exact this
      · exact ⟨(0, 0, 0), fun h => absurd h hil⟩
    obtain ⟨F, hF⟩ := Classical.axiomOfChoice hex
    refine ⟨some a, cap, (List.range len).map F, by simpa using hcs, by simpa using hl, hm, fun i hi => ⟨a, rfl, ?_⟩⟩
    simp only [List.length_map, List.length_range] at hi
    have e : ((List.range len).map F).getD i (0, 0, 0) = F i := by simp [hi]
    rw [e]
    exact hF i hi
end

/-- A contact or a coil, as the world holds it. -/
def Elem (W : World) (v : Value) : Prop := ∃ (op : Int) (A : Option Addr) (c : Nat) (l : List (Int × Int × Int)), v = .agg #[.int .i64 op, .slice A l.length c] ∧ l.length ≤ c ∧ c ≤ maxLen ∧ Tris W A l

theorem elem_arg {H : Type} {enc : TypeId × Value → H} {P : Program} {W : World} {tp : Nat} {t e : TypeId} {g0 g1 f0 f1 f2 : Field} {v : Value} {d : DataW H} {ps : List MemPlace} {spare : Nat → Bool} {held : Bool}
    (hu : P.underlying t = some (.struct #[g0, g1])) (hone : oneCellFields P #[g0, g1] = true) (hC2 : P.cellsOf t = 2) (hg0 : P.underlying g0.type = some (.int .i64)) (hg1 : P.underlying g1.type = some (.slice e))
    (he : P.underlying e = some (.struct #[f0, f1, f2])) (hC : P.cellsOf e = 3) (ho : f0.offset = 0 ∧ f1.offset = 1 ∧ f2.offset = 2)
    (h0 : P.underlying f0.type = some (.int .i64)) (h1 : P.underlying f1.type = some (.int .i64)) (h2 : P.underlying f2.type = some (.int .i64)) (hc : P.cellsOf f0.type = 1 ∧ P.cellsOf f1.type = 1 ∧ P.cellsOf f2.type = 1)
    (hok : Value.okWide P W .any tp t v) (h : DataW.Trod enc P W 0 spare held t v d ps) : Elem W v := by
  obtain ⟨v0, v1, y0, y1, n, rfl, _, _, r0, r1⟩ := open_agg2 hu hone hC2 hok h
  obtain ⟨op, e0, _⟩ := DataW.trod_int hg0 r0
  obtain ⟨A, c, l, e1, hl, hm, hT⟩ := slice_tris hg1 he hC ho h0 h1 h2 hc r1
  simp at e0 e1
  subst e0
  subst e1
  exact ⟨op, A, c, l, rfl, hl, hm, hT⟩
end Go.Proofs.Ytkiemiolellllaa.kit
