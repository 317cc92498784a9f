/-
  What a row knows of an argument that is a ladder: it is a tree of contacts and coils in the memory.
  Conditions: the types are those of the laws' 'Arm'.
-/
import Derived.Test.YtkiemiolellllaaKit
import Derived.Test.YtkiemiolellllaaCutTrx0
import Derived.Test.YtkiemiolellllaaElemArg
import Derived.Deep.Slices
import Derived.Deep.Fields
import Derived.ChangeSame
import Derived.Lib.SmallJoins
namespace Go.Proofs.Ytkiemiolellllaa.kit
open Go Go.ChangeShapes Go.WideShapes Go.Deep Go.Joins Go.RowKit Go.Proofs.Ytkiemiolellllaa.CutTr Go.Proofs.YtkiemiolellllaaW.PrintWords
set_option linter.unusedVariables false
set_option linter.unusedSimpArgs false

section
variable {H : Type} {enc : TypeId × Value → H} {w : World} {base : Nat} {spare : Nat → Bool} {held : Bool}
theorem slice_C {P : Program} {α : Type} (d : Kd α) (z : α) {t e : TypeId} (ht : P.underlying t = some (.slice e)) (hsz : P.cellsOf e = d.sz) {fuel : Nat} {cs : List Value} {x : DataW H × List MemPlace} (h : DataW.trod enc P w base spare held fuel t cs = some x)
    (hE : ∀ n, n < fuel → ∀ cs x, DataW.trod enc P w base spare held n e cs = some x → ∃ y, d.K w y cs) : ∃ (A : Option Addr) (c : Nat) (X : List α), cs = [.slice A X.length c] ∧ X.length ≤ c ∧ d.C w A X.length X := by
  rcases DataW.trod_slice ht h with ⟨rfl, _⟩ | ⟨a, len, cap, elems, rest, n, rfl, rfl, rfl, hb, hl, hm, hlen, hel, _⟩
  · exact ⟨none, 0, [], rfl, Nat.le_refl _, rfl, Nat.zero_le _, fun h => absurd h (by simp)⟩
  · have hex : ∀ i : Nat, ∃ y : α, i < len → ∃ cs', w.cells? base (a.add (i * d.sz)) d.sz = some cs' ∧ d.K w y cs' := by
      intro i
      by_cases hi : i < len
      · have h1 := hel i hi
        rw [List.getElem?_eq_getElem (by omega), hsz] at h1
        obtain ⟨cs', h2, h3⟩ := Option.bind_eq_some_iff.1 h1
        obtain ⟨y, hy⟩ := hE n (Nat.lt_succ_self _) cs' _ h3
        exact ⟨y, fun _ => ⟨cs', h2, hy⟩⟩
      · exact ⟨z, fun h => absurd h hi⟩
    obtain ⟨F, hF⟩ := Classical.axiomOfChoice hex
    refine ⟨some a, cap, (List.range len).map F, by simp, by simpa using hl, rfl, ?_, fun h0 => ⟨a, rfl, fun j p hj => ?_⟩⟩
    · have : maxLen ≤ 9223372036854775807 := by decide
      simp; omega
    · obtain ⟨hjl, rfl⟩ := List.getElem?_eq_some_iff.1 hj
      simp only [List.length_map, List.length_range] at hjl
      obtain ⟨cs', h1, h2⟩ := hF j hjl
      have hcl := d.K_len h2
      refine ⟨cs', hcl, by simpa using h2, fun i u hu => ?_⟩
      obtain ⟨_, _, hat⟩ := World.cells?_some h1
      have hi : i < d.sz := by rw [← hcl]; exact (List.getElem?_eq_some_iff.1 hu).1
      have := hat i (by omega)
      rw [Go.Deep.add_add] at this
      rw [this]
      exact hu
theorem dev_K {fuel : Nat} {cs : List Value} {x : DataW H × List MemPlace} (h : DataW.trod enc Try.prog w base spare held fuel 30 cs = some x) : ∃ y, k30.K w y cs := by
  obtain ⟨p, q, r, rfl⟩ := ints_in_line Try.underlying30 (by kernel_rfl) ⟨rfl, rfl, rfl⟩ Try.underlying3 Try.underlying3 Try.underlying3 ⟨by kernel_rfl, by kernel_rfl, by kernel_rfl⟩ h
  exact ⟨⟨p, q, r⟩, k30_mk w ⟨p, q, r⟩⟩
theorem elem_K {fuel : Nat} {cs : List Value} {x : DataW H × List MemPlace} (h : DataW.trod enc Try.prog w base spare held fuel 39 cs = some x) : ∃ y, k39.K w y cs := by
  obtain ⟨xs, n, rfl, _, hl, hlen, hf⟩ := DataW.trod_struct Try.underlying39 h
  rw [show Try.prog.cellsOf 39 = 2 by kernel_rfl] at hl
  match xs, hlen, cs, hl with
  | [y0, y1], _, [c0, c1], _ =>
    have g0 : DataW.trod enc Try.prog w base spare held n 3 (List.take (Try.prog.cellsOf 3) (List.drop 0 [c0, c1])) = some y0 := hf 0 _ rfl
    have g1 : DataW.trod enc Try.prog w base spare held n 37 (List.take (Try.prog.cellsOf 37) (List.drop 1 [c0, c1])) = some y1 := hf 1 _ rfl
    rw [show Try.prog.cellsOf 3 = 1 by kernel_rfl] at g0
    rw [show Try.prog.cellsOf 37 = 1 by kernel_rfl] at g1
    obtain ⟨p, e0, _⟩ := DataW.trod_int Try.underlying3 g0
    obtain ⟨A, c, X, e1, hc, hC⟩ := slice_C k30 z30 Try.underlying37 (by kernel_rfl) g1 (fun n _ cs x h => dev_K h)
    simp at e0 e1
    subst e0 e1
    exact ⟨⟨p, X⟩, k39_mk w ⟨p, X⟩ hc hC⟩
theorem net_K : ∀ (N fuel : Nat), fuel < N → ∀ (cs : List Value) (x : DataW H × List MemPlace), DataW.trod enc Try.prog w base spare held fuel 42 cs = some x → ∃ y, k42.K w y cs
  | 0, fuel, hN, _, _, _ => absurd hN (Nat.not_lt_zero _)
  | N + 1, fuel, hN, cs, x, h => by
    obtain ⟨xs, n, rfl, _, hl, hlen, hf⟩ := DataW.trod_struct Try.underlying42 h
    rw [show Try.prog.cellsOf 42 = 4 by kernel_rfl] at hl
    match xs, hlen, cs, hl with
    | [y0, y1, y2], _, [c0, c1, c2, c3], _ =>
      have g0 : DataW.trod enc Try.prog w base spare held n 3 (List.take (Try.prog.cellsOf 3) (List.drop 0 [c0, c1, c2, c3])) = some y0 := hf 0 _ rfl
      have g1 : DataW.trod enc Try.prog w base spare held n 39 (List.take (Try.prog.cellsOf 39) (List.drop 1 [c0, c1, c2, c3])) = some y1 := hf 1 _ rfl
      have g2 : DataW.trod enc Try.prog w base spare held n 40 (List.take (Try.prog.cellsOf 40) (List.drop 3 [c0, c1, c2, c3])) = some y2 := hf 2 _ rfl
      rw [show Try.prog.cellsOf 3 = 1 by kernel_rfl] at g0
      rw [show Try.prog.cellsOf 39 = 2 by kernel_rfl] at g1
      rw [show Try.prog.cellsOf 40 = 1 by kernel_rfl] at g2
      obtain ⟨p, e0, _⟩ := DataW.trod_int Try.underlying3 g0
      obtain ⟨E, hE⟩ := elem_K g1
      obtain ⟨A2, b2, e1, l2, h2⟩ := k39_open hE
      obtain ⟨A, c, X, e2, hc, hC⟩ := slice_C k42 z42 Try.underlying40 (by kernel_rfl) g2 (fun m hm cs x h => net_K N m (by omega) cs x h)
      simp at e0 e1 e2
      obtain ⟨rfl, rfl⟩ := e1
      subst e0 e2
      exact ⟨⟨p, E, X⟩, k42_mk w ⟨p, E, X⟩ l2 h2 hc hC⟩
theorem arm_K : ∀ (N fuel : Nat), fuel < N → ∀ (cs : List Value) (x : DataW H × List MemPlace), DataW.trod enc Try.prog w base spare held fuel 45 cs = some x → ∃ y, k45.K w y cs
  | 0, fuel, hN, _, _, _ => absurd hN (Nat.not_lt_zero _)
  | N + 1, fuel, hN, cs, x, h => by
    obtain ⟨xs, n, rfl, _, hl, hlen, hf⟩ := DataW.trod_struct Try.underlying45 h
    rw [show Try.prog.cellsOf 45 = 6 by kernel_rfl] at hl
    match xs, hlen, cs, hl with
    | [y0, y1, y2], _, [c0, c1, c2, c3, c4, c5], _ =>
      have g0 : DataW.trod enc Try.prog w base spare held n 42 (List.take (Try.prog.cellsOf 42) (List.drop 0 [c0, c1, c2, c3, c4, c5])) = some y0 := hf 0 _ rfl
      have g1 : DataW.trod enc Try.prog w base spare held n 43 (List.take (Try.prog.cellsOf 43) (List.drop 4 [c0, c1, c2, c3, c4, c5])) = some y1 := hf 1 _ rfl
      have g2 : DataW.trod enc Try.prog w base spare held n 22 (List.take (Try.prog.cellsOf 22) (List.drop 5 [c0, c1, c2, c3, c4, c5])) = some y2 := hf 2 _ rfl
      rw [show Try.prog.cellsOf 42 = 4 by kernel_rfl] at g0
      rw [show Try.prog.cellsOf 43 = 1 by kernel_rfl] at g1
      rw [show Try.prog.cellsOf 22 = 1 by kernel_rfl] at g2
      obtain ⟨E, hE⟩ := net_K _ _ (Nat.lt_succ_self _) _ _ g0
      obtain ⟨A2, b2, A3, b3, e0, l2, h2, l3, h3⟩ := k42_open hE
      obtain ⟨A4, b4, X4, e1, l4, h4⟩ := slice_C k39 z39 Try.underlying43 (by kernel_rfl) g1 (fun m hm cs x h => elem_K h)
      obtain ⟨A5, b5, X5, e2, l5, h5⟩ := slice_C k45 z45 Try.underlying22 (by kernel_rfl) g2 (fun m hm cs x h => arm_K N m (by omega) cs x h)
      simp at e0 e1 e2
      obtain ⟨rfl, rfl, rfl, rfl⟩ := e0
      subst e1 e2
      exact ⟨⟨E, X4, X5⟩, k45_mk w ⟨E, X4, X5⟩ l2 h2 l3 h3 l4 h4 l5 h5⟩
end
/-- A ladder, as the world holds it. -/
def Arms (W : World) (v : Value) : Prop := ∃ (A : Option Addr) (c : Nat) (X : List S45), v = .slice A X.length c ∧ X.length ≤ c ∧ Kd.C k45 W A X.length X
theorem arms_arg {H : Type} {enc : TypeId × Value → H} {W : World} {tp : Nat} {v : Value} {d : DataW H} {ps : List MemPlace} {spare : Nat → Bool} {held : Bool}
    (hok : Value.okWide Try.prog W .any tp 22 v) (h : DataW.Trod enc Try.prog W 0 spare held 22 v d ps) : Arms W v := by
  obtain ⟨a, len, cap, rfl⟩ := okWide_slice Try.underlying22 hok
  obtain ⟨fuel, hf⟩ := h
  obtain ⟨A, c, X, e, hc, hC⟩ := slice_C k45 z45 Try.underlying22 (by kernel_rfl) hf (fun m hm cs x h => arm_K _ m (Nat.lt_succ_self _) cs x h)
  simp [Value.cells] at e
  obtain ⟨rfl, rfl, rfl⟩ := e
  exact ⟨_, _, X, rfl, hc, hC⟩
end Go.Proofs.Ytkiemiolellllaa.kit
