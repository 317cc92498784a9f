/-
  A box of one's own filled whole, beside others whose cells are known.
  Conditions: none.
-/
import Derived.Test.YtkiemiolellllaaHxG
namespace Go.Proofs.Ytkiemiolellllaa.part
open Go Go.RowKit
set_option linter.unusedVariables false
set_option linter.unusedSimpArgs false
section
variable {P : Program} {ops : Array Oper} {rest : List Oper} {o : Oper} {a : Act} {w W : World} {Q : Exit → Act → World → Prop} {t : TypeId} {cs old : Array Value} {g : Nat} {bs : List (Nat × Array Value)}
theorem wl_hst (hgd : o.guard = none) (ty : TypeId) (x y : Operand) (ho : o.op = .store ty x y) (hg : w.heap[g]? = some (.cells old t (0, 0))) (hold : old.size = cs.size) (hx : a.eval x = .pointer (some ⟨g, 0, none⟩)) (hy : a.eval y = .agg cs) (h1 : ∀ x ∈ cs, x.oneCell' = true) (n : Nat) (hn : cs.size = n) (hi : (P.info? ty).map (·.size) = some n)
    (h : ∀ w1, w1.heap[g]? = some (.cells cs t (0, 0)) → Below g w w1 → wpList P ops Q rest (a.put o.dst undef) w1) : wpList P ops Q (o :: rest) a w := by
  refine wpList_plain hgd fun _ hK => ?_
  obtain ⟨w1, z1, e1, e2, e3, _, e5, e6⟩ := store_part (P := P) g 0 t cs.toList 0 old w hg (by simp; omega) (fun x hx => h1 x (Array.mem_toList_iff.1 hx))
  have ez : z1 = cs := by
    apply Array.ext (by omega)
    intro i k1 k2
    have := e5 i (by simpa using k2)
    rw [show 0 + 0 + i = i by omega, Array.getElem?_toList, Array.getElem?_eq_getElem k1, Array.getElem?_eq_getElem k2] at this
    exact Option.some.inj this
  subst ez
  have e : (storeVar ty ⟨g, 0, none⟩ (.agg z1)).run P w = .ok () w1 := by
    cases hq : P.info? ty with
    | none => simp [hq] at hi
    | some i =>
      have hs : i.size = z1.size := by rw [hn]; simpa [hq] using hi
      simp only [storeVar, sizeOf, typeInfo, Sem.run_bind, hq, Value.cells]
      simp [Sem.run_bind, hq, hs]
      simpa using e1
  unfold Oper.wp execOp
  simp only [ho, hx, hy, Instr.storeAt, Instr.sureAddr, Sem.run_bind, Sem.run_pure, Result.andThen_ok, e]
  exact hK _ _ (h w1 e2 e6)
theorem Hx.lt (h : Hx W bs w) : ∀ p ∈ bs, p.1 < w.heap.size := fun p hp => by
  obtain ⟨_, t, b⟩ := h.2 p hp
  exact kit.box_lt b
theorem wl_boxst (hgd : o.guard = none) (ty : TypeId) (x y : Operand) (ho : o.op = .store ty x y) (hst : Hx W bs w) (hg : w.heap[g]? = some (.cells old t (0, 0))) (hW : W.heap.size ≤ g) (hlt : ∀ p ∈ bs, p.1 < g) (hold : old.size = cs.size) (hx : a.eval x = .pointer (some ⟨g, 0, none⟩)) (hy : a.eval y = .agg cs) (h1 : ∀ x ∈ cs, x.oneCell' = true) (n : Nat) (hn : cs.size = n) (hi : (P.info? ty).map (·.size) = some n)
    (h : ∀ w1, Hx W ((g, cs) :: bs) w1 → Below g w w1 → wpList P ops Q rest (a.put o.dst undef) w1) : wpList P ops Q (o :: rest) a w :=
  wl_hst hgd ty x y ho hg hold hx hy h1 n hn hi fun w1 e hb => h w1 ⟨hst.1.trans (hb.mono hW), fun p hp => by
    rcases List.mem_cons.1 hp with rfl | hp
    · exact ⟨hW, t, e⟩
    · obtain ⟨b1, t2, b2⟩ := hst.2 p hp
      exact ⟨b1, t2, (hb.block p.1 (hlt p hp)).trans b2⟩⟩ hb
end
end Go.Proofs.Ytkiemiolellllaa.part
