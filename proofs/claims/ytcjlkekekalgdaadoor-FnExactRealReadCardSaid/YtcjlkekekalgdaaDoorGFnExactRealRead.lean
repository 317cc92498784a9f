/-
  'laws.FnExactRealRead' returns true: both readers say the same.
  Conditions: the row's own: the listed tables and error variables.
-/
import Derived.Test.YtcjlkekekalgdaaDoorRdK
import Derived.Test.YtcjlkekekalgdaaDoorSameFloat
namespace Go.Proofs.YtcjlkekekalgdaaDoor.fnExactRealRead
open Go Go.RowKit Go.Lib Go.WideShapes Go.Proofs.YtcjlkekekalgdaaDoor.txt Go.Proofs.YtcjlkekekalgdaaDoor.pu
set_option linter.unusedVariables false
set_option linter.unusedSimpArgs false

theorem ok_string {P : Program} {w : World} {r : Reach} {b : Nat} {t : TypeId} {v : Value} (ht : P.underlying t = some .string) (h : Value.okWide P w r b t v) : ∃ s, v = .string s := by
  simp only [Value.okWide, ht, Cell.okWide] at h
  cases v <;> simp_all [Cell.ok]
theorem tab_of {P : Program} {W : World} {l : List (String × DataW Unit)} {n : String} {g : Nat} {t e : TypeId} {m : Nat} {k : IntKind} {zs : List Int} (h : laidMetH P l W) (hp : (l.all fun x => x.2.handleName?.isNone) = true)
    (hm : (n, tabData k zs) ∈ l) (hg : P.globalNamed n = some g) (hty : (P.globals[g]?).map (·.type) = some t) (ht : P.underlying t = some (.array m e)) (he : P.underlying e = some (.int k)) (hce : P.cellsOf e = 1) (hct : P.cellsOf t = m) : TabIs P W n k zs := by
  rw [MakeChecks.laidMetH_plain _ _ _ hp] at h
  obtain ⟨ps, hl, _⟩ := h
  obtain ⟨g', t', cs, fuel, p, hg', ht', hv, hd⟩ := kit.laid_reads hl n _ hm
  obtain rfl := Option.some.inj (hg.symm.trans hg')
  obtain rfl := Option.some.inj (hty.symm.trans ht')
  unfold TabIs
  rw [hv, ← cells_of_tab ht he hce hct hd]
theorem err_of {P : Program} {W : World} {l : List (String × DataW Unit)} {n nm : String} {d : DataW Unit} {g : Nat} {t : TypeId} {ms : Array (String × TypeId)} (h : laidMetH P l W) (hp : (l.all fun x => x.2.handleName?.isNone) = true)
    (hm : (n, .iface nm d) ∈ l) (hg : P.globalNamed n = some g) (hty : (P.globals[g]?).map (·.type) = some t) (ht : P.underlying t = some (.interface ms)) : ∃ ev, W.cell? ⟨g, 0, none⟩ = some ev ∧ (ev = .nilIface ∨ ∃ te pe, ev = .iface te pe) := by
  rw [MakeChecks.laidMetH_plain _ _ _ hp] at h
  obtain ⟨ps, hl, _⟩ := h
  obtain ⟨g', t', cs, fuel, p, hg', ht', hv, hd⟩ := kit.laid_reads hl n _ hm
  obtain rfl := Option.some.inj (hg.symm.trans hg')
  obtain rfl := Option.some.inj (hty.symm.trans ht')
  have hc := World.var?_cell hg hv 0
  cases fuel with
  | zero => simp [DataW.trod] at hd
  | succ fuel =>
    generalize hL : cs.toList = L at hd
    have hc2 : W.cell? ⟨g, 0, none⟩ = L[0]? := by rw [hc, ← hL]; simp
    cases L with
    | nil => simp [DataW.trod, ht] at hd
    | cons v L =>
      cases L with
      | cons v2 L => cases v <;> simp [DataW.trod, ht] at hd
      | nil =>
        cases v
        all_goals first
          | (exact ⟨_, hc2, .inl rfl⟩)
          | (exact ⟨_, hc2, .inr ⟨_, _, rfl⟩⟩)
          | (simp [DataW.trod, ht] at hd)

set_option maxRecDepth 100000 in
theorem law (s : ByteArray) (W : World) (hp : Pow W) (hm : Mx W) (he : Errs W) : Calls Tryd.prog 4 #[.string s] W fun e w' => e = .returned (.bool true) ∧ Below W.heap.size W w' := by
  by_cases hs : s.size ≤ 1048576
  · have H1 := Lib.hid (spec_read s (by omega))
    have H2 := Lib.hid (impl_read s (by omega))
    have HP := Lib.hid hp
    have HM := Lib.hid hm
    have HE := Lib.hid he
    have hc : ¬ (1048576 < (s.size : Int)) := by omega
    clear hp hm he hs
    go_enter Tryd.func4, Tryd.ntmps4
    go_wp2_with fail
    refine (H1.out _).mono ?_
    rintro e w1 ⟨x, b, rfl, h1, h3⟩
    have K1 := Lib.hid (And.intro h1 h3)
    clear h1 h3
    go_wp2_with fail
    refine (H2.out _ (HP.out.stays K1.out.2) (HM.out.stays K1.out.2) (HE.out.stays K1.out.2)).mono ?_
    rintro e w2 ⟨y, c, rfl, h1, h3⟩
    obtain ⟨hsame, rfl⟩ := K1.out.1.same h1
    have K2 := Lib.hid (K1.out.2.trans (h3.mono K1.out.2.size))
    have HS := Lib.hid (fun w => flo.same_any y x w (sm_symm hsame))
    clear h1 h3 hsame K1
    cases b
    all_goals
      go_wp2_with (go_at_call 10; refine (HS.out _).mono ?_; rintro e w' ⟨rfl, rfl⟩)
      go_ret
      exact ⟨rfl, K2.out⟩
  · have hc : 1048576 < (s.size : Int) := by omega
    clear hs hp hm he
    go_enter Tryd.func4, Tryd.ntmps4
    go_wp2_with fail
    go_ret
    exact ⟨rfl, Below.refl _ _⟩

set_option maxRecDepth 100000 in
theorem walk (W : World) (base : Nat) (v0 : Value) (o0 : Value.okWide Tryd.prog W .any base 9 v0) (hL : laidMetH Tryd.prog Rows.fnExactRealReadRow.laid W) (hsh : W.ShapedOpen Tryd.prog) :
    Calls Tryd.prog 4 #[v0] W fun e w' => e = .returned (.bool true) ∧ Below W.heap.size W w' := by
  obtain ⟨s, rfl⟩ : ∃ s, v0 = .string s := ok_string Tryd.underlying9 o0
  have hs : Pow W := tab_of (g := 1) hL (by kernel_rfl) (List.Mem.tail _ (List.Mem.tail _ (List.Mem.head _))) (by kernel_rfl) (by kernel_rfl) Tryd.underlying89 Tryd.underlying36 (by kernel_rfl) (by kernel_rfl)
  have e1 := err_of (g := 4) hL (by kernel_rfl) (List.Mem.tail _ (List.Mem.tail _ (List.Mem.tail _ (List.Mem.head _)))) (by kernel_rfl) (by kernel_rfl) Tryd.underlying47
  have e2 := err_of (g := 3) hL (by kernel_rfl) (List.Mem.tail _ (List.Mem.tail _ (List.Mem.tail _ (List.Mem.tail _ (List.Mem.head _))))) (by kernel_rfl) (by kernel_rfl) Tryd.underlying47
  exact law s W hs (Tryd.lays145.s1_3 W hsh) ⟨e2, e1⟩
end Go.Proofs.YtcjlkekekalgdaaDoor.fnExactRealRead
