/-
  'laws.FnExactRealText' returns true: both texts are the text of the float.
  Conditions: the table of powers of ten is as it is laid.
-/
import Derived.Test.YtcjlkekekalgdaaDoorTxtI
namespace Go.Proofs.YtcjlkekekalgdaaDoor.fnExactRealText
open Go Go.RowKit Go.Lib Go.WideShapes Go.Proofs.YtcjlkekekalgdaaDoor.txt
set_option linter.unusedVariables false
set_option linter.unusedSimpArgs false

theorem tab_of {P : Program} {W : World} {l : List (String × DataW Unit)} {n : String} {g : Nat} {t e : TypeId} {m : Nat} {k : IntKind} {zs : List Int} (h : laidMetH P l W) (hp : (l.all fun x => x.2.handleName?.isNone) = true)
    (hm : (n, tabData k zs) ∈ l) (hg : P.globalNamed n = some g) (hty : (P.globals[g]?).map (·.type) = some t) (ht : P.underlying t = some (.array m e)) (he : P.underlying e = some (.int k)) (hce : P.cellsOf e = 1) (hct : P.cellsOf t = m) : TabIs P W n k zs := by
  rw [MakeChecks.laidMetH_plain _ _ _ hp] at h
  obtain ⟨ps, hl, _⟩ := h
  obtain ⟨g', t', cs, fuel, p, hg', ht', hv, hd⟩ := kit.laid_reads hl n _ hm
  obtain rfl := Option.some.inj (hg.symm.trans hg')
  obtain rfl := Option.some.inj (hty.symm.trans ht')
  unfold TabIs
  rw [hv, ← cells_of_tab ht he hce hct hd]

set_option maxRecDepth 100000 in
theorem law (x : Nat) (hx : x < 2 ^ 64) (W : World) (hp : Pow W) : Calls Tryd.prog 3 #[.float .f64 x] W fun e w' => e = .returned (.bool true) ∧ Below W.heap.size W w' := by
  have H1 := Lib.hid (spec_text x hx)
  have H2 := Lib.hid (impl_text x hx)
  have HP := Lib.hid hp
  clear hx hp
  go_enter Tryd.func3, Tryd.ntmps3
  go_wp2_with fail
  refine (H1.out _).mono ?_
  rintro e w1 ⟨t, rfl, h1, h2, h3⟩
  have K1 := Lib.hid (And.intro h1 h3)
  clear h1 h2 h3
  go_wp2_with fail
  refine (H2.out _ (HP.out.stays K1.out.2)).mono ?_
  rintro e w2 ⟨t2, rfl, h1, h2, h3⟩
  obtain rfl := K1.out.1.uniq h1
  have K2 := Lib.hid (K1.out.2.trans (h3.mono K1.out.2.size))
  clear h1 h2 h3
  go_wp2_with fail
  go_ret
  exact ⟨rfl, K2.out⟩

set_option maxRecDepth 100000 in
theorem walk (W : World) (base : Nat) (v0 : Value) (o0 : Value.okWide Tryd.prog W .any base 22 v0) (hL : laidMetH Tryd.prog Rows.fnExactRealTextRow.laid W) :
    Calls Tryd.prog 3 #[v0] W fun e w' => e = .returned (.bool true) ∧ Below W.heap.size W w' := by
  obtain ⟨v, rfl, hv⟩ := kit.ok_float Tryd.underlying22 o0
  have hs : Pow W := tab_of (g := 1) hL (by kernel_rfl) (List.Mem.tail _ (List.Mem.tail _ (List.Mem.head _))) (by kernel_rfl) (by kernel_rfl) Tryd.underlying89 Tryd.underlying36 (by kernel_rfl) (by kernel_rfl)
  exact law v hv W hs
end Go.Proofs.YtcjlkekekalgdaaDoor.fnExactRealText
