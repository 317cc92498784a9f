/-
  'spec.l5Same', and what 'spec.MemSame' asks of two memories' cells.
  Conditions: words of 64 bits.
-/
import Derived.Test.YtcjlkekekalgdaaPlainS
import Derived.Test.YtcjlkekekalgdaaMemSame
import Derived.Test.YtcjlkekekalgdaaHxG
namespace Go.Proofs.Ytcjlkekekalgdaa.part
open Go Go.RowKit Go.Proofs.Ytcjlkekekalgdaa.flo Go.Proofs.Ytcjlkekekalgdaa.txt
set_option linter.unusedVariables false
set_option linter.unusedSimpArgs false
set_option maxRecDepth 100000

theorem Txt.same {x y : Nat} {s t : List UInt8} (h : Same x y) (hs : Txt x s) (ht : Txt y t) : s = t := by
  rcases h with ⟨h1, h2⟩ | rfl
  · rcases hs with ⟨_, a⟩ | ⟨a, _⟩
    · rcases ht with ⟨_, b⟩ | ⟨b, _⟩
      · rw [a, b]
      · rw [h2] at b; cases b
    · rw [h1] at a; cases a
  · exact hs.uniq ht
theorem l5same_any (x y : Nat) (hx : x < 2 ^ 64) (hy : y < 2 ^ 64) (w : World) : Calls Try.prog 7 #[.float .f64 x, .float .f64 y] w fun e w' => e = .returned (.bool (sameB x y)) ∧ Below w.heap.size w w' := by
  have HX := Lib.hid (fun w => spec_text x hx w)
  have HY := Lib.hid (fun w => spec_text y hy w)
  have HS := Lib.hid (fun s t (hs : Txt x s) (ht : Txt y t) => (show sameB x y = true ↔ s = t from (sameB_iff x y).trans ⟨fun h => Txt.same h hs ht, fun h => by subst h; exact Txt.inj hx hy hs ht⟩))
  clear hx hy
  go_enter Try.func7, Try.ntmps7
  go_wp2_with fail
  refine (HX.out _).mono ?_
  rintro e w1 ⟨s, rfl, h1, h2, h3⟩
  have H1 := Lib.hid h3
  have HT := Lib.hid h1
  clear h1 h2 h3
  go_wp2_with fail
  refine (HY.out _).mono ?_
  rintro e w2 ⟨t, rfl, k1, k2, k3⟩
  have H2 := Lib.hid (H1.out.trans (k3.mono H1.out.size))
  have hst := HS.out s t HT.out k1
  clear k1 k2 k3
  by_cases hq : s = t
  · subst hq
    have hb := Lib.hid (hst.2 rfl)
    clear hst
    go_wp2_with fail
    go_ret
    exact ⟨kit.ret_bool (by rw [hb.out]; first | done | simp), H2.out⟩
  · have hb := Lib.hid (show sameB x y = false from Bool.eq_false_iff.2 fun h => hq (hst.1 h))
    clear hst
    have HQ := Lib.hid hq
    clear hq HS HT HX HY
    go_wp2_with fail
    go_ret
    exact ⟨kit.ret_bool (by rw [hb.out]; have := HQ.out; simp [this]), H2.out⟩

/-- The real numbers are words of 64 bits. -/
def FR (cs : Array Value) : Prop := ∀ j, j < 16 → fnm (cs.getD (117 + j) undef) < 2 ^ 64
end Go.Proofs.Ytcjlkekekalgdaa.part
