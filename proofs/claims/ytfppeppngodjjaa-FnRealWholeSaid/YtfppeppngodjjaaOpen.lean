/-
  'DrawWholeCmp', 'DrawRealWhole': what a caller needs of them.
  Conditions: a code of at most 1048576 bytes.
-/
import Derived.Test.YtfppeppngodjjaaReal
namespace Go.Proofs.Ytfppeppngodjjaa.draws
open Go.RowKit Go.Proofs.Ytfppeppngodjjaa.PFnRealWhole Go.Proofs.YtfppeppngodjjaaW.PrintWords
set_option linter.unusedVariables false
set_option linter.unusedSimpArgs false

theorem open_w {w : World} {A : Option Addr} {l : List Int} {c : Nat} (hr : ReadsInt w .u8 A l.length l) (hc : l.length ≤ c) (hl : l.length ≤ 1048576) (hb : ∀ x ∈ l, (Lit.int .u8 x).wf = true) :
    Calls Try.prog 19 #[.slice A l.length c] w fun e w' => ∃ g, e = .returned (.pointer (some ⟨g, 0, none⟩)) ∧ Rd w w' g 0 := by
  obtain ⟨m, e0, hm, hw⟩ : ∃ m : List Int, spec_l26Open.f l = some (m, 0) ∧ m.length ≤ 1048576 ∧ ∀ x ∈ m, (Lit.int .u8 x).wf = true := by
    unfold spec_l26Open.f
    split
    · rw [if_pos (by omega)]
      exact ⟨_, rfl, by rw [List.length_take]; omega, fun x hx => hb x (List.mem_of_mem_take hx)⟩
    · exact ⟨_, rfl, hl, hb⟩
  refine (spec_l26Open.calls A c l m 0 w w (Below.refl _ _) (Kd.C_of_reads (d := (0 : Int)) (h1 := fun _ => rfl) hr) hc e0).mono ?_
  rintro e w' ⟨g, rfl, h1, h2, _⟩
  exact ⟨g, rfl, m, 0, h1, hm, hw, by omega, by omega, h2⟩

theorem whole_w {w0 w : World} {g : Nat} {n : Int} (h : Rd w0 w g n) (hn : n < 90000) :
    Calls Try.prog 21 #[.pointer (some ⟨g, 0, none⟩)] w fun e w' => ∃ r, e = .returned (.int .i16 r) ∧ -32768 ≤ r ∧ r ≤ 32767 ∧ Rd w0 w' g (n + 2) := by
  obtain ⟨l, p, h1, h2, h3, h4, h5, h6⟩ := h
  obtain ⟨r, e, a, b⟩ := whole 0 l p h2 h3 (by omega)
  refine (spec_l3Whole.calls 1 g l p r (p + 1 + 1) w0 w h1 h6 e).mono ?_
  rintro e w' ⟨rfl, i1, i2, _⟩
  exact ⟨r, rfl, a, b, l, p + 1 + 1, i1, h2, h3, by omega, by omega, i2⟩

theorem drawWhole {w : World} {A : Option Addr} {l : List Int} {c : Nat} (hr : ReadsInt w .u8 A l.length l) (hc : l.length ≤ c) (hl : l.length ≤ 1048576) (hb : ∀ x ∈ l, (Lit.int .u8 x).wf = true) :
    Calls Try.prog 14 #[.slice A l.length c] w fun e w' => ∃ o a b, e = .returned (.tuple #[.int .i64 o, .int .i16 a, .int .i16 b]) ∧ (-32768 ≤ a ∧ a ≤ 32767) ∧ Below w.heap.size w w' := by
  have H := Lib.hid (⟨hr, hc, hl, hb⟩ : _ ∧ _ ∧ _ ∧ _)
  clear hr hc hl hb
  go_enter Try.func14, Try.ntmps14
  go_wp2_with fail
  refine (open_w H.out.1 H.out.2.1 H.out.2.2.1 H.out.2.2.2).mono ?_
  rintro e w1 ⟨g, rfl, h1⟩
  have H1 := Lib.hid h1
  clear h1
  go_wp2_with fail
  refine (op_w H1.out (by decide)).mono ?_
  rintro e w2 ⟨o, rfl, h2⟩
  have H2 := Lib.hid h2
  clear h2
  go_wp2_with fail
  refine (whole_w H2.out (by decide)).mono ?_
  rintro e w3 ⟨a, rfl, a1, a2, h3⟩
  have H3 := Lib.hid h3
  have Ha := Lib.hid (And.intro a1 a2)
  clear h3 a1 a2
  go_wp2_with fail
  refine (pick_w H3.out (by decide) 3 (by decide)).mono ?_
  rintro e w4 ⟨q, rfl, _, _, h4⟩
  have H4 := Lib.hid h4
  clear h4
  by_cases hq : q = 0
  · subst hq
    go_wp2_with fail
    go_ret3
    exact ⟨o, a, a, rfl, Ha.out, H4.out.is⟩
  · have hb : (q == 0) = false := beq_eq_false_iff_ne.2 hq
    clear hq
    go_wp2_with fail
    refine (whole_w H4.out (by decide)).mono ?_
    rintro e w5 ⟨b, rfl, _, _, h5⟩
    have H5 := Lib.hid h5
    clear h5
    go_wp2_with fail
    go_ret3
    exact ⟨o, a, b, rfl, Ha.out, H5.out.is⟩

theorem drawRealWhole {w : World} {A : Option Addr} {l : List Int} {c : Nat} (hr : ReadsInt w .u8 A l.length l) (hc : l.length ≤ c) (hl : l.length ≤ 1048576) (hb : ∀ x ∈ l, (Lit.int .u8 x).wf = true) :
    Calls Try.prog 15 #[.slice A l.length c] w fun e w' => ∃ x, e = .returned (.float .f64 x) ∧ Below w.heap.size w w' := by
  have H := Lib.hid (⟨hr, hc, hl, hb⟩ : _ ∧ _ ∧ _ ∧ _)
  clear hr hc hl hb
  go_enter Try.func15, Try.ntmps15
  go_wp2_with fail
  refine (open_w H.out.1 H.out.2.1 H.out.2.2.1 H.out.2.2.2).mono ?_
  rintro e w1 ⟨g, rfl, h1⟩
  have H1 := Lib.hid h1
  clear h1
  go_wp2_with fail
  refine (l3Real_w H1.out (by decide)).mono ?_
  rintro e w3 ⟨a, rfl, h3⟩
  have H3 := Lib.hid h3
  clear h3
  go_wp2_with fail
  go_ret
  exact ⟨a, rfl, H3.out.is⟩
end Go.Proofs.Ytfppeppngodjjaa.draws
