/-
  'WholeCmp', 'RealCmp', 'DrawWholeCmp', 'DrawRealCmp': what a caller needs of them.
  Conditions: a test from 1 to 6; a code of at most 1048576 bytes.
-/
import Derived.Test.YtfppeppngodjjaaDoorReal
import Derived.Test.YtfppeppngodjjaaDoorCmpTwo
namespace Go.Proofs.YtfppeppngodjjaaDoor.draws
open Go.RowKit Go.Proofs.YtfppeppngodjjaaDoor.PFnFlip Go.Proofs.YtfppeppngodjjaaDoorW.PrintWords
set_option linter.unusedVariables false
set_option linter.unusedSimpArgs false

theorem open_w {w : World} {A : Option Addr} {l : List Int} {c : Nat} (hr : ReadsInt w .u8 A l.length l) (hc : l.length ≤ c) (hl : l.length ≤ 1048576) (hb : ∀ x ∈ l, (Lit.int .u8 x).wf = true) :
    Calls Tryd.prog 24 #[.slice A l.length c] w fun e w' => ∃ g, e = .returned (.pointer (some ⟨g, 0, none⟩)) ∧ Rd w w' g 0 := by
  obtain ⟨m, e0, hm, hw⟩ : ∃ m : List Int, spec_l26Open.f l = some (m, 0) ∧ m.length ≤ 1048576 ∧ ∀ x ∈ m, (Lit.int .u8 x).wf = true := by
    unfold spec_l26Open.f
    split
    · rw [if_pos (by omega)]
      exact ⟨_, rfl, by rw [List.length_take]; omega, fun x hx => hb x (List.mem_of_mem_take hx)⟩
    · exact ⟨_, rfl, hl, hb⟩
  refine (spec_l26Open.calls A c l m 0 w w (Below.refl _ _) (Kd.C_of_reads (d := (0 : Int)) (h1 := fun _ => rfl) hr) hc e0).mono ?_
  rintro e w' ⟨g, rfl, h1, h2, _⟩
  exact ⟨g, rfl, m, 0, h1, hm, hw, by omega, by omega, h2⟩

theorem whole_w {w0 w : World} {g : Nat} {n : Int} (h : Rd w0 w g n) (hn : n < 90000) :
    Calls Tryd.prog 26 #[.pointer (some ⟨g, 0, none⟩)] w fun e w' => ∃ r, e = .returned (.int .i16 r) ∧ -32768 ≤ r ∧ r ≤ 32767 ∧ Rd w0 w' g (n + 2) := by
  obtain ⟨l, p, h1, h2, h3, h4, h5, h6⟩ := h
  obtain ⟨r, e, a, b⟩ := whole 0 l p h2 h3 (by omega)
  refine (spec_l3Whole.calls 1 g l p r (p + 1 + 1) w0 w h1 h6 e).mono ?_
  rintro e w' ⟨rfl, i1, i2, _⟩
  exact ⟨r, rfl, a, b, l, p + 1 + 1, i1, h2, h3, by omega, by omega, i2⟩

theorem drawWhole {w : World} {A : Option Addr} {l : List Int} {c : Nat} (hr : ReadsInt w .u8 A l.length l) (hc : l.length ≤ c) (hl : l.length ≤ 1048576) (hb : ∀ x ∈ l, (Lit.int .u8 x).wf = true) :
    Calls Tryd.prog 8 #[.slice A l.length c] w fun e w' => ∃ o a b, e = .returned (.tuple #[.int .i64 o, .int .i16 a, .int .i16 b]) ∧ (-32768 ≤ a ∧ a ≤ 32767) ∧ Below w.heap.size w w' := by
  have H := Lib.hid (⟨hr, hc, hl, hb⟩ : _ ∧ _ ∧ _ ∧ _)
  clear hr hc hl hb
  go_enter Tryd.func8, Tryd.ntmps8
  go_wp2_with fail
  refine (open_w H.out.1 H.out.2.1 H.out.2.2.1 H.out.2.2.2).mono ?_
  rintro e w1 ⟨g, rfl, h1⟩
  have H1 := Lib.hid h1
  clear h1
  go_wp2_with fail
  refine (op_w H1.out (by decide)).mono ?_
  rintro e w2 ⟨o, rfl, h2⟩
  have H2 := Lib.hid h2
  clear h2
  go_wp2_with fail
  refine (whole_w H2.out (by decide)).mono ?_
  rintro e w3 ⟨a, rfl, a1, a2, h3⟩
  have H3 := Lib.hid h3
  have Ha := Lib.hid (And.intro a1 a2)
  clear h3 a1 a2
  go_wp2_with fail
  refine (pick_w H3.out (by decide) 3 (by decide)).mono ?_
  rintro e w4 ⟨q, rfl, _, _, h4⟩
  have H4 := Lib.hid h4
  clear h4
  by_cases hq : q = 0
  · subst hq
    go_wp2_with fail
    go_ret3
    exact ⟨o, a, a, rfl, Ha.out, H4.out.is⟩
  · have hb : (q == 0) = false := beq_eq_false_iff_ne.2 hq
    clear hq
    go_wp2_with fail
    refine (whole_w H4.out (by decide)).mono ?_
    rintro e w5 ⟨b, rfl, _, _, h5⟩
    have H5 := Lib.hid h5
    clear h5
    go_wp2_with fail
    go_ret3
    exact ⟨o, a, b, rfl, Ha.out, H5.out.is⟩

theorem drawReal {w : World} {A : Option Addr} {l : List Int} {c : Nat} (hr : ReadsInt w .u8 A l.length l) (hc : l.length ≤ c) (hl : l.length ≤ 1048576) (hb : ∀ x ∈ l, (Lit.int .u8 x).wf = true) :
    Calls Tryd.prog 9 #[.slice A l.length c] w fun e w' => ∃ o a b, e = .returned (.tuple #[.int .i64 o, .float .f64 a, .float .f64 b]) ∧ Below w.heap.size w w' := by
  have H := Lib.hid (⟨hr, hc, hl, hb⟩ : _ ∧ _ ∧ _ ∧ _)
  clear hr hc hl hb
  go_enter Tryd.func9, Tryd.ntmps9
  go_wp2_with fail
  refine (open_w H.out.1 H.out.2.1 H.out.2.2.1 H.out.2.2.2).mono ?_
  rintro e w1 ⟨g, rfl, h1⟩
  have H1 := Lib.hid h1
  clear h1
  go_wp2_with fail
  refine (op_w H1.out (by decide)).mono ?_
  rintro e w2 ⟨o, rfl, h2⟩
  have H2 := Lib.hid h2
  clear h2
  go_wp2_with fail
  refine (l3Real_w H2.out (by decide)).mono ?_
  rintro e w3 ⟨a, rfl, h3⟩
  have H3 := Lib.hid h3
  clear h3
  go_wp2_with fail
  refine (pick_w H3.out (by decide) 3 (by decide)).mono ?_
  rintro e w4 ⟨q, rfl, _, _, h4⟩
  have H4 := Lib.hid h4
  clear h4
  by_cases hq : q = 0
  · subst hq
    go_wp2_with fail
    go_ret3
    exact ⟨o, a, a, rfl, H4.out.is⟩
  · have hb : (q == 0) = false := beq_eq_false_iff_ne.2 hq
    clear hq
    go_wp2_with fail
    refine (l3Real_w H4.out (by decide)).mono ?_
    rintro e w5 ⟨b, rfl, h5⟩
    have H5 := Lib.hid h5
    clear h5
    go_wp2_with fail
    go_ret3
    exact ⟨o, a, b, rfl, H5.out.is⟩

/-! ### tests -/
/-- What a test says of an order. -/
def ro (k : Int) : Option Ordering → Bool
  | none => k == 4
  | some .lt => k == 1 || k == 2 || k == 4
  | some .eq => k == 2 || k == 3 || k == 5
  | some .gt => k == 4 || k == 5 || k == 6

theorem six {k : Int} (h : 1 ≤ k ∧ k ≤ 6) : k = 1 ∨ k = 2 ∨ k = 3 ∨ k = 4 ∨ k = 5 ∨ k = 6 := by omega

theorem wholeCmp (k a b : Int) (hk : 1 ≤ k ∧ k ≤ 6) (w : World) {c : Bool} (hc : ro k (some (compare a b)) = c) :
    Calls Tryd.prog 12 #[.int .i64 k, .int .i16 a, .int .i16 b] w fun e w' => e = .returned (.bool c) ∧ w = w' := by
  subst hc
  have h6 := six hk
  clear hk
  have h3 : a < b ∨ a = b ∨ b < a := by omega
  rcases h3 with h | h | h
  · have e : compare a b = .lt := by simp [compare, compareOfLessAndEq, h]
    rw [e]
    have h1 : ¬ b < a := by omega
    have h2 : ¬ a = b := by omega
    have h4 : a ≤ b := by omega
    have h5 : ¬ b ≤ a := by omega
    rcases h6 with rfl | rfl | rfl | rfl | rfl | rfl
    all_goals
      go_enter Tryd.func12, Tryd.ntmps12
      go_wp2
      go_ret
      exact ⟨kit.ret_bool (by simp [ro, h, h1, h2, h4, h5]), rfl⟩
  · subst h
    have e : compare a a = .eq := by simp [compare, compareOfLessAndEq]
    rw [e]
    rcases h6 with rfl | rfl | rfl | rfl | rfl | rfl
    all_goals
      go_enter Tryd.func12, Tryd.ntmps12
      go_wp2
      go_ret
      exact ⟨kit.ret_bool (by simp [ro]), rfl⟩
  · have h1 : ¬ a < b := by omega
    have h2 : ¬ a = b := by omega
    have h4 : b ≤ a := by omega
    have h5 : ¬ a ≤ b := by omega
    have e : compare a b = .gt := by simp [compare, compareOfLessAndEq, h1, h2]
    rw [e]
    rcases h6 with rfl | rfl | rfl | rfl | rfl | rfl
    all_goals
      go_enter Tryd.func12, Tryd.ntmps12
      go_wp2
      go_ret
      exact ⟨kit.ret_bool (by simp [ro, h, h1, h2, h4, h5]), rfl⟩

theorem realCmp (k : Int) (x y : Nat) (hk : 1 ≤ k ∧ k ≤ 6) (w : World) {o : Option Ordering} (ho : FloatKind.f64.format.order x y = o) {c : Bool} (hc : ro k o = c) :
    Calls Tryd.prog 13 #[.int .i64 k, .float .f64 x, .float .f64 y] w fun e w' => e = .returned (.bool c) ∧ w = w' := by
  subst hc
  have h6 := six hk
  clear hk
  rcases o with _ | _ | _ | _
  all_goals
    rcases h6 with rfl | rfl | rfl | rfl | rfl | rfl
    all_goals
      go_enter Tryd.func13, Tryd.ntmps13
      go_wp2
      go_ret
      exact ⟨kit.ret_bool (by simp [ro]), rfl⟩

/-! ### laws of the tests -/
theorem flips_in {k : Int} (h : 1 ≤ k ∧ k ≤ 6) : 1 ≤ cmp.pick cmp.flips k ∧ cmp.pick cmp.flips k ≤ 6 := by
  rcases six h with rfl | rfl | rfl | rfl | rfl | rfl <;> decide
theorem swaps_in {k : Int} (h : 1 ≤ k ∧ k ≤ 6) : 1 ≤ cmp.pick cmp.swaps k ∧ cmp.pick cmp.swaps k ≤ 6 := by
  rcases six h with rfl | rfl | rfl | rfl | rfl | rfl <;> decide
theorem flips_ro {k : Int} (h : 1 ≤ k ∧ k ≤ 6) (o : Ordering) : ro (cmp.pick cmp.flips k) (some o) = !ro k (some o) := by
  rcases six h with rfl | rfl | rfl | rfl | rfl | rfl <;> cases o <;> decide
theorem swaps_ro {k : Int} (h : 1 ≤ k ∧ k ≤ 6) (o : Option Ordering) : ro (cmp.pick cmp.swaps k) (o.map Ordering.swap) = ro k o := by
  rcases six h with rfl | rfl | rfl | rfl | rfl | rfl <;> rcases o with _ | _ | _ | _ <;> decide
theorem swaps_twice {k : Int} (h : 1 ≤ k ∧ k ≤ 6) : cmp.pick cmp.swaps (cmp.pick cmp.swaps k) = k := by
  rcases six h with rfl | rfl | rfl | rfl | rfl | rfl <;> decide
end Go.Proofs.YtfppeppngodjjaaDoor.draws
