/-
  'impl.RealRead': what it reads: the plain law, and what it calls.
  Conditions: a text of at most 4000000 bytes; the tables, the error variables and 'bytealg.MaxLen' hold what they hold.
-/
import Derived.Test.YtcjlkekekalgdaaDoorRdW
import Derived.Test.YtcjlkekekalgdaaDoorLdg
import Derived.Test.YtcjlkekekalgdaaDoorTxtI
import Derived.Test.YtcjlkekekalgdaaDoorPu53
import Derived.Test.YtcjlkekekalgdaaDoorIn
namespace Go.Proofs.YtcjlkekekalgdaaDoor.txt
open Go Go.RowKit Go.Lib Go.Proofs.YtcjlkekekalgdaaDoor.fl Go.Proofs.YtcjlkekekalgdaaDoor.flo Go.Proofs.YtcjlkekekalgdaaDoor.pu Go.Proofs.YtcjlkekekalgdaaDoor.dev
set_option linter.unusedVariables false
set_option linter.unusedSimpArgs false
set_option maxRecDepth 20000

/-- 'bytealg.MaxLen' holds some number. -/
def Mx (w : World) : Prop := ∃ m : Int, w.cell? ⟨2, 0, none⟩ = some (.int .i64 m)
theorem Mx.stays {w w' : World} (h : Mx w) (hb : Below w.heap.size w w') : Mx w' := by
  obtain ⟨m, hm⟩ := h
  refine ⟨m, ?_⟩
  rw [hb.cell (show (⟨2, 0, none⟩ : Addr).block < w.heap.size from Lib.lt_of_cell hm)]; exact hm
theorem cut_any (s : ByteArray) (hs : s.size ≤ 4000000) (w : World) (hm : Mx w) : Calls Tryd.prog 28 #[.string s, .string ⟨#[42, 50, 94]⟩] w fun e w' => e = .returned (.tuple #[.string ⟨(Lib.cut s.data.toList SEP).1.toArray⟩, .string ⟨(Lib.cut s.data.toList SEP).2.1.toArray⟩, .bool (Lib.cut s.data.toList SEP).2.2]) ∧ Below w.heap.size w w' := by
  obtain ⟨m, hm⟩ := hm
  refine (Any.strings_Cut (ρ := Tryd.lays145_ren) { Tryd.lays145 with } s ⟨#[42, 50, 94]⟩ m w (by omega) hm).mono ?_
  rintro e w' ⟨rfl, n, rfl⟩
  exact ⟨rfl, Joins.below_draws _ _ _⟩
theorem cutPrefix_any (s : ByteArray) (w : World) : Calls Tryd.prog 25 #[.string s, .string ⟨#[45]⟩] w (Is (.tuple #[.string ⟨(Lib.trimPrefix s.data.toList [45]).toArray⟩, .bool (Lib.hasPrefix s.data.toList [45])]) w) :=
  (Any.strings_CutPrefix (ρ := Tryd.lays103_ren) { Tryd.lays103 with } s ⟨#[45]⟩ w).mono fun e w' ⟨h1, h2⟩ => ⟨h1, h2⟩
/-- No float's text. -/
def No (bs : List UInt8) : Prop := ∀ y, y < 2 ^ 64 → Txt y bs → False
/-- The word is that of the text, if the text is one's. -/
def Best (bs : List UInt8) (x : Nat) : Prop := x < 2 ^ 64 ∧ ∀ y, y < 2 ^ 64 → Txt y bs → Txt x bs
theorem Best.tail {bs t : List UInt8} {x : Nat} (h : Best bs x) (ht : Txt x t) : ((t == bs) = true → TxtOk bs x true) ∧ ((t == bs) = false → TxtOk bs 0 false) := by
  refine ⟨fun e => ?_, fun e => .no fun y hy hty => ?_⟩
  · have : t = bs := by simpa using e
    rw [← this]
    exact .yes (.inr h.1) ht
  · have := (h.2 y hy hty).uniq ht
    rw [this] at e
    simp at e
/-- A text in its sign and the rest. -/
def Split (bs : List UInt8) (mi : Bool) (u : List UInt8) : Prop := bs = (if mi then 45 :: u else u) ∧ (mi = false → ∀ t, u ≠ 45 :: t)
theorem split_of (bs : List UInt8) : Split bs (Lib.hasPrefix bs [45]) (Lib.trimPrefix bs [45]) := by
  unfold Lib.trimPrefix Lib.hasPrefix
  cases bs with
  | nil => exact ⟨rfl, fun _ t e => by cases e⟩
  | cons c t =>
    by_cases hc : c = 45
    · subst hc
      refine ⟨?_, fun h => ?_⟩
      · simp
      · simp at h
    · have hb : ((45 : UInt8) == c) = false := by rw [beq_eq_false_iff_ne]; exact fun e => hc e.symm
      have hp : List.isPrefixOf [45] (c :: t) = false := by simp [List.isPrefixOf, hb]
      rw [hp]
      exact ⟨rfl, fun _ t' e => hc (List.cons.inj e).1⟩
theorem split_txt {bs u : List UInt8} {mi : Bool} {y : Nat} (h : Split bs mi u) (ht : Txt y bs) : (isNan y = true ∧ mi = false ∧ u = [110, 97, 110]) ∨ (isNan y = false ∧ neg y = mi ∧ Num (mag y) u) := by
  obtain ⟨h1, h2⟩ := h
  rcases ht with ⟨n1, n2⟩ | ⟨n1, t, n2, n3⟩
  · left
    rw [n2] at h1
    cases mi with
    | true => exact absurd (List.cons.inj h1).1 (by decide)
    | false => exact ⟨n1, rfl, h1.symm⟩
  · right
    rw [n2] at h1
    obtain ⟨c, l, e, hc, _⟩ := n3.head
    have hc45 : c ≠ 45 := fun e => by rw [e] at hc; exact absurd hc (by decide)
    cases hn : neg y with
    | true =>
      rw [hn] at h1
      cases mi with
      | true => exact ⟨n1, rfl, by rw [← (List.cons.inj h1).2]; exact n3⟩
      | false => exact absurd h1.symm (h2 rfl t)
    | false =>
      rw [hn] at h1
      cases mi with
      | true =>
        rw [e] at h1
        exact absurd (List.cons.inj h1).1 hc45
      | false =>
        have h3 : t = u := h1
        exact ⟨n1, rfl, by rw [← h3]; exact n3⟩
theorem num_not_nan {r : Nat} (h : Num r [110, 97, 110]) : False := by
  obtain ⟨c, l, e, _, hc⟩ := h.head
  rw [← (List.cons.inj e).1] at hc
  exact hc rfl
theorem best_nan {bs : List UInt8} {mi : Bool} (h : Split bs mi [110, 97, 110]) : Best bs (if mi then Op.negFloat .f64 NAN else NAN) := by
  cases mi with
  | true =>
    refine ⟨by show Op.negFloat .f64 NAN < _; decide +kernel, fun y hy ht => ?_⟩
    rcases split_txt h ht with ⟨_, e, _⟩ | ⟨_, _, e⟩
    · cases e
    · exact (num_not_nan e).elim
  | false => exact ⟨by show NAN < _; decide, fun y hy ht => by rw [h.1]; exact .inl ⟨nan_nan, rfl⟩⟩
theorem best_inf {bs : List UInt8} {mi : Bool} (h : Split bs mi [105, 110, 102]) : Best bs (if mi then Op.negFloat .f64 INF else INF) := by
  cases mi with
  | true => exact ⟨by show Op.negFloat .f64 INF < _; decide +kernel, fun y hy ht => by rw [h.1]; exact .inr ⟨by decide +kernel, [105, 110, 102], by decide +kernel, .inr (.inl ⟨by decide +kernel, rfl⟩)⟩⟩
  | false => exact ⟨by show INF < _; decide, fun y hy ht => by rw [h.1]; exact .inr ⟨by decide +kernel, [105, 110, 102], by decide +kernel, .inr (.inl ⟨by decide +kernel, rfl⟩)⟩⟩
theorem best_zero {bs : List UInt8} {mi : Bool} (h : Split bs mi [48]) : Best bs (if mi then Op.negFloat .f64 0 else 0) := by
  cases mi with
  | true => exact ⟨by show Op.negFloat .f64 0 < _; decide +kernel, fun y hy ht => by rw [h.1]; exact .inr ⟨by decide +kernel, [48], by decide +kernel, .inl ⟨by decide +kernel, rfl⟩⟩⟩
  | false => exact ⟨by decide, fun y hy ht => by rw [h.1]; exact .inr ⟨by decide +kernel, [48], by decide +kernel, .inl ⟨by decide +kernel, rfl⟩⟩⟩
/-- What the parts of a body say. -/
theorem body_parts {bs u : List UInt8} {mi : Bool} {y : Nat} (h : Split bs mi u) (ht : Txt y bs) (n1 : u ≠ [110, 97, 110]) (n2 : u ≠ [105, 110, 102]) (n3 : u ≠ [48]) :
    isNan y = false ∧ neg y = mi ∧ 0 < mag y ∧ mag y < INF ∧ ∃ n f : Nat, Odd n f (V (mag y)) ∧ u = body n ((f : Int) - 1074) ∧ n < 2 ^ 53 ∧ f < 2098 := by
  rcases split_txt h ht with ⟨_, _, e⟩ | ⟨e1, e2, e3⟩
  · exact absurd e n1
  · rcases e3 with ⟨_, e⟩ | hp
    · exact absurd e n3
    · rcases hp with ⟨_, e⟩ | ⟨a, b, c⟩
      · exact absurd e n2
      · exact ⟨e1, e2, a, b, plain_parts a b (.inr ⟨a, b, c⟩)⟩
/-- The parts that a body gives. -/
def BodyGood (u : List UInt8) : Prop := (Lib.cut u SEP).2.2 = true ∧ ∃ (n : Nat) (e : Int), endOpt (parseUintB 53 (Lib.cut u SEP).1) = some (n : Int) ∧ aOpt (atoiAll (Lib.cut u SEP).2.1) = some e ∧ -2000 ≤ e ∧ e ≤ 2000
theorem body_good {n f : Nat} {u : List UInt8} (hu : u = body n ((f : Int) - 1074)) (hn : n < 2 ^ 53) (hf : f < 2098) : Lib.cut u SEP = (decDigits n, itoa ((f : Int) - 1074), true) ∧ endOpt (parseUintB 53 (decDigits n)) = some (n : Int) ∧ aOpt (atoiAll (itoa ((f : Int) - 1074))) = some ((f : Int) - 1074) := by
  refine ⟨?_, ?_, ?_⟩
  · rw [hu]; exact cut_body n _
  · rw [parse_dec n hn]; rfl
  · rw [atoi_itoa _ (by omega) (by omega)]; rfl
theorem no_body {bs u : List UInt8} {mi : Bool} (h : Split bs mi u) (n1 : u ≠ [110, 97, 110]) (n2 : u ≠ [105, 110, 102]) (n3 : u ≠ [48]) (hg : ¬ BodyGood u) : No bs := fun y hy ht => by
  obtain ⟨_, _, _, _, n, f, _, hu, hn, hf⟩ := body_parts h ht n1 n2 n3
  obtain ⟨e1, e2, e3⟩ := body_good hu hn hf
  apply hg
  unfold BodyGood
  rw [e1]
  exact ⟨rfl, n, _, e2, e3, by omega, by omega⟩
theorem best_body {bs u : List UInt8} {mi : Bool} (h : Split bs mi u) (n1 : u ≠ [110, 97, 110]) (n2 : u ≠ [105, 110, 102]) (n3 : u ≠ [48]) {n : Nat} {e : Int}
    (h1 : endOpt (parseUintB 53 (Lib.cut u SEP).1) = some (n : Int)) (h2 : aOpt (atoiAll (Lib.cut u SEP).2.1) = some e) (hn : n < 2 ^ 53) {r0 r : Nat} (hv : V r0 = n * ONE) (hL : Lx r0 e r) (e1 : -2000 ≤ e) :
    Best bs (if mi then Op.negFloat .f64 r else r) := by
  refine ⟨?_, fun y hy ht => ?_⟩
  · split
    · exact Nat.xor_lt_two_pow hL.1 (by decide)
    · exact hL.1
  · obtain ⟨y1, y2, y3, y4, n', f, ho, hu, hn', hf⟩ := body_parts h ht n1 n2 n3
    obtain ⟨c1, c2, c3⟩ := body_good hu hn' hf
    rw [c1] at h1 h2
    have q1 : (n' : Int) = n := Option.some.inj (c2.symm.trans h1)
    have q2 : (f : Int) - 1074 = e := Option.some.inj (c3.symm.trans h2)
    have q3 : n' = n := by omega
    subst q3
    have hr : r = mag y := hL.2 (mag y) ⟨y3, y4, by
      rw [hv, ← ho.2]
      have : (e + 2000).toNat + K74 = f + KK := by show _ + 1074 = _ + 2000; omega
      rw [Nat.mul_assoc, Nat.mul_assoc]
      congr 1
      show 2 ^ f * 2 ^ KK = 2 ^ K74 * 2 ^ (e + 2000).toNat
      rw [← Nat.pow_add, ← Nat.pow_add, ← this, Nat.add_comm K74]⟩
    rw [hr]
    have hb : mag y < 2 ^ 63 := by unfold INF at y4; omega
    have hy2 : (if mi then Op.negFloat .f64 (mag y) else mag y) = y := by
      rw [← y2]
      split
      · rename_i hneg
        rw [neg_low hb]
        unfold neg at hneg
        unfold mag at hb ⊢
        have : y / 2 ^ 63 % 2 = 1 := by simpa using hneg
        omega
      · rename_i hneg
        unfold neg at hneg
        unfold mag at hb ⊢
        have : ¬ y / 2 ^ 63 % 2 = 1 := by simpa using hneg
        omega
    rw [hy2]
    exact ht
end Go.Proofs.YtcjlkekekalgdaaDoor.txt
