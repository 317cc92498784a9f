/-
  'spec.RealRead': what it reads.
  Conditions: a text of at most 4000000 bytes.
-/
import Derived.Test.YtcjlkekekalgdaaDoorRdS
namespace Go.Proofs.YtcjlkekekalgdaaDoor.txt
open Go Go.RowKit Go.Lib Go.Proofs.YtcjlkekekalgdaaDoor.fl Go.Proofs.YtcjlkekekalgdaaDoor.flo
set_option linter.unusedVariables false
set_option linter.unusedSimpArgs false
set_option maxRecDepth 20000

def Wd (x : Nat) : Prop := isNan x = true ∨ x < 2 ^ 64
/-- What a reader of floats' texts says of a text. -/
def TxtOk (bs : List UInt8) (x : Nat) (b : Bool) : Prop := (b = true → Wd x ∧ Txt x bs) ∧ (b = false → x = 0) ∧ (∀ y, y < 2 ^ 64 → Txt y bs → b = true)
def ReadRes (bs : List UInt8) (w : World) (e : Ending) (w' : World) : Prop := ∃ x b, e = .returned (.tuple #[.float .f64 x, .bool b]) ∧ TxtOk bs x b ∧ Below w.heap.size w w'
def NAN : Nat := 9221120237041090561
theorem nan_nan : isNan NAN = true := by decide +kernel
theorem Wd.norm {x : Nat} {s : List UInt8} (h : Wd x) (ht : Txt x s) : ∃ y, y < 2 ^ 64 ∧ Txt y s ∧ Same x y := by
  by_cases hn : isNan x = true
  · refine ⟨NAN, by decide, ?_, .inl ⟨hn, nan_nan⟩⟩
    rcases ht with ⟨_, e⟩ | ⟨e, _⟩
    · exact .inl ⟨nan_nan, e⟩
    · rw [hn] at e; cases e
  · rcases h with h | h
    · exact absurd h hn
    · exact ⟨x, h, ht, .inr rfl⟩
theorem sm_symm {x y : Nat} (h : Same x y) : Same y x := by
  rcases h with ⟨a, b⟩ | h
  · exact .inl ⟨b, a⟩
  · exact .inr h.symm
theorem sm_trans {x y z : Nat} (h : Same x y) (k : Same y z) : Same x z := by
  rcases h with ⟨a, b⟩ | h
  · rcases k with ⟨c, d⟩ | k
    · exact .inl ⟨a, d⟩
    · exact .inl ⟨a, by rw [← k]; exact b⟩
  · rw [h]; exact k
theorem TxtOk.same {bs : List UInt8} {x y : Nat} {b c : Bool} (h : TxtOk bs x b) (k : TxtOk bs y c) : Same x y ∧ b = c := by
  cases b with
  | true =>
    obtain ⟨h1, h2⟩ := h.1 rfl
    obtain ⟨x', a1, a2, a3⟩ := h1.norm h2
    have hc := k.2.2 x' a1 a2
    obtain ⟨k1, k2⟩ := k.1 hc
    obtain ⟨y', b1, b2, b3⟩ := k1.norm k2
    exact ⟨sm_trans a3 (sm_trans (Txt.inj a1 b1 a2 b2) (sm_symm b3)), hc.symm⟩
  | false =>
    cases c with
    | true =>
      obtain ⟨k1, k2⟩ := k.1 rfl
      obtain ⟨y', b1, b2, b3⟩ := k1.norm k2
      exact absurd (h.2.2 y' b1 b2) (by decide)
    | false => exact ⟨.inr ((h.2.1 rfl).trans (k.2.1 rfl).symm), rfl⟩
theorem TxtOk.yes {bs : List UInt8} {x : Nat} (h : Wd x) (ht : Txt x bs) : TxtOk bs x true := ⟨fun _ => ⟨h, ht⟩, fun e => Bool.noConfusion e, fun _ _ _ => rfl⟩
theorem TxtOk.no {bs : List UInt8} (h : ∀ y, y < 2 ^ 64 → Txt y bs → False) : TxtOk bs 0 false := ⟨fun e => Bool.noConfusion e, fun _ => rfl, fun y hy ht => (h y hy ht).elim⟩
/-- A text that is none of the constants' is a text of a finite float, or '-' and such a one. -/
theorem txt_parts {y : Nat} {bs : List UInt8} (h : Txt y bs) (h1 : bs ≠ [110, 97, 110]) : ∃ t, bs = (if neg y then 45 :: t else t) ∧ Num (mag y) t := by
  rcases h with ⟨_, e⟩ | ⟨_, t, h2, h3⟩
  · exact absurd e h1
  · exact ⟨t, h2, h3⟩
theorem nan_any (w : World) : Calls Tryd.prog 22 #[] w fun e w' => ∃ x, e = .returned (.float .f64 x) ∧ isNan x = true ∧ Below w.heap.size w w' := by
  have h0 : floatBits .quo .f64 0 0 = none := by decide +kernel
  have rq := run_nan (P := Tryd.prog) .quo 22 0 0 (by decide) h0
  clear h0
  go_enter Tryd.func22, Tryd.ntmps22
  go_wp2
  go_ret
  exact ⟨_, rfl, nanAt_nan _ _ _, (Below.refl _ _).drew⟩
/-- The text is none of the constants'. -/
def Plainly (s : ByteArray) : Prop := (s.toList == [110, 97, 110]) = false ∧ (s.toList == [105, 110, 102]) = false ∧ (s.toList == [45, 105, 110, 102]) = false ∧ (s.toList == [48]) = false ∧ (s.toList == [45, 48]) = false ∧ (s.toList == []) = false
theorem rr_const (w : World) :
    Calls Tryd.prog 8 #[.string ⟨#[110, 97, 110]⟩] w (ReadRes [110, 97, 110] w) ∧
    Calls Tryd.prog 8 #[.string ⟨#[105, 110, 102]⟩] w (ReadRes [105, 110, 102] w) ∧
    Calls Tryd.prog 8 #[.string ⟨#[45, 105, 110, 102]⟩] w (ReadRes [45, 105, 110, 102] w) ∧
    Calls Tryd.prog 8 #[.string ⟨#[48]⟩] w (ReadRes [48] w) ∧
    Calls Tryd.prog 8 #[.string ⟨#[45, 48]⟩] w (ReadRes [45, 48] w) ∧
    Calls Tryd.prog 8 #[.string ⟨#[]⟩] w (ReadRes [] w) := by
  have HNA := Lib.hid nan_any
  have HI := Lib.hid inf_word
  have rn := fun w => run_neg 9218868437227405312 w
  rw [show Op.negFloat .f64 9218868437227405312 = 18442240474082181120 by decide +kernel] at rn
  have rz := fun w => run_neg 0 w
  rw [show Op.negFloat .f64 0 = 9223372036854775808 by decide +kernel] at rz
  refine ⟨?_, ?_, ?_, ?_, ?_, ?_⟩
  · have HT : Hid (∀ x, isNan x = true → TxtOk [110, 97, 110] x true) := Lib.hid (fun x hx => .yes (.inl hx) (.inl ⟨hx, rfl⟩))
    go_enter Tryd.func8, Tryd.ntmps8
    go_wp2_with fail
    refine (HNA.out _).mono ?_
    rintro e w1 ⟨x, rfl, h1, h2⟩
    have H1 := Lib.hid (And.intro h1 h2)
    clear h1 h2
    go_wp2_with fail
    go_ret2
    exact ⟨_, _, rfl, HT.out x H1.out.1, H1.out.2⟩
  · have HT : Hid (TxtOk [105, 110, 102] 9218868437227405312 true) := Lib.hid (.yes (.inr (by decide)) (.inr ⟨by decide +kernel, [105, 110, 102], rfl, .inr (.inl ⟨rfl, rfl⟩)⟩))
    go_enter Tryd.func8, Tryd.ntmps8
    go_wp2_with fail
    refine (HI.out _).mono ?_
    rintro e w1 ⟨rfl, rfl⟩
    go_wp2_with fail
    go_ret2
    exact ⟨_, _, rfl, HT.out, Below.refl _ _⟩
  · have HT : Hid (TxtOk [45, 105, 110, 102] 18442240474082181120 true) := Lib.hid (.yes (.inr (by decide)) (.inr ⟨by decide +kernel, [105, 110, 102], rfl, .inr (.inl ⟨rfl, rfl⟩)⟩))
    go_enter Tryd.func8, Tryd.ntmps8
    go_wp2_with fail
    refine (HI.out _).mono ?_
    rintro e w1 ⟨rfl, rfl⟩
    go_wp2_with fail
    go_ret2
    exact ⟨_, _, rfl, HT.out, Below.refl _ _⟩
  · have HT : Hid (TxtOk [48] 0 true) := Lib.hid (.yes (.inr (by decide)) (.inr ⟨by decide +kernel, [48], rfl, .inl ⟨rfl, rfl⟩⟩))
    go_enter Tryd.func8, Tryd.ntmps8
    go_wp2_with fail
    go_ret2
    exact ⟨_, _, rfl, HT.out, Below.refl _ _⟩
  · have HT : Hid (TxtOk [45, 48] 9223372036854775808 true) := Lib.hid (.yes (.inr (by decide)) (.inr ⟨by decide +kernel, [48], rfl, .inl ⟨rfl, rfl⟩⟩))
    go_enter Tryd.func8, Tryd.ntmps8
    go_wp2_with fail
    go_ret2
    exact ⟨_, _, rfl, HT.out, Below.refl _ _⟩
  · have HT : Hid (TxtOk [] 0 false) := Lib.hid (.no fun y hy ht => by
      obtain ⟨t, h1, h2⟩ := txt_parts ht (by decide)
      obtain ⟨c, l, e, _⟩ := h2.head
      rw [e] at h1
      split at h1 <;> cases h1)
    go_enter Tryd.func8, Tryd.ntmps8
    go_wp2_with fail
    go_ret2
    exact ⟨_, _, rfl, HT.out, Below.refl _ _⟩
theorem neg_low {x : Nat} (h : x < 2 ^ 63) : Op.negFloat .f64 x = 2 ^ 63 + x := by
  show x ^^^ 2 ^ 63 = _
  have e : 2 ^ 63 + x = 2 ^ 63 ||| x := by
    have := Nat.two_pow_add_eq_or_of_lt h 1
    simpa using this
  rw [e]
  apply Nat.eq_of_testBit_eq
  intro i
  rw [Nat.testBit_xor, Nat.testBit_or, Nat.testBit_two_pow]
  by_cases hi : 63 = i
  · subst hi
    rw [Nat.testBit_lt_two_pow h]
    simp
  · simp [hi]
theorem plain_word {x : Nat} (h0 : 0 < x) (h : x < INF) : mag x = x ∧ neg x = false ∧ isNan x = false ∧ mag (2 ^ 63 + x) = x ∧ neg (2 ^ 63 + x) = true ∧ isNan (2 ^ 63 + x) = false ∧ x < 2 ^ 63 := by
  obtain ⟨m, n⟩ := small_mag (Nat.le_of_lt h)
  have hb : x < 2 ^ 63 := by unfold INF at h; omega
  have m2 : mag (2 ^ 63 + x) = x := by unfold mag; omega
  refine ⟨m, n, ?_, m2, ?_, ?_, hb⟩
  · rw [nan_iff, m]; exact decide_eq_false (by omega)
  · unfold neg; rw [show (2 ^ 63 + x) / 2 ^ 63 % 2 = 1 by omega]; rfl
  · rw [nan_iff, m2]; exact decide_eq_false (by omega)
theorem ok_pos {bs : List UInt8} {x : Nat} {b : Bool} (h : RdOk bs x b) (n1 : bs ≠ [110, 97, 110]) (n2 : bs ≠ [105, 110, 102]) (n4 : bs ≠ [48]) (hc : ∀ t, bs ≠ 45 :: t) : TxtOk bs (if b then x else 0) b := by
  cases b with
  | true =>
    obtain ⟨h0, h1, h2⟩ := h.1 rfl
    obtain ⟨p1, p2, p3, _, _, _, p7⟩ := plain_word h0 h1
    exact .yes (.inr (by show x < _; omega)) (.inr ⟨p3, bs, by show bs = if neg x = true then _ else _; rw [p2]; rfl, .inr (by show Plain (mag x) bs; rw [p1]; exact h2)⟩)
  | false =>
    refine .no fun y hy ht => ?_
    obtain ⟨t, e, hn⟩ := txt_parts ht n1
    split at e
    · exact hc t e
    · subst e
      rcases hn with ⟨_, e⟩ | hp
      · exact n4 e
      · rcases hp with ⟨_, e⟩ | ⟨a, b, c⟩
        · exact n2 e
        · have := h.2 (mag y) a b (.inr ⟨a, b, c⟩)
          cases this
theorem ok_neg {t : List UInt8} {x : Nat} {b : Bool} (h : RdOk t x b) (n2 : t ≠ [105, 110, 102]) (n4 : t ≠ [48]) : TxtOk (45 :: t) (if b then 2 ^ 63 + x else 0) b := by
  cases b with
  | true =>
    obtain ⟨h0, h1, h2⟩ := h.1 rfl
    obtain ⟨_, _, _, p4, p5, p6, p7⟩ := plain_word h0 h1
    exact .yes (.inr (by show 2 ^ 63 + x < _; omega)) (.inr ⟨p6, t, by show _ = if neg (2 ^ 63 + x) = true then _ else _; rw [p5]; rfl, .inr (by show Plain (mag (2 ^ 63 + x)) t; rw [p4]; exact h2)⟩)
  | false =>
    refine .no fun y hy ht => ?_
    obtain ⟨u, e, hn⟩ := txt_parts ht (fun e => by have := (List.cons.inj e).1; exact absurd this (by decide))
    split at e
    · have e2 := (List.cons.inj e).2
      subst e2
      rcases hn with ⟨_, e⟩ | hp
      · exact n4 e
      · rcases hp with ⟨_, e⟩ | ⟨a, b, c⟩
        · exact n2 e
        · have := h.2 (mag y) a b (.inr ⟨a, b, c⟩)
          cases this
    · obtain ⟨c, l, e2, e3, _⟩ := hn.head
      rw [e2] at e
      have := (List.cons.inj e).1
      rw [← this] at e3
      exact absurd e3 (by decide)
set_option maxHeartbeats 2000000 in
theorem rr_neg (s : ByteArray) (hs : s.size ≤ 4000000) (t : List UInt8) (hb : s.data.toList = 45 :: t) (hp : Plainly s) (w : World) : Calls Tryd.prog 8 #[.string s] w (ReadRes s.data.toList w) := by
  obtain ⟨p1, p2, p3, p4, p5, p6⟩ := hp
  have n2 : t ≠ [105, 110, 102] := fun e => by rw [ByteArray.toList_eq, hb, e] at p3; cases p3
  have n4 : t ≠ [48] := fun e => by rw [ByteArray.toList_eq, hb, e] at p5; cases p5
  have hsz : s.size = t.length + 1 := by rw [Lib.size_eq, hb]; rfl
  have hX : (s.extract 1 s.size).data.toList = t := by rw [extract_tail, hb]; rfl
  have HR := Lib.hid (fun w => read_any (s.extract 1 s.size) (by rw [Lib.size_eq, hX]; omega) w)
  rw [hX] at HR
  have hsl : ∀ w, (Instr.slice 9 (.string s) (some (.int .i64 1)) none none).run Tryd.prog w = .ok (.string (s.extract 1 s.size)) w := fun w => by
    have h1 : (1 : Int) ≤ (s.size : Int) := by omega
    simp [Instr.slice, Instr.sliceBounds, Instr.sliceBound, asIntOf, run_underlying Tryd.underlying9, h1]
  have hpos : 0 < s.size := by omega
  have hat : (s[0]'hpos).toNat = 45 := by
    have e : s.data.toList[0]? = some (s[0]'hpos) := by
      rw [List.getElem?_eq_getElem (by rw [← Lib.size_eq]; exact hpos)]
      rfl
    rw [hb] at e
    rw [← Option.some.inj e]
    rfl
  have HT := Lib.hid (fun x b (h : RdOk t x b) => (hb ▸ ok_neg h n2 n4 : TxtOk s.data.toList (if b then 2 ^ 63 + x else 0) b))
  clear hb n2 n4 hX hs hsz
  obtain ⟨X, hX⟩ : ∃ X, s.extract 1 s.size = X := ⟨_, rfl⟩
  rw [hX] at HR hsl
  clear hX
  go_enter Tryd.func8, Tryd.ntmps8
  go_wp2_with fail
  refine (HR.out _).mono ?_
  rintro e w1 ⟨x, b, rfl, h1, h2⟩
  have H2 := Lib.hid h2
  cases b with
  | false =>
    have HZ := Lib.hid (HT.out x false h1)
    clear h1 h2 HT
    go_wp2_with fail
    go_ret2
    exact ⟨_, _, rfl, HZ.out, H2.out⟩
  | true =>
    have HZ := Lib.hid (HT.out x true h1)
    have hn := neg_low (x := x) (by have := (h1.1 rfl).2.1; unfold INF at this; omega)
    have rn := fun w => run_neg x w
    rw [hn] at rn
    clear h1 h2 HT hn
    obtain ⟨y, hy⟩ : ∃ y, 2 ^ 63 + x = y := ⟨_, rfl⟩
    rw [hy] at rn HZ
    clear hy
    go_wp2_with fail
    go_ret2
    exact ⟨_, _, rfl, HZ.out, H2.out⟩
set_option maxHeartbeats 2000000 in
theorem rr_pos (s : ByteArray) (hs : s.size ≤ 4000000) (c : UInt8) (t : List UInt8) (hb : s.data.toList = c :: t) (hc : c ≠ 45) (hp : Plainly s) (w : World) : Calls Tryd.prog 8 #[.string s] w (ReadRes s.data.toList w) := by
  obtain ⟨p1, p2, p3, p4, p5, p6⟩ := hp
  have n1 : s.data.toList ≠ [110, 97, 110] := fun e => by rw [ByteArray.toList_eq, e] at p1; cases p1
  have n2 : s.data.toList ≠ [105, 110, 102] := fun e => by rw [ByteArray.toList_eq, e] at p2; cases p2
  have n4 : s.data.toList ≠ [48] := fun e => by rw [ByteArray.toList_eq, e] at p4; cases p4
  have hsz : s.size = t.length + 1 := by rw [Lib.size_eq, hb]; rfl
  have HR := Lib.hid (fun w => read_any s hs w)
  have hpos : 0 < s.size := by omega
  have hat : (s[0]'hpos).toNat = c.toNat := by
    have e : s.data.toList[0]? = some (s[0]'hpos) := by
      rw [List.getElem?_eq_getElem (by rw [← Lib.size_eq]; exact hpos)]
      rfl
    rw [hb] at e
    rw [← Option.some.inj e]
  have HT := Lib.hid (fun x b (h : RdOk s.data.toList x b) => ok_pos h n1 n2 n4 (fun t' e => by rw [hb] at e; exact hc (List.cons.inj e).1))
  have hcn : ¬ (c.toNat = 45) := fun e => hc (UInt8.toNat.inj e)
  obtain ⟨k, hk⟩ : ∃ k : Nat, c.toNat = k := ⟨_, rfl⟩
  rw [hk] at hat hcn
  have hci : ¬ ((k : Int) = 45) := by omega
  clear hb n1 n2 n4 hs hsz hc hk
  go_enter Tryd.func8, Tryd.ntmps8
  go_wp2_with fail
  refine (HR.out _).mono ?_
  rintro e w1 ⟨x, b, rfl, h1, h2⟩
  have H2 := Lib.hid h2
  cases b with
  | false =>
    have HZ := Lib.hid (HT.out x false h1)
    clear h1 h2 HT
    go_wp2_with fail
    go_ret2
    exact ⟨_, _, rfl, HZ.out, H2.out⟩
  | true =>
    have HZ := Lib.hid (HT.out x true h1)
    clear h1 h2 HT
    go_wp2_with fail
    go_ret2
    exact ⟨_, _, rfl, HZ.out, H2.out⟩
theorem bytes_eq {s : ByteArray} {l : List UInt8} (h : s.data.toList = l) : s = ⟨l.toArray⟩ := ByteArray.ext (Array.toList_inj.1 (by simpa using h))
theorem spec_read (s : ByteArray) (hs : s.size ≤ 4000000) (w : World) : Calls Tryd.prog 8 #[.string s] w (ReadRes s.data.toList w) := by
  obtain ⟨c1, c2, c3, c4, c5, c6⟩ := rr_const w
  have key : ∀ l : List UInt8, Calls Tryd.prog 8 #[.string ⟨l.toArray⟩] w (ReadRes l w) → s.data.toList = l → Calls Tryd.prog 8 #[.string s] w (ReadRes s.data.toList w) := fun l hl e => by
    rw [e, bytes_eq e]; exact hl
  by_cases h1 : s.data.toList = [110, 97, 110]
  · exact key _ c1 h1
  by_cases h2 : s.data.toList = [105, 110, 102]
  · exact key _ c2 h2
  by_cases h3 : s.data.toList = [45, 105, 110, 102]
  · exact key _ c3 h3
  by_cases h4 : s.data.toList = [48]
  · exact key _ c4 h4
  by_cases h5 : s.data.toList = [45, 48]
  · exact key _ c5 h5
  by_cases h6 : s.data.toList = []
  · exact key _ c6 h6
  have hp : Plainly s := by
    unfold Plainly
    rw [ByteArray.toList_eq]
    exact ⟨beq_eq_false_iff_ne.2 h1, beq_eq_false_iff_ne.2 h2, beq_eq_false_iff_ne.2 h3, beq_eq_false_iff_ne.2 h4, beq_eq_false_iff_ne.2 h5, beq_eq_false_iff_ne.2 h6⟩
  cases hd : s.data.toList with
  | nil => exact absurd hd h6
  | cons c t =>
    rw [← hd]
    by_cases hc : c = 45
    · exact rr_neg s hs t (by rw [hd, hc]) hp w
    · exact rr_pos s hs c t hd hc hp w
end Go.Proofs.YtcjlkekekalgdaaDoor.txt
