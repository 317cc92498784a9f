/-
  When two ladders are the same: the plain law, and the document's answer for contacts, coils and nets.
  Conditions: ladders of at most 1048576 parts.
-/
import Derived.Test.YtkiemiolellllaaTreeUsLaw
import Derived.Test.YtkiemiolellllaaCutSmx5
namespace Go.Proofs.Ytkiemiolellllaa.tree
open Go Go.RowKit Go.Proofs.Ytkiemiolellllaa.CutTr Go.Proofs.YtkiemiolellllaaW.PrintWords
set_option linter.unusedVariables false
set_option linter.unusedSimpArgs false

/-- Two lists of the same length, alike place by place. -/
def sm2 {α β : Type} (f : α → β → Bool) : List α → List β → Bool
  | [], [] => true
  | x :: X, y :: Y => f x y && sm2 f X Y
  | [], _ :: _ => false
  | _ :: _, [] => false
theorem sm2_ne {α β : Type} (f : α → β → Bool) : ∀ (X : List α) (Y : List β), X.length ≠ Y.length → sm2 f X Y = false
  | [], [], h => absurd rfl h
  | x :: X, y :: Y, h => by
    rw [sm2, sm2_ne f X Y (fun e => h (by simp [e])), Bool.and_false]
  | [], _ :: _, _ => rfl
  | _ :: _, [], _ => rfl
theorem sm2_at {α β : Type} (f : α → β → Bool) (X : List α) (Y : List β) (i : Nat) (h1 : i < X.length) (h2 : i < Y.length) : sm2 f (X.drop i) (Y.drop i) = (f X[i] Y[i] && sm2 f (X.drop (i + 1)) (Y.drop (i + 1))) := by
  rw [List.drop_eq_getElem_cons h1, List.drop_eq_getElem_cons h2, sm2]
theorem sm2_end {α β : Type} (f : α → β → Bool) (X : List α) (Y : List β) (h : X.length = Y.length) (i : Nat) (hi : X.length ≤ i) : sm2 f (X.drop i) (Y.drop i) = true := by
  rw [List.drop_eq_nil_of_le hi, List.drop_eq_nil_of_le (by omega), sm2]
def sD (x y : JD) : Bool := x.f0 == y.f0 && (x.f1 == y.f1 && x.f2 == y.f2)
theorem sD_ne (x y : JD) : (!(x.f0 == y.f0) || (!(x.f1 == y.f1) || !(x.f2 == y.f2))) = !sD x y := by
  unfold sD
  cases x.f0 == y.f0 <;> cases x.f1 == y.f1 <;> cases x.f2 == y.f2 <;> rfl
def sE (x y : JE) : Bool := x.f0 == y.f0 && sm2 sD x.f1 y.f1
mutual
def sN : JN → JN → Bool
  | ⟨k, e, ks⟩, ⟨k', e', ks'⟩ => (k == k' && sE e e') && sNs ks ks'
def sNs : List JN → List JN → Bool
  | [], [] => true
  | x :: X, y :: Y => sN x y && sNs X Y
  | [], _ :: _ => false
  | _ :: _, [] => false
end
mutual
def sA : JA → JA → Bool
  | ⟨n, cs, ks⟩, ⟨n', cs', ks'⟩ => (sN n n' && sm2 sE cs cs') && sAs ks ks'
def sAs : List JA → List JA → Bool
  | [], [] => true
  | x :: X, y :: Y => sA x y && sAs X Y
  | [], _ :: _ => false
  | _ :: _, [] => false
end
theorem sNs_eq : ∀ (X Y : List JN), sNs X Y = sm2 sN X Y
  | [], [] => by rw [sNs, sm2]
  | x :: X, y :: Y => by rw [sNs, sm2, sNs_eq X Y]
  | [], _ :: _ => by rw [sNs, sm2]
  | _ :: _, [] => by rw [sNs, sm2]
theorem sAs_eq : ∀ (X Y : List JA), sAs X Y = sm2 sA X Y
  | [], [] => by rw [sAs, sm2]
  | x :: X, y :: Y => by rw [sAs, sm2, sAs_eq X Y]
  | [], _ :: _ => by rw [sAs, sm2]
  | _ :: _, [] => by rw [sAs, sm2]
theorem sN_eq (x y : JN) : sN x y = ((x.f0 == y.f0 && sE x.f1 y.f1) && sm2 sN x.f2 y.f2) := by
  obtain ⟨a, b, c⟩ := x
  obtain ⟨a', b', c'⟩ := y
  rw [sN, sNs_eq]
theorem sA_eq (x y : JA) : sA x y = ((sN x.f0 y.f0 && sm2 sE x.f1 y.f1) && sm2 sA x.f2 y.f2) := by
  obtain ⟨a, b, c⟩ := x
  obtain ⟨a', b', c'⟩ := y
  rw [sA, sAs_eq]

/-! ### the printed ones -/
theorem ev_bool {α β : Type} (f : α → β → Bool) {X : List α} {Y : List β} (hl : X.length = Y.length) (L : Nat → Int → Option Bool)
    (hstep : ∀ (i : Nat) (hi : i < X.length) (hj : i < Y.length), (f X[i] Y[i] = true → ∀ v, Ev (fun k => L k ((i + 1 : Nat) : Int)) v → Ev (fun k => L k i) v) ∧ (f X[i] Y[i] = false → Ev (fun k => L k i) false))
    (hend : Ev (fun k => L k X.length) true) : ∀ (d i : Nat), i + d = X.length → Ev (fun k => L k i) (sm2 f (X.drop i) (Y.drop i))
  | 0, i, hi => by
    have : i = X.length := by omega
    subst this
    rw [sm2_end f X Y hl _ (Nat.le_refl _)]
    exact hend
  | d + 1, i, hi => by
    have h1 : i < X.length := by omega
    have h2 : i < Y.length := by omega
    rw [sm2_at f X Y i h1 h2]
    cases h : f X[i] Y[i] with
    | true => rw [Bool.true_and]; exact (hstep i h1 h2).1 h _ (ev_bool f hl L hstep hend d (i + 1) (by omega))
    | false => rw [Bool.false_and]; exact (hstep i h1 h2).2 h
theorem ne_len {α β : Type} (X : List α) (Y : List β) : ((X.length : Int) != (Y.length : Int)) = !decide (X.length = Y.length) := by
  by_cases h : X.length = Y.length
  · simp [h]
  · have : (X.length : Int) ≠ (Y.length : Int) := by omega
    simp [h, this]
theorem specEs (x y : JE) (hx : x.f1.length ≤ 1000000000) : Ev (fun k => spec_l7ElemSame.f k x.f0 x.f1 y.f0 y.f1) (sE x y) := by
  have hno : Ev (fun k => spec_l7ElemSame.j0 k true x.f0 x.f1 y.f0 y.f1) false := Ev.now fun k => by rw [spec_l7ElemSame.j0, if_pos rfl]
  by_cases h0 : x.f0 = y.f0
  · by_cases hl : x.f1.length = y.f1.length
    · have e : sE x y = sm2 sD x.f1 y.f1 := by unfold sE; rw [beq_iff_eq.2 h0, Bool.true_and]
      rw [e]
      have key := ev_bool sD hl (fun k i => spec_l7ElemSame.l0 k i x.f0 x.f1 y.f0 y.f1) (fun i hi hj => ⟨fun hs v ih => ih.back 0 fun k _ => by
          try simp only
          rw [spec_l7ElemSame.l0, if_pos (by omega), if_pos (by omega), if_pos (by omega), rdD _ _ hi, rdD _ _ hj, sD_ne, hs, if_neg (by decide), ws ((i : Int) + 1) (by omega)]
          rfl, fun hs => Ev.now fun k => by
          try simp only
          rw [spec_l7ElemSame.l0, if_pos (by omega), if_pos (by omega), if_pos (by omega), rdD _ _ hi, rdD _ _ hj, sD_ne, hs, if_pos (by decide)]⟩) (Ev.now fun k => by
          try simp only
          rw [spec_l7ElemSame.l0, if_neg (by omega)]) x.f1.length 0 (by omega)
      simp only [List.drop_zero] at key
      have k2 : Ev (fun k => spec_l7ElemSame.j0 k false x.f0 x.f1 y.f0 y.f1) (sm2 sD x.f1 y.f1) := key.back 0 fun k _ => by
        rw [spec_l7ElemSame.j0, if_neg (by decide)]
        rfl
      simp only [spec_l7ElemSame.f, if_pos h0, ne_len, decide_eq_true hl]
      exact k2
    · have e : sE x y = false := by unfold sE; rw [sm2_ne _ _ _ hl, Bool.and_false]
      rw [e]
      simp only [spec_l7ElemSame.f, if_pos h0, ne_len, decide_eq_false hl]
      exact hno
  · have e : sE x y = false := by unfold sE; rw [beq_eq_false_iff_ne.2 h0, Bool.false_and]
    rw [e]
    simp only [spec_l7ElemSame.f, if_neg h0]
    exact hno
theorem specNs : ∀ (N : Nat) (x y : JN), SizeOf.sizeOf x ≤ N → bN x ≤ 1000000000 → Ev (fun k => spec_l7NetSame.f k x.f0 x.f1.f0 x.f1.f1 x.f2 y.f0 y.f1.f0 y.f1.f1 y.f2) (sN x y)
  | 0, x, y, h, _ => by obtain ⟨a, b, c⟩ := x; simp at h
  | N + 1, x, y, h, hb => by
    have hb' := hb
    rw [bN_eq] at hb'
    have hlen := len_bN x.f2
    have hno : Ev (fun k => spec_l7NetSame.j0 k true x.f0 x.f1.f0 x.f1.f1 x.f2 y.f0 y.f1.f0 y.f1.f1 y.f2) false := Ev.now fun k => by rw [spec_l7NetSame.j0, if_pos rfl]
    rw [sN_eq]
    by_cases h0 : x.f0 = y.f0
    · rw [beq_iff_eq.2 h0, Bool.true_and]
      obtain ⟨k1, hk1⟩ := specEs x.f1 y.f1 (by omega)
      have go : ∀ v, Ev (fun k => spec_l7NetSame.j0 k (!sE x.f1 y.f1 || !decide (x.f2.length = y.f2.length)) x.f0 x.f1.f0 x.f1.f1 x.f2 y.f0 y.f1.f0 y.f1.f1 y.f2) v → Ev (fun k => spec_l7NetSame.f k x.f0 x.f1.f0 x.f1.f1 x.f2 y.f0 y.f1.f0 y.f1.f1 y.f2) v := fun v hv => hv.back k1 fun k hk => by
        have := hk1 k hk
        simp only at this
        rw [spec_l7NetSame.f, if_pos h0, this, Option.bind_some, ne_len]
        cases sE x.f1 y.f1 with
        | true => rw [if_pos rfl]; rfl
        | false => rw [if_neg (by decide)]; rfl
      refine go _ ?_
      cases hs : sE x.f1 y.f1 with
      | false => rw [Bool.false_and]; exact hno
      | true =>
        rw [Bool.true_and]
        by_cases hl : x.f2.length = y.f2.length
        · rw [decide_eq_true hl]
          have key := ev_bool sN hl (fun k i => spec_l7NetSame.l0 k i x.f0 x.f1.f0 x.f1.f1 x.f2 y.f0 y.f1.f0 y.f1.f1 y.f2) (fun i hi hj => by
              have hm := List.getElem_mem hi
              have h2 : SizeOf.sizeOf x.f2[i] < SizeOf.sizeOf x.f2 := List.sizeOf_lt_of_mem hm
              have h3 : SizeOf.sizeOf x.f2 < SizeOf.sizeOf x := by obtain ⟨a, b, c⟩ := x; simp; omega
              have h4 := sm_mem bN x.f2 _ hm
              obtain ⟨k0, hk⟩ := specNs N x.f2[i] y.f2[i] (by omega) (by omega)
              refine ⟨fun hs v ih => ih.back k0 fun k hk' => ?_, fun hs => ?_⟩
              · have := hk k hk'
                simp only at this
                try simp only
                rw [spec_l7NetSame.l0, if_pos (by omega), if_pos (by omega), if_pos (by omega), rdN _ _ hi, rdN _ _ hj, this, Option.bind_some, hs, if_pos rfl, ws ((i : Int) + 1) (by omega)]
                rfl
              · refine ⟨k0 + 1, fun m hm => ?_⟩
                obtain ⟨m, rfl⟩ : ∃ q, m = q + 1 := ⟨m - 1, by omega⟩
                have := hk m (by omega)
                simp only at this
                try simp only
                rw [spec_l7NetSame.l0, if_pos (by omega), if_pos (by omega), if_pos (by omega), rdN _ _ hi, rdN _ _ hj, this, Option.bind_some, hs, if_neg (by decide)]) (Ev.now fun k => by
              try simp only
              rw [spec_l7NetSame.l0, if_neg (by omega)]) x.f2.length 0 (by omega)
          simp only [List.drop_zero] at key
          exact key.back 0 fun k _ => by
            rw [show (!true || !true) = false by decide, spec_l7NetSame.j0, if_neg (by decide)]
            rfl
        · rw [decide_eq_false hl, sm2_ne _ _ _ hl]
          exact hno
    · rw [beq_eq_false_iff_ne.2 h0, Bool.false_and, Bool.false_and]
      exact hno.back 0 fun k _ => by rw [spec_l7NetSame.f, if_neg h0]

/-! ### what a function says that compares two -/
def SaE (f : FuncId) (x y : JE) : Prop := ∀ (b : Bool), sE x y = b → ∀ (A1 B1 : Option Addr) (a1 b1 : Nat) (w : World), Kd.C k32 w A1 x.f1.length x.f1 → x.f1.length ≤ a1 → Kd.C k32 w B1 y.f1.length y.f1 → y.f1.length ≤ b1 →
    Calls Try.prog f #[.agg #[.int .i64 x.f0, .slice A1 x.f1.length a1], .agg #[.int .i64 y.f0, .slice B1 y.f1.length b1]] w fun e w' => e = .returned (.bool b) ∧ Below w.heap.size w w'
def SaN (f : FuncId) (x y : JN) : Prop := ∀ (b : Bool), sN x y = b → ∀ (A2 A3 B2 B3 : Option Addr) (a2 a3 b2 b3 : Nat) (w : World), Kd.C k32 w A2 x.f1.f1.length x.f1.f1 → x.f1.f1.length ≤ a2 → Kd.C k52 w A3 x.f2.length x.f2 → x.f2.length ≤ a3 → Kd.C k32 w B2 y.f1.f1.length y.f1.f1 → y.f1.f1.length ≤ b2 → Kd.C k52 w B3 y.f2.length y.f2 → y.f2.length ≤ b3 →
    Calls Try.prog f #[.agg #[.int .i64 x.f0, .int .i64 x.f1.f0, .slice A2 x.f1.f1.length a2, .slice A3 x.f2.length a3], .agg #[.int .i64 y.f0, .int .i64 y.f1.f0, .slice B2 y.f1.f1.length b2, .slice B3 y.f2.length b3]] w fun e w' => e = .returned (.bool b) ∧ Below w.heap.size w w'
def SaA (f : FuncId) (x y : JA) : Prop := ∀ (b : Bool), sA x y = b → ∀ (A2 A3 A4 A5 B2 B3 B4 B5 : Option Addr) (a2 a3 a4 a5 b2 b3 b4 b5 : Nat) (w : World), Kd.C k32 w A2 x.f0.f1.f1.length x.f0.f1.f1 → x.f0.f1.f1.length ≤ a2 → Kd.C k52 w A3 x.f0.f2.length x.f0.f2 → x.f0.f2.length ≤ a3 → Kd.C k49 w A4 x.f1.length x.f1 → x.f1.length ≤ a4 → Kd.C k55 w A5 x.f2.length x.f2 → x.f2.length ≤ a5 → Kd.C k32 w B2 y.f0.f1.f1.length y.f0.f1.f1 → y.f0.f1.f1.length ≤ b2 → Kd.C k52 w B3 y.f0.f2.length y.f0.f2 → y.f0.f2.length ≤ b3 → Kd.C k49 w B4 y.f1.length y.f1 → y.f1.length ≤ b4 → Kd.C k55 w B5 y.f2.length y.f2 → y.f2.length ≤ b5 →
    Calls Try.prog f #[.agg #[.int .i64 x.f0.f0, .int .i64 x.f0.f1.f0, .slice A2 x.f0.f1.f1.length a2, .slice A3 x.f0.f2.length a3, .slice A4 x.f1.length a4, .slice A5 x.f2.length a5], .agg #[.int .i64 y.f0.f0, .int .i64 y.f0.f1.f0, .slice B2 y.f0.f1.f1.length b2, .slice B3 y.f0.f2.length b3, .slice B4 y.f1.length b4, .slice B5 y.f2.length b5]] w fun e w' => e = .returned (.bool b) ∧ Below w.heap.size w w'
def SaAs (f : FuncId) (X Y : List JA) : Prop := ∀ (b : Bool), sm2 sA X Y = b → ∀ (A B : Option Addr) (c d : Nat) (w : World), Kd.C k55 w A X.length X → X.length ≤ c → Kd.C k55 w B Y.length Y → Y.length ≤ d →
    Calls Try.prog f #[.slice A X.length c, .slice B Y.length d] w fun e w' => e = .returned (.bool b) ∧ Below w.heap.size w w'
theorem specE_sa (x y : JE) (hx : x.f1.length ≤ 1000000000) : SaE 42 x y := by
  intro b hb A1 B1 a1 b1 w g1 l1 g2 l2
  obtain ⟨k, hk⟩ := specEs x y hx
  have := hk k (Nat.le_refl _)
  rw [hb] at this
  exact spec_l7ElemSame.calls k x.f0 A1 a1 x.f1 y.f0 B1 b1 y.f1 b w g1 l1 g2 l2 this
theorem specN_sa (x y : JN) (hx : bN x ≤ 1000000000) : SaN 41 x y := by
  intro b hb A2 A3 B2 B3 a2 a3 b2 b3 w g1 l1 g2 l2 g3 l3 g4 l4
  obtain ⟨k, hk⟩ := specNs _ x y (Nat.le_refl _) hx
  have := hk k (Nat.le_refl _)
  rw [hb] at this
  exact spec_l7NetSame.calls k x.f0 x.f1.f0 A2 a2 x.f1.f1 A3 a3 x.f2 y.f0 y.f1.f0 B2 b2 y.f1.f1 B3 b3 y.f2 b w g1 l1 g2 l2 g3 l3 g4 l4 this
end Go.Proofs.Ytkiemiolellllaa.tree
