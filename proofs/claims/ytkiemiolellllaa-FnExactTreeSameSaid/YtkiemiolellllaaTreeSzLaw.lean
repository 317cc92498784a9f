/-
  A ladder's size: what the document's count and the program's count come to.
  Conditions: a ladder of at most 1048576 parts.
-/
import Derived.Test.YtkiemiolellllaaTreeTo
import Derived.Test.YtkiemiolellllaaCutTrx3
namespace Go.Proofs.Ytkiemiolellllaa.tree
open Go Go.RowKit Go.Proofs.Ytkiemiolellllaa.CutTr Go.Proofs.YtkiemiolellllaaW.PrintWords
set_option linter.unusedVariables false
set_option linter.unusedSimpArgs false

abbrev JN := S52
abbrev JA := S55
/-- From some fuel on, this comes out. -/
def Ev {α : Type} (f : Nat → Option α) (v : α) : Prop := ∃ k, ∀ m, k ≤ m → f m = some v
theorem ev_loop {α : Type} {Y : List α} (s : α → Nat) (L : Nat → Int → Int → Option Int)
    (hstep : ∀ (i : Nat) (hi : i < Y.length) (acc : Int), 0 ≤ acc → acc + s Y[i] ≤ 1099511627776 → ∃ k0, ∀ k, k0 ≤ k → L (k + 1) acc i = L k (acc + s Y[i]) ((i + 1 : Nat) : Int))
    (hend : ∀ k acc, L (k + 1) acc Y.length = some acc) : ∀ (d i : Nat) (acc : Int), i + d = Y.length → 0 ≤ acc → acc + sm s (Y.drop i) ≤ 1099511627776 → Ev (fun k => L k acc i) (acc + sm s (Y.drop i))
  | 0, i, acc, hi, h0, hb => by
    have : i = Y.length := by omega
    subst this
    refine ⟨1, fun m hm => ?_⟩
    obtain ⟨m, rfl⟩ : ∃ q, m = q + 1 := ⟨m - 1, by omega⟩
    show L (m + 1) acc Y.length = _
    rw [hend]
    simp [sm]
  | d + 1, i, acc, hi, h0, hb => by
    have hlt : i < Y.length := by omega
    have e : Y.drop i = Y[i] :: Y.drop (i + 1) := List.drop_eq_getElem_cons hlt
    rw [e, sm] at hb ⊢
    obtain ⟨k0, hk0⟩ := hstep i hlt acc h0 (by omega)
    obtain ⟨k1, hk1⟩ := ev_loop s L hstep hend d (i + 1) (acc + s Y[i]) (by omega) (by omega) (by omega)
    refine ⟨k0 + k1 + 1, fun m hm => ?_⟩
    obtain ⟨m, rfl⟩ : ∃ q, m = q + 1 := ⟨m - 1, by omega⟩
    show L (m + 1) acc i = _
    rw [hk0 m (by omega)]
    have := hk1 m (by omega)
    simp only at this
    rw [this]
    congr 1 <;> omega

/-! ### the sizes -/
mutual
def nS : JN → Nat
  | ⟨_, _, ks⟩ => 1 + nSs ks
def nSs : List JN → Nat
  | [] => 0
  | x :: r => nS x + nSs r
end
def nn (x : JN) : Bool := x.f0 == 0 && (x.f1.f0 == 0 && ((x.f1.f1.length : Int) == 0 && (x.f2.length : Int) == 0))
mutual
def aS : JA → Nat
  | ⟨n, cs, ks⟩ => 1 + cs.length + (if nn n = true then 0 else nS n) + aSs ks
def aSs : List JA → Nat
  | [] => 0
  | x :: r => aS x + aSs r
end
theorem nS_eq (x : JN) : nS x = 1 + sm nS x.f2 := by
  obtain ⟨a, b, ks⟩ := x
  rw [nS]
  have : ∀ ks : List JN, nSs ks = sm nS ks := by
    intro ks
    induction ks with
    | nil => rfl
    | cons x r ih => rw [nSs, sm, ih]
  rw [this]
theorem aSs_eq (ks : List JA) : aSs ks = sm aS ks := by
  induction ks with
  | nil => rfl
  | cons x r ih => rw [aSs, sm, ih]
theorem aS_eq (x : JA) : aS x = 1 + x.f1.length + (if nn x.f0 = true then 0 else nS x.f0) + sm aS x.f2 := by
  obtain ⟨a, b, ks⟩ := x
  rw [aS, aSs_eq]
mutual
theorem nS_le (x : EN) : nS (cN x) ≤ 1 + wN x := by
  obtain ⟨a, e, ks⟩ := x
  rw [cN, nS, wN]
  have := nSs_le ks
  omega
theorem nSs_le (Y : List EN) : nSs (cNs Y) ≤ wNs Y := by
  cases Y with
  | nil => simp [cNs, nSs]
  | cons x r =>
    rw [cNs, nSs, wNs]
    have h1 := nS_le x
    have h2 := nSs_le r
    omega
end
theorem wEs_ge (Y : List EE) : Y.length ≤ wEs Y := by rw [wEs_eq]; omega
mutual
theorem aS_le (x : EA) : aS (cA x) ≤ 2 + 2 * wA x := by
  obtain ⟨n, cs, ks⟩ := x
  rw [cA, aS, wA, List.length_map]
  have h1 := nS_le n
  have h2 := wEs_ge cs
  have h3 := aSs_le ks
  split <;> omega
theorem aSs_le (Y : List EA) : aSs (cAs Y) ≤ 2 * wAs Y := by
  cases Y with
  | nil => simp [cAs, aSs]
  | cons x r =>
    rw [cAs, aSs, wAs]
    have h1 := aS_le x
    have h2 := aSs_le r
    omega
end
theorem ws (n : Int) (h : 0 ≤ n ∧ n ≤ 1099511627777) : wrap64 n = n := by unfold wrap64; omega
theorem rdN (Y : List JN) (i : Nat) (h : i < Y.length) : rd_T52 Y (i : Int) = Y[i] := by
  show Y.getD (i : Int).toNat z52 = _
  simp [h]
theorem rdA (Y : List JA) (i : Nat) (h : i < Y.length) : rd_T55 Y (i : Int) = Y[i] := by
  show Y.getD (i : Int).toNat z55 = _
  simp [h]
theorem sm_mem {α : Type} (f : α → Nat) : ∀ (Y : List α) (x : α), x ∈ Y → f x ≤ sm f Y
  | y :: r, x, h => by
    rcases List.mem_cons.1 h with rfl | h
    · rw [sm]; omega
    · have := sm_mem f r x h
      rw [sm]; omega

/-! ### the printed ones -/
theorem specN : ∀ (N : Nat) (x : JN), SizeOf.sizeOf x ≤ N → nS x ≤ 1000000000 → Ev (fun k => spec_l7NetSize.f k x.f0 x.f1.f0 x.f1.f1 x.f2) (nS x)
  | 0, x, h, _ => by obtain ⟨a, b, c⟩ := x; simp at h
  | N + 1, x, h, hb => by
    have hlen : x.f2.length ≤ 1000000000 := by
      rw [nS_eq] at hb
      have : ∀ Y : List JN, Y.length ≤ sm nS Y := by
        intro Y
        induction Y with
        | nil => simp [sm]
        | cons y r ih => rw [sm, List.length_cons, nS_eq]; omega
      have := this x.f2
      omega
    have key := ev_loop (Y := x.f2) nS (fun k acc i => spec_l7NetSize.l0 k acc i x.f0 x.f1.f0 x.f1.f1 x.f2) (by
      intro i hi acc h0 h1
      have hm := List.getElem_mem hi
      have h2 : SizeOf.sizeOf x.f2[i] < SizeOf.sizeOf x.f2 := List.sizeOf_lt_of_mem hm
      have h3 : SizeOf.sizeOf x.f2 < SizeOf.sizeOf x := by obtain ⟨a, b, c⟩ := x; simp; omega
      have h4 := sm_mem nS x.f2 _ hm
      rw [nS_eq] at hb
      obtain ⟨k0, hk⟩ := specN N x.f2[i] (by omega) (by omega)
      refine ⟨k0, fun k hk' => ?_⟩
      try simp only
      rw [spec_l7NetSize.l0, if_pos (by omega), if_pos (by omega), rdN _ _ hi]
      have := hk k hk'
      simp only at this
      rw [this, Option.bind_some, ws _ (by omega), ws ((i : Int) + 1) (by omega)]
      rfl) (by
      intro k acc
      try simp only
      rw [spec_l7NetSize.l0, if_neg (by omega)]) x.f2.length 0 1 (by omega) (by omega) (by rw [List.drop_zero]; rw [nS_eq] at hb; omega)
    obtain ⟨k0, hk⟩ := key
    refine ⟨k0 + 1, fun m hm => ?_⟩
    obtain ⟨m, rfl⟩ : ∃ q, m = q + 1 := ⟨m - 1, by omega⟩
    have := hk m (by omega)
    simp only [List.drop_zero] at this
    show spec_l7NetSize.f (m + 1) _ _ _ _ = _
    rw [spec_l7NetSize.f, nS_eq]
    rw [show ((0 : Nat) : Int) = 0 from rfl] at this
    rw [this]
    congr 1
theorem implN : ∀ (N : Nat) (x : JN), SizeOf.sizeOf x ≤ N → nS x ≤ 1000000000 → Ev (fun k => impl_Net_size.f k x.f0 x.f1.f0 x.f1.f1 x.f2) (nS x)
  | 0, x, h, _ => by obtain ⟨a, b, c⟩ := x; simp at h
  | N + 1, x, h, hb => by
    have hlen : x.f2.length ≤ 1000000000 := by
      rw [nS_eq] at hb
      have : ∀ Y : List JN, Y.length ≤ sm nS Y := by
        intro Y
        induction Y with
        | nil => simp [sm]
        | cons y r ih => rw [sm, List.length_cons, nS_eq]; omega
      have := this x.f2
      omega
    have key := ev_loop (Y := x.f2) nS (fun k acc i => impl_Net_size.l0 k acc x.f2 (x.f2.length : Int) i) (by
      intro i hi acc h0 h1
      have hm := List.getElem_mem hi
      have h2 : SizeOf.sizeOf x.f2[i] < SizeOf.sizeOf x.f2 := List.sizeOf_lt_of_mem hm
      have h3 : SizeOf.sizeOf x.f2 < SizeOf.sizeOf x := by obtain ⟨a, b, c⟩ := x; simp; omega
      have h4 := sm_mem nS x.f2 _ hm
      rw [nS_eq] at hb
      obtain ⟨k0, hk⟩ := implN N x.f2[i] (by omega) (by omega)
      refine ⟨k0, fun k hk' => ?_⟩
      try simp only
      rw [impl_Net_size.l0, if_pos (by omega), if_pos (by omega), if_pos (by omega), rdN _ _ hi]
      have := hk k hk'
      simp only at this
      rw [this, Option.bind_some, ws _ (by omega), ws ((i : Int) + 1) (by omega)]
      rfl) (by
      intro k acc
      try simp only
      rw [impl_Net_size.l0, if_neg (by omega)]) x.f2.length 0 1 (by omega) (by omega) (by rw [List.drop_zero]; rw [nS_eq] at hb; omega)
    obtain ⟨k0, hk⟩ := key
    refine ⟨k0 + 1, fun m hm => ?_⟩
    obtain ⟨m, rfl⟩ : ∃ q, m = q + 1 := ⟨m - 1, by omega⟩
    have := hk m (by omega)
    simp only [List.drop_zero] at this
    show impl_Net_size.f (m + 1) _ _ _ _ = _
    rw [impl_Net_size.f, nS_eq]
    rw [show ((0 : Nat) : Int) = 0 from rfl] at this
    rw [this]
    congr 1
theorem specNone (x : JN) : spec_l7None.f x.f0 x.f1.f0 x.f1.f1 x.f2 = some (nn x) := by
  unfold spec_l7None.f nn
  by_cases h1 : x.f0 = 0
  · rw [if_pos h1, beq_iff_eq.2 h1, Bool.true_and]
    by_cases h2 : x.f1.f0 = 0
    · rw [if_pos h2, beq_iff_eq.2 h2, Bool.true_and]
      by_cases h3 : (x.f1.f1.length : Int) = 0
      · rw [if_pos h3, beq_iff_eq.2 h3, Bool.true_and]
      · rw [if_neg h3, beq_eq_false_iff_ne.2 h3, Bool.false_and]
    · rw [if_neg h2, beq_eq_false_iff_ne.2 h2, Bool.false_and]
  · rw [if_neg h1, beq_eq_false_iff_ne.2 h1, Bool.false_and]
theorem implNone (x : JN) : impl_Net_none.f x.f0 x.f1.f0 x.f1.f1 x.f2 = some (nn x) := by
  unfold impl_Net_none.f impl_Elem_bare.f nn
  by_cases h1 : x.f0 = 0
  · rw [if_pos h1, beq_iff_eq.2 h1, Bool.true_and]
    by_cases h2 : x.f1.f0 = 0
    · rw [if_pos h2, beq_iff_eq.2 h2, Bool.true_and, Option.bind_some]
      by_cases h3 : (x.f1.f1.length : Int) = 0
      · rw [beq_iff_eq.2 h3, if_pos rfl, Bool.true_and]
      · rw [beq_eq_false_iff_ne.2 h3, if_neg (by decide), Bool.false_and]
    · rw [if_neg h2, beq_eq_false_iff_ne.2 h2, Option.bind_some, if_neg (by decide), Bool.false_and]
  · rw [if_neg h1, beq_eq_false_iff_ne.2 h1, Bool.false_and]
theorem len_aS (Y : List JA) : Y.length ≤ sm aS Y := by
  induction Y with
  | nil => simp [sm]
  | cons y r ih => rw [sm, List.length_cons, aS_eq]; omega
theorem specA : ∀ (N : Nat) (x : JA), SizeOf.sizeOf x ≤ N → aS x ≤ 1000000000 → Ev (fun k => spec_l7ArmSize.f k x.f0.f0 x.f0.f1.f0 x.f0.f1.f1 x.f0.f2 x.f1 x.f2) (aS x)
  | 0, x, h, _ => by obtain ⟨a, b, c⟩ := x; simp at h
  | N + 1, x, h, hb => by
    have hb' := hb
    rw [aS_eq] at hb'
    have hlen := len_aS x.f2
    have key : ∀ acc : Int, 0 ≤ acc → acc + sm aS x.f2 ≤ 1000000001 → Ev (fun k => spec_l7ArmSize.l0 k acc 0 x.f0.f0 x.f0.f1.f0 x.f0.f1.f1 x.f0.f2 x.f1 x.f2) (acc + sm aS x.f2) := by
      intro acc ha hs
      have := ev_loop (Y := x.f2) aS (fun k acc i => spec_l7ArmSize.l0 k acc i x.f0.f0 x.f0.f1.f0 x.f0.f1.f1 x.f0.f2 x.f1 x.f2) (by
        intro i hi acc h0 h1
        have hm := List.getElem_mem hi
        have h2 : SizeOf.sizeOf x.f2[i] < SizeOf.sizeOf x.f2 := List.sizeOf_lt_of_mem hm
        have h3 : SizeOf.sizeOf x.f2 < SizeOf.sizeOf x := by obtain ⟨a, b, c⟩ := x; simp; omega
        have h4 := sm_mem aS x.f2 _ hm
        obtain ⟨k0, hk⟩ := specA N x.f2[i] (by omega) (by omega)
        refine ⟨k0, fun k hk' => ?_⟩
        try simp only
        rw [spec_l7ArmSize.l0, if_pos (by omega), if_pos (by omega), rdA _ _ hi]
        have := hk k hk'
        simp only at this
        rw [this, Option.bind_some, ws _ (by omega), ws ((i : Int) + 1) (by omega)]
        rfl) (by
        intro k acc
        try simp only
        rw [spec_l7ArmSize.l0, if_neg (by omega)]) x.f2.length 0 acc (by omega) ha (by rw [List.drop_zero]; omega)
      simpa using this
    cases hn : nn x.f0 with
    | true =>
      rw [hn, if_pos rfl] at hb'
      obtain ⟨k0, hk⟩ := key (1 + x.f1.length) (by omega) (by omega)
      refine ⟨k0 + 2, fun m hm => ?_⟩
      obtain ⟨m, rfl⟩ : ∃ q, m = q + 2 := ⟨m - 2, by omega⟩
      show spec_l7ArmSize.f (m + 1 + 1) _ _ _ _ _ _ = _
      rw [spec_l7ArmSize.f, specNone, hn, Option.bind_some, if_pos rfl, spec_l7ArmSize.j0, ws _ (by omega)]
      have := hk m (by omega)
      simp only at this
      rw [this, aS_eq, hn, if_pos rfl]
      congr 1 <;> omega
    | false =>
      rw [hn, if_neg (by decide)] at hb'
      obtain ⟨k1, hk1⟩ := specN _ x.f0 (Nat.le_refl _) (by omega)
      obtain ⟨k0, hk⟩ := key (1 + x.f1.length + nS x.f0) (by omega) (by omega)
      refine ⟨k0 + k1 + 2, fun m hm => ?_⟩
      obtain ⟨m, rfl⟩ : ∃ q, m = q + 2 := ⟨m - 2, by omega⟩
      show spec_l7ArmSize.f (m + 1 + 1) _ _ _ _ _ _ = _
      have h1 := hk1 (m + 1) (by omega)
      simp only at h1
      rw [spec_l7ArmSize.f, specNone, hn, Option.bind_some, if_neg (by decide), h1, Option.bind_some, spec_l7ArmSize.j0, ws (1 + (x.f1.length : Int)) (by omega), ws _ (by omega)]
      have := hk m (by omega)
      simp only at this
      rw [this, aS_eq, hn, if_neg (by decide)]
      congr 1 <;> omega
theorem specT (Y : List JA) (hb : sm aS Y ≤ 1000000000) : Ev (fun k => spec_TreeSize.f k Y) (sm aS Y) := by
  have hlen := len_aS Y
  have := ev_loop (Y := Y) aS (fun k acc i => spec_TreeSize.l0 k Y acc i) (by
    intro i hi acc h0 h1
    have hm := List.getElem_mem hi
    have h4 := sm_mem aS Y _ hm
    obtain ⟨k0, hk⟩ := specA _ Y[i] (Nat.le_refl _) (by omega)
    refine ⟨k0, fun k hk' => ?_⟩
    try simp only
    rw [spec_TreeSize.l0, if_pos (by omega), if_pos (by omega), rdA _ _ hi]
    have := hk k hk'
    simp only at this
    rw [this, Option.bind_some, ws _ (by omega), ws ((i : Int) + 1) (by omega)]
    rfl) (by
    intro k acc
    try simp only
    rw [spec_TreeSize.l0, if_neg (by omega)]) Y.length 0 0 (by omega) (Int.le_refl _) (by rw [List.drop_zero]; omega)
  simpa [spec_TreeSize.f] using this
theorem implT : ∀ (N : Nat) (Y : List JA), SizeOf.sizeOf Y ≤ N → sm aS Y ≤ 1000000000 → Ev (fun k => impl_TreeSize.f k Y) (sm aS Y)
  | 0, Y, h, _ => by cases Y <;> simp at h
  | N + 1, Y, h, hb => by
    have hlen := len_aS Y
    have key := ev_loop (Y := Y) aS (fun k acc i => impl_TreeSize.l0 k acc Y (Y.length : Int) i) (by
      intro i hi acc h0 h1
      have hm := List.getElem_mem hi
      have h2 : SizeOf.sizeOf Y[i] < SizeOf.sizeOf Y := List.sizeOf_lt_of_mem hm
      have h3 : SizeOf.sizeOf Y[i].f2 < SizeOf.sizeOf Y[i] := by
        generalize Y[i] = y
        obtain ⟨a, b, c⟩ := y
        simp
        omega
      have h4 := sm_mem aS Y _ hm
      have h5 := aS_eq Y[i]
      obtain ⟨k0, hk⟩ := implT N Y[i].f2 (by omega) (by omega)
      cases hn : nn Y[i].f0 with
      | true =>
        rw [hn, if_pos rfl] at h5
        refine ⟨k0, fun k hk' => ?_⟩
        try simp only
        have h6 := hk k hk'
        simp only at h6
        rw [impl_TreeSize.l0, if_pos (by omega), if_pos (by omega), if_pos (by omega), rdA _ _ hi, h6, Option.bind_some, implNone, hn, Option.bind_some, if_pos rfl, ws (1 + (Y[i].f1.length : Int)) (by omega), ws (1 + (Y[i].f1.length : Int) + (sm aS Y[i].f2 : Nat)) (by omega), ws _ (by omega), ws ((i : Int) + 1) (by omega), h5]
        congr 1 <;> omega
      | false =>
        rw [hn, if_neg (by decide)] at h5
        obtain ⟨k1, hk1⟩ := implN _ Y[i].f0 (Nat.le_refl _) (by omega)
        refine ⟨k0 + k1, fun k hk' => ?_⟩
        try simp only
        have h6 := hk k (by omega)
        have h7 := hk1 k (by omega)
        simp only at h6 h7
        rw [impl_TreeSize.l0, if_pos (by omega), if_pos (by omega), if_pos (by omega), rdA _ _ hi, h6, Option.bind_some, implNone, hn, Option.bind_some, if_neg (by decide), h7, Option.bind_some, ws (1 + (Y[i].f1.length : Int)) (by omega), ws (1 + (Y[i].f1.length : Int) + (sm aS Y[i].f2 : Nat)) (by omega), ws (acc + (1 + (Y[i].f1.length : Int) + (sm aS Y[i].f2 : Nat))) (by omega), ws _ (by omega), ws ((i : Int) + 1) (by omega), h5]
        congr 1 <;> omega) (by
      intro k acc
      try simp only
      rw [impl_TreeSize.l0, if_neg (by omega)]) Y.length 0 0 (by omega) (Int.le_refl _) (by rw [List.drop_zero]; omega)
    obtain ⟨k0, hk⟩ := key
    refine ⟨k0 + 1, fun m hm => ?_⟩
    obtain ⟨m, rfl⟩ : ∃ q, m = q + 1 := ⟨m - 1, by omega⟩
    have := hk m (by omega)
    simp only [List.drop_zero, Int.zero_add] at this
    show impl_TreeSize.f (m + 1) _ = _
    rw [impl_TreeSize.f]
    rw [show ((0 : Nat) : Int) = 0 from rfl] at this
    exact this
/-- Both counts of the copy come to the same. -/
theorem size_law (X : List EA) (hw : wAs X ≤ 1048576) : ∃ r k1 k2, spec_TreeSize.f k1 (X.map cA) = some r ∧ impl_TreeSize.f k2 (X.map cA) = some r := by
  have hb : sm aS (X.map cA) ≤ 1000000000 := by
    rw [← aSs_eq, ← cAs_eq]
    have := aSs_le X
    omega
  obtain ⟨k1, h1⟩ := specT _ hb
  obtain ⟨k2, h2⟩ := implT _ _ (Nat.le_refl _) hb
  exact ⟨_, k1, k2, h1 k1 (Nat.le_refl _), h2 k2 (Nat.le_refl _)⟩
end Go.Proofs.Ytkiemiolellllaa.tree
