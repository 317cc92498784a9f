/-
  How often a ladder uses an operand: what the document's count and the program's count come to.
  Conditions: a ladder of at most 1048576 parts.
-/
import Derived.Test.YtkiemiolellllaaTreeSzLaw
import Derived.Test.YtkiemiolellllaaCutUsx6
namespace Go.Proofs.Ytkiemiolellllaa.tree
open Go Go.RowKit Go.Proofs.Ytkiemiolellllaa.CutTr Go.Proofs.YtkiemiolellllaaW.PrintWords
set_option linter.unusedVariables false
set_option linter.unusedSimpArgs false

abbrev JE := S49
abbrev JD := S32
theorem Ev.back {α : Type} {f g : Nat → Option α} {v : α} (h : Ev g v) (k0 : Nat) (e : ∀ k, k0 ≤ k → f (k + 1) = g k) : Ev f v := by
  obtain ⟨k1, h1⟩ := h
  refine ⟨k0 + k1 + 1, fun m hm => ?_⟩
  obtain ⟨m, rfl⟩ : ∃ q, m = q + 1 := ⟨m - 1, by omega⟩
  rw [e m (by omega), h1 m (by omega)]
theorem Ev.now {α : Type} {f : Nat → Option α} {v : α} (e : ∀ k, f (k + 1) = some v) : Ev f v := by
  refine ⟨1, fun m hm => ?_⟩
  obtain ⟨m, rfl⟩ : ∃ q, m = q + 1 := ⟨m - 1, by omega⟩
  exact e m
theorem ev_loop2 {α : Type} {Y : List α} (s : α → Nat) (L : Nat → Int → Int → Option Int) (v : Int) (B : Int)
    (hstep : ∀ (i : Nat) (hi : i < Y.length) (acc : Int), 0 ≤ acc → acc + s Y[i] ≤ B → Ev (fun k => L k (acc + s Y[i]) ((i + 1 : Nat) : Int)) v → Ev (fun k => L k acc i) v) :
    ∀ (d i : Nat) (acc : Int), i + d = Y.length → 0 ≤ acc → acc + sm s (Y.drop i) ≤ B → Ev (fun k => L k (acc + sm s (Y.drop i)) Y.length) v → Ev (fun k => L k acc i) v
  | 0, i, acc, hi, h0, hb, hv => by
    have : i = Y.length := by omega
    subst this
    simpa [sm] using hv
  | d + 1, i, acc, hi, h0, hb, hv => by
    have hlt : i < Y.length := by omega
    have e : Y.drop i = Y[i] :: Y.drop (i + 1) := List.drop_eq_getElem_cons hlt
    rw [e, sm] at hb hv
    refine hstep i hlt acc h0 (by omega) (ev_loop2 s L v B hstep d (i + 1) (acc + s Y[i]) (by omega) (by omega) (by omega) ?_)
    have e2 : acc + s Y[i] + sm s (Y.drop (i + 1)) = acc + ((s Y[i] + sm s (Y.drop (i + 1)) : Nat) : Int) := by omega
    rw [e2]
    exact hv
theorem ev_loop0 {α : Type} {Y : List α} (s : α → Nat) (L : Nat → Int → Int → Option Int) (v : Int) (B : Int)
    (hstep : ∀ (i : Nat) (hi : i < Y.length) (acc : Int), 0 ≤ acc → acc + s Y[i] ≤ B → Ev (fun k => L k (acc + s Y[i]) ((i + 1 : Nat) : Int)) v → Ev (fun k => L k acc i) v)
    (acc : Int) (h0 : 0 ≤ acc) (hb : acc + sm s Y ≤ B) (hv : Ev (fun k => L k (acc + sm s Y) Y.length) v) : Ev (fun k => L k acc 0) v := by
  have := ev_loop2 s L v B hstep Y.length 0 acc (by omega) h0 (by simpa using hb) (by simpa using hv)
  simpa using this

/-! ### the weights of the copies -/
def lE (x : JE) : Nat := x.f1.length
mutual
def bN : JN → Nat
  | ⟨_, e, ks⟩ => 1 + e.f1.length + bNs ks
def bNs : List JN → Nat
  | [] => 0
  | x :: r => bN x + bNs r
end
mutual
def bA : JA → Nat
  | ⟨n, cs, ks⟩ => 1 + bN n + cs.length + sm lE cs + bAs ks
def bAs : List JA → Nat
  | [] => 0
  | x :: r => bA x + bAs r
end
theorem bNs_eq (ks : List JN) : bNs ks = sm bN ks := by
  induction ks with
  | nil => rfl
  | cons x r ih => rw [bNs, sm, ih]
theorem bAs_eq (ks : List JA) : bAs ks = sm bA ks := by
  induction ks with
  | nil => rfl
  | cons x r ih => rw [bAs, sm, ih]
theorem bN_eq (x : JN) : bN x = 1 + x.f1.f1.length + sm bN x.f2 := by obtain ⟨a, b, ks⟩ := x; rw [bN, bNs_eq]
theorem bA_eq (x : JA) : bA x = 1 + bN x.f0 + x.f1.length + sm lE x.f1 + sm bA x.f2 := by obtain ⟨a, b, ks⟩ := x; rw [bA, bAs_eq]
theorem len_bN (Y : List JN) : Y.length ≤ sm bN Y := by
  induction Y with
  | nil => simp [sm]
  | cons y r ih => rw [sm, List.length_cons, bN_eq]; omega
theorem len_bA (Y : List JA) : Y.length ≤ sm bA Y := by
  induction Y with
  | nil => simp [sm]
  | cons y r ih => rw [sm, List.length_cons, bA_eq]; omega
mutual
theorem bN_le (x : EN) : bN (cN x) ≤ 1 + wN x := by
  obtain ⟨a, e, ks⟩ := x
  rw [cN, bN, wN]
  have := bNs_le ks
  have h : (cE e).f1.length = e.f1.length := by unfold cE; exact List.length_map _
  omega
theorem bNs_le (Y : List EN) : bNs (cNs Y) ≤ wNs Y := by
  cases Y with
  | nil => simp [cNs, bNs]
  | cons x r =>
    rw [cNs, bNs, wNs]
    have h1 := bN_le x
    have h2 := bNs_le r
    omega
end
theorem smE_map (Y : List EE) : sm lE (Y.map cE) = sm (fun x => x.f1.length) Y := by
  induction Y with
  | nil => rfl
  | cons x r ih =>
    have h : lE (cE x) = x.f1.length := by unfold lE cE; exact List.length_map _
    rw [List.map_cons, sm, sm, ih, h]
mutual
theorem bA_le (x : EA) : bA (cA x) ≤ 2 + 2 * wA x := by
  obtain ⟨n, cs, ks⟩ := x
  rw [cA, bA, wA, List.length_map, smE_map]
  have h1 := bN_le n
  have h2 := wEs_eq cs
  have h3 := bAs_le ks
  omega
theorem bAs_le (Y : List EA) : bAs (cAs Y) ≤ 2 * wAs Y := by
  cases Y with
  | nil => simp [cAs, bAs]
  | cons x r =>
    rw [cAs, bAs, wAs]
    have h1 := bA_le x
    have h2 := bAs_le r
    omega
end

/-! ### the counts -/
section
variable (p q r : Int)
def uD (x : JD) : Nat := if (x.f0 == p && (x.f1 == q && x.f2 == r)) = true then 1 else 0
def uE (x : JE) : Nat := sm (uD p q r) x.f1
mutual
def uN : JN → Nat
  | ⟨_, e, ks⟩ => uE p q r e + uNs ks
def uNs : List JN → Nat
  | [] => 0
  | x :: t => uN x + uNs t
end
mutual
def uA : JA → Nat
  | ⟨n, cs, ks⟩ => uN p q r n + sm (uE p q r) cs + uAs ks
def uAs : List JA → Nat
  | [] => 0
  | x :: t => uA x + uAs t
end
theorem uNs_eq (ks : List JN) : uNs p q r ks = sm (uN p q r) ks := by
  induction ks with
  | nil => rfl
  | cons x t ih => rw [uNs, sm, ih]
theorem uAs_eq (ks : List JA) : uAs p q r ks = sm (uA p q r) ks := by
  induction ks with
  | nil => rfl
  | cons x t ih => rw [uAs, sm, ih]
theorem uN_eq (x : JN) : uN p q r x = uE p q r x.f1 + sm (uN p q r) x.f2 := by obtain ⟨a, b, ks⟩ := x; rw [uN, uNs_eq]
theorem uA_eq (x : JA) : uA p q r x = uN p q r x.f0 + sm (uE p q r) x.f1 + sm (uA p q r) x.f2 := by obtain ⟨a, b, ks⟩ := x; rw [uA, uAs_eq]
theorem uE_le (x : JE) : uE p q r x ≤ x.f1.length := by
  unfold uE
  generalize x.f1 = Y
  induction Y with
  | nil => simp [sm]
  | cons y t ih =>
    have : uD p q r y ≤ 1 := by unfold uD; split <;> omega
    rw [sm, List.length_cons]; omega
mutual
theorem uN_le (x : JN) : uN p q r x ≤ bN x := by
  obtain ⟨a, e, ks⟩ := x
  rw [uN, bN]
  have h1 := uE_le p q r e
  have h2 := uNs_le ks
  omega
theorem uNs_le (Y : List JN) : uNs p q r Y ≤ bNs Y := by
  cases Y with
  | nil => simp [uNs, bNs]
  | cons x t =>
    rw [uNs, bNs]
    have h1 := uN_le x
    have h2 := uNs_le t
    omega
end
theorem uEs_le (Y : List JE) : sm (uE p q r) Y ≤ sm lE Y := by
  induction Y with
  | nil => simp [sm]
  | cons y t ih =>
    have : uE p q r y ≤ lE y := uE_le p q r y
    rw [sm, sm]; omega
mutual
theorem uA_le (x : JA) : uA p q r x ≤ bA x := by
  obtain ⟨n, cs, ks⟩ := x
  rw [uA, bA]
  have h1 := uN_le p q r n
  have h2 := uEs_le p q r cs
  have h3 := uAs_le ks
  omega
theorem uAs_le (Y : List JA) : uAs p q r Y ≤ bAs Y := by
  cases Y with
  | nil => simp [uAs, bAs]
  | cons x t =>
    rw [uAs, bAs]
    have h1 := uA_le x
    have h2 := uAs_le t
    omega
end
theorem rdD (Y : List JD) (i : Nat) (h : i < Y.length) : rd_T32 Y (i : Int) = Y[i] := by
  show Y.getD (i : Int).toNat z32 = _
  simp [h]
theorem rdE (Y : List JE) (i : Nat) (h : i < Y.length) : rd_T49 Y (i : Int) = Y[i] := by
  show Y.getD (i : Int).toNat z49 = _
  simp [h]
/-! ### the printed ones -/
theorem uspecE (x : JE) (hx : x.f1.length ≤ 1000000000) : Ev (fun k => spec_l7ElemUses.f k x.f0 x.f1 p q r) (uE p q r x) := by
  have hu := uE_le p q r x
  refine ev_loop0 (Y := x.f1) (uD p q r) (fun k acc i => spec_l7ElemUses.l0 k acc i x.f0 x.f1 p q r) _ 1000000000 ?_ 0 (Int.le_refl _) (by show (0 : Int) + (uE p q r x : Nat) ≤ _; omega) (Ev.now fun k => by
    try simp only
    rw [spec_l7ElemUses.l0, if_neg (by omega), Int.zero_add]
    rfl)
  intro i hi acc h0 h1 ih
  refine ih.back 0 fun k _ => ?_
  try simp only
  rw [spec_l7ElemUses.l0, if_pos (by omega), if_pos (by omega), rdD _ _ hi, ws ((i : Int) + 1) (by omega)]
  by_cases h : (x.f1[i].f0 == p && (x.f1[i].f1 == q && x.f1[i].f2 == r)) = true
  · have e : uD p q r x.f1[i] = 1 := if_pos h
    rw [if_pos h, e, ws _ (by omega)]
    rfl
  · have e : uD p q r x.f1[i] = 0 := if_neg h
    rw [if_neg h, e, Int.natCast_zero, Int.add_zero]
    rfl
theorem uimplE (x : JE) (hx : x.f1.length ≤ 1000000000) : Ev (fun k => impl_Elem_uses.f k x.f0 x.f1 p q r) (uE p q r x) := by
  have hu := uE_le p q r x
  refine ev_loop0 (Y := x.f1) (uD p q r) (fun k acc i => impl_Elem_uses.l0 k acc x.f1 (x.f1.length : Int) i p q r) _ 1000000000 ?_ 0 (Int.le_refl _) (by show (0 : Int) + (uE p q r x : Nat) ≤ _; omega) (Ev.now fun k => by
    try simp only
    rw [impl_Elem_uses.l0, if_neg (by omega), Int.zero_add]
    rfl)
  intro i hi acc h0 h1 ih
  refine ih.back 0 fun k _ => ?_
  try simp only
  rw [impl_Elem_uses.l0, if_pos (by omega), if_pos (by omega), if_pos (by omega), rdD _ _ hi, ws ((i : Int) + 1) (by omega)]
  by_cases h : (x.f1[i].f0 == p && (x.f1[i].f1 == q && x.f1[i].f2 == r)) = true
  · have e : uD p q r x.f1[i] = 1 := if_pos h
    rw [if_pos h, e, ws _ (by omega)]
    rfl
  · have e : uD p q r x.f1[i] = 0 := if_neg h
    rw [if_neg h, e, Int.natCast_zero, Int.add_zero]
    rfl
theorem uspecN : ∀ (N : Nat) (x : JN), SizeOf.sizeOf x ≤ N → bN x ≤ 1000000000 → Ev (fun k => spec_l7NetUses.f k x.f0 x.f1.f0 x.f1.f1 x.f2 p q r) (uN p q r x)
  | 0, x, h, _ => by obtain ⟨a, b, c⟩ := x; simp at h
  | N + 1, x, h, hb => by
    have hb' := hb
    rw [bN_eq] at hb'
    have hlen := len_bN x.f2
    have hu := uN_le p q r x
    have hue := uN_eq p q r x
    obtain ⟨k1, hk1⟩ := uspecE p q r x.f1 (by omega)
    have key : Ev (fun k => spec_l7NetUses.l0 k (uE p q r x.f1) 0 x.f0 x.f1.f0 x.f1.f1 x.f2 p q r) (uN p q r x) := by
      refine ev_loop0 (Y := x.f2) (uN p q r) (fun k acc i => spec_l7NetUses.l0 k acc i x.f0 x.f1.f0 x.f1.f1 x.f2 p q r) _ 1000000000 ?_ _ (by omega) (by omega) (Ev.now fun k => by
        try simp only
        rw [spec_l7NetUses.l0, if_neg (by omega), hue, Int.natCast_add])
      intro i hi acc h0 h1 ih
      have hm := List.getElem_mem hi
      have h2 : SizeOf.sizeOf x.f2[i] < SizeOf.sizeOf x.f2 := List.sizeOf_lt_of_mem hm
      have h3 : SizeOf.sizeOf x.f2 < SizeOf.sizeOf x := by obtain ⟨a, b, c⟩ := x; simp; omega
      have h4 := sm_mem bN x.f2 _ hm
      obtain ⟨k0, hk⟩ := uspecN N x.f2[i] (by omega) (by omega)
      refine ih.back k0 fun k hk' => ?_
      have := hk k hk'
      simp only at this
      try simp only
      rw [spec_l7NetUses.l0, if_pos (by omega), if_pos (by omega), rdN _ _ hi, this, Option.bind_some, ws _ (by omega), ws ((i : Int) + 1) (by omega)]
      rfl
    refine key.back k1 fun k hk => ?_
    have := hk1 k hk
    simp only at this
    try simp only
    rw [spec_l7NetUses.f, this, Option.bind_some]
theorem uimplN : ∀ (N : Nat) (x : JN), SizeOf.sizeOf x ≤ N → bN x ≤ 1000000000 → Ev (fun k => impl_Net_uses.f k x.f0 x.f1.f0 x.f1.f1 x.f2 p q r) (uN p q r x)
  | 0, x, h, _ => by obtain ⟨a, b, c⟩ := x; simp at h
  | N + 1, x, h, hb => by
    have hb' := hb
    rw [bN_eq] at hb'
    have hlen := len_bN x.f2
    have hu := uN_le p q r x
    have hue := uN_eq p q r x
    obtain ⟨k1, hk1⟩ := uimplE p q r x.f1 (by omega)
    have key : Ev (fun k => impl_Net_uses.l0 k (uE p q r x.f1) x.f2 (x.f2.length : Int) 0 p q r) (uN p q r x) := by
      refine ev_loop0 (Y := x.f2) (uN p q r) (fun k acc i => impl_Net_uses.l0 k acc x.f2 (x.f2.length : Int) i p q r) _ 1000000000 ?_ _ (by omega) (by omega) (Ev.now fun k => by
        try simp only
        rw [impl_Net_uses.l0, if_neg (by omega), hue, Int.natCast_add])
      intro i hi acc h0 h1 ih
      have hm := List.getElem_mem hi
      have h2 : SizeOf.sizeOf x.f2[i] < SizeOf.sizeOf x.f2 := List.sizeOf_lt_of_mem hm
      have h3 : SizeOf.sizeOf x.f2 < SizeOf.sizeOf x := by obtain ⟨a, b, c⟩ := x; simp; omega
      have h4 := sm_mem bN x.f2 _ hm
      obtain ⟨k0, hk⟩ := uimplN N x.f2[i] (by omega) (by omega)
      refine ih.back k0 fun k hk' => ?_
      have := hk k hk'
      simp only at this
      try simp only
      rw [impl_Net_uses.l0, if_pos (by omega), if_pos (by omega), if_pos (by omega), rdN _ _ hi, this, Option.bind_some, ws _ (by omega), ws ((i : Int) + 1) (by omega)]
      rfl
    refine key.back k1 fun k hk => ?_
    have := hk1 k hk
    simp only at this
    try simp only
    rw [impl_Net_uses.f, this, Option.bind_some]
theorem uspecT : ∀ (N : Nat) (Y : List JA), SizeOf.sizeOf Y ≤ N → sm bA Y ≤ 1000000000 → Ev (fun k => spec_TreeUses.f k Y p q r) (sm (uA p q r) Y)
  | 0, Y, h, _ => by cases Y <;> simp at h
  | N + 1, Y, h, hb => by
    have hlen := len_bA Y
    have hu : sm (uA p q r) Y ≤ sm bA Y := by rw [← uAs_eq, ← bAs_eq]; exact uAs_le p q r Y
    have key : Ev (fun k => spec_TreeUses.l0 k Y 0 0 p q r) (sm (uA p q r) Y) := by
      refine ev_loop0 (Y := Y) (uA p q r) (fun k acc i => spec_TreeUses.l0 k Y acc i p q r) _ 1000000000 ?_ 0 (Int.le_refl _) (by omega) (Ev.now fun k => by
        try simp only
        rw [spec_TreeUses.l0, if_neg (by omega), Int.zero_add])
      intro i hi acc h0 h1 ih
      have hm := List.getElem_mem hi
      have h2 : SizeOf.sizeOf Y[i] < SizeOf.sizeOf Y := List.sizeOf_lt_of_mem hm
      have h3 : SizeOf.sizeOf Y[i].f2 < SizeOf.sizeOf Y[i] := by
        generalize Y[i] = y
        obtain ⟨a, b, c⟩ := y
        simp
        omega
      have h4 := sm_mem bA Y _ hm
      have h5 := uA_eq p q r Y[i]
      have h6 := bA_eq Y[i]
      obtain ⟨k1, hk1⟩ := uspecN p q r _ Y[i].f0 (Nat.le_refl _) (by omega)
      obtain ⟨k2, hk2⟩ := uspecT N Y[i].f2 (by omega) (by omega)
      have inner : Ev (fun k => spec_TreeUses.l1 k Y (acc + uN p q r Y[i].f0) i 0 p q r) (sm (uA p q r) Y) := by
        refine ev_loop0 (Y := Y[i].f1) (uE p q r) (fun k acc j => spec_TreeUses.l1 k Y acc i j p q r) _ (acc + uA p q r Y[i]) ?_ _ (by omega) (by omega) ?_
        · intro j hj acc' g0 g1 ih'
          have hm' := List.getElem_mem hj
          have g4 : Y[i].f1[j].f1.length ≤ sm lE Y[i].f1 := sm_mem lE Y[i].f1 _ hm'
          obtain ⟨k0, hk⟩ := uspecE p q r Y[i].f1[j] (by omega)
          refine ih'.back k0 fun k hk' => ?_
          have := hk k hk'
          simp only at this
          try simp only
          rw [spec_TreeUses.l1, if_pos (by omega), if_pos (by omega), rdA _ _ hi, if_pos (by omega), if_pos (by omega), rdE _ _ hj, this, Option.bind_some, ws _ (by omega), ws ((j : Int) + 1) (by omega)]
          rfl
        · refine ih.back k2 fun k hk' => ?_
          have := hk2 k hk'
          simp only at this
          try simp only
          rw [spec_TreeUses.l1, if_pos (by omega), if_pos (by omega), rdA _ _ hi, if_neg (by omega), this, Option.bind_some, ws _ (by omega), ws ((i : Int) + 1) (by omega), h5]
          congr 1
          omega
      refine inner.back k1 fun k hk' => ?_
      have := hk1 k hk'
      simp only at this
      try simp only
      rw [spec_TreeUses.l0, if_pos (by omega), if_pos (by omega), rdA _ _ hi, this, Option.bind_some, ws _ (by omega)]
    refine key.back 0 fun k _ => ?_
    try simp only
    rw [spec_TreeUses.f]
theorem uimplT : ∀ (N : Nat) (Y : List JA), SizeOf.sizeOf Y ≤ N → sm bA Y ≤ 1000000000 → Ev (fun k => impl_TreeUses.f k Y p q r) (sm (uA p q r) Y)
  | 0, Y, h, _ => by cases Y <;> simp at h
  | N + 1, Y, h, hb => by
    have hlen := len_bA Y
    have hu : sm (uA p q r) Y ≤ sm bA Y := by rw [← uAs_eq, ← bAs_eq]; exact uAs_le p q r Y
    have key : Ev (fun k => impl_TreeUses.l0 k 0 Y (Y.length : Int) 0 p q r) (sm (uA p q r) Y) := by
      refine ev_loop0 (Y := Y) (uA p q r) (fun k acc i => impl_TreeUses.l0 k acc Y (Y.length : Int) i p q r) _ 1000000000 ?_ 0 (Int.le_refl _) (by omega) (Ev.now fun k => by
        try simp only
        rw [impl_TreeUses.l0, if_neg (by omega), Int.zero_add])
      intro i hi acc h0 h1 ih
      have hm := List.getElem_mem hi
      have h2 : SizeOf.sizeOf Y[i] < SizeOf.sizeOf Y := List.sizeOf_lt_of_mem hm
      have h3 : SizeOf.sizeOf Y[i].f2 < SizeOf.sizeOf Y[i] := by
        generalize Y[i] = y
        obtain ⟨a, b, c⟩ := y
        simp
        omega
      have h4 := sm_mem bA Y _ hm
      have h5 := uA_eq p q r Y[i]
      have h6 := bA_eq Y[i]
      obtain ⟨k1, hk1⟩ := uimplN p q r _ Y[i].f0 (Nat.le_refl _) (by omega)
      obtain ⟨k2, hk2⟩ := uimplT N Y[i].f2 (by omega) (by omega)
      have inner : Ev (fun k => impl_TreeUses.l1 k (acc + (uN p q r Y[i].f0 + sm (uA p q r) Y[i].f2)) Y (Y.length : Int) i Y[i].f1 (Y[i].f1.length : Int) 0 p q r) (sm (uA p q r) Y) := by
        refine ev_loop0 (Y := Y[i].f1) (uE p q r) (fun k acc j => impl_TreeUses.l1 k acc Y (Y.length : Int) i Y[i].f1 (Y[i].f1.length : Int) j p q r) _ (acc + uA p q r Y[i]) ?_ _ (by omega) (by omega) ?_
        · intro j hj acc' g0 g1 ih'
          have hm' := List.getElem_mem hj
          have g4 : Y[i].f1[j].f1.length ≤ sm lE Y[i].f1 := sm_mem lE Y[i].f1 _ hm'
          obtain ⟨k0, hk⟩ := uimplE p q r Y[i].f1[j] (by omega)
          refine ih'.back k0 fun k hk' => ?_
          have := hk k hk'
          simp only at this
          try simp only
          rw [impl_TreeUses.l1, if_pos (by omega), if_pos (by omega), if_pos (by omega), rdE _ _ hj, this, Option.bind_some, ws _ (by omega), ws ((j : Int) + 1) (by omega)]
          rfl
        · refine ih.back 0 fun k hk' => ?_
          try simp only
          rw [impl_TreeUses.l1, if_neg (by omega), ws ((i : Int) + 1) (by omega), h5]
          congr 1
          omega
      refine inner.back (k1 + k2) fun k hk' => ?_
      have e1 := hk1 k (by omega)
      have e2 := hk2 k (by omega)
      simp only at e1 e2
      try simp only
      rw [impl_TreeUses.l0, if_pos (by omega), if_pos (by omega), if_pos (by omega), rdA _ _ hi, e1, Option.bind_some, e2, Option.bind_some, ws ((uN p q r Y[i].f0 : Nat) + (sm (uA p q r) Y[i].f2 : Nat) : Int) (by omega), ws _ (by omega)]
    refine key.back 0 fun k _ => ?_
    try simp only
    rw [impl_TreeUses.f]
end
/-- Both counts of the copy come to the same. -/
theorem uses_law (X : List EA) (hw : wAs X ≤ 1048576) (p q r : Int) : ∃ v k1 k2, spec_TreeUses.f k1 (X.map cA) p q r = some v ∧ impl_TreeUses.f k2 (X.map cA) p q r = some v := by
  have hb : sm bA (X.map cA) ≤ 1000000000 := by
    rw [← bAs_eq, ← cAs_eq]
    have := bAs_le X
    omega
  obtain ⟨k1, h1⟩ := uspecT p q r _ _ (Nat.le_refl _) hb
  obtain ⟨k2, h2⟩ := uimplT p q r _ _ (Nat.le_refl _) hb
  exact ⟨_, k1, k2, h1 k1 (Nat.le_refl _), h2 k2 (Nat.le_refl _)⟩
end Go.Proofs.Ytkiemiolellllaa.tree
