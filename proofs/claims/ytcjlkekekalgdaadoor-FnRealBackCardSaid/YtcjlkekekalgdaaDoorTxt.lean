/-
  The text of a float, plainly: what it is, that there is one alone, that it tells the float.
  No program stands here.
-/
import Derived.Test.YtcjlkekekalgdaaDoorFlo
import Derived.Lib.ItoaNum
namespace Go.Proofs.YtcjlkekekalgdaaDoor.txt
open Go Go.Proofs.YtcjlkekekalgdaaDoor.fl Go.Proofs.YtcjlkekekalgdaaDoor.flo Go.Lib
set_option linter.unusedVariables false
set_option linter.unusedSimpArgs false
set_option maxRecDepth 20000

/-! ### the value tells the rung -/
theorem V_lo {r : Nat} (h : 2 ^ 52 ≤ r) : 2 ^ 52 * 2 ^ (r / 2 ^ 52 - 1) ≤ V r := by
  unfold V
  rw [if_neg (by omega)]
  exact Nat.mul_le_mul_right _ (by omega)
theorem V_hi {r : Nat} (h : 2 ^ 52 ≤ r) : V r < 2 ^ 52 * 2 ^ (r / 2 ^ 52) := by
  have h1 : 1 ≤ r / 2 ^ 52 := by omega
  have e : 2 ^ (r / 2 ^ 52) = 2 ^ (r / 2 ^ 52 - 1) * 2 := by
    rw [show 2 ^ (r / 2 ^ 52 - 1) * 2 = 2 ^ (r / 2 ^ 52 - 1) * 2 ^ 1 from rfl, ← Nat.pow_add, show r / 2 ^ 52 - 1 + 1 = r / 2 ^ 52 by omega]
  unfold V
  rw [if_neg (by omega), e]
  have hp := Nat.two_pow_pos (r / 2 ^ 52 - 1)
  generalize 2 ^ (r / 2 ^ 52 - 1) = z at *
  have hm : r % 2 ^ 52 < 2 ^ 52 := by omega
  generalize r % 2 ^ 52 = m at *
  have : (2 ^ 52 + m) * z < (2 ^ 52 + 2 ^ 52) * z := Nat.mul_lt_mul_of_pos_right (by omega) hp
  omega
theorem V_mono {r s : Nat} (h : r < s) : V r < V s := by
  by_cases hs : s < 2 ^ 52
  · unfold V
    rw [if_pos (by omega), if_pos hs]
    exact h
  · by_cases hr : r < 2 ^ 52
    · have a := V_lo (r := s) (by omega)
      have b := Nat.two_pow_pos (s / 2 ^ 52 - 1)
      have c : 2 ^ 52 * 1 ≤ 2 ^ 52 * 2 ^ (s / 2 ^ 52 - 1) := Nat.mul_le_mul_left _ b
      have d : V r = r := by unfold V; rw [if_pos hr]
      omega
    · by_cases hd : r / 2 ^ 52 = s / 2 ^ 52
      · unfold V
        rw [if_neg hr, if_neg hs, hd]
        exact Nat.mul_lt_mul_of_pos_right (by omega) (Nat.two_pow_pos _)
      · have a := V_hi (r := r) (by omega)
        have b := V_lo (r := s) (by omega)
        have c : 2 ^ 52 * 2 ^ (r / 2 ^ 52) ≤ 2 ^ 52 * 2 ^ (s / 2 ^ 52 - 1) := Nat.mul_le_mul_left _ (Nat.pow_le_pow_right (by omega) (by omega))
        omega
theorem V_inj {r s : Nat} (h : V r = V s) : r = s := by
  rcases Nat.lt_trichotomy r s with l | l | l
  · have := V_mono l; omega
  · exact l
  · have := V_mono l; omega
theorem V_cmp (r s : Nat) : compare (V r : Int) (V s : Int) = compare (r : Int) (s : Int) := by
  simp only [compare, compareOfLessAndEq]
  have h1 : ((V r : Int) < (V s : Int)) ↔ ((r : Int) < (s : Int)) := by
    constructor
    · intro h
      rcases Nat.lt_or_ge r s with l | l
      · omega
      · rcases Nat.eq_or_lt_of_le l with e | e
        · subst e; omega
        · have := V_mono e; omega
    · intro h
      have := V_mono (r := r) (s := s) (by omega)
      omega
  have h2 : ((V r : Int) = (V s : Int)) ↔ ((r : Int) = (s : Int)) := ⟨fun h => by have := V_inj (r := r) (s := s) (by omega); omega, fun h => congrArg (fun q : Nat => (V q : Int)) (show r = s by omega)⟩
  simp only [h1, h2]
theorem nan_iff (x : Nat) : isNan x = decide (INF < mag x) := by
  unfold isNan mag
  rw [read_eq]
  by_cases h1 : x % 2 ^ 63 < 2 ^ 52
  · rw [if_pos h1, decide_eq_false (by unfold INF; omega)]; rfl
  rw [if_neg h1]
  by_cases h2 : x % 2 ^ 63 < INF
  · rw [if_pos h2, decide_eq_false (by omega)]; rfl
  rw [if_neg h2]
  by_cases h3 : x % 2 ^ 63 = INF
  · rw [if_pos h3, decide_eq_false (by omega)]; rfl
  · rw [if_neg h3, decide_eq_true (by omega)]; rfl
theorem word_eq {x y : Nat} (hx : x < 2 ^ 64) (hy : y < 2 ^ 64) (hn : neg x = neg y) (hm : mag x = mag y) : x = y := by
  unfold neg mag at *
  have a : x / 2 ^ 63 % 2 = x / 2 ^ 63 := by omega
  have b : y / 2 ^ 63 % 2 = y / 2 ^ 63 := by omega
  rw [a, b] at hn
  by_cases h : x / 2 ^ 63 = 1
  · rw [h] at hn
    have : y / 2 ^ 63 = 1 := by simpa using hn.symm
    omega
  · have h1 : (x / 2 ^ 63 == 1) = false := by simpa using h
    rw [h1] at hn
    have : ¬ y / 2 ^ 63 = 1 := by simpa using hn.symm
    omega

/-! ### the odd part -/
def Odd (n e N : Nat) : Prop := n % 2 = 1 ∧ n * 2 ^ e = N
theorem Odd.le {n e m f N : Nat} (h : Odd n e N) (k : Odd m f N) (hef : e ≤ f) : n = m ∧ e = f := by
  obtain ⟨h1, h2⟩ := h
  obtain ⟨k1, k2⟩ := k
  have e1 : n = m * 2 ^ (f - e) := by
    apply Nat.eq_of_mul_eq_mul_right (Nat.two_pow_pos e)
    rw [h2, ← k2, Nat.mul_assoc, ← Nat.pow_add, show f - e + e = f by omega]
  rcases Nat.eq_zero_or_pos (f - e) with z | z
  · rw [z, Nat.pow_zero, Nat.mul_one] at e1
    exact ⟨e1, by omega⟩
  · exfalso
    have e2 : 2 ^ (f - e) = 2 ^ (f - e - 1) * 2 := by
      rw [show 2 ^ (f - e - 1) * 2 = 2 ^ (f - e - 1) * 2 ^ 1 from rfl, ← Nat.pow_add, show f - e - 1 + 1 = f - e by omega]
    rw [e2, ← Nat.mul_assoc] at e1
    omega
theorem Odd.uniq {n e m f N : Nat} (h : Odd n e N) (k : Odd m f N) : n = m ∧ e = f := by
  rcases Nat.le_total e f with l | l
  · exact h.le k l
  · have := k.le h l
    exact ⟨this.1.symm, this.2.symm⟩

/-! ### digits -/
def val (l : List UInt8) : Nat := l.foldl (fun a c => a * 10 + (c.toNat - 48)) 0
theorem dg_toNat {d : Nat} (h : d < 10) : (UInt8.ofNat (48 + d)).toNat = 48 + d := by
  rw [UInt8.toNat_ofNat']
  omega
theorem val_dec (u : Nat) : val (decDigits u) = u := by
  induction u using Nat.strongRecOn with
  | ind u ih =>
    rw [decDigits]
    split
    · rename_i h
      simp only [val, List.foldl_cons, List.foldl_nil, dg_toNat h]
      omega
    · rename_i h
      have := ih (u / 10) (by omega)
      unfold val at this ⊢
      rw [List.foldl_append, this]
      simp only [List.foldl_cons, List.foldl_nil, dg_toNat (Nat.mod_lt u (by omega : 0 < 10))]
      omega
theorem dec_inj {u v : Nat} (h : decDigits u = decDigits v) : u = v := by
  rw [← val_dec u, ← val_dec v, h]
theorem dec_digit (u : Nat) : ∀ c ∈ decDigits u, 48 ≤ c.toNat ∧ c.toNat ≤ 57 := by
  induction u using Nat.strongRecOn with
  | ind u ih =>
    rw [decDigits]
    split
    · rename_i h
      intro c hc
      rw [List.mem_singleton.1 hc, dg_toNat h]
      omega
    · rename_i h
      intro c hc
      rcases List.mem_append.1 hc with hc | hc
      · exact ih (u / 10) (by omega) c hc
      · rw [List.mem_singleton.1 hc, dg_toNat (Nat.mod_lt u (by omega : 0 < 10))]
        omega
theorem dec_ne (u : Nat) : decDigits u ≠ [] := by
  rw [decDigits]
  split <;> simp
theorem dec_head (u : Nat) : ∃ c l, decDigits u = c :: l ∧ 48 ≤ c.toNat ∧ c.toNat ≤ 57 := by
  cases h : decDigits u with
  | nil => exact absurd h (dec_ne u)
  | cons c l => exact ⟨c, l, rfl, dec_digit u c (by rw [h]; simp)⟩
theorem itoa_inj {n m : Int} (h : itoa n = itoa m) : n = m := by
  unfold itoa at h
  split at h
  · split at h
    · have := dec_inj (List.cons.inj h).2
      omega
    · obtain ⟨c, l, e, a, b⟩ := dec_head m.toNat
      rw [e] at h
      have := (List.cons.inj h).1
      rw [← this] at a
      exact absurd a (by decide)
  · split at h
    · obtain ⟨c, l, e, a, b⟩ := dec_head n.toNat
      rw [e] at h
      have := (List.cons.inj h).1
      rw [this] at a
      exact absurd a (by decide)
    · have := dec_inj h
      omega
theorem split_at {c : UInt8} : ∀ {l1 l2 a b : List UInt8}, c ∉ l1 → c ∉ l2 → l1 ++ c :: a = l2 ++ c :: b → l1 = l2 ∧ a = b
  | [], [], a, b, _, _, h => ⟨rfl, (List.cons.inj h).2⟩
  | [], x :: l2, a, b, _, h2, h => by
    have := (List.cons.inj h).1
    exact absurd (by simp [this]) h2
  | x :: l1, [], a, b, h1, _, h => by
    have := (List.cons.inj h).1
    exact absurd (by simp [← this]) h1
  | x :: l1, y :: l2, a, b, h1, h2, h => by
    obtain ⟨e1, e2⟩ := List.cons.inj h
    obtain ⟨e3, e4⟩ := split_at (l1 := l1) (l2 := l2) (fun m => h1 (by simp [m])) (fun m => h2 (by simp [m])) e2
    exact ⟨by rw [e1, e3], e4⟩
theorem no_star (u : Nat) : (42 : UInt8) ∉ decDigits u := fun h => by
  have := (dec_digit u 42 h).1
  exact absurd this (by decide)

/-! ### the text -/
/-- '*2^'. -/
def SEP : List UInt8 := [42, 50, 94]
def body (n : Nat) (e : Int) : List UInt8 := decDigits n ++ SEP ++ itoa e
theorem body_inj {n m : Nat} {e f : Int} (h : body n e = body m f) : n = m ∧ e = f := by
  unfold body SEP at h
  rw [List.append_assoc, List.append_assoc] at h
  obtain ⟨h1, h2⟩ := split_at (no_star n) (no_star m) h
  refine ⟨dec_inj h1, itoa_inj ?_⟩
  simpa using h2
theorem body_head (n : Nat) (e : Int) : ∃ c l, body n e = c :: l ∧ 48 ≤ c.toNat ∧ c.toNat ≤ 57 ∧ l ≠ [] := by
  obtain ⟨c, l, h, a, b⟩ := dec_head n
  refine ⟨c, l ++ SEP ++ itoa e, by unfold body; rw [h]; simp, a, b, by unfold SEP; simp⟩
def Plain (r : Nat) (t : List UInt8) : Prop := (r = INF ∧ t = [105, 110, 102]) ∨ (0 < r ∧ r < INF ∧ ∃ n e : Nat, Odd n e (V r) ∧ t = body n ((e : Int) - 1074))
theorem Plain.uniq {r : Nat} {t u : List UInt8} (h : Plain r t) (k : Plain r u) : t = u := by
  rcases h with ⟨h1, h2⟩ | ⟨h0, h1, n, e, h2, h3⟩
  · rcases k with ⟨k1, k2⟩ | ⟨k0, k1, _⟩
    · rw [h2, k2]
    · omega
  · rcases k with ⟨k1, k2⟩ | ⟨k0, k1, m, f, k2, k3⟩
    · omega
    · obtain ⟨rfl, rfl⟩ := h2.uniq k2
      rw [h3, k3]
theorem Plain.inj {r s : Nat} {t : List UInt8} (h : Plain r t) (k : Plain s t) : r = s := by
  rcases h with ⟨h1, h2⟩ | ⟨h0, h1, n, e, h2, h3⟩
  · rcases k with ⟨k1, k2⟩ | ⟨k0, k1, m, f, k2, k3⟩
    · omega
    · obtain ⟨c, l, a, b, d, _⟩ := body_head m ((f : Int) - 1074)
      rw [h2, a] at k3
      have := (List.cons.inj k3).1
      rw [← this] at d
      exact absurd d (by decide)
  · rcases k with ⟨k1, k2⟩ | ⟨k0, k1, m, f, k2, k3⟩
    · obtain ⟨c, l, a, b, d, _⟩ := body_head n ((e : Int) - 1074)
      rw [k2, a] at h3
      have := (List.cons.inj h3).1
      rw [← this] at d
      exact absurd d (by decide)
    · obtain ⟨e1, e2⟩ := body_inj (h3.symm.trans k3)
      have e3 : e = f := by omega
      subst e1 e3
      exact V_inj (h2.2.symm.trans k2.2)
theorem Plain.head {r : Nat} {t : List UInt8} (h : Plain r t) : ∃ c l, t = c :: l ∧ 48 ≤ c.toNat ∧ c.toNat ≠ 110 ∧ l ≠ [] := by
  rcases h with ⟨_, h2⟩ | ⟨_, _, n, e, _, h3⟩
  · exact ⟨105, [110, 102], h2, by decide, by decide, by simp⟩
  · obtain ⟨c, l, a, b, d, f⟩ := body_head n ((e : Int) - 1074)
    exact ⟨c, l, h3.trans a, b, by omega, f⟩
/-- Of a float that is a number: its text without the sign. -/
def Num (r : Nat) (t : List UInt8) : Prop := (r = 0 ∧ t = [48]) ∨ Plain r t
theorem Plain.pos {r : Nat} {t : List UInt8} (h : Plain r t) : 0 < r := by
  rcases h with ⟨h1, _⟩ | ⟨h0, _⟩
  · rw [h1]; unfold INF; omega
  · exact h0
theorem Num.uniq {r : Nat} {t u : List UInt8} (h : Num r t) (k : Num r u) : t = u := by
  rcases h with ⟨h1, h2⟩ | h
  · rcases k with ⟨k1, k2⟩ | k
    · rw [h2, k2]
    · have := k.pos; omega
  · rcases k with ⟨k1, k2⟩ | k
    · have := h.pos; omega
    · exact h.uniq k
theorem Num.inj {r s : Nat} {t : List UInt8} (h : Num r t) (k : Num s t) : r = s := by
  rcases h with ⟨h1, h2⟩ | h
  · rcases k with ⟨k1, k2⟩ | k
    · omega
    · obtain ⟨c, l, a, _, _, f⟩ := k.head
      rw [h2] at a
      exact absurd (List.cons.inj a).2.symm f
  · rcases k with ⟨k1, k2⟩ | k
    · obtain ⟨c, l, a, _, _, f⟩ := h.head
      rw [k2] at a
      exact absurd (List.cons.inj a).2.symm f
    · exact h.inj k
theorem Num.head {r : Nat} {t : List UInt8} (h : Num r t) : ∃ c l, t = c :: l ∧ 48 ≤ c.toNat ∧ c.toNat ≠ 110 := by
  rcases h with ⟨_, h2⟩ | h
  · exact ⟨48, [], h2, by decide, by decide⟩
  · obtain ⟨c, l, a, b, d, _⟩ := h.head
    exact ⟨c, l, a, b, d⟩
def Txt (x : Nat) (s : List UInt8) : Prop :=
  (isNan x = true ∧ s = [110, 97, 110]) ∨ (isNan x = false ∧ ∃ t, s = (if neg x then 45 :: t else t) ∧ Num (mag x) t)
theorem Txt.uniq {x : Nat} {s u : List UInt8} (h : Txt x s) (k : Txt x u) : s = u := by
  rcases h with ⟨h1, h2⟩ | ⟨h1, t, h2, h3⟩
  · rcases k with ⟨k1, k2⟩ | ⟨k1, t', k2, k3⟩
    · rw [h2, k2]
    · rw [h1] at k1; cases k1
  · rcases k with ⟨k1, k2⟩ | ⟨k1, t', k2, k3⟩
    · rw [h1] at k1; cases k1
    · rw [h2, k2, h3.uniq k3]
theorem Txt.inj {x y : Nat} {s : List UInt8} (hx : x < 2 ^ 64) (hy : y < 2 ^ 64) (h : Txt x s) (k : Txt y s) : Same x y := by
  have key : ∀ {z : Nat} {t : List UInt8}, Num (mag z) t → (if neg z then 45 :: t else t) ≠ [110, 97, 110] := by
    intro z t ht e
    split at e
    · exact absurd (List.cons.inj e).1 (by decide)
    · obtain ⟨c, l, a, _, d⟩ := ht.head
      rw [a] at e
      rw [(List.cons.inj e).1] at d
      exact d rfl
  rcases h with ⟨h1, h2⟩ | ⟨h1, t, h2, h3⟩
  · rcases k with ⟨k1, k2⟩ | ⟨k1, t', k2, k3⟩
    · exact .inl ⟨h1, k1⟩
    · exact absurd (k2.symm.trans h2) (key k3)
  · rcases k with ⟨k1, k2⟩ | ⟨k1, t', k2, k3⟩
    · exact absurd (h2.symm.trans k2) (key h3)
    · right
      have e := h2.symm.trans k2
      obtain ⟨c, l, a, b, _⟩ := h3.head
      obtain ⟨c', l', a', b', _⟩ := k3.head
      have hnn : neg x = neg y ∧ t = t' := by
        cases hx1 : neg x <;> cases hy1 : neg y <;> rw [hx1, hy1] at e
        · exact ⟨rfl, e⟩
        · exfalso
          simp only [Bool.false_eq_true, if_false, if_true] at e
          rw [a] at e
          rw [(List.cons.inj e).1] at b
          exact absurd b (by decide)
        · exfalso
          simp only [Bool.false_eq_true, if_false, if_true] at e
          rw [a'] at e
          rw [← (List.cons.inj e).1] at b'
          exact absurd b' (by decide)
        · exact ⟨rfl, (List.cons.inj e).2⟩
      rw [hnn.2] at h3
      exact word_eq hx hy hnn.1 (h3.inj k3)
end Go.Proofs.YtcjlkekekalgdaaDoor.txt
