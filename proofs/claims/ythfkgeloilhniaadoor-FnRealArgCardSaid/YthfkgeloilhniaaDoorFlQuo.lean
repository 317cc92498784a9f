/-
  Plain facts on the double format: the quotient of two whole numbers lies near the true one; decimals keep their order.
  No program stands here.
-/
import Derived.Test.YthfkgeloilhniaaDoorFlo
namespace Go.Proofs.YthfkgeloilhniaaDoor.fl
open Ieee Go
set_option maxRecDepth 20000

theorem int_word (n : Int) (hn : n.natAbs < 2 ^ 53) : ∃ r, r < INF ∧ floatOfInt .f64 n = double.word (decide (n < 0)) r ∧ V r = n.natAbs * ONE := by
  obtain ⟨r, hr, hv⟩ := rep n.natAbs K74 hn (by unfold K74; omega)
  refine ⟨r, hr, ?_, hv⟩
  show double.nearest (decide (n < 0)) n.natAbs 0 = _
  refine nearest_exact _ _ _ r hr ?_
  rw [hv, show ((0 : Int) + 1074).toNat = K74 from rfl, show ((-1074 : Int) - 0).toNat = 0 from rfl, Nat.pow_zero, Nat.mul_one]
theorem one_big : 2 ^ 53 < ONE := by
  unfold ONE
  exact Nat.pow_lt_pow_right (by omega) (by unfold K74; omega)
theorem read_norm {x : Nat} (h : mag x < INF) (h1 : 2 ^ 52 ≤ mag x) : ∃ m e, double.read x = .number (neg x) m e ∧ 2 ^ 52 ≤ m ∧ m < 2 ^ 53 ∧ -1074 ≤ e ∧ m * 2 ^ (e + 1074).toNat = V (mag x) := by
  unfold mag at h1
  rw [read_eq, if_neg (by omega), if_pos (show x % 2 ^ 63 < INF from h)]
  refine ⟨_, _, rfl, by omega, by omega, by omega, ?_⟩
  unfold V mag
  rw [if_neg (by omega)]
  congr 2
  omega

theorem V_of (u k : Nat) (h1 : 2 ^ 52 ≤ k) (h2 : k ≤ 2 ^ 53) : V (u * 2 ^ 52 + k) = k * 2 ^ u := by
  unfold V
  rw [if_neg (by omega)]
  by_cases h53 : k = 2 ^ 53
  · subst h53
    have e : 2 ^ (u + 1) = 2 ^ u * 2 := by rw [Nat.pow_add, Nat.pow_one]
    rw [show (u * 2 ^ 52 + 2 ^ 53) % 2 ^ 52 = 0 by omega, show (u * 2 ^ 52 + 2 ^ 53) / 2 ^ 52 - 1 = u + 1 by omega, e]
    generalize 2 ^ u = z
    omega
  · rw [show (u * 2 ^ 52 + k) % 2 ^ 52 = k - 2 ^ 52 by omega, show (u * 2 ^ 52 + k) / 2 ^ 52 - 1 = u by omega, show 2 ^ 52 + (k - 2 ^ 52) = k by omega]
theorem nearest_near (s : Bool) (Q : Nat) (place : Int) (hQ : 2 ^ 53 ≤ Q) (hp : -1074 ≤ place) (hmax : place + Q.log2 ≤ 1000) :
    ∃ r kept, double.nearest s Q place = double.word s r ∧ r < INF ∧ V r = kept * 2 ^ (place + Q.log2 - 52 + 1074).toNat ∧ kept * 2 ^ (Q.log2 - 52) ≤ Q + 2 ^ (Q.log2 - 52) ∧ Q < kept * 2 ^ (Q.log2 - 52) + 2 ^ (Q.log2 - 52) ∧ 2 ^ 52 ≤ kept := by
  have hL : 53 ≤ Q.log2 := (Nat.le_log2 (by omega)).2 hQ
  have l1 := (Nat.le_log2 (n := Q) (k := Q.log2) (by omega)).1 (Nat.le_refl _)
  have l2 := (Nat.log2_lt (n := Q) (k := Q.log2 + 1) (by omega)).1 (by omega)
  unfold Format.nearest
  rw [if_neg (by omega), frac_eq, least_eq, binade_eq, inf_eq]
  generalize hLd : Q.log2 = L at *
  have hq : max (place + (L : Int) - (52 : Nat)) (-1074) = place + L - 52 := by omega
  rw [hq]
  have e1 : (place - (place + L - 52)).toNat = 0 := by omega
  have e2 : (place + L - 52 - place).toNat = L - 52 := by omega
  have e3 : (place + L - 52 - (-1074)).toNat = (place + L - 52 + 1074).toNat := by congr 1
  simp only [e1, e2, e3]
  obtain ⟨d, hd⟩ : ∃ d, L - 52 = d := ⟨_, rfl⟩
  have hLd2 : L = 52 + d := by omega
  have hpos : 0 < 2 ^ d := Nat.two_pow_pos d
  have cut : ∃ k, Toward.even.cut s (Q <<< 0) d = k ∧ (k = Q / 2 ^ d ∨ k = Q / 2 ^ d + 1) := by
    refine ⟨_, rfl, ?_⟩
    simp only [Toward.cut, shl, Nat.pow_zero, Nat.mul_one]
    rw [hLd, Nat.min_eq_left (by omega)]
    simp only [Nat.one_mul]
    generalize (decide (2 ^ d < 2 * (Q % 2 ^ d)) || _) = b
    cases b
    · left; rfl
    · right; rfl
  obtain ⟨k, hk, hk2⟩ := cut
  rw [hd, hk]
  have d1 := Nat.div_mul_le_self Q (2 ^ d)
  have d2 : Q < (Q / 2 ^ d + 1) * 2 ^ d := by
    have := Nat.lt_div_mul_add (a := Q) hpos
    rw [Nat.add_mul, Nat.one_mul]; omega
  have low1 : 2 ^ 52 ≤ Q / 2 ^ d := by
    rw [Nat.le_div_iff_mul_le hpos, ← Nat.pow_add, ← hLd2]; exact l1
  have low2 : Q / 2 ^ d < 2 ^ 53 := by
    rw [Nat.div_lt_iff_lt_mul hpos, ← Nat.pow_add, show 53 + d = L + 1 by omega]; exact l2
  have hk52 : 2 ^ 52 ≤ k := by omega
  have hk53 : k ≤ 2 ^ 53 := by omega
  obtain ⟨u, hu⟩ : ∃ u, (place + L - 52 + 1074).toNat = u := ⟨_, rfl⟩
  have hu2 : u ≤ 2022 := by omega
  rw [hu]
  have hr : u * 2 ^ 52 + k < INF := by unfold INF; omega
  refine ⟨u * 2 ^ 52 + k, k, by rw [Nat.min_eq_left (Nat.le_of_lt hr)], hr, ?_, ?_, ?_, hk52⟩
  · exact V_of u k hk52 hk53
  · rcases hk2 with rfl | rfl
    · omega
    · rw [Nat.add_mul, Nat.one_mul]; omega
  · rcases hk2 with rfl | rfl
    · rw [Nat.add_mul, Nat.one_mul] at d2; exact d2
    · omega

/-- The chain of the two errors. -/
theorem err_up (c kp P Q n : Nat) (h1 : kp ≤ Q + P) (hP : P * c ≤ Q) : kp * n * c ≤ Q * n * (c + 1) := by
  have a : kp * c ≤ Q * (c + 1) := by
    have := Nat.mul_le_mul_right c h1
    rw [Nat.add_mul] at this
    rw [Nat.mul_add, Nat.mul_one]
    omega
  have b := Nat.mul_le_mul_right n a
  rwa [Nat.mul_right_comm, Nat.mul_right_comm Q] at b
theorem err_down (c kp P Q n : Nat) (h2 : Q < kp + P) (hP : P * (c + 1) ≤ Q) : Q * n * c ≤ kp * n * (c + 1) := by
  have a : Q * c ≤ kp * (c + 1) := by
    have := Nat.mul_le_mul_right (c + 1) (Nat.le_of_lt h2)
    rw [Nat.add_mul, Nat.mul_add Q, Nat.mul_one] at this
    omega
  have b := Nat.mul_le_mul_right n a
  rwa [Nat.mul_right_comm, Nat.mul_right_comm kp] at b
theorem err_num (X Y n M : Nat) (b1 : X * 4503599627370496 ≤ Y * 4503599627370497) (b2 : Y * 4503599627370495 ≤ X * 4503599627370496) (h3 : Y < M + n) (h4 : M < Y + n) (h5 : n * 18014398509481984 ≤ M) :
    2251799813685248 * X ≤ 2251799813685249 * M ∧ 2251799813685247 * M ≤ 2251799813685248 * X := by omega
theorem err_chain (kp P Q n M : Nat) (h1 : kp ≤ Q + P) (h2 : Q < kp + P) (hP : P * 4503599627370496 ≤ Q) (h3 : Q * n < M + n) (h4 : M < Q * n + n) (h5 : n * 18014398509481984 ≤ M) :
    2251799813685248 * (kp * n) ≤ 2251799813685249 * M ∧ 2251799813685247 * M ≤ 2251799813685248 * (kp * n) :=
  err_num _ _ n M (err_up 4503599627370496 kp P Q n h1 hP) (err_down 4503599627370495 kp P Q n h2 hP) h3 h4 h5
theorem nm_of {m n : Nat} (hm : 2 ^ 52 ≤ m ∧ m < 2 ^ 53) (hn : 2 ^ 52 ≤ n ∧ n < 2 ^ 53) : n * 18014398509481984 ≤ m * 2 ^ 55 := by omega
theorem ab_of {A B : Nat} (hAB : A < B) (hA2 : A < 2 ^ 47) : 2251799813685249 * A < 2251799813685247 * B := by omega
theorem vu_of {v u a b : Nat} (a1 : 2251799813685248 * (v * 1000000) ≤ 2251799813685249 * a) (a2 : 2251799813685247 * b ≤ 2251799813685248 * (u * 1000000)) (a3 : 2251799813685249 * a < 2251799813685247 * b) : v < u := by omega

theorem quo_near (s t : Bool) (m n : Nat) (i j : Int) (N D : Nat) (hm : 2 ^ 52 ≤ m ∧ m < 2 ^ 53) (hn : 2 ^ 52 ≤ n ∧ n < 2 ^ 53) (hi0 : -52 ≤ i ∧ i ≤ 0) (hj0 : -52 ≤ j ∧ j ≤ 0)
    (hi : m * 2 ^ (i + 1074).toNat = N * ONE) (hj : n * 2 ^ (j + 1074).toNat = D * ONE) :
    ∃ r, r < INF ∧ ((Datum.number s m i).quotient 54 (.number t n j)).map double.write = some (double.word (s ^^ t) r) ∧ 2251799813685248 * (V r * D) ≤ 2251799813685249 * (N * ONE) ∧ 2251799813685247 * (N * ONE) ≤ 2251799813685248 * (V r * D) := by
  have lm : m.log2 = 52 := (Nat.log2_eq_iff (by omega)).2 ⟨hm.1, hm.2⟩
  have ln : n.log2 = 52 := (Nat.log2_eq_iff (by omega)).2 ⟨hn.1, hn.2⟩
  simp only [Datum.quotient]
  rw [if_neg (by omega), lm, ln]
  simp only [Option.map_some, Format.write, shl, show 54 + 52 - 52 = 54 from rfl]
  obtain ⟨f, hf⟩ : ∃ f, m * 2 ^ 54 / n = f := ⟨_, rfl⟩
  obtain ⟨b, hb⟩ : ∃ b : Nat, (m * 2 ^ 54 % n != 0).toNat = b := ⟨_, rfl⟩
  have hdm := Nat.div_add_mod (m * 2 ^ 54) n
  have hml := Nat.mod_lt (m * 2 ^ 54) (show 0 < n by omega)
  rw [hf] at hdm
  have hb2 : (b = 0 ∧ m * 2 ^ 54 % n = 0) ∨ (b = 1 ∧ 0 < m * 2 ^ 54 % n) := by
    by_cases h0 : m * 2 ^ 54 % n = 0
    · left; rw [← hb, h0]; exact ⟨rfl, rfl⟩
    · right; rw [← hb]; exact ⟨by simp [h0], by omega⟩
  rw [hf, hb]
  have q1 : 2 ^ 53 ≤ f := by
    rw [← hf, Nat.le_div_iff_mul_le (by omega)]
    omega
  have q2 : f < 2 ^ 55 := by
    rw [← hf, Nat.div_lt_iff_lt_mul (by omega)]
    omega
  have hQn : (2 * f + b) * n < m * 2 ^ 55 + n ∧ m * 2 ^ 55 < (2 * f + b) * n + n := by
    have e : (2 * f + b) * n = 2 * (n * f) + b * n := by rw [Nat.add_mul, Nat.mul_assoc, Nat.mul_comm f n]
    rw [e]
    generalize n * f = g at *
    rcases hb2 with ⟨rfl, h0⟩ | ⟨rfl, h0⟩
    · omega
    · omega
  obtain ⟨Q, hQ⟩ : ∃ Q, 2 * f + b = Q := ⟨_, rfl⟩
  rw [hQ] at hQn ⊢
  have hQ1 : 2 ^ 54 ≤ Q := by omega
  have hQ2 : Q < 2 ^ 57 := by omega
  have l1 := (Nat.le_log2 (n := Q) (k := Q.log2) (by omega)).1 (Nat.le_refl _)
  have hl54 : 54 ≤ Q.log2 := (Nat.le_log2 (by omega)).2 hQ1
  have hl57 : Q.log2 < 57 := (Nat.log2_lt (by omega)).2 hQ2
  obtain ⟨r, kept, n1, n2, n3, n4, n5, n6⟩ := nearest_near (s ^^ t) Q (i - j - (54 : Nat) - 1) (by omega) (by omega) (by omega)
  refine ⟨r, n2, by rw [n1], ?_⟩
  obtain ⟨E, hE⟩ : ∃ E, Q.log2 - 52 = E := ⟨_, rfl⟩
  have hQE : Q.log2 = 52 + E := by omega
  rw [hE] at n4 n5
  have hP : 2 ^ E * 4503599627370496 ≤ Q := by rw [show 4503599627370496 = 2 ^ 52 from rfl, ← Nat.pow_add, Nat.add_comm, ← hQE]; exact l1
  have hnm := nm_of hm hn
  have ch := err_chain (kept * 2 ^ E) (2 ^ E) Q n (m * 2 ^ 55) n4 n5 hP hQn.1 hQn.2 hnm
  -- both sides times 2^1074
  have hV : V r = kept * 2 ^ E * 2 ^ (i - j + 1019).toNat := by
    rw [n3, Nat.mul_assoc, ← Nat.pow_add]
    congr 2
    omega
  have k1 : V r * D * ONE = kept * 2 ^ E * n * 2 ^ (i + 2093).toNat := by
    rw [Nat.mul_assoc, ← hj, hV]
    rw [show kept * 2 ^ E * 2 ^ (i - j + 1019).toNat * (n * 2 ^ (j + 1074).toNat) = kept * 2 ^ E * n * (2 ^ (i - j + 1019).toNat * 2 ^ (j + 1074).toNat) by
      simp only [Nat.mul_assoc, Nat.mul_left_comm]]
    rw [← Nat.pow_add]
    congr 2
    omega
  have k2 : N * ONE * ONE = m * 2 ^ 55 * 2 ^ (i + 2093).toNat := by
    rw [← hi]
    unfold ONE
    rw [Nat.mul_assoc, Nat.mul_assoc, ← Nat.pow_add, ← Nat.pow_add, show (i + 1074).toNat + K74 = 55 + (i + 2093).toNat by unfold K74; omega]
  have hO := ONE_pos
  constructor
  · refine Nat.le_of_mul_le_mul_right (c := ONE) ?_ hO
    have h := Nat.mul_le_mul_right (2 ^ (i + 2093).toNat) ch.1
    rw [Nat.mul_assoc, Nat.mul_assoc 2251799813685249, ← k1, ← k2] at h
    rw [Nat.mul_assoc, Nat.mul_assoc 2251799813685249]
    exact h
  · refine Nat.le_of_mul_le_mul_right (c := ONE) ?_ hO
    have h := Nat.mul_le_mul_right (2 ^ (i + 2093).toNat) ch.2
    rw [Nat.mul_assoc, Nat.mul_assoc 2251799813685248, ← k1, ← k2] at h
    rw [Nat.mul_assoc, Nat.mul_assoc 2251799813685248]
    exact h

/-- A positive whole number below 2^30, read. -/
theorem read_whole (s : Bool) (N : Nat) (h0 : 0 < N) (h1 : N < 2 ^ 30) {r : Nat} (hr : r < INF) (hv : V r = N * ONE) :
    ∃ m e, double.read (double.word s r) = .number s m e ∧ 2 ^ 52 ≤ m ∧ m < 2 ^ 53 ∧ -52 ≤ e ∧ e ≤ 0 ∧ m * 2 ^ (e + 1074).toNat = N * ONE := by
  have hm := word_mag s (Nat.le_of_lt hr)
  have hs := word_neg s (Nat.le_of_lt hr)
  have hb := one_big
  have hbig : 2 ^ 52 ≤ mag (double.word s r) := by
    rw [hm]
    rcases Nat.lt_or_ge r (2 ^ 52) with h | h
    · exfalso
      unfold V at hv
      rw [if_pos h] at hv
      have := Nat.mul_le_mul_right ONE h0
      omega
    · exact h
  obtain ⟨m, e, r1, r2, r3, r4, r5⟩ := read_norm (x := double.word s r) (by rw [hm]; exact hr) hbig
  rw [hs] at r1
  rw [hm, hv] at r5
  have u1 : 2 ^ 52 * 2 ^ (e + 1074).toNat < 2 ^ 30 * ONE :=
    Nat.lt_of_le_of_lt (Nat.mul_le_mul_right _ r2) (by rw [r5]; exact Nat.mul_lt_mul_of_pos_right h1 ONE_pos)
  have u2 : 2 ^ K74 < 2 ^ 53 * 2 ^ (e + 1074).toNat := by
    have a : ONE ≤ N * ONE := Nat.le_mul_of_pos_left _ h0
    have b : m * 2 ^ (e + 1074).toNat < 2 ^ 53 * 2 ^ (e + 1074).toNat := Nat.mul_lt_mul_of_pos_right r3 (Nat.two_pow_pos _)
    rw [r5] at b
    exact Nat.lt_of_le_of_lt a b
  unfold ONE at u1
  rw [← Nat.pow_add, ← Nat.pow_add] at u1
  rw [← Nat.pow_add] at u2
  have v1 := (Nat.pow_lt_pow_iff_right (by omega : 1 < 2)).1 u1
  have v2 := (Nat.pow_lt_pow_iff_right (by omega : 1 < 2)).1 u2
  unfold K74 at v1 v2
  exact ⟨m, e, r1, r2, r3, by omega, by omega, r5⟩

/-- THE QUOTIENT OF TWO WHOLE NUMBERS: a finite word; its value lies near the true quotient. -/
theorem quo_val (n : Int) (D : Nat) (hn : n.natAbs < 2 ^ 30) (h0 : 0 < D) (hD : D < 2 ^ 30) :
    ∃ (x v : Nat), floatBits .quo .f64 (floatOfInt .f64 n) (floatOfInt .f64 (D : Int)) = some x ∧ mag x < INF ∧ sv x = (if n < 0 then -(v : Int) else v) ∧
      2251799813685248 * (v * D) ≤ 2251799813685249 * (n.natAbs * ONE) ∧ 2251799813685247 * (n.natAbs * ONE) ≤ 2251799813685248 * (v * D) := by
  obtain ⟨r, hr, hw, hv⟩ := int_word n (by omega)
  obtain ⟨q, hq, hwD, hvD⟩ := int_word (D : Int) (by omega)
  rw [hw, hwD]
  obtain ⟨n', j, d1, d2, d3, d4, d5, d6⟩ := read_whole (decide ((D : Int) < 0)) D h0 hD hq (by simpa using hvD)
  have hDn : decide ((D : Int) < 0) = false := decide_eq_false (by omega)
  rw [hDn] at d1 ⊢
  show ∃ (x v : Nat), (((double.read (double.word (decide (n < 0)) r)).quotient (double.fractionBits + 2) (double.read (double.word false q))).map double.write) = some x ∧ _
  rw [d1, frac_eq]
  rcases Nat.eq_zero_or_pos n.natAbs with hz | hz
  · have hn0 : n = 0 := by omega
    subst hn0
    have hr0 : r = 0 := by
      rcases Nat.eq_zero_or_pos r with e | e
      · exact e
      · have := V_pos e
        rw [hv] at this
        simp at this
    subst hr0
    have hrd : double.read (double.word (decide ((0 : Int) < 0)) 0) = .number false 0 (-1074) := by decide +kernel
    rw [hrd]
    refine ⟨double.word (false ^^ false) 0, 0, ?_, by decide, by decide, by simp, by simp⟩
    simp only [Datum.quotient]
    rw [if_neg (by omega)]
    simp [Format.write, Format.nearest, shl]
  · obtain ⟨m, i, c1, c2, c3, c4, c5, c6⟩ := read_whole (decide (n < 0)) n.natAbs hz hn hr hv
    rw [c1]
    obtain ⟨rr, e1, e2, e3, e4⟩ := quo_near (decide (n < 0)) false m n' i j n.natAbs D ⟨c2, c3⟩ ⟨d2, d3⟩ ⟨c4, c5⟩ ⟨d4, d5⟩ c6 d6
    refine ⟨_, V rr, e2, by rw [word_mag _ (Nat.le_of_lt e1)]; exact e1, ?_, e3, e4⟩
    unfold sv
    rw [word_mag _ (Nat.le_of_lt e1), word_neg _ (Nat.le_of_lt e1)]
    by_cases h : n < 0 <;> simp [h]

/-- Two quotients near two numbers that are a millionth apart. -/
theorem near_lt (v u D E A B p q N M O : Nat) (hA : N * p = A) (hB : M * q = B) (hp : D * p = 1000000) (hq : E * q = 1000000) (hAB : A < B) (hA2 : A < 2 ^ 47) (hO : 0 < O)
    (h1 : 2251799813685248 * (v * D) ≤ 2251799813685249 * (N * O)) (h2 : 2251799813685247 * (M * O) ≤ 2251799813685248 * (u * E)) : v < u := by
  have a1 : 2251799813685248 * (v * 1000000) ≤ 2251799813685249 * (A * O) := by
    have h := Nat.mul_le_mul_right p h1
    rw [Nat.mul_assoc, Nat.mul_assoc v, hp, Nat.mul_assoc, Nat.mul_right_comm N, hA] at h
    exact h
  have a2 : 2251799813685247 * (B * O) ≤ 2251799813685248 * (u * 1000000) := by
    have h := Nat.mul_le_mul_right q h2
    rw [Nat.mul_assoc, Nat.mul_right_comm M, hB, Nat.mul_assoc, Nat.mul_assoc u, hq] at h
    exact h
  have a3 : 2251799813685249 * (A * O) < 2251799813685247 * (B * O) := by
    rw [← Nat.mul_assoc, ← Nat.mul_assoc]
    exact Nat.mul_lt_mul_of_pos_right (ab_of hAB hA2) hO
  exact vu_of a1 a2 a3
end Go.Proofs.YthfkgeloilhniaaDoor.fl
