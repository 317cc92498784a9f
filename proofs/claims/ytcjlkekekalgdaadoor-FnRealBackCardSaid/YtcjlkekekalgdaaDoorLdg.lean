/-
  'math.Ldexp' in general: some word; the exact one where there is one.
  Conditions: a normal float above 0; an exponent between -2000 and 2000.
-/
import Derived.Test.YtcjlkekekalgdaaDoorLdx
import Derived.Laws.FloatBits
namespace Go.Proofs.YtcjlkekekalgdaaDoor.txt
open Go Go.RowKit Go.Lib Go.Proofs.YtcjlkekekalgdaaDoor.fl Go.Proofs.YtcjlkekekalgdaaDoor.flo
set_option linter.unusedVariables false
set_option linter.unusedSimpArgs false
set_option maxRecDepth 20000

/-- s is f times 2^k. -/
def Scaled (f : Nat) (k : Int) (s : Nat) : Prop := 0 < s ∧ s < INF ∧ V s * 2 ^ KK = V f * 2 ^ (k + 2000).toNat
/-- The word of f times 2^k where that is a value. -/
def Lx (f : Nat) (k : Int) (r : Nat) : Prop := r < 2 ^ 64 ∧ ∀ s, Scaled f k s → r = s
def Mant (f : Nat) : Nat := 2 ^ 52 + f % 2 ^ 52
theorem Mant_bd (f : Nat) : 2 ^ 52 ≤ Mant f ∧ Mant f < 2 ^ 53 := by unfold Mant; omega
def Ex (f : Nat) (k : Int) : Int := k + ((f / 2 ^ 52 : Nat) : Int) - 1023
theorem V_norm {f : Nat} (h : 2 ^ 52 ≤ f) : V f = Mant f * 2 ^ (f / 2 ^ 52 - 1) := by unfold V Mant; rw [if_neg (by omega)]
/-- What is scaled, in digits. -/
theorem scaled_eq {f s : Nat} {k : Int} (h : 2 ^ 52 ≤ f) (hk : -2000 ≤ k) (hs : Scaled f k s) : V s * 2 ^ KK = Mant f * 2 ^ (Ex f k + 3022).toNat := by
  rw [hs.2.2, V_norm h, Nat.mul_assoc, ← Nat.pow_add]
  congr 2
  unfold Ex
  omega
def K22 : Nat := 1022
def K46 : Nat := 2046
theorem no_over {f s : Nat} {k : Int} (h : 2 ^ 52 ≤ f) (hk : -2000 ≤ k) (he : 1023 < Ex f k) (hs : Scaled f k s) : False := by
  have e := scaled_eq h hk hs
  have h1 : (Ex f k + 3022).toNat = K46 + (Ex f k - 1024).toNat + KK := by show _ = 2046 + _ + 2000; omega
  rw [h1, Nat.pow_add, ← Nat.mul_assoc] at e
  have e2 := Nat.eq_of_mul_eq_mul_right (Nat.two_pow_pos KK) e
  have h2 := V_bd hs.2.1
  have h3 : 2 ^ 52 * 2 ^ K46 ≤ V s := by
    rw [e2, Nat.pow_add]
    exact Nat.mul_le_mul (Mant_bd f).1 (Nat.le_mul_of_pos_right _ (Nat.two_pow_pos _))
  rw [← Nat.pow_add, show 52 + K46 = K98 from rfl] at h3
  exact Nat.lt_irrefl _ (Nat.lt_of_lt_of_le h2 h3)
theorem no_under {f s : Nat} {k : Int} (h : 2 ^ 52 ≤ f) (hk : -2000 ≤ k) (he : Ex f k < -1075) (hs : Scaled f k s) : False := by
  have e := scaled_eq h hk hs
  have h1 : KK = (Ex f k + 3022).toNat + (KK - (Ex f k + 3022).toNat) ∧ 53 ≤ KK - (Ex f k + 3022).toNat := by
    have : KK = 2000 := rfl
    omega
  have e2 : V s * 2 ^ (KK - (Ex f k + 3022).toNat) = Mant f := by
    apply Nat.eq_of_mul_eq_mul_right (Nat.two_pow_pos (Ex f k + 3022).toNat)
    rw [Nat.mul_assoc, ← Nat.pow_add, Nat.add_comm, ← h1.1]
    exact e
  have h2 := V_pos hs.1
  have h3 : 2 ^ 53 ≤ 2 ^ (KK - (Ex f k + 3022).toNat) := Nat.pow_le_pow_right (by decide) h1.2
  have h4 := Nat.le_mul_of_pos_left (2 ^ (KK - (Ex f k + 3022).toNat)) h2
  have h5 := (Mant_bd f).2
  rw [← e2] at h5
  generalize 2 ^ (KK - (Ex f k + 3022).toNat) = z at *
  omega
/-- The word of the digits at the exponent's field q. -/
def WQ (q f : Nat) : Nat := q * 2 ^ 52 + f % 2 ^ 52
theorem WQ_lt {q f : Nat} (h : q < 2047) : WQ q f < INF := by unfold WQ INF; omega
theorem WQ_ge {q f : Nat} (h : 1 ≤ q) : 2 ^ 52 ≤ WQ q f := by unfold WQ; omega
theorem V_WQ {q f : Nat} (h : 1 ≤ q) : V (WQ q f) = Mant f * 2 ^ (q - 1) := by
  rw [V_norm (WQ_ge h)]
  have e1 : Mant (WQ q f) = Mant f := by unfold Mant WQ; omega
  have e2 : WQ q f / 2 ^ 52 = q := by unfold WQ; omega
  rw [e1, e2]
theorem norm_case {f s q : Nat} {k : Int} (h : 2 ^ 52 ≤ f) (hk : -2000 ≤ k) (he : (q : Int) = Ex f k + 1023) (h1 : 1 ≤ q) (h2 : q < 2047) (hs : Scaled f k s) : WQ q f = s := by
  apply V_inj
  have e := scaled_eq h hk hs
  have h3 : (Ex f k + 3022).toNat = (q - 1) + KK := by show _ = _ + 2000; omega
  rw [h3, Nat.pow_add, ← Nat.mul_assoc] at e
  rw [V_WQ h1, Nat.eq_of_mul_eq_mul_right (Nat.two_pow_pos KK) e]
open Ieee in
theorem sub_case {f q : Nat} (h1 : 1 ≤ q) (h2 : q ≤ 53) : ∃ r, floatBits .mul .f64 4368491638549381120 (WQ q f) = some r ∧ r < 2 ^ 64 ∧ ∀ s, s < INF → V s * 2 ^ 53 = Mant f * 2 ^ (q - 1) → r = s := by
  have e1 : double.read 4368491638549381120 = .number false (2 ^ 52) (-105) := by decide +kernel
  have e2 := read_big (r := WQ q f) (WQ_lt (by omega)) (WQ_ge h1)
  have e3 : 2 ^ 52 + WQ q f % 2 ^ 52 = Mant f := by unfold WQ Mant; omega
  have e4 : WQ q f / 2 ^ 52 = q := by unfold WQ; omega
  rw [e3, e4] at e2
  have em : floatBits .mul .f64 4368491638549381120 (WQ q f) = some (double.nearest false (2 ^ 52 * Mant f) (-105 + (-1074 + ((q - 1 : Nat) : Int)))) := by
    show ((double.read 4368491638549381120).product (double.read (WQ q f))).map double.write = _
    rw [e1, e2]
    rfl
  refine ⟨_, em, Ieee.Format.nearest_lt double _ _ _, fun s hs hv => ?_⟩
  have hp : (-105 + (-1074 + ((q - 1 : Nat) : Int)) + 1074).toNat = 0 := by omega
  have hq : (-1074 - (-105 + (-1074 + ((q - 1 : Nat) : Int)))).toNat = 106 - q := by omega
  rw [nearest_exact false _ _ s hs ?_]
  · exact word_small s
  rw [hp, hq, Nat.pow_zero, Nat.mul_one]
  apply Nat.eq_of_mul_eq_mul_right (Nat.two_pow_pos (q - 1))
  rw [Nat.mul_assoc, ← hv, Nat.mul_assoc, ← Nat.pow_add, show 106 - q + (q - 1) = 105 by omega, Nat.mul_left_comm, ← Nat.pow_add]
/-- The call returns some word that is f times 2^k where there is one. -/
def LxRes (f : Nat) (k : Int) (w : World) (e : Ending) (w' : World) : Prop := ∃ r, e = .returned (.float .f64 r) ∧ Lx f k r ∧ w' = w
theorem inf_any (w : World) : Calls Tryd.prog 27 #[.int .i64 1] w (Is (.float .f64 9218868437227405312) w) := by
  have hx : ∀ w, (callFunc 48 #[.int .u64 9218868437227405312]).run Tryd.prog w = .ok (.value (.float .f64 9218868437227405312)) w := fun w => frombits_any 9218868437227405312 w
  go_enter Tryd.func27, Tryd.ntmps27
  go_wp2
  go_ret
  exact ⟨rfl, rfl⟩
theorem copysign_zero (f : Nat) (h : f < 2 ^ 63) (w : World) : Calls Tryd.prog 56 #[.float .f64 0, .float .f64 f] w (Is (.float .f64 0) w) := by
  have hx := tobits_any
  have hf := frombits_any
  have hx0 : ∀ w, (callFunc 37 #[.float .f64 0]).run Tryd.prog w = .ok (.value (.int .u64 0)) w := fun w => tobits_any 0 w
  have b0 : bits .andNot .u64 0 9223372036854775808 = 0 := by decide
  have b1 : bits .and .u64 (f : Int) 9223372036854775808 = 0 := by
    have e := Go.u64_and_nat f 9223372036854775808 (by omega) (by omega)
    rw [show ((9223372036854775808 : Nat) : Int) = 9223372036854775808 from rfl] at e
    rw [e, show (9223372036854775808 : Nat) = 2 ^ 63 from rfl]
    have h3 : f &&& 2 ^ 63 = 0 := by
      apply Nat.eq_of_testBit_eq
      intro i
      rw [Nat.testBit_and, Nat.testBit_two_pow, Nat.zero_testBit]
      by_cases hi : 63 = i
      · subst hi
        rw [Nat.testBit_lt_two_pow h, Bool.false_and]
      · simp [hi]
    rw [h3]
    rfl
  have b2 : bits .or .u64 0 0 = 0 := by decide
  have hf0 : ∀ w, (callFunc 48 #[.int .u64 0]).run Tryd.prog w = .ok (.value (.float .f64 0)) w := fun w => frombits_any 0 w
  clear h
  go_enter Tryd.func56, Tryd.ntmps56
  go_wp2_with fail
  go_ret
  exact ⟨rfl, rfl⟩
theorem and2047 (q : Nat) (h : q < 2047) : bits .and .i64 (q : Int) 2047 = (q : Int) :=
  (show ∀ q : Fin 2047, bits .and .i64 ((q : Nat) : Int) 2047 = ((q : Nat) : Int) by decide +kernel) ⟨q, h⟩
theorem ld_arith (f : Nat) (k : Int) (h : 2 ^ 52 ≤ f) (hf : f < INF) (k1 : -2000 ≤ k) (k2 : k ≤ 2000) :
    ∃ q e : Int, q = ((f / 2 ^ 52 : Nat) : Int) ∧ e = Ex f k ∧ wrap64 k = k ∧ wrap64 q = q ∧ bits .and .i64 q 2047 = q ∧ wrap64 (q - 1023) = q - 1023 ∧ wrap64 (k + (q - 1023)) = e ∧ -4000 ≤ e ∧ e ≤ 4000 := by
  have hq : f / 2 ^ 52 < 2047 := Nat.div_lt_of_lt_mul (by rw [Nat.mul_comm]; exact hf)
  have hE : Ex f k = k + ((f / 2 ^ 52 : Nat) : Int) - 1023 := rfl
  have hb := and2047 (f / 2 ^ 52) hq
  generalize f / 2 ^ 52 = q at *
  clear h hf
  exact ⟨q, _, rfl, rfl, wr64 _ (by omega) (by omega), wr64 _ (by omega) (by omega), hb, wr64 _ (by omega) (by omega), by rw [hE, wr64 _ (by omega) (by omega)]; omega, by omega, by omega⟩
set_option maxHeartbeats 4000000 in
theorem ldexp_any (f : Nat) (k : Int) (h : 2 ^ 52 ≤ f) (hf : f < INF) (k1 : -2000 ≤ k) (k2 : k ≤ 2000) (w : World) : Calls Tryd.prog 42 #[.float .f64 f, .int .i64 k] w (LxRes f k w) := by
  have h63 : f < 2 ^ 63 := by unfold INF at hf; omega
  obtain ⟨m, n⟩ := small_mag (Nat.le_of_lt hf)
  have hnan : isNan f = false := by rw [nan_iff, m]; exact decide_eq_false (by omega)
  have ho := ord_zero (Nat.lt_of_lt_of_le (by decide) h) (Nat.le_of_lt hf)
  have HI := Lib.hid (fun w => isInf0_no f hf w)
  have HN := Lib.hid (fun w => isNaN_no f hnan w)
  have HO := Lib.hid (fun w => normalize_big f hf h w)
  have HC := Lib.hid (fun w => copysign_zero f h63 w)
  have HF := Lib.hid inf_any
  have hx := tobits_any
  have hfb := frombits_any
  obtain ⟨q, e, hq, he, w1, w2, w3, w4, w5, e1, e2⟩ := ld_arith f k h hf k1 k2
  have b1 := b_frac f h63
  have b3 : ((f : Nat) : Int) / 4503599627370496 = q := by rw [hq]; rfl
  have HL : Hid ((1023 < e → Lx f k 9218868437227405312) ∧ (e < -1075 → Lx f k 0) ∧ (∀ z : Nat, (z : Int) = e + 1023 → 1 ≤ z → z < 2047 → Lx f k (WQ z f) ∧ floatBits .mul .f64 4607182418800017408 (WQ z f) = some (WQ z f)) ∧ (∀ z : Nat, (z : Int) = e + 1076 → 1 ≤ z → z ≤ 53 → ∃ r, floatBits .mul .f64 4368491638549381120 (WQ z f) = some r ∧ Lx f k r)) := by
    refine Lib.hid ⟨fun h1 => ⟨by decide, fun s hs => (no_over h k1 (by rw [← he]; exact h1) hs).elim⟩, fun h1 => ⟨by decide, fun s hs => (no_under h k1 (by rw [← he]; exact h1) hs).elim⟩, fun z hz z1 z2 => ⟨⟨Nat.lt_of_lt_of_le (WQ_lt z2) (by decide), fun s hs => norm_case h k1 (by rw [hz, he]) z1 z2 hs⟩, one_times (WQ_lt z2) (WQ_ge z1)⟩, fun z hz z1 z2 => ?_⟩
    obtain ⟨r, r1, r2, r3⟩ := sub_case (f := f) z1 z2
    refine ⟨r, r1, r2, fun s hs => r3 s hs.2.1 ?_⟩
    have es := scaled_eq h k1 hs
    have h4 : (Ex f k + 3022).toNat + 53 = (z - 1) + KK := by show _ = _ + 2000; rw [← he]; omega
    apply Nat.eq_of_mul_eq_mul_right (Nat.two_pow_pos KK)
    rw [Nat.mul_right_comm, es, Nat.mul_assoc, ← Nat.pow_add, h4, Nat.pow_add, Nat.mul_assoc]
  have HB := Lib.hid (fun (z : Nat) (hz : z < 2 ^ 12) => (show bits .or .u64 ((f % 2 ^ 52 : Nat) : Int) ((z * 2 ^ 52 : Nat) : Int) = ((WQ z f : Nat) : Int) from b_or (f % 2 ^ 52) z (Nat.mod_lt _ (by decide)) hz))
  obtain ⟨g, hg⟩ : ∃ g : Nat, g = f % 2 ^ 52 := ⟨_, rfl⟩
  rw [← hg] at b1 HB
  clear h hf h63 m n hnan hg hq he k1 k2
  have wz : (0 : Int) + k = k := Int.zero_add k
  by_cases c1 : e < -1075
  · go_enter Tryd.func42, Tryd.ntmps42
    go_wp2_with (first
      | (go_at_call 17; refine (HI.out _).mono ?_; rintro e w' ⟨rfl, rfl⟩)
      | (go_at_call 15; refine (HN.out _).mono ?_; rintro e w' ⟨rfl, rfl⟩)
      | (go_at_call 55; refine (HO.out _).mono ?_; rintro e w' ⟨rfl, rfl⟩)
      | (go_at_call 56; refine (HC.out _).mono ?_; rintro e w' ⟨rfl, rfl⟩))
    go_ret
    exact ⟨_, rfl, HL.out.2.1 c1, rfl⟩
  by_cases c2 : e > 1023
  · go_enter Tryd.func42, Tryd.ntmps42
    go_wp2_with (first
      | (go_at_call 17; refine (HI.out _).mono ?_; rintro e w' ⟨rfl, rfl⟩)
      | (go_at_call 15; refine (HN.out _).mono ?_; rintro e w' ⟨rfl, rfl⟩)
      | (go_at_call 55; refine (HO.out _).mono ?_; rintro e w' ⟨rfl, rfl⟩)
      | (go_at_call 27; refine (HF.out _).mono ?_; rintro e w' ⟨rfl, rfl⟩))
    go_ret
    exact ⟨_, rfl, HL.out.1 c2, rfl⟩
  by_cases c3 : e < -1022
  · obtain ⟨z, hz⟩ : ∃ z : Nat, (z : Int) = e + 1076 := ⟨(e + 1076).toNat, by omega⟩
    obtain ⟨r, hr, hR⟩ := HL.out.2.2.2 z hz (by omega) (by omega)
    have HR := Lib.hid hR
    have hb := HB.out z (by omega)
    have hb : bits .or .u64 (g : Int) ((e + 53 + 1023) * 4503599627370496) = ((WQ z f : Nat) : Int) := by
      rw [← hb]
      congr 1
      omega
    have rq := fun (w : World) => run_float_arith (P := Tryd.prog) w .mul 22 .f64 _ _ _ hr
    obtain ⟨l, hl⟩ : ∃ l, WQ z f = l := ⟨_, rfl⟩
    rw [hl] at hb rq
    clear HL HB HC HF hz hr hR hl
    go_enter Tryd.func42, Tryd.ntmps42
    go_wp2_with (first
      | (go_at_call 17; refine (HI.out _).mono ?_; rintro e w' ⟨rfl, rfl⟩)
      | (go_at_call 15; refine (HN.out _).mono ?_; rintro e w' ⟨rfl, rfl⟩)
      | (go_at_call 55; refine (HO.out _).mono ?_; rintro e w' ⟨rfl, rfl⟩))
    go_ret
    exact ⟨_, rfl, HR.out, rfl⟩
  · obtain ⟨z, hz⟩ : ∃ z : Nat, (z : Int) = e + 1023 := ⟨(e + 1023).toNat, by omega⟩
    obtain ⟨hR, hr⟩ := HL.out.2.2.1 z hz (by omega) (by omega)
    have HR := Lib.hid hR
    have hb := HB.out z (by omega)
    have hb : bits .or .u64 (g : Int) ((e + 1023) * 4503599627370496) = ((WQ z f : Nat) : Int) := by
      rw [← hb]
      congr 1
      omega
    have rq := fun (w : World) => run_float_arith (P := Tryd.prog) w .mul 22 .f64 _ _ _ hr
    obtain ⟨l, hl⟩ : ∃ l, WQ z f = l := ⟨_, rfl⟩
    rw [hl] at hb rq HR
    clear HL HB HC HF hz hr hR hl
    go_enter Tryd.func42, Tryd.ntmps42
    go_wp2_with (first
      | (go_at_call 17; refine (HI.out _).mono ?_; rintro e w' ⟨rfl, rfl⟩)
      | (go_at_call 15; refine (HN.out _).mono ?_; rintro e w' ⟨rfl, rfl⟩)
      | (go_at_call 55; refine (HO.out _).mono ?_; rintro e w' ⟨rfl, rfl⟩))
    go_ret
    exact ⟨_, rfl, HR.out, rfl⟩
theorem ldexp_zero (k : Int) (w : World) : Calls Tryd.prog 42 #[.float .f64 0, .int .i64 k] w (Is (.float .f64 0) w) := by
  have ho : FloatKind.f64.format.order 0 0 = some .eq := by decide +kernel
  go_enter Tryd.func42, Tryd.ntmps42
  go_wp2_with fail
  go_ret
  exact ⟨rfl, rfl⟩
theorem Ldexp_any (f : Nat) (k : Int) (h : f = 0 ∨ (2 ^ 52 ≤ f ∧ f < INF)) (k1 : -2000 ≤ k) (k2 : k ≤ 2000) (w : World) : Calls Tryd.prog 19 #[.float .f64 f, .int .i64 k] w (LxRes f k w) := by
  have HF : Hid (∀ w, Calls Tryd.prog 42 #[.float .f64 f, .int .i64 k] w (LxRes f k w)) := Lib.hid (fun w => by
    rcases h with rfl | ⟨h1, h2⟩
    · refine (ldexp_zero k w).mono ?_
      rintro e w' ⟨rfl, rfl⟩
      refine ⟨0, rfl, ⟨by decide, fun s hs => ?_⟩, rfl⟩
      have h0 := V_pos hs.1
      have h3 := hs.2.2
      rw [show V 0 = 0 from rfl, Nat.zero_mul] at h3
      have := Nat.mul_pos h0 (Nat.two_pow_pos KK)
      omega
    · exact ldexp_any f k h1 h2 k1 k2 w)
  clear h k1 k2
  go_enter Tryd.func19, Tryd.ntmps19
  go_wp2_with (go_at_call 42; refine (HF.out _).mono ?_; rintro e w' ⟨r, rfl, h, rfl⟩)
  go_ret
  exact ⟨r, rfl, h, rfl⟩
end Go.Proofs.YtcjlkekekalgdaaDoor.txt
