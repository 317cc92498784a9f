/-
  'spec.l3Plain', 'spec.RealText': the text of a float.
  Conditions: a word of 64 bits.
-/
import Derived.Test.YtcjlkekekalgdaaDoorDecS
import Derived.Deep.LoopGhost
namespace Go.Proofs.YtcjlkekekalgdaaDoor.txt
open Go Go.RowKit Go.Lib Go.Proofs.YtcjlkekekalgdaaDoor.fl Go.Proofs.YtcjlkekekalgdaaDoor.flo
set_option linter.unusedVariables false
set_option linter.unusedSimpArgs false
set_option maxRecDepth 20000

theorem conv_int {x : Nat} {k : IntKind} (h : mag x < INF) (h1 : k.min ≤ tr x) (h2 : tr x ≤ k.max) : floatToIntVal .f64 x k = some (tr x) := by
  have e : (FloatKind.f64.decode x).toInt .zero = some (tr x) := toInt_fin h
  unfold floatToIntVal
  rw [e]
  simp only [h1, h2, and_self, if_true]
/-- The rungs of 2^52, 2^53. -/
def R52 : Nat := 4841369599423283200
def R53 : Nat := 4845873199050653696
theorem R52_eq : R52 = 1075 * 2 ^ 52 := by decide
theorem R53_eq : R53 = 1076 * 2 ^ 52 := by decide
theorem R52_lt : R52 < INF := by decide
theorem R53_lt : R53 < INF := by decide
def K75 : Nat := 1075
def K27 : Nat := 52 + K75
theorem V_bd2 {r : Nat} (h : r < R53) : V r < 2 ^ K27 := by
  rw [R53_eq] at h
  by_cases hb : r < 2 ^ 52
  · have e : V r = r := by unfold V; rw [if_pos hb]
    rw [e]
    exact Nat.lt_of_lt_of_le hb (Nat.pow_le_pow_right (by omega) (by unfold K27 K75; omega))
  · have a := V_hi (r := r) (by omega)
    have c : 2 ^ (r / 2 ^ 52) ≤ 2 ^ K75 := Nat.pow_le_pow_right (by omega) (by unfold K75; omega)
    refine mul_lt_pow (a := 52) (b := K75) rfl (Nat.lt_of_lt_of_le a (Nat.mul_le_mul_left _ c))
/-- r * 2^e is the value N. -/
def Inv (N r : Nat) (e : Int) : Prop := -2000 ≤ e ∧ V r * 2 ^ (e + 2000).toNat = N * 2 ^ KK
theorem Inv.half {N r : Nat} {e : Int} (h : Inv N r e) (hr : 2 * 2 ^ 52 ≤ r) : Inv N (r - 2 ^ 52) (e + 1) := by
  obtain ⟨h0, h1⟩ := h
  have e1 : dblR (r - 2 ^ 52) = r := by unfold dblR; rw [if_neg (by omega)]; omega
  have e2 := dbl_V (r := r - 2 ^ 52) (by omega)
  rw [e1] at e2
  refine ⟨by omega, ?_⟩
  rw [← h1, e2, show (e + 1 + 2000).toNat = (e + 2000).toNat + 1 by omega, ← pow_up]
theorem Inv.dbl {N r : Nat} {e : Int} (h : Inv N r e) (h0 : 0 < r) (hN : 0 < N) (hr : r < R52) : Inv N (dblR r) (e - 1) ∧ -1127 < e - 1 := by
  obtain ⟨h1, h2⟩ := h
  have hv := V_bd2 (r := r) (by have := R52_eq; have := R53_eq; omega)
  have lo := exp_low hv hN h2
  have hk : KK = 2000 := rfl
  have hb : K27 = 1127 := rfl
  have hd : dblR r < R53 := by
    have := R52_eq; have := R53_eq
    unfold dblR
    split <;> omega
  have e2 := dbl_V h0
  have h3 : V (dblR r) * 2 ^ (e - 1 + 2000).toNat = N * 2 ^ KK := by
    rw [← h2, e2, show (e + 2000).toNat = (e - 1 + 2000).toNat + 1 by omega, pow_up]
  have lo2 := exp_low (V_bd2 hd) hN h3
  exact ⟨⟨by omega, h3⟩, by omega⟩
theorem V_mid {r : Nat} (h1 : R52 ≤ r) (h2 : r < R53) : V r = (2 ^ 52 + r % 2 ^ 52) * ONE := by
  rw [R52_eq] at h1
  rw [R53_eq] at h2
  unfold V
  rw [if_neg (by omega), show r / 2 ^ 52 - 1 = K74 by unfold K74; omega]
  unfold ONE
  rfl
theorem tr_mid {r : Nat} (h1 : R52 ≤ r) (h2 : r < R53) : tr r = ((2 ^ 52 + r % 2 ^ 52 : Nat) : Int) := by
  have hi : r < INF := Nat.lt_trans h2 R53_lt
  obtain ⟨a, b⟩ := small_mag (Nat.le_of_lt hi)
  unfold tr
  rw [a, b, V_mid h1 h2, Nat.mul_div_cancel _ ONE_pos]
  rfl
/-- The same behind the cut: the whole number n. -/
def InvN (N n : Nat) (e : Int) : Prop := -1127 < e ∧ n * 2 ^ (e + 3074).toNat = N * 2 ^ KK
theorem Inv.toN {N r : Nat} {e : Int} (h : Inv N r e) (hN : 0 < N) (h1 : R52 ≤ r) (h2 : r < R53) : InvN N (2 ^ 52 + r % 2 ^ 52) e := by
  obtain ⟨k1, k2⟩ := h
  have lo := exp_low (V_bd2 h2) hN k2
  have hk : KK = 2000 := rfl
  have hb : K27 = 1127 := rfl
  refine ⟨by omega, ?_⟩
  rw [← k2, V_mid h1 h2, Nat.mul_assoc]
  unfold ONE
  rw [← Nat.pow_add, show (e + 3074).toNat = K74 + (e + 2000).toNat by unfold K74; omega]
theorem InvN.half {N n : Nat} {e : Int} (h : InvN N n e) (h0 : n % 2 = 0) : InvN N (n / 2) (e + 1) := by
  obtain ⟨h1, h2⟩ := h
  refine ⟨by omega, ?_⟩
  rw [← h2, show (e + 1 + 3074).toNat = (e + 3074).toNat + 1 by omega, ← pow_up, show 2 * (n / 2) = n by omega]
theorem InvN.hi {N n : Nat} {e : Int} (h : InvN N n e) (h0 : 0 < n) (hN : N < 2 ^ K98) : e ≤ 3000 := by
  have := exp_high hN h0 h.2
  have hk : KK = 2000 := rfl
  have hb : K98 = 2098 := rfl
  omega
theorem InvN.odd {N n : Nat} {e : Int} (h : InvN N n e) (h1 : n % 2 = 1) : ∃ f : Nat, Odd n f N ∧ (f : Int) - 1074 = e := by
  have h0 := h.1
  obtain ⟨a, b⟩ := odd_of h1 h.2
  have hk : KK = 2000 := rfl
  exact ⟨_, b, by omega⟩
def rungOf : Value → Nat | .float _ r => r | _ => 0

theorem plain_inf (w : World) : Calls Tryd.prog 14 #[.float .f64 9218868437227405312] w fun e w' => e = .returned (.string ⟨[105, 110, 102].toArray⟩) ∧ Below w.heap.size w w' := by
  have ho : FloatKind.f64.format.order 9218868437227405312 9218868437227405311 = some .gt := by decide +kernel
  go_enter Tryd.func14, Tryd.ntmps14
  go_wp2
  go_ret
  exact ⟨rfl, Below.refl _ _⟩
def SomeTxt (m : Nat) (Q : List UInt8 → Prop) (w : World) (e : Ending) (w' : World) : Prop := ∃ t, e = .returned (.string ⟨t.toArray⟩) ∧ Q t ∧ t.length ≤ m ∧ Below w.heap.size w w'
theorem str_cat (a b : List UInt8) : (⟨a.toArray⟩ : ByteArray) ++ ⟨b.toArray⟩ = ⟨(a ++ b).toArray⟩ := by
  apply ByteArray.ext
  simp [ByteArray.data_append]

set_option maxHeartbeats 4000000 in
theorem plain_fin (r : Nat) (h0 : 0 < r) (hr : r < INF) (w : World) : Calls Tryd.prog 14 #[.float .f64 r] w (SomeTxt 99 (Plain r) w) := by
  have ho : FloatKind.f64.format.order r 9218868437227405311 = some .lt ∨ FloatKind.f64.format.order r 9218868437227405311 = some .eq := by
    have hC : 9218868437227405311 < INF := by decide
    have hC2 : r ≤ 9218868437227405311 := by unfold INF at hr; omega
    rw [order_pos hr hC]
    rcases Nat.eq_or_lt_of_le hC2 with e | e
    · subst e; right; rw [cmp_eq]
    · left; rw [cmp_lt (by omega)]
  obtain ⟨N, hN⟩ : ∃ N, V r = N := ⟨_, rfl⟩
  have hN0 : 0 < N := by rw [← hN]; exact V_pos h0
  have HN := Lib.hid hN
  have HN0 := Lib.hid hN0
  have HNb := Lib.hid (show N < 2 ^ K98 by rw [← hN]; exact V_bd hr)
  have HI := Lib.hid (show Inv N r 0 from ⟨by omega, by rw [hN, show ((0 : Int) + 2000).toNat = KK from rfl]⟩)
  have H0 := Lib.hid h0
  have HR := Lib.hid hr
  have HP := Lib.hid (fun (t : List UInt8) (h : ∃ n e : Nat, Odd n e N ∧ t = body n ((e : Int) - 1074)) => (show Plain r t from .inr ⟨h0, hr, by rw [hN]; exact h⟩))
  clear h0 hr hN hN0
  rcases ho with ho | ho
  all_goals
    go_enter Tryd.func14, Tryd.ntmps14
    go_wp2_with fail
    clear ho
    go_loop [0, 3] (fun x e => ∃ (q : Nat) (j : Int), x = .float .f64 q ∧ e = .int .i64 j ∧ 0 ≤ j ∧ j ≤ 3000 ∧ Hid (0 < q ∧ q < INF ∧ j + (q / 2 ^ 52 : Nat) ≤ 2046 ∧ Inv N q j)) (fun x _ => rungOf x)
    case atStart => exact ⟨r, 0, rfl, rfl, by omega, by omega, Lib.hid ⟨H0.out, HR.out, by have := HR.out; unfold INF at this; omega, HI.out⟩⟩
    case round =>
      obtain ⟨q, j, rfl, rfl, hj0, hj1, HQ⟩ := hrel
      by_cases hge : R53 ≤ q
      · have hq := HQ.out
        have e53 := R53_eq
        have hh := half hq.2.1 (by omega)
        have rq := fun (w : World) => run_float_arith (P := Tryd.prog) w .quo 22 .f64 _ _ _ hh
        have HB := Lib.hid (show j + 1 ≤ 3000 ∧ 0 < q - 2 ^ 52 ∧ q - 2 ^ 52 < INF ∧ j + 1 + ((q - 2 ^ 52) / 2 ^ 52 : Nat) ≤ 2046 ∧ Inv N (q - 2 ^ 52) (j + 1) ∧ q - 2 ^ 52 < q from ⟨by omega, by omega, by omega, by omega, hq.2.2.2.half (by omega), by omega⟩)
        have og := ord_ge hq.2.1 R53_lt hge
        unfold R53 at og
        clear hh hq HQ hge e53
        obtain ⟨q', hq'⟩ : ∃ q', q - 2 ^ 52 = q' := ⟨_, rfl⟩
        rw [hq'] at rq HB
        clear hq'
        rcases og with og | og
        all_goals
          go_wp2
          go_round
          case rel => exact ⟨q', j + 1, rfl, by go_num, by omega, HB.out.1, Lib.hid ⟨HB.out.2.1, HB.out.2.2.1, HB.out.2.2.2.1, HB.out.2.2.2.2.1⟩⟩
          case measure => exact HB.out.2.2.2.2.2
      · have hq := HQ.out
        have ol := ord_lt R53_lt (by omega : q < R53)
        unfold R53 at ol
        have HQ2 := Lib.hid (show 0 < q ∧ q < R53 ∧ Inv N q j from ⟨hq.1, by omega, hq.2.2.2⟩)
        clear hq HQ hge
        go_wp2
        clear ol
        go_loop [0, 3] (fun x e => ∃ (q : Nat) (j : Int), x = .float .f64 q ∧ e = .int .i64 j ∧ -1127 < j ∧ j ≤ 3000 ∧ Hid (0 < q ∧ q < R53 ∧ Inv N q j)) (fun x _ => R53 - rungOf x)
        case atStart => exact ⟨q, j, rfl, rfl, by omega, by omega, HQ2⟩
        case round =>
          clear HQ2 hj0 hj1
          obtain ⟨q, j, rfl, rfl, hj0, hj1, HQ⟩ := hrel
          by_cases hlt : q < R52
          · have hq := HQ.out
            have e52 := R52_eq
            have e53 := R53_eq
            have hdb := hq.2.2.dbl hq.1 HN0.out hlt
            have hh := dbl hq.1 (by unfold INF; omega)
            have rq := fun (w : World) => run_float_arith (P := Tryd.prog) w .mul 22 .f64 _ _ _ hh
            have ol := ord_lt R52_lt hlt
            unfold R52 at ol
            have hdl : q < dblR q ∧ dblR q < R53 := by unfold dblR; split <;> omega
            have HB := Lib.hid (show -1127 < j - 1 ∧ 0 < dblR q ∧ dblR q < R53 ∧ Inv N (dblR q) (j - 1) ∧ R53 - dblR q < R53 - q from ⟨hdb.2, by omega, hdl.2, hdb.1, by omega⟩)
            clear hh hq HQ hlt e52 e53 hdb hdl
            obtain ⟨q', hq'⟩ : ∃ q', dblR q = q' := ⟨_, rfl⟩
            rw [hq'] at rq HB
            clear hq'
            go_wp2
            go_round
            case rel => exact ⟨q', j - 1, rfl, by go_num, HB.out.1, by omega, Lib.hid ⟨HB.out.2.1, HB.out.2.2.1, HB.out.2.2.2.1⟩⟩
            case measure => exact HB.out.2.2.2.2
          · have hq := HQ.out
            have og := ord_ge (Nat.lt_trans hq.2.1 R53_lt) R52_lt (by omega : R52 ≤ q)
            unfold R52 at og
            have htr := tr_mid (by omega) hq.2.1
            have hmg := (small_mag (Nat.le_of_lt (Nat.lt_trans hq.2.1 R53_lt))).1
            have hc := fun (w : World) => run_convert_float_int (P := Tryd.prog) w 22 3 .f64 .i64 q _ (by kernel_rfl) Tryd.underlying3 (conv_int (by rw [hmg]; exact Nat.lt_trans hq.2.1 R53_lt) (by rw [htr]; show (-9223372036854775808 : Int) ≤ _; omega) (by rw [htr]; show _ ≤ (9223372036854775807 : Int); omega))
            rw [htr] at hc
            have HN3 := Lib.hid (show InvN N (2 ^ 52 + q % 2 ^ 52) j ∧ 2 ^ 52 + q % 2 ^ 52 ≤ 9007199254740992 ∧ 0 < 2 ^ 52 + q % 2 ^ 52 from ⟨hq.2.2.toN HN0.out (by omega) hq.2.1, by omega, by omega⟩)
            clear hq HQ hlt htr hmg
            obtain ⟨n0, hn0⟩ : ∃ n, 2 ^ 52 + q % 2 ^ 52 = n := ⟨_, rfl⟩
            rw [hn0] at hc HN3
            clear hn0
            rcases og with og | og
            all_goals
              go_wp2
              clear og hc
              go_loop [4, 3] (fun x e => ∃ (n : Nat) (j : Int), x = .int .i64 n ∧ e = .int .i64 j ∧ -1127 < j ∧ j ≤ 3000 ∧ n ≤ 9007199254740992 ∧ 0 < n ∧ Hid (InvN N n j)) (fun x _ => (intOf x).toNat)
              case atStart => exact ⟨n0, j, rfl, rfl, hj0, hj1, HN3.out.2.1, HN3.out.2.2, Lib.hid HN3.out.1⟩
              case round =>
                clear HN3 hj0 hj1
                obtain ⟨n, j, rfl, rfl, hj0, hj1, hn1, hn2, HI3⟩ := hrel
                by_cases hev : n % 2 = 0
                · have hh := HI3.out.half hev
                  have HB := Lib.hid (show j + 1 ≤ 3000 ∧ InvN N (n / 2) (j + 1) from ⟨hh.hi (by omega) HNb.out, hh⟩)
                  have et : Int.tmod (n : Int) 2 = 0 := by rw [Int.tmod_eq_emod_of_nonneg (by omega)]; omega
                  have ed : Int.tdiv (n : Int) 2 = ((n / 2 : Nat) : Int) := by rw [Int.tdiv_eq_ediv_of_nonneg (by omega)]; omega
                  have ee : (n : Int) % 2 = 0 := by omega
                  have ef : (n : Int) / 2 = ((n / 2 : Nat) : Int) := by omega
                  have HM := Lib.hid (show 0 < n / 2 ∧ n / 2 ≤ 9007199254740992 ∧ n / 2 < n by omega)
                  clear HI3 hh hev
                  obtain ⟨m, hm⟩ : ∃ m, n / 2 = m := ⟨_, rfl⟩
                  rw [hm] at HB ed ef HM
                  clear hm
                  go_wp2
                  go_round
                  case rel => exact ⟨m, j + 1, rfl, by go_num, by omega, HB.out.1, HM.out.2.1, HM.out.1, Lib.hid HB.out.2⟩
                  case measure => have := HM.out.2.2; simp [intOf]; omega
                · have ho1 : n % 2 = 1 := by omega
                  obtain ⟨f, hf1, hf2⟩ := HI3.out.odd ho1
                  have HF := Lib.hid (HP.out (body n j) ⟨n, f, hf1, by rw [hf2]⟩)
                  have et : Int.tmod (n : Int) 2 = 1 := by rw [Int.tmod_eq_emod_of_nonneg (by omega)]; omega
                  have ee : (n : Int) % 2 = 1 := by omega
                  clear HI3 hf1 hf2 hev ho1
                  have L1 := itoa_length_le (n : Int) (by omega) (by omega)
                  have L2 := itoa_length_le j (by omega) (by omega)
                  have en : itoa (n : Int) = decDigits n := by unfold itoa; rw [if_neg (by omega)]; simp
                  have D1 := Lib.hid (fun w => dec_any (n : Int) ⟨by omega, by omega⟩ w)
                  have D2 := Lib.hid (fun w => dec_any j ⟨by omega, by omega⟩ w)
                  have HE := Lib.hid (show body n j = itoa (n : Int) ++ [42, 50, 94] ++ itoa j by rw [en]; rfl)
                  clear en
                  obtain ⟨s1, hs1⟩ : ∃ s, itoa (n : Int) = s := ⟨_, rfl⟩
                  obtain ⟨s2, hs2⟩ : ∃ s, itoa j = s := ⟨_, rfl⟩
                  rw [hs1] at D1 HE L1
                  rw [hs2] at D2 HE L2
                  clear hs1 hs2
                  obtain ⟨b1, hb1⟩ : ∃ b : ByteArray, (⟨s1.toArray⟩ : ByteArray) = b := ⟨_, rfl⟩
                  obtain ⟨b2, hb2⟩ : ∃ b : ByteArray, (⟨s2.toArray⟩ : ByteArray) = b := ⟨_, rfl⟩
                  have z1 : b1.size ≤ 21 := by rw [← hb1]; show s1.toArray.size ≤ 21; rw [List.size_toArray]; exact L1
                  have z2 : b2.size ≤ 21 := by rw [← hb2]; show s2.toArray.size ≤ 21; rw [List.size_toArray]; exact L2
                  have HB := Lib.hid (show b1 ++ (⟨#[42, 50, 94]⟩ : ByteArray) ++ b2 = ⟨(body n j).toArray⟩ by rw [← hb1, ← hb2, HE.out]; rw [show (⟨#[42, 50, 94]⟩ : ByteArray) = ⟨[42, 50, 94].toArray⟩ from rfl, str_cat, str_cat])
                  rw [hb1] at D1
                  rw [hb2] at D2
                  clear hb1 hb2 HE L1 L2
                  go_wp2_with fail
                  refine (D1.out _).mono ?_
                  rintro e w1 ⟨rfl, h1⟩
                  have H1 := Lib.hid h1
                  clear h1
                  go_wp2_with fail
                  refine (D2.out _).mono ?_
                  rintro e w2 ⟨rfl, h2⟩
                  have H2 := Lib.hid (H1.out.trans (h2.mono H1.out.size))
                  clear h2
                  have z3 : (b1 ++ (⟨#[42, 50, 94]⟩ : ByteArray)).size ≤ 24 := by rw [ByteArray.size_append]; show b1.size + 3 ≤ 24; omega
                  go_wp2_with fail
                  go_ret
                  exact ⟨body n j, by rw [← HB.out]; rfl, HF.out, by have hs : (b1 ++ (⟨#[42, 50, 94]⟩ : ByteArray) ++ b2).size ≤ 99 := (by rw [ByteArray.size_append]; omega); rw [HB.out] at hs; simpa [ByteArray.size] using hs, H2.out⟩

theorem xor_top (r : Nat) (h : r < 2 ^ 63) : (2 ^ 63 + r) ^^^ 2 ^ 63 = r := by
  have e : 2 ^ 63 + r = 2 ^ 63 ||| r := by
    have := Nat.two_pow_add_eq_or_of_lt h 1
    simpa using this
  rw [e]
  apply Nat.eq_of_testBit_eq
  intro i
  rw [Nat.testBit_xor, Nat.testBit_or, Nat.testBit_two_pow]
  by_cases hi : 63 = i
  · subst hi
    rw [Nat.testBit_lt_two_pow h]
    simp
  · simp [hi]
theorem neg_word {r : Nat} (h : r < 2 ^ 63) : Op.negFloat .f64 (2 ^ 63 + r) = r := xor_top r h
theorem run_neg (x : Nat) (w : World) : (Op.unary .neg (.float .f64 x)).run Tryd.prog w = .ok (.float .f64 (Op.negFloat .f64 x)) w := rfl
theorem ord_zero {r : Nat} (h0 : 0 < r) (h : r ≤ INF) : FloatKind.f64.format.order r 0 = some .gt := by
  have hz : (0 : Nat) < INF := by decide
  rcases Nat.eq_or_lt_of_le h with e | e
  · subst e; exact order_inf hz
  · rw [order_pos e hz, cmp_gt (by omega)]
theorem ord_neg {r : Nat} (h0 : 0 < r) (h : r ≤ INF) : FloatKind.f64.format.order (2 ^ 63 + r) 0 = some .lt := by
  have hz : mag 0 < INF := by decide
  have m : mag (2 ^ 63 + r) = r := by unfold mag; unfold INF at h; omega
  have n : neg (2 ^ 63 + r) = true := by unfold neg; unfold INF at h; rw [show (2 ^ 63 + r) / 2 ^ 63 % 2 = 1 by omega]; rfl
  rcases Nat.eq_or_lt_of_le h with e | e
  · subst e; decide +kernel
  · show Ieee.double.order (2 ^ 63 + r) 0 = _
    rw [order_fin (by rw [m]; exact e) hz, cmp_lt]
    unfold sv
    rw [n, m]
    have := V_pos h0
    have z : sv 0 = 0 := by decide
    have z2 : neg 0 = false := by decide
    have z3 : V (mag 0) = 0 := by decide
    rw [z2, z3]
    simp
    omega
theorem spec_nan (x : Nat) (h : isNan x = true) (w : World) : Calls Tryd.prog 6 #[.float .f64 x] w (SomeTxt 100 (Txt x) w) := by
  have ho := order_nan_left (y := x) h
  have HT := Lib.hid (show Txt x [110, 97, 110] from .inl ⟨h, rfl⟩)
  clear h
  go_enter Tryd.func6, Tryd.ntmps6
  go_wp2_with fail
  go_ret
  exact ⟨_, rfl, HT.out, by decide, Below.refl _ _⟩
theorem spec_zero (w : World) : Calls Tryd.prog 6 #[.float .f64 0] w (SomeTxt 100 (Txt 0) w) := by
  have ho : FloatKind.f64.format.order 0 0 = some .eq := by decide +kernel
  have hq : floatBits .quo .f64 4607182418800017408 0 = some 9218868437227405312 := by decide +kernel
  have rq := fun (w : World) => run_float_arith (P := Tryd.prog) w .quo 22 .f64 _ _ _ hq
  have hi : FloatKind.f64.format.order 9218868437227405312 0 = some .gt := by decide +kernel
  have HT := Lib.hid (show Txt 0 [48] from .inr ⟨by decide +kernel, [48], rfl, .inl ⟨rfl, rfl⟩⟩)
  clear hq
  go_enter Tryd.func6, Tryd.ntmps6
  go_wp2_with fail
  go_ret
  exact ⟨_, rfl, HT.out, by decide, Below.refl _ _⟩
theorem spec_negz (w : World) : Calls Tryd.prog 6 #[.float .f64 9223372036854775808] w (SomeTxt 100 (Txt 9223372036854775808) w) := by
  have ho : FloatKind.f64.format.order 9223372036854775808 9223372036854775808 = some .eq := by decide +kernel
  have ho2 : FloatKind.f64.format.order 9223372036854775808 0 = some .eq := by decide +kernel
  have hq : floatBits .quo .f64 4607182418800017408 9223372036854775808 = some 18442240474082181120 := by decide +kernel
  have rq := fun (w : World) => run_float_arith (P := Tryd.prog) w .quo 22 .f64 _ _ _ hq
  have hi : FloatKind.f64.format.order 18442240474082181120 0 = some .lt := by decide +kernel
  have HT := Lib.hid (show Txt 9223372036854775808 [45, 48] from .inr ⟨by decide +kernel, [48], rfl, .inl ⟨rfl, rfl⟩⟩)
  clear hq
  go_enter Tryd.func6, Tryd.ntmps6
  go_wp2_with fail
  go_ret
  exact ⟨_, rfl, HT.out, by decide, Below.refl _ _⟩
theorem plain_any (r : Nat) (h0 : 0 < r) (hr : r ≤ INF) (w : World) : Calls Tryd.prog 14 #[.float .f64 r] w (SomeTxt 99 (Plain r) w) := by
  rcases Nat.eq_or_lt_of_le hr with e | e
  · subst e
    exact (plain_inf w).mono fun e w' ⟨h1, h2⟩ => ⟨_, h1, .inl ⟨rfl, rfl⟩, by decide, h2⟩
  · exact plain_fin r h0 e w
theorem spec_pos (r : Nat) (h0 : 0 < r) (hr : r ≤ INF) (w : World) : Calls Tryd.prog 6 #[.float .f64 r] w (SomeTxt 100 (Txt r) w) := by
  obtain ⟨m, n⟩ := small_mag hr
  have hnan : isNan r = false := by rw [nan_iff, m]; exact decide_eq_false (by omega)
  have ho := order_self hnan
  have ho2 := ord_zero h0 hr
  have HT := Lib.hid (fun t (h : Plain r t) => show Txt r t from .inr ⟨hnan, t, by rw [n]; rfl, .inr (by rw [m]; exact h)⟩)
  have HP := Lib.hid (fun w => plain_any r h0 hr w)
  clear h0 hr hnan m n
  go_enter Tryd.func6, Tryd.ntmps6
  go_wp2_with fail
  refine (HP.out _).mono ?_
  rintro e w1 ⟨t, rfl, h1, h2⟩
  have H1 := Lib.hid (And.intro h1 h2)
  clear h1 h2
  go_wp2_with fail
  go_ret
  exact ⟨t, rfl, HT.out t H1.out.1, Nat.le_trans H1.out.2.1 (by decide), H1.out.2.2⟩
theorem spec_neg (r : Nat) (h0 : 0 < r) (hr : r ≤ INF) (w : World) : Calls Tryd.prog 6 #[.float .f64 (2 ^ 63 + r)] w (SomeTxt 100 (Txt (2 ^ 63 + r)) w) := by
  have hb : r < 2 ^ 63 := by unfold INF at hr; omega
  have m : mag (2 ^ 63 + r) = r := by unfold mag; omega
  have n : neg (2 ^ 63 + r) = true := by unfold neg; rw [show (2 ^ 63 + r) / 2 ^ 63 % 2 = 1 by omega]; rfl
  have hnan : isNan (2 ^ 63 + r) = false := by rw [nan_iff, m]; exact decide_eq_false (by omega)
  have ho := order_self hnan
  have ho2 := ord_neg h0 hr
  have hn := neg_word hb
  have HT := Lib.hid (fun t (h : Plain r t) => show Txt (2 ^ 63 + r) (45 :: t) from .inr ⟨hnan, t, by rw [n]; rfl, .inr (by rw [m]; exact h)⟩)
  have HP := Lib.hid (fun w => plain_any r h0 hr w)
  clear h0 hr hnan m n hb
  obtain ⟨x, hx⟩ : ∃ x, 2 ^ 63 + r = x := ⟨_, rfl⟩
  rw [hx] at ho ho2 hn HT ⊢
  clear hx
  have rn := fun w => run_neg x w
  rw [hn] at rn
  clear hn
  go_enter Tryd.func6, Tryd.ntmps6
  go_wp2_with fail
  refine (HP.out _).mono ?_
  rintro e w1 ⟨t, rfl, h1, h2⟩
  have H1 := Lib.hid (And.intro h1 h2)
  obtain ⟨b1, hb1⟩ : ∃ b : ByteArray, (⟨t.toArray⟩ : ByteArray) = b := ⟨_, rfl⟩
  have z1 : b1.size ≤ 99 := by rw [← hb1]; show t.toArray.size ≤ 99; rw [List.size_toArray]; exact h2.1
  have HB := Lib.hid (show (⟨#[45]⟩ : ByteArray) ++ b1 = ⟨(45 :: t).toArray⟩ by rw [← hb1]; rw [show (⟨#[45]⟩ : ByteArray) = ⟨[45].toArray⟩ from rfl, str_cat]; rfl)
  rw [hb1]
  clear h1 h2 hb1
  go_wp2_with fail
  go_ret
  exact ⟨45 :: t, by rw [← HB.out]; rfl, HT.out t H1.out.1, by have := H1.out.2.1; simp; omega, H1.out.2.2⟩
theorem spec_text (x : Nat) (hx : x < 2 ^ 64) (w : World) : Calls Tryd.prog 6 #[.float .f64 x] w (SomeTxt 100 (Txt x) w) := by
  cases hn : isNan x with
  | true => exact spec_nan x hn w
  | false =>
    rw [nan_iff] at hn
    have hm : mag x ≤ INF := Nat.le_of_not_lt (of_decide_eq_false hn)
    unfold mag at hm
    by_cases hs : x < 2 ^ 63
    · have e : x % 2 ^ 63 = x := by omega
      rw [e] at hm
      rcases Nat.eq_zero_or_pos x with z | z
      · subst z; exact spec_zero w
      · exact spec_pos x z hm w
    · obtain ⟨r, rfl⟩ : ∃ r, x = 2 ^ 63 + r := ⟨x - 2 ^ 63, by omega⟩
      have e : (2 ^ 63 + r) % 2 ^ 63 = r := by omega
      rw [e] at hm
      rcases Nat.eq_zero_or_pos r with z | z
      · subst z; exact spec_negz w
      · exact spec_neg r z hm w
end Go.Proofs.YtcjlkekekalgdaaDoor.txt
