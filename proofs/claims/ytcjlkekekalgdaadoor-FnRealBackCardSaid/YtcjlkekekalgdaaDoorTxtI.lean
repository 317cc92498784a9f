/-
  'impl.RealText': the text of a float.
  Conditions: a word of 64 bits; the table of powers of ten is as it is laid.
-/
import Derived.Test.YtcjlkekekalgdaaDoorLdx
import Derived.Test.YtcjlkekekalgdaaDoorFmtU
namespace Go.Proofs.YtcjlkekekalgdaaDoor.txt
open Go Go.RowKit Go.Lib Go.Proofs.YtcjlkekekalgdaaDoor.fl Go.Proofs.YtcjlkekekalgdaaDoor.flo
set_option linter.unusedVariables false
set_option linter.unusedSimpArgs false
set_option maxRecDepth 20000

theorem normal_of (r : Nat) (h0 : 0 < r) (h : r < INF) : ∃ (y : Nat) (k : Int), 2 ^ 52 ≤ y ∧ y < INF ∧ (k = 0 ∨ k = -52) ∧ V y = V r * 2 ^ (-k).toNat ∧
    ∀ w, Calls Tryd.prog 55 #[.float .f64 r] w (Is (.tuple #[.float .f64 y, .int .i64 k]) w) := by
  by_cases hb : r < 2 ^ 52
  · obtain ⟨q, h1, h2, h3, h4⟩ := sub_up h0 hb
    exact ⟨q, -52, h1, h2, .inr rfl, h3, fun w => normalize_sub r q hb h4 w⟩
  · exact ⟨r, 0, Nat.le_of_not_lt hb, h, .inl rfl, by rw [show (-(0 : Int)).toNat = 0 from rfl, Nat.pow_zero, Nat.mul_one], fun w => normalize_big r h (Nat.le_of_not_lt hb) w⟩
theorem Frexp_of (r y : Nat) (k : Int) (h0 : 0 < r) (h : r < INF) (h1 : 2 ^ 52 ≤ y) (h2 : y < INF) (hk : k = 0 ∨ k = -52) (w : World)
    (HO : ∀ w, Calls Tryd.prog 55 #[.float .f64 r] w (Is (.tuple #[.float .f64 y, .int .i64 k]) w)) :
    Calls Tryd.prog 18 #[.float .f64 r] w (Is (.tuple #[.float .f64 (FW y), .int .i64 (k + FE y)]) w) := by
  have HF := Lib.hid (fun w => frexp_of r y k h0 h h1 h2 hk w HO)
  clear h0 h h1 h2 hk HO
  obtain ⟨f, hf⟩ : ∃ f, FW y = f := ⟨_, rfl⟩
  obtain ⟨e, he⟩ : ∃ e, k + FE y = e := ⟨_, rfl⟩
  rw [hf, he] at HF ⊢
  clear hf he
  go_enter Tryd.func18, Tryd.ntmps18
  go_wp2_with (go_at_call 40; refine (HF.out _).mono ?_; rintro e w' ⟨rfl, rfl⟩)
  go_ret2
  exact ⟨rfl, rfl⟩
theorem Ldexp_53 (y : Nat) (w : World) : Calls Tryd.prog 19 #[.float .f64 (FW y), .int .i64 53] w (Is (.float .f64 (LW y)) w) := by
  have HF := Lib.hid (fun w => ldexp_53 y w)
  obtain ⟨f, hf⟩ : ∃ f, FW y = f := ⟨_, rfl⟩
  obtain ⟨l, hl⟩ : ∃ l, LW y = l := ⟨_, rfl⟩
  rw [hf, hl] at HF
  rw [hf, hl]
  clear hf hl
  go_enter Tryd.func19, Tryd.ntmps19
  go_wp2_with (go_at_call 42; refine (HF.out _).mono ?_; rintro e w' ⟨rfl, rfl⟩)
  go_ret
  exact ⟨rfl, rfl⟩
def K48 : Nat := 1948
theorem K48_eq : KK = 52 + K48 := rfl
theorem invN_start {r y N : Nat} {k : Int} (hN : V r = N) (h1 : 2 ^ 52 ≤ y) (h2 : y < INF) (hk : k = 0 ∨ k = -52) (hv : V y = V r * 2 ^ (-k).toNat) :
    InvN N (2 ^ 52 + y % 2 ^ 52) (k + FE y - 53) := by
  have hy : y < 2047 * 2 ^ 52 := h2
  have hq1 : 1 ≤ y / 2 ^ 52 := by omega
  have hq2 : y / 2 ^ 52 < 2047 := by omega
  have hf : FE y = ((y / 2 ^ 52 : Nat) : Int) - 1022 := rfl
  have e : V y = (2 ^ 52 + y % 2 ^ 52) * 2 ^ (y / 2 ^ 52 - 1) := by unfold V; rw [if_neg (by omega)]
  rw [e, hN] at hv
  generalize 2 ^ 52 + y % 2 ^ 52 = n at hv ⊢
  generalize y / 2 ^ 52 = q at hv hq1 hq2 hf
  clear hy h1 h2 hN e
  rw [hf]
  clear hf
  refine ⟨by omega, ?_⟩
  rcases hk with rfl | rfl
  · have e1 : (0 + ((q : Int) - 1022) - 53 + 3074).toNat = (q - 1) + KK := by show _ = (q - 1) + 2000; omega
    rw [e1, Nat.pow_add, ← Nat.mul_assoc, hv, show (-(0 : Int)).toNat = 0 from rfl, Nat.pow_zero, Nat.mul_one]
  · have e1 : (-52 + ((q : Int) - 1022) - 53 + 3074).toNat = (q - 1) + K48 := by show _ = (q - 1) + 1948; omega
    rw [e1, Nat.pow_add, ← Nat.mul_assoc, hv, K48_eq, Nat.pow_add 2 52 K48, Nat.mul_assoc, show (-(-52 : Int)).toNat = 52 from rfl]
theorem conv_u {y : Nat} (w : World) : (convert 22 36 (.float .f64 (LW y))).run Tryd.prog w = .ok (.int .u64 ((2 ^ 52 + y % 2 ^ 52 : Nat) : Int)) w := by
  have h1 : R52 ≤ LW y := by rw [R52_eq]; unfold LW; omega
  have h2 : LW y < R53 := by rw [R53_eq]; unfold LW; omega
  have htr := tr_mid h1 h2
  have hmg := (small_mag (Nat.le_of_lt (LW_lt y).1)).1
  have em : LW y % 2 ^ 52 = y % 2 ^ 52 := by unfold LW; omega
  have hc := run_convert_float_int (P := Tryd.prog) w 22 36 .f64 .u64 (LW y) _ (by kernel_rfl) Tryd.underlying36 (conv_int (by rw [hmg]; exact (LW_lt y).1) (by rw [htr]; show (0 : Int) ≤ _; omega) (by rw [htr]; show _ ≤ (18446744073709551615 : Int); omega))
  rw [htr, em] at hc
  exact hc

set_option maxHeartbeats 4000000 in
theorem impl_fin (r : Nat) (h0 : 0 < r) (hr : r < INF) (w : World) (hp : Pow w) : Calls Tryd.prog 7 #[.float .f64 r] w (SomeTxt 99 (Plain r) w) := by
  obtain ⟨m, n⟩ := small_mag (Nat.le_of_lt hr)
  have hnan : isNan r = false := by rw [nan_iff, m]; exact decide_eq_false (by omega)
  have ho := ord_zero h0 (Nat.le_of_lt hr)
  obtain ⟨y, k, y1, y2, hk, hv, HO⟩ := normal_of r h0 hr
  obtain ⟨N, hN⟩ : ∃ N, V r = N := ⟨_, rfl⟩
  have hN0 : 0 < N := by rw [← hN]; exact V_pos h0
  have hI := invN_start hN y1 y2 hk hv
  have hfe : FE y < 1025 := by have : y < 2047 * 2 ^ 52 := y2; unfold FE; omega
  have HNb := Lib.hid (show N < 2 ^ K98 by rw [← hN]; exact V_bd hr)
  have C1 := Lib.hid (fun w => isNaN_no r hnan w)
  have C2 := Lib.hid (fun w => signbit_no r (by unfold INF at hr; omega) w)
  have C3 := Lib.hid (fun w => isInf_no r hr w)
  have C4 := Lib.hid (fun w => Frexp_of r y k h0 hr y1 y2 hk w HO)
  have C5 := Lib.hid (fun w => Ldexp_53 y w)
  have hc := fun w => conv_u (y := y) w
  have HP := Lib.hid (fun (t : List UInt8) (h : ∃ n e : Nat, Odd n e N ∧ t = body n ((e : Int) - 1074)) => (show Plain r t from .inr ⟨h0, hr, by rw [hN]; exact h⟩))
  have HW := Lib.hid hp
  have hnb : 2 ^ 52 + y % 2 ^ 52 ≤ 9007199254740992 ∧ 0 < 2 ^ 52 + y % 2 ^ 52 := by omega
  obtain ⟨e, he⟩ : ∃ e : Int, k + FE y = e := ⟨_, rfl⟩
  have hw : wrap64 (e - 53) = e - 53 := by have := hI.1; rw [he] at this; apply wr64 <;> omega
  have hj : -1127 < e - 53 ∧ e - 53 ≤ 3000 := by have := hI.1; rw [he] at this; omega
  rw [he] at C4 hI
  obtain ⟨f, hf⟩ : ∃ f, FW y = f := ⟨_, rfl⟩
  obtain ⟨l, hl⟩ : ∃ l, LW y = l := ⟨_, rfl⟩
  obtain ⟨n0, hn0⟩ : ∃ n0, 2 ^ 52 + y % 2 ^ 52 = n0 := ⟨_, rfl⟩
  rw [hn0] at hI hc hnb
  rw [hf] at C4 C5
  rw [hl] at C5 hc
  obtain ⟨j0, hj0⟩ : ∃ j0, e - 53 = j0 := ⟨_, rfl⟩
  replace hw : wrap64 (e - 53) = j0 := by rw [hw, hj0]
  rw [hj0] at hj hI
  have HI := Lib.hid hI
  have HB0 := Lib.hid hnb
  have HJ := Lib.hid hj
  clear h0 hr hnan m n y1 y2 hk hv HO hN hN0 hI hp hf hl he hj hj0 hn0 hnb hfe
  go_enter Tryd.func7, Tryd.ntmps7
  go_wp2_with (first
    | (go_at_call 15; refine (C1.out _).mono ?_; rintro e w' ⟨rfl, rfl⟩)
    | (go_at_call 16; refine (C2.out _).mono ?_; rintro e w' ⟨rfl, rfl⟩)
    | (go_at_call 17; refine (C3.out _).mono ?_; rintro e w' ⟨rfl, rfl⟩)
    | (go_at_call 18; refine (C4.out _).mono ?_; rintro e w' ⟨rfl, rfl⟩)
    | (go_at_call 19; refine (C5.out _).mono ?_; rintro e w' ⟨rfl, rfl⟩))
  clear ho hc C1 C2 C3 C4 C5
  go_loop [5, 4] (fun x e => ∃ (n : Nat) (j : Int), x = .int .u64 n ∧ e = .int .i64 j ∧ -1127 < j ∧ j ≤ 3000 ∧ n ≤ 9007199254740992 ∧ 0 < n ∧ Hid (InvN N n j)) (fun x _ => (RowKit.intOf x).toNat)
  case atStart => exact ⟨n0, j0, rfl, by first | rfl | rw [hw], HJ.out.1, HJ.out.2, HB0.out.1, HB0.out.2, HI⟩
  case round =>
    clear HI HJ HB0 hw
    obtain ⟨n, j, rfl, rfl, hj0, hj1, hn1, hn2, HI3⟩ := hrel
    by_cases hev : n % 2 = 0
    · have hh := HI3.out.half hev
      have HB := Lib.hid (show j + 1 ≤ 3000 ∧ InvN N (n / 2) (j + 1) from ⟨hh.hi (by omega) HNb.out, hh⟩)
      have et : Int.tmod (n : Int) 2 = 0 := by rw [Int.tmod_eq_emod_of_nonneg (by omega)]; omega
      have ed : Int.tdiv (n : Int) 2 = ((n / 2 : Nat) : Int) := by rw [Int.tdiv_eq_ediv_of_nonneg (by omega)]; omega
      have ee : (n : Int) % 2 = 0 := by omega
      have ef : (n : Int) / 2 = ((n / 2 : Nat) : Int) := by omega
      have HM := Lib.hid (show 0 < n / 2 ∧ n / 2 ≤ 9007199254740992 ∧ n / 2 < n by omega)
      clear HI3 hh hev
      obtain ⟨m, hm⟩ : ∃ m, n / 2 = m := ⟨_, rfl⟩
      rw [hm] at HB ed ef HM
      clear hm
      go_wp2
      go_round
      case rel => exact ⟨m, j + 1, rfl, by go_num, by omega, HB.out.1, HM.out.2.1, HM.out.1, Lib.hid HB.out.2⟩
      case measure => have := HM.out.2.2; simp [RowKit.intOf]; omega
    · have ho1 : n % 2 = 1 := by omega
      obtain ⟨f, hf1, hf2⟩ := HI3.out.odd ho1
      have HF := Lib.hid (HP.out (body n j) ⟨n, f, hf1, by rw [hf2]⟩)
      have et : Int.tmod (n : Int) 2 = 1 := by rw [Int.tmod_eq_emod_of_nonneg (by omega)]; omega
      have ee : (n : Int) % 2 = 1 := by omega
      clear HI3 hf1 hf2 hev ho1
      have L1 := itoa_length_le (n : Int) (by omega) (by omega)
      have L2 := itoa_length_le j (by omega) (by omega)
      have en : itoa (n : Int) = decDigits n := by unfold itoa; rw [if_neg (by omega)]; simp
      rw [en] at L1
      have D1 := Lib.hid (fun w (hp : Pow w) => formatUint n hn2 (by omega) w hp)
      have D2 := Lib.hid (fun w (hp : Pow w) => itoa_any j (by omega) (by omega) w hp)
      have HE := Lib.hid (show body n j = decDigits n ++ [42, 50, 94] ++ itoa j from rfl)
      clear en
      obtain ⟨s1, hs1⟩ : ∃ s, decDigits n = s := ⟨_, rfl⟩
      obtain ⟨s2, hs2⟩ : ∃ s, itoa j = s := ⟨_, rfl⟩
      rw [hs1] at D1 HE L1
      rw [hs2] at D2 HE L2
      clear hs1 hs2
      obtain ⟨b1, hb1⟩ : ∃ b : ByteArray, (⟨s1.toArray⟩ : ByteArray) = b := ⟨_, rfl⟩
      obtain ⟨b2, hb2⟩ : ∃ b : ByteArray, (⟨s2.toArray⟩ : ByteArray) = b := ⟨_, rfl⟩
      have z1 : b1.size ≤ 21 := by rw [← hb1]; show s1.toArray.size ≤ 21; rw [List.size_toArray]; exact L1
      have z2 : b2.size ≤ 21 := by rw [← hb2]; show s2.toArray.size ≤ 21; rw [List.size_toArray]; exact L2
      have HB := Lib.hid (show b1 ++ (⟨#[42, 50, 94]⟩ : ByteArray) ++ b2 = ⟨(body n j).toArray⟩ by rw [← hb1, ← hb2, HE.out]; rw [show (⟨#[42, 50, 94]⟩ : ByteArray) = ⟨[42, 50, 94].toArray⟩ from rfl, str_cat, str_cat])
      rw [hb1] at D1
      rw [hb2] at D2
      clear hb1 hb2 HE L1 L2
      go_wp2_with fail
      refine (D1.out _ HW.out).mono ?_
      rintro e w1 ⟨rfl, h1⟩
      have H1 := Lib.hid h1
      clear h1
      go_wp2_with fail
      refine (D2.out _ (HW.out.stays H1.out)).mono ?_
      rintro e w2 ⟨rfl, h2⟩
      have H2 := Lib.hid (H1.out.trans (h2.mono H1.out.size))
      clear h2
      have z3 : (b1 ++ (⟨#[42, 50, 94]⟩ : ByteArray)).size ≤ 24 := by rw [ByteArray.size_append]; show b1.size + 3 ≤ 24; omega
      go_wp2_with fail
      go_ret
      exact ⟨body n j, by rw [← HB.out]; rfl, HF.out, by have hs : (b1 ++ (⟨#[42, 50, 94]⟩ : ByteArray) ++ b2).size ≤ 99 := (by rw [ByteArray.size_append]; omega); rw [HB.out] at hs; simpa [ByteArray.size] using hs, H2.out⟩
theorem impl_inf (w : World) : Calls Tryd.prog 7 #[.float .f64 9218868437227405312] w (SomeTxt 99 (Plain INF) w) := by
  have C1 := Lib.hid (fun w => isNaN_no 9218868437227405312 (by decide +kernel) w)
  have C2 := Lib.hid (fun w => signbit_no 9218868437227405312 (by decide) w)
  have C3 := Lib.hid (fun w => isInf_yes w)
  go_enter Tryd.func7, Tryd.ntmps7
  go_wp2_with (first
    | (go_at_call 15; refine (C1.out _).mono ?_; rintro e w' ⟨rfl, rfl⟩)
    | (go_at_call 16; refine (C2.out _).mono ?_; rintro e w' ⟨rfl, rfl⟩)
    | (go_at_call 17; refine (C3.out _).mono ?_; rintro e w' ⟨rfl, rfl⟩))
  go_ret
  exact ⟨_, rfl, .inl ⟨rfl, rfl⟩, by decide, Below.refl _ _⟩
theorem impl_zero (w : World) : Calls Tryd.prog 7 #[.float .f64 0] w (SomeTxt 99 (Num 0) w) := by
  have ho : FloatKind.f64.format.order 0 0 = some .eq := by decide +kernel
  have C1 := Lib.hid (fun w => isNaN_no 0 (by decide +kernel) w)
  have C2 := Lib.hid (fun w => signbit_no 0 (by decide) w)
  have C3 := Lib.hid (fun w => isInf_no 0 (by decide) w)
  go_enter Tryd.func7, Tryd.ntmps7
  go_wp2_with (first
    | (go_at_call 15; refine (C1.out _).mono ?_; rintro e w' ⟨rfl, rfl⟩)
    | (go_at_call 16; refine (C2.out _).mono ?_; rintro e w' ⟨rfl, rfl⟩)
    | (go_at_call 17; refine (C3.out _).mono ?_; rintro e w' ⟨rfl, rfl⟩))
  go_ret
  exact ⟨_, rfl, .inl ⟨rfl, rfl⟩, by decide, Below.refl _ _⟩
theorem impl_num (r : Nat) (hr : r ≤ INF) (w : World) (hp : Pow w) : Calls Tryd.prog 7 #[.float .f64 r] w (SomeTxt 99 (Num r) w) := by
  rcases Nat.eq_zero_or_pos r with z | z
  · subst z; exact impl_zero w
  · rcases Nat.eq_or_lt_of_le hr with e | e
    · subst e; exact (impl_inf w).mono fun e w' ⟨t, h1, h2, h3⟩ => ⟨t, h1, .inr h2, h3⟩
    · exact (impl_fin r z e w hp).mono fun e w' ⟨t, h1, h2, h3⟩ => ⟨t, h1, .inr h2, h3⟩
theorem impl_nan (x : Nat) (h : isNan x = true) (w : World) : Calls Tryd.prog 7 #[.float .f64 x] w (SomeTxt 100 (Txt x) w) := by
  have HT := Lib.hid (show Txt x [110, 97, 110] from .inl ⟨h, rfl⟩)
  have C1 := Lib.hid (fun w => isNaN_yes x h w)
  clear h
  go_enter Tryd.func7, Tryd.ntmps7
  go_wp2_with (go_at_call 15; refine (C1.out _).mono ?_; rintro e w' ⟨rfl, rfl⟩)
  go_ret
  exact ⟨_, rfl, HT.out, by decide, Below.refl _ _⟩
theorem impl_neg (r : Nat) (hr : r ≤ INF) (w : World) (hp : Pow w) : Calls Tryd.prog 7 #[.float .f64 (2 ^ 63 + r)] w (SomeTxt 100 (Txt (2 ^ 63 + r)) w) := by
  have hb : r < 2 ^ 63 := by unfold INF at hr; omega
  have m : mag (2 ^ 63 + r) = r := by unfold mag; omega
  have n : neg (2 ^ 63 + r) = true := by unfold neg; rw [show (2 ^ 63 + r) / 2 ^ 63 % 2 = 1 by omega]; rfl
  have hnan : isNan (2 ^ 63 + r) = false := by rw [nan_iff, m]; exact decide_eq_false (by omega)
  have hn := neg_word hb
  have HT := Lib.hid (fun t (h : Num r t) => show Txt (2 ^ 63 + r) (45 :: t) from .inr ⟨hnan, t, by rw [n]; rfl, by rw [m]; exact h⟩)
  have C1 := Lib.hid (fun w => isNaN_no _ hnan w)
  have C2 := Lib.hid (fun w => signbit_yes _ (show 2 ^ 63 ≤ 2 ^ 63 + r by omega) (by omega) w)
  have HP := Lib.hid (fun w hp => impl_num r hr w hp)
  have HW := Lib.hid hp
  clear hr hnan m n hb hp
  obtain ⟨x, hx⟩ : ∃ x, 2 ^ 63 + r = x := ⟨_, rfl⟩
  rw [hx] at hn HT C1 C2 ⊢
  clear hx
  have rn := fun w => run_neg x w
  rw [hn] at rn
  clear hn
  go_enter Tryd.func7, Tryd.ntmps7
  go_wp2_with (first
    | (go_at_call 15; refine (C1.out _).mono ?_; rintro e w' ⟨rfl, rfl⟩)
    | (go_at_call 16; refine (C2.out _).mono ?_; rintro e w' ⟨rfl, rfl⟩))
  refine (HP.out _ HW.out).mono ?_
  rintro e w1 ⟨t, rfl, h1, h2⟩
  have H1 := Lib.hid (And.intro h1 h2)
  obtain ⟨b1, hb1⟩ : ∃ b : ByteArray, (⟨t.toArray⟩ : ByteArray) = b := ⟨_, rfl⟩
  have z1 : b1.size ≤ 99 := by rw [← hb1]; show t.toArray.size ≤ 99; rw [List.size_toArray]; exact h2.1
  have HB := Lib.hid (show (⟨#[45]⟩ : ByteArray) ++ b1 = ⟨(45 :: t).toArray⟩ by rw [← hb1]; rw [show (⟨#[45]⟩ : ByteArray) = ⟨[45].toArray⟩ from rfl, str_cat]; rfl)
  rw [hb1]
  clear h1 h2 hb1
  go_wp2_with fail
  go_ret
  exact ⟨45 :: t, by rw [← HB.out]; rfl, HT.out t H1.out.1, by have := H1.out.2.1; simp; omega, H1.out.2.2⟩
theorem impl_text (x : Nat) (hx : x < 2 ^ 64) (w : World) (hp : Pow w) : Calls Tryd.prog 7 #[.float .f64 x] w (SomeTxt 100 (Txt x) w) := by
  cases hn : isNan x with
  | true => exact impl_nan x hn w
  | false =>
    have hm := hn
    rw [nan_iff] at hm
    replace hm : mag x ≤ INF := Nat.le_of_not_lt (of_decide_eq_false hm)
    by_cases hs : x < 2 ^ 63
    · have e : mag x = x := by unfold mag; omega
      have en : neg x = false := by unfold neg; rw [show x / 2 ^ 63 % 2 = 0 by omega]; rfl
      refine (impl_num x (by rw [e] at hm; exact hm) w hp).mono ?_
      rintro e' w' ⟨t, h1, h2, h3, h4⟩
      exact ⟨t, h1, .inr ⟨hn, t, by rw [en]; rfl, by rw [e]; exact h2⟩, Nat.le_trans h3 (by decide), h4⟩
    · obtain ⟨r, rfl⟩ : ∃ r, x = 2 ^ 63 + r := ⟨x - 2 ^ 63, by omega⟩
      refine impl_neg r ?_ w hp
      unfold mag at hm
      omega
end Go.Proofs.YtcjlkekekalgdaaDoor.txt
