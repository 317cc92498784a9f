/-
  'spec.l3Read': what it reads.
  Conditions: a text of at most 4000000 bytes.
-/
import Derived.Test.YtcjlkekekalgdaaDoorRdLaw
import Derived.Test.YtcjlkekekalgdaaDoorHalf
import Derived.Shelf.RegionOpenPlain
import Derived.BigCall
namespace Go.Proofs.YtcjlkekekalgdaaDoor.txt
open Go Go.RowKit Go.Lib Go.Proofs.YtcjlkekekalgdaaDoor.fl Go.Proofs.YtcjlkekekalgdaaDoor.flo
set_option linter.unusedVariables false
set_option linter.unusedSimpArgs false
set_option maxRecDepth 20000

def K45 : Nat := 2045
/-- The text of a finite float above 0, in parts. -/
theorem plain_parts {r : Nat} {t : List UInt8} (h0 : 0 < r) (h : r < INF) (hp : Plain r t) : ∃ n f : Nat, Odd n f (V r) ∧ t = body n ((f : Int) - 1074) ∧ n < 2 ^ 53 ∧ f < 2098 := by
  rcases hp with ⟨e, _⟩ | ⟨_, _, n, f, ho, ht⟩
  · exact absurd e (Nat.ne_of_lt h)
  refine ⟨n, f, ho, ht, ?_, ?_⟩
  · have key : ∀ c k : Nat, V r = c * 2 ^ k → c < 2 ^ 53 → n < 2 ^ 53 := by
      intro c k hv hc
      obtain ⟨o1, o2⟩ := ho
      rw [hv] at o2
      by_cases hk : k ≤ f
      · have : n * 2 ^ (f - k) = c := by
          apply Nat.eq_of_mul_eq_mul_right (Nat.two_pow_pos k)
          rw [Nat.mul_assoc, ← Nat.pow_add, show f - k + k = f by omega, o2]
        have := Nat.le_mul_of_pos_right n (Nat.two_pow_pos (f - k))
        omega
      · exfalso
        have : n = c * 2 ^ (k - f) := by
          apply Nat.eq_of_mul_eq_mul_right (Nat.two_pow_pos f)
          rw [Nat.mul_assoc, ← Nat.pow_add, show k - f + f = k by omega, o2]
        rw [show k - f = (k - f - 1) + 1 by omega, Nat.pow_succ, ← Nat.mul_assoc] at this
        omega
    by_cases hb : r < 2 ^ 52
    · exact key r 0 (by unfold V; rw [if_pos hb]; simp) (by omega)
    · exact key (2 ^ 52 + r % 2 ^ 52) (r / 2 ^ 52 - 1) (by unfold V; rw [if_neg hb]) (by omega)
  · have hv := V_bd h
    have hn : 1 ≤ n := by have := ho.1; omega
    have h1 : 2 ^ f ≤ V r := by rw [← ho.2]; exact Nat.le_mul_of_pos_left _ hn
    have h2 : f < K98 := (Nat.pow_lt_pow_iff_right (by decide)).1 (Nat.lt_of_le_of_lt h1 hv)
    exact h2
/-- What a reader of texts above 0 says of a text. -/
def RdOk (bs : List UInt8) (x : Nat) (b : Bool) : Prop := (b = true → 0 < x ∧ x < INF ∧ Plain x bs) ∧ (∀ r, 0 < r → r < INF → Plain r bs → b = true)
def RdRes (bs : List UInt8) (w : World) (e : Ending) (w' : World) : Prop := ∃ x b, e = .returned (.tuple #[.float .f64 x, .bool b]) ∧ RdOk bs x b ∧ Below w.heap.size w w'
/-- No float's text. -/
def NoTxt (bs : List UInt8) : Prop := ∀ n f : Nat, n % 2 = 1 → n < 2 ^ 53 → f < 2098 → bs ≠ body n ((f : Int) - 1074)
theorem NoTxt.ok {bs : List UInt8} (h : NoTxt bs) (x : Nat) : RdOk bs x false := by
  refine ⟨fun e => Bool.noConfusion e, fun r h0 h1 hp => ?_⟩
  obtain ⟨n, f, ho, ht, h2, h3⟩ := plain_parts h0 h1 hp
  exact absurd ht (h n f ho.1 h2 h3)
theorem itoa_ne (e : Int) : itoa e ≠ [] := by
  unfold itoa
  split
  · simp
  · exact dec_ne _
theorem no_sep {bs : List UInt8} (h : (42 : UInt8) ∉ bs) : NoTxt bs := fun n f _ _ _ e => by
  rw [e] at h
  exact h (by unfold body SEP; simp)
theorem sep_at {l t : List UInt8} {n : Nat} {e : Int} (hl : (42 : UInt8) ∉ l) (h : l ++ 42 :: t = body n e) : l = decDigits n ∧ t = 50 :: 94 :: itoa e := by
  have h2 : l ++ 42 :: t = decDigits n ++ 42 :: (50 :: 94 :: itoa e) := by rw [h]; unfold body SEP; simp
  exact split_at hl (no_star n) h2
theorem inf_word (w : World) : Calls Tryd.prog 23 #[] w fun e w' => e = .returned (.float .f64 9218868437227405312) ∧ w' = w := by
  have h0 : floatBits .quo .f64 4607182418800017408 0 = some 9218868437227405312 := by decide +kernel
  have rq := fun (w : World) => run_float_arith (P := Tryd.prog) w .quo 22 .f64 _ _ _ h0
  clear h0
  go_enter Tryd.func23, Tryd.ntmps23
  go_wp2
  go_ret
  exact ⟨rfl, rfl⟩
set_option maxHeartbeats 4000000 in
theorem read_none (s : ByteArray) (hs : s.size ≤ 4000000) (hn : (42 : UInt8) ∉ s.data.toList) (w : World) : Calls Tryd.prog 24 #[.string s] w (RdRes s.data.toList w) := by
  have HF := Lib.hid (fun w => find_any s 42 hs w)
  have HN := Lib.hid hn
  have HZ := Lib.hid (no_sep hn)
  clear hn
  go_enter Tryd.func24, Tryd.ntmps24
  go_wp2_with fail
  refine (HF.out _).mono ?_
  rintro e w1 ⟨r, rfl, hf, hb⟩
  obtain rfl : r = -1 := by
    rcases hf with ⟨h, _⟩ | ⟨l, t, h, _⟩
    · exact h
    · exact absurd (by rw [h]; simp) HN.out
  have HB := Lib.hid hb
  clear hb hf
  go_wp2_with fail
  go_ret2
  exact ⟨_, _, rfl, HZ.out.ok _, HB.out⟩
theorem ext_list (s : ByteArray) (a b : Nat) : (s.extract a b).data.toList = (s.data.toList.take b).drop a := by
  rw [ByteArray.data_extract, Array.toList_extract, List.extract_eq_take_drop]
  rw [List.drop_take]
theorem arr_eq {a b : ByteArray} (h : a.data.toList = b.data.toList) : a = b := ByteArray.ext (Array.toList_inj.1 h)
set_option maxHeartbeats 4000000 in
theorem read_short (s : ByteArray) (hs : s.size ≤ 4000000) (l t : List UInt8) (hb : s.data.toList = l ++ 42 :: t) (hl : (42 : UInt8) ∉ l) (ht : t.length < 3) (w : World) : Calls Tryd.prog 24 #[.string s] w (RdRes s.data.toList w) := by
  have HF := Lib.hid (fun w => find_any s 42 hs w)
  have hsz : s.size = l.length + (t.length + 1) := by rw [Lib.size_eq, hb]; simp
  have HZ : Hid (NoTxt s.data.toList) := Lib.hid (fun n f _ _ _ e => by
    rw [hb] at e
    have := (sep_at hl e).2
    rw [this] at ht
    have h2 := itoa_ne ((f : Int) - 1074)
    cases hi : itoa ((f : Int) - 1074) with
    | nil => exact h2 hi
    | cons a b => rw [hi] at ht; simp at ht; omega)
  have HR : Hid (∀ r, Found 42 s.data.toList r → r = (l.length : Int)) := Lib.hid (fun r hf => by
    rcases hf with ⟨_, h⟩ | ⟨l2, t2, h, h2, h3⟩
    · rw [hb] at h; exact absurd (by simp) h
    · rw [hb] at h
      rw [h3, (split_at hl h2 h).1])
  have c1 : ¬ ((l.length : Int) < 0) := by omega
  have c2 : (s.size : Int) < (l.length : Int) + 4 := by omega
  have c3 : (l.length : Int) + 4 ≤ 5000000 := by omega
  clear hb hl ht hsz
  obtain ⟨n, hn⟩ : ∃ n : Nat, l.length = n := ⟨_, rfl⟩
  rw [hn] at HR c1 c2 c3
  clear hn
  go_enter Tryd.func24, Tryd.ntmps24
  go_wp2_with fail
  refine (HF.out _).mono ?_
  rintro e w1 ⟨r, rfl, hf, hbl⟩
  obtain rfl := HR.out r hf
  have HB := Lib.hid hbl
  clear hbl hf
  go_wp2_with fail
  go_ret2
  exact ⟨_, _, rfl, HZ.out.ok _, HB.out⟩
theorem cut3 (s : ByteArray) (n : Nat) (h : (n : Int) + 3 ≤ (s.size : Int)) (w : World) : (Instr.slice 9 (.string s) (some (.int .i64 (n : Int))) (some (.int .i64 ((n : Int) + 3))) none).run Tryd.prog w = .ok (.string (s.extract n (n + 3))) w := by
  rw [run_slice_string (P := Tryd.prog) w 9 s .i64 .i64 (n : Int) ((n : Int) + 3) Tryd.underlying9 (by omega) (by omega) (by omega)]
  rfl
theorem cutl (s : ByteArray) (n : Nat) (h : (n : Int) ≤ (s.size : Int)) (w : World) : (Instr.slice 9 (.string s) none (some (.int .i64 (n : Int))) none).run Tryd.prog w = .ok (.string (s.extract 0 n)) w := by
  simp [Instr.slice, Instr.sliceBounds, Instr.sliceBound, asIntOf, run_underlying Tryd.underlying9, h]
  try omega
theorem cutr (s : ByteArray) (n : Nat) (h : (n : Int) + 3 ≤ (s.size : Int)) (w : World) : (Instr.slice 9 (.string s) (some (.int .i64 ((n : Int) + 3))) none none).run Tryd.prog w = .ok (.string (s.extract (n + 3) s.size)) w := by
  have h0 : (0 : Int) ≤ (n : Int) + 3 := by omega
  simp [Instr.slice, Instr.sliceBounds, Instr.sliceBound, asIntOf, run_underlying Tryd.underlying9, h, h0]
  rfl
set_option maxHeartbeats 4000000 in
theorem read_other (s : ByteArray) (hs : s.size ≤ 4000000) (l t : List UInt8) (hb : s.data.toList = l ++ 42 :: t) (hl : (42 : UInt8) ∉ l) (ht : 3 ≤ t.length) (hx : t.take 2 ≠ [50, 94]) (w : World) : Calls Tryd.prog 24 #[.string s] w (RdRes s.data.toList w) := by
  have HF := Lib.hid (fun w => find_any s 42 hs w)
  have hsz : s.size = l.length + (t.length + 1) := by rw [Lib.size_eq, hb]; simp
  have HZ : Hid (NoTxt s.data.toList) := Lib.hid (fun n f _ _ _ e => by
    rw [hb] at e
    have := (sep_at hl e).2
    rw [this] at hx
    exact hx rfl)
  have HR : Hid (∀ r, Found 42 s.data.toList r → r = (l.length : Int)) := Lib.hid (fun r hf => by
    rcases hf with ⟨_, h⟩ | ⟨l2, t2, h, h2, h3⟩
    · rw [hb] at h; exact absurd (by simp) h
    · rw [hb] at h
      rw [h3, (split_at hl h2 h).1])
  have hne : ¬ (s.extract l.length (l.length + 3)).toList = [42, 50, 94] := fun h2 => by
    rw [ByteArray.toList_eq, ext_list, hb, List.take_append, List.drop_append] at h2
    rw [List.take_of_length_le (by omega), List.drop_eq_nil_of_le (by omega), show l.length + 3 - l.length = 3 by omega, Nat.sub_self, List.drop_zero, List.nil_append, List.take_succ_cons] at h2
    exact hx (List.cons.inj h2).2
  have c1 : ¬ ((l.length : Int) < 0) := by omega
  have c2 : ¬ ((s.size : Int) < (l.length : Int) + 4) := by omega
  have c3 : (l.length : Int) + 4 ≤ 5000000 := by omega
  have hsl := fun w => cut3 s l.length (by omega) w
  clear hb hl ht hsz hx
  obtain ⟨n, hn⟩ : ∃ n : Nat, l.length = n := ⟨_, rfl⟩
  rw [hn] at HR c1 c2 c3 hne hsl
  clear hn
  obtain ⟨X, hX⟩ : ∃ X, s.extract n (n + 3) = X := ⟨_, rfl⟩
  rw [hX] at hne hsl
  clear hX
  obtain ⟨L, hL⟩ : ∃ L, X.toList = L := ⟨_, rfl⟩
  have hbq : (L == [42, 50, 94]) = false := by rw [beq_eq_false_iff_ne, ← hL]; exact hne
  clear hne
  go_enter Tryd.func24, Tryd.ntmps24
  go_wp2_with fail
  refine (HF.out _).mono ?_
  rintro e w1 ⟨r, rfl, hf, hbl⟩
  obtain rfl := HR.out r hf
  have HB := Lib.hid hbl
  clear hbl hf
  go_wp2_with fail
  go_ret2
  exact ⟨_, _, rfl, HZ.out.ok _, HB.out⟩
/-- x is N times 2^k, or past the greatest. -/
def Pw (N x : Nat) (k : Int) : Prop := (0 < x ∧ x < INF ∧ V x = N * 2 ^ (k + 1074).toNat) ∨ (x = INF ∧ 2 ^ K98 ≤ N * 2 ^ (k + 1074).toNat)
theorem Pw.dbl {N x : Nat} {k : Int} (h : Pw N x k) (hk : -1074 ≤ k) : ∃ y, floatBits .mul .f64 x 4611686018427387904 = some y ∧ Pw N y (k + 1) := by
  have e1 : (k + 1 + 1074).toNat = (k + 1074).toNat + 1 := by omega
  have e2 : N * 2 ^ (k + 1 + 1074).toNat = 2 * (N * 2 ^ (k + 1074).toNat) := by rw [e1, Nat.pow_succ, ← Nat.mul_assoc, Nat.mul_comm]
  rcases h with ⟨h0, h1, h2⟩ | ⟨h1, h2⟩
  · by_cases ho : x + 2 ^ 52 < INF
    · refine ⟨_, txt.dbl h0 ho, .inl ⟨?_, ?_, ?_⟩⟩
      · unfold dblR; split <;> omega
      · unfold dblR; unfold INF at *; split <;> omega
      · rw [dbl_V h0, h2, e2]
    · refine ⟨_, dbl_over h1 (by omega), .inr ⟨rfl, ?_⟩⟩
      rw [e2, ← h2]
      have hI : INF = 2047 * 2 ^ 52 := rfl
      have hv : V x = (2 ^ 52 + x % 2 ^ 52) * 2 ^ (x / 2 ^ 52 - 1) := by unfold V; rw [if_neg (by omega)]
      rw [hv, show x / 2 ^ 52 - 1 = K45 by show _ = 2045; omega, show K98 = 53 + K45 from rfl, Nat.pow_add, ← Nat.mul_assoc]
      exact Nat.mul_le_mul_right _ (by omega)
  · subst h1
    exact ⟨_, dbl_inf, .inr ⟨rfl, by rw [e2]; omega⟩⟩
theorem Pw.half {N x : Nat} {k : Int} (h : Pw N x k) (hN : 0 < N) (hN2 : N < 2 ^ 53) (hk : k ≤ 0) (hk2 : -1074 < k) : ∃ y, floatBits .quo .f64 x 4611686018427387904 = some y ∧ Pw N y (k - 1) := by
  have e1 : (k + 1074).toNat = (k - 1 + 1074).toNat + 1 := by omega
  have e2 : N * 2 ^ (k + 1074).toNat = 2 * (N * 2 ^ (k - 1 + 1074).toNat) := by rw [e1, Nat.pow_succ, ← Nat.mul_assoc, Nat.mul_comm]
  rcases h with ⟨h0, h1, h2⟩ | ⟨h1, h2⟩
  · obtain ⟨y, hy, hv⟩ := rep N (k - 1 + 1074).toNat hN2 (by omega)
    refine ⟨y, halfG h0 h1 hy (by rw [h2, hv, e2]), .inl ⟨?_, hy, hv⟩⟩
    apply Nat.pos_of_ne_zero
    intro z
    rw [z, show V 0 = 0 from rfl] at hv
    have := Nat.mul_pos hN (Nat.two_pow_pos (k - 1 + 1074).toNat)
    omega
  · exfalso
    have h3 : 2 ^ (k + 1074).toNat ≤ 2 ^ K45 := Nat.pow_le_pow_right (by decide) (by show _ ≤ 2045; omega)
    have h4 : N * 2 ^ (k + 1074).toNat < 2 ^ 53 * 2 ^ K45 := Nat.lt_of_le_of_lt (Nat.mul_le_mul_left N h3) (Nat.mul_lt_mul_of_pos_right hN2 (Nat.two_pow_pos _))
    rw [← Nat.pow_add, show 53 + K45 = K98 from rfl] at h4
    exact Nat.lt_irrefl _ (Nat.lt_of_lt_of_le h4 h2)
theorem Pw.start {N r : Nat} (hN : 0 < N) (h2 : 2 ^ 52 ≤ r) (h : r < INF) (hv : V r = N * ONE) : Pw N r 0 := .inl ⟨by omega, h, by
  rw [show ((0 : Int) + 1074).toNat = K74 from rfl]
  exact hv⟩
theorem Pw.ok {N x : Nat} {e : Int} (h : Pw N x e) (ho : N % 2 = 1) (he : -1074 ≤ e) (bs : List UInt8) (hb : bs = body N e) : (x < INF → RdOk bs x true) ∧ (x = INF → RdOk bs x false) ∧ x ≤ INF := by
  have hf : ((((e + 1074).toNat : Nat) : Int) - 1074) = e := by omega
  rcases h with ⟨h0, h1, h2⟩ | ⟨h1, h2⟩
  · refine ⟨fun _ => ⟨fun _ => ⟨h0, h1, .inr ⟨h0, h1, N, (e + 1074).toNat, ⟨ho, h2.symm⟩, by rw [hb, hf]⟩⟩, fun _ _ _ _ => rfl⟩, fun e => absurd e (Nat.ne_of_lt h1), Nat.le_of_lt h1⟩
  · refine ⟨fun e => absurd h1 (Nat.ne_of_lt e), fun _ => ⟨fun e => Bool.noConfusion e, fun r r0 r1 hp => ?_⟩, by rw [h1]; exact Nat.le_refl _⟩
    exfalso
    obtain ⟨n, f, hodd, ht, _, _⟩ := plain_parts r0 r1 hp
    rw [hb] at ht
    obtain ⟨rfl, hfe⟩ := body_inj ht
    have : (e + 1074).toNat = f := by omega
    rw [this, hodd.2] at h2
    exact Nat.lt_irrefl _ (Nat.lt_of_lt_of_le (V_bd r1) h2)
open Ieee in
theorem ord_inf_r {s : Nat} (hs : s < INF) : FloatKind.f64.format.order s 9218868437227405312 = some .lt := by
  show (double.read s).order (double.read INF) = _
  obtain ⟨m, e, h, _⟩ := read_fin (x := s) (by rw [(small_mag (Nat.le_of_lt hs)).1]; exact hs)
  rw [h, show double.read INF = .infinity false by decide +kernel]
  rfl
/-- The two numbers are those of a float's text. -/
def Good (r1 r2 : Int × Bool) : Prop := r1.2 = true ∧ r2.2 = true ∧ 1 ≤ r1.1 ∧ r1.1 ≤ 9007199254740991 ∧ r1.1 % 2 = 1 ∧ -1074 ≤ r2.1 ∧ r2.1 ≤ 1023
theorem good_of {l u : List UInt8} {r1 r2 : Int × Bool} (hl : (42 : UInt8) ∉ l) (h1 : NumT l r1) (h2 : NumT u r2) (hg : ¬ Good r1 r2) : NoTxt (l ++ 42 :: 50 :: 94 :: u) := fun n f ho hn hf e => by
  obtain ⟨e1, e2⟩ := sep_at hl e
  have e3 : u = itoa ((f : Int) - 1074) := (List.cons.inj (List.cons.inj e2).2).2
  have q1 := h1.2 (n : Int) (by rw [itoa_nat (by omega)]; simpa using e1) (by omega) (by omega)
  have q2 := h2.2 _ e3 (by omega) (by omega)
  apply hg
  rw [q1, q2]
  exact ⟨rfl, rfl, by show (1 : Int) ≤ n; omega, by show (n : Int) ≤ _; omega, by show (n : Int) % 2 = 1; omega, by show (-1074 : Int) ≤ (f : Int) - 1074; omega, by show (f : Int) - 1074 ≤ 1023; omega⟩
theorem good_txt {l u : List UInt8} {r1 r2 : Int × Bool} (h1 : NumT l r1) (h2 : NumT u r2) (hg : Good r1 r2) : ∃ N : Nat, r1 = ((N : Int), true) ∧ r2 = (r2.1, true) ∧ 0 < N ∧ N < 2 ^ 53 ∧ N % 2 = 1 ∧ l ++ 42 :: 50 :: 94 :: u = body N r2.1 := by
  obtain ⟨g1, g2, g3, g4, g5, g6, g7⟩ := hg
  have e1 := (h1.1 g1).1
  have e2 := (h2.1 g2).1
  refine ⟨r1.1.toNat, ?_, ?_, by omega, by omega, by omega, ?_⟩
  · have : ((r1.1.toNat : Nat) : Int) = r1.1 := by omega
    rw [this, ← g1]
  · rw [← g2]
  · rw [e1, itoa_nat (by omega), e2]
    unfold body SEP
    simp
set_option maxHeartbeats 8000000 in
theorem read_at (s : ByteArray) (hs : s.size ≤ 4000000) (l u : List UInt8) (hb : s.data.toList = l ++ 42 :: 50 :: 94 :: u) (hl : (42 : UInt8) ∉ l) (hu : u ≠ []) (w : World) : Calls Tryd.prog 24 #[.string s] w (RdRes s.data.toList w) := by
  have HF := Lib.hid (fun w => find_any s 42 hs w)
  have hul : 1 ≤ u.length := by cases u with | nil => exact absurd rfl hu | cons a b => simp
  have hsz : s.size = l.length + (u.length + 3) := by rw [Lib.size_eq, hb]; simp
  have HR : Hid (∀ r, Found 42 s.data.toList r → r = (l.length : Int)) := Lib.hid (fun r hf => by
    rcases hf with ⟨_, h⟩ | ⟨l2, t2, h, h2, h3⟩
    · rw [hb] at h; exact absurd (by simp) h
    · rw [hb] at h
      rw [h3, (split_at hl h2 h).1])
  have x1 : (s.extract 0 l.length).data.toList = l := by rw [ext_list, hb, List.take_left]; rfl
  have x2 : (s.extract (l.length + 3) s.size).data.toList = u := by
    rw [ext_list, hb, List.take_of_length_le (by simp; omega), ← List.drop_drop, List.drop_left]
    rfl
  have x3 : (s.extract l.length (l.length + 3)).toList = [42, 50, 94] := by
    rw [ByteArray.toList_eq, ext_list, hb, List.take_append, List.take_of_length_le (by omega), show l.length + 3 - l.length = 3 by omega, List.drop_left]
    rfl
  have HG := Lib.hid (fun r1 r2 (h1 : NumT l r1) (h2 : NumT u r2) => (⟨fun hg => hb ▸ good_of hl h1 h2 hg, fun hg => hb ▸ good_txt h1 h2 hg⟩ : (¬ Good r1 r2 → NoTxt s.data.toList) ∧ (Good r1 r2 → ∃ N : Nat, r1 = ((N : Int), true) ∧ r2 = (r2.1, true) ∧ 0 < N ∧ N < 2 ^ 53 ∧ N % 2 = 1 ∧ s.data.toList = body N r2.1)))
  have c1 : ¬ ((l.length : Int) < 0) := by omega
  have c2 : ¬ ((s.size : Int) < (l.length : Int) + 4) := by omega
  have w3 : wrap64 ((l.length : Int) + 3) = (l.length : Int) + 3 := w64 _ (by omega)
  have w4 : wrap64 ((l.length : Int) + 4) = (l.length : Int) + 4 := w64 _ (by omega)
  have s1 := fun w => cutl s l.length (by omega) w
  have s2 := fun w => cutr s l.length (by omega) w
  have s3 := fun w => cut3 s l.length (by omega) w
  clear hb hl hsz hul
  obtain ⟨n, hn⟩ : ∃ n : Nat, l.length = n := ⟨_, rfl⟩
  rw [hn] at HR c1 c2 w3 w4 s1 s2 s3 x1 x2 x3
  clear hn
  obtain ⟨X1, hX1⟩ : ∃ X, s.extract 0 n = X := ⟨_, rfl⟩
  obtain ⟨X2, hX2⟩ : ∃ X, s.extract (n + 3) s.size = X := ⟨_, rfl⟩
  obtain ⟨X3, hX3⟩ : ∃ X, s.extract n (n + 3) = X := ⟨_, rfl⟩
  rw [hX1] at s1 x1
  rw [hX2] at s2 x2
  rw [hX3] at s3 x3
  clear hX1 hX2 hX3
  have HN1 := Lib.hid (fun w => num_any X1 w)
  have HN2 := Lib.hid (fun w => num_any X2 w)
  rw [x1] at HN1
  rw [x2] at HN2
  have hbq : (X3.toList == [42, 50, 94]) = true := by rw [x3]; rfl
  clear x1 x2 x3 hu hs
  go_enter Tryd.func24, Tryd.ntmps24
  go_wp2_with fail
  refine (HF.out _).mono ?_
  rintro e w1 ⟨r, rfl, hf, hbl⟩
  obtain rfl := HR.out r hf
  have HB := Lib.hid hbl
  clear hbl hf
  go_wp2_with fail
  refine (HN1.out _).mono ?_
  rintro e w2 ⟨r1, rfl, h1, hbl⟩
  have HB2 := Lib.hid (HB.out.trans (hbl.mono HB.out.size))
  have H1 := Lib.hid h1
  clear hbl HB h1
  go_wp2_with fail
  refine (HN2.out _).mono ?_
  rintro e w3 ⟨r2, rfl, h2, hbl⟩
  have HB3 := Lib.hid (HB2.out.trans (hbl.mono HB2.out.size))
  have HG2 := Lib.hid (HG.out r1 r2 H1.out h2)
  clear hbl HB2 h2 H1 HG
  obtain ⟨g1, g2⟩ := HG2.out
  by_cases hg : Good r1 r2
  · obtain ⟨N, e1, e2, N0, N2, N3, hbs⟩ := g2 hg
    obtain ⟨f1, f2, f3, f4, f5, f6, f7⟩ := hg
    obtain ⟨k, hk⟩ : ∃ k, r2.1 = k := ⟨_, rfl⟩
    rw [hk] at hbs f6 f7 e2
    obtain ⟨r0, i1, i2, i3, i4, _⟩ := int_nat N N2
    have HS := Lib.hid (Pw.start N0 (i4 N0) i1 i3)
    have HO := Lib.hid (fun x (h : Pw N x k) => h.ok N3 f6 _ hbs)
    have HN0 := Lib.hid N0
    have HN2' := Lib.hid N2
    have q1 : ¬ ((N : Int) < 1) := by omega
    have q2 : ¬ (9007199254740991 < (N : Int)) := by omega
    have q3 : Int.tmod (N : Int) 2 = 1 := by rw [Int.tmod_eq_emod_of_nonneg (by omega)]; omega
    have q4 : (N : Int) % 2 = 1 := by omega
    have q5 : ¬ (k < -1074) := by omega
    have q6 : ¬ (1023 < k) := by omega
    have q7 : -5000 < k := by omega
    have q8 : k < 5000 := by omega
    rw [e1, e2]
    clear HG2 g1 g2 e1 e2 f1 f2 f3 f4 f5 f6 f7 hk hbs i1 i3 i4 N0 N2 N3 r1 r2
    go_wp2_with fail
    clear q1 q2 q3 q4 q5 q6 i2
    go_loop [9, 10] (fun x i => ∃ (y : Nat) (j : Int), x = .float .f64 y ∧ i = .int .i64 j ∧ 0 ≤ j ∧ j < 5000 ∧ (j ≤ k ∨ j = 0) ∧ Hid (Pw N y j)) (fun _ i => (k - RowKit.intOf i).toNat)
    case atStart => exact ⟨r0, 0, rfl, rfl, by omega, by omega, .inr rfl, HS⟩
    case round =>
      obtain ⟨y, j, rfl, rfl, hj0, hj1, hj2, HY⟩ := hrel
      by_cases hlt : j < k
      · obtain ⟨y2, hy2, hP2⟩ := HY.out.dbl (by omega)
        have rq := fun (w : World) => run_float_arith (P := Tryd.prog) w .mul 22 .f64 _ _ _ hy2
        have HP2 := Lib.hid hP2
        clear hy2 hP2 HY HS
        go_wp2
        go_round
        case rel => exact ⟨y2, j + 1, rfl, by go_num, by omega, by omega, .inl (by omega), HP2⟩
        case measure => simp [RowKit.intOf]; omega
      · have HY2 : Hid (Pw N y (if k < 0 then 0 else k)) := Lib.hid (by
          have h := HY.out
          split
          · have : j = 0 := by omega
            rw [← this]; exact h
          · have : j = k := by omega
            rw [← this]; exact h)
        clear HY HS hj2
        go_wp2_with fail
        go_loop [9, 11] (fun x i => ∃ (y : Nat) (j : Int), x = .float .f64 y ∧ i = .int .i64 j ∧ j ≤ 0 ∧ -5000 < j ∧ (k ≤ j ∨ j = 0) ∧ Hid (Pw N y (if k < 0 then j else k))) (fun _ i => (RowKit.intOf i - k).toNat)
        case atStart => exact ⟨y, 0, rfl, rfl, by omega, by omega, .inr rfl, HY2⟩
        case round =>
          clear HY2 hj0 hj1 hlt
          obtain ⟨y, j, rfl, rfl, hj0, hj1, hj2, HY⟩ := hrel
          by_cases hgt : j > k
          · have hY := HY.out
            rw [if_pos (by omega)] at hY
            obtain ⟨y2, hy2, hP2⟩ := hY.half HN0.out HN2'.out hj0 (by omega)
            have rq := fun (w : World) => run_float_arith (P := Tryd.prog) w .quo 22 .f64 _ _ _ hy2
            have HP2 : Hid (Pw N y2 (if k < 0 then j - 1 else k)) := Lib.hid (by rw [if_pos (by omega)]; exact hP2)
            clear hy2 hP2 HY hY
            go_wp2
            go_round
            case rel => exact ⟨y2, j - 1, rfl, by go_num, by omega, by omega, .inl (by omega), HP2⟩
            case measure => simp [RowKit.intOf]; omega
          · have hY : Pw N y k := by
              have h := HY.out
              split at h
              · have : j = k := by omega
                rw [← this]; exact h
              · exact h
            obtain ⟨o1, o2, o3⟩ := HO.out y hY
            clear HY hY HO hj2
            have HI := Lib.hid inf_word
            rcases Nat.eq_or_lt_of_le o3 with e | e
            · have HZ := Lib.hid (o2 e)
              have oo : FloatKind.f64.format.order y 9218868437227405312 = some .eq := by rw [e]; decide +kernel
              clear o1 o2 o3 e
              go_wp2_with fail
              refine (HI.out _).mono ?_
              rintro e w4 ⟨rfl, rfl⟩
              go_wp2_with fail
              go_ret2
              exact ⟨_, _, rfl, HZ.out, HB3.out⟩
            · have HZ := Lib.hid (o1 e)
              have oo := ord_inf_r e
              clear o1 o2 o3 e
              go_wp2_with fail
              refine (HI.out _).mono ?_
              rintro e w4 ⟨rfl, rfl⟩
              go_wp2_with fail
              go_ret2
              exact ⟨_, _, rfl, HZ.out, HB3.out⟩
  · have HZ := Lib.hid (g1 hg)
    obtain ⟨a, b1⟩ := r1
    obtain ⟨c, b2⟩ := r2
    have HG3 := Lib.hid hg
    clear HG2 g1 g2 hg
    cases b1 with
    | false => go_wp2_with fail; go_ret2; exact ⟨_, _, rfl, HZ.out.ok _, HB3.out⟩
    | true =>
    cases b2 with
    | false => go_wp2_with fail; go_ret2; exact ⟨_, _, rfl, HZ.out.ok _, HB3.out⟩
    | true =>
    by_cases a1 : a < 1
    · go_wp2_with fail; go_ret2; exact ⟨_, _, rfl, HZ.out.ok _, HB3.out⟩
    by_cases a2 : 9007199254740991 < a
    · go_wp2_with fail; go_ret2; exact ⟨_, _, rfl, HZ.out.ok _, HB3.out⟩
    by_cases a3 : a % 2 = 0
    · have q3 : Int.tmod a 2 = 0 := by rw [Int.tmod_eq_emod_of_nonneg (by omega)]; exact a3
      go_wp2_with fail; go_ret2; exact ⟨_, _, rfl, HZ.out.ok _, HB3.out⟩
    have q4 : a % 2 = 1 := by omega
    have q3 : Int.tmod a 2 = 1 := by rw [Int.tmod_eq_emod_of_nonneg (by omega)]; exact q4
    clear a3
    by_cases c1 : c < -1074
    · go_wp2_with fail; go_ret2; exact ⟨_, _, rfl, HZ.out.ok _, HB3.out⟩
    by_cases c2 : 1023 < c
    · go_wp2_with fail; go_ret2; exact ⟨_, _, rfl, HZ.out.ok _, HB3.out⟩
    exfalso
    exact HG3.out ⟨rfl, rfl, by show 1 ≤ a; omega, by show a ≤ _; omega, q4, by show -1074 ≤ c; omega, by show c ≤ _; omega⟩
theorem found_split {bs : List UInt8} (h : (42 : UInt8) ∈ bs) : ∃ l t, bs = l ++ 42 :: t ∧ (42 : UInt8) ∉ l := by
  induction bs with
  | nil => cases h
  | cons c r ih =>
    by_cases hc : c = 42
    · exact ⟨[], r, by rw [hc]; rfl, by simp⟩
    · obtain ⟨l, t, h1, h2⟩ := ih (by rcases List.mem_cons.1 h with e | e; · exact absurd e.symm hc
                                      · exact e)
      exact ⟨c :: l, t, by rw [h1]; rfl, by simp only [List.mem_cons, not_or]; exact ⟨fun e => hc e.symm, h2⟩⟩
theorem read_any (s : ByteArray) (hs : s.size ≤ 4000000) (w : World) : Calls Tryd.prog 24 #[.string s] w (RdRes s.data.toList w) := by
  by_cases h : (42 : UInt8) ∈ s.data.toList
  · obtain ⟨l, t, h1, h2⟩ := found_split h
    by_cases ht : t.length < 3
    · exact read_short s hs l t h1 h2 ht w
    by_cases hx : t.take 2 = [50, 94]
    · obtain ⟨u, hu⟩ : ∃ u, t = 50 :: 94 :: u := ⟨t.drop 2, by have := List.take_append_drop 2 t; rw [hx] at this; exact this.symm⟩
      subst hu
      exact read_at s hs l u h1 h2 (by rintro rfl; simp at ht) w
    · exact read_other s hs l t h1 h2 (by omega) hx w
  · exact read_none s hs h w
end Go.Proofs.YtcjlkekekalgdaaDoor.txt
