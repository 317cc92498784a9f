/-
  The text of a float, taken apart: Cut, ParseUint, Atoi; 'l26Find', 'l26Num' as printed.
  Conditions: none.
-/
import Derived.Test.YtcjlkekekalgdaaDoorCutRd
import Derived.Test.YtcjlkekekalgdaaDoorDecS
import Derived.Lib.ParseIntBCases
import Derived.Lib.IndexMore
import Derived.Lib.AtoiAllCases
namespace Go.Proofs.YtcjlkekekalgdaaDoor.txt
open Go Go.RowKit Go.Lib Go.Proofs.YtcjlkekekalgdaaDoor.CutRd Go.Proofs.YtcjlkekekalgdaaDoorW.PrintWords Go.Proofs.YtcjlkekekalgdaaDoorW.PrintLast Go.Proofs.YtcjlkekekalgdaaDoorW.PrintMore
set_option linter.unusedVariables false
set_option linter.unusedSimpArgs false

def Dig (c : UInt8) : Prop := 48 ≤ c.toNat ∧ c.toNat ≤ 57
def valF (a : Nat) (l : List UInt8) : Nat := l.foldl (fun a c => a * 10 + (c.toNat - 48)) a
theorem valF_ge : ∀ (l : List UInt8) (a : Nat), a ≤ valF a l
  | [], a => Nat.le_refl a
  | c :: l, a => Nat.le_trans (by omega) (valF_ge l (a * 10 + (c.toNat - 48)))
theorem parse_ok : ∀ (l : List UInt8) (acc M : Nat), M < 1844674407370955162 → (∀ c ∈ l, Dig c) → valF acc l ≤ M → parseUintM M acc l = .ok (valF acc l)
  | [], acc, M, _, _, _ => rfl
  | c :: l, acc, M, hM, hd, hv => by
    have h1 : 48 ≤ c.toNat ∧ c.toNat ≤ 57 := hd c (by simp)
    have h2 := valF_ge l (acc * 10 + (c.toNat - 48))
    have e : valF acc (c :: l) = valF (acc * 10 + (c.toNat - 48)) l := rfl
    rw [e] at hv ⊢
    unfold parseUintM
    rw [if_pos h1, if_neg (by omega), if_neg (by omega)]
    exact parse_ok l _ M hM (fun d h => hd d (by simp [h])) hv
theorem parse_dec (n : Nat) (h : n < 2 ^ 53) : parseUintB 53 (decDigits n) = .ok n := by
  have hv : valF 0 (decDigits n) = n := val_dec n
  unfold parseUintB
  rw [if_neg (dec_ne n), parse_ok _ 0 _ (by decide) (dec_digit n) (by rw [hv]; omega), hv]
theorem mag_ok : ∀ (l : List UInt8) (acc : Nat), (∀ c ∈ l, Dig c) → valF acc l < 1844674407370955162 → parseUint10 acc l = .ok (valF acc l)
  | [], acc, _, _ => rfl
  | c :: l, acc, hd, hv => by
    have h1 : 48 ≤ c.toNat ∧ c.toNat ≤ 57 := hd c (by simp)
    have h2 := valF_ge l (acc * 10 + (c.toNat - 48))
    have e : valF acc (c :: l) = valF (acc * 10 + (c.toNat - 48)) l := rfl
    rw [e] at hv ⊢
    unfold parseUint10
    rw [if_pos h1, if_neg (by omega), if_neg (by omega)]
    exact mag_ok l _ (fun d h => hd d (by simp [h])) hv
theorem mag_dec (n : Nat) (h : n < 1000000) : parseMag (decDigits n) = .ok n := by
  have hv : valF 0 (decDigits n) = n := val_dec n
  unfold parseMag
  rw [if_neg (dec_ne n), mag_ok _ 0 (dec_digit n) (by rw [hv]; omega), hv]
theorem atoi_itoa (e : Int) (h1 : -100000 ≤ e) (h2 : e ≤ 100000) : atoiAll (itoa e) = .ok e := by
  unfold itoa
  split
  · rename_i hn
    rw [atoiAll_minus, mag_dec _ (by omega)]
    show (if 9223372036854775808 < e.natAbs then NumEnd.range else .ok (-(e.natAbs : Int))) = _
    rw [if_neg (by omega)]
    congr 1
    omega
  · rename_i hn
    obtain ⟨c, l, e1, h3, h4⟩ := dec_head e.toNat
    have hm := mag_dec e.toNat (by omega)
    rw [e1] at hm ⊢
    rw [atoiAll_plain c l (by omega) (by omega), hm]
    show (if 9223372036854775808 ≤ e.toNat then NumEnd.range else .ok (e.toNat : Int)) = _
    rw [if_neg (by omega)]
    congr 1
    omega
theorem cut_body (n : Nat) (t : List UInt8) : Lib.cut (decDigits n ++ SEP ++ t) SEP = (decDigits n, t, true) := by
  have hi : index (decDigits n ++ SEP ++ t) SEP = ((decDigits n).length : Int) := by
    refine index_first (by simp) ?_ ?_
    · unfold occAt
      rw [List.append_assoc, List.drop_left]
      simp [SEP]
    · intro j hj
      unfold occAt
      rw [List.append_assoc, List.drop_append_of_le_length (by omega)]
      have hne : (decDigits n).drop j ≠ [] := by
        intro h
        have := congrArg List.length h
        rw [List.length_drop] at this
        simp at this
        omega
      cases hd : (decDigits n).drop j with
      | nil => exact absurd hd hne
      | cons c l =>
        have hc : c ∈ decDigits n := List.mem_of_mem_drop (i := j) (by rw [hd]; simp)
        have := (dec_digit n c hc).1
        have h42 : ((42 : UInt8) == c) = false := by
          rw [beq_eq_false_iff_ne]
          intro h
          rw [← h] at this
          exact absurd this (by decide)
        show ((42 : UInt8) == c && _) = false
        rw [h42, Bool.false_and]
  unfold Lib.cut
  rw [hi, if_pos (by omega)]
  simp only [Int.toNat_natCast]
  rw [List.append_assoc, List.take_left, ← List.drop_drop, List.drop_left]
  rfl
theorem bt_list (s : ByteArray) (i : Nat) (h : i < s.data.toList.length) : bt s (i : Int) = ((s.data.toList[i]'h).toNat : Int) := by
  have hs : i < s.size := by rw [Lib.size_eq]; exact h
  unfold bt
  rw [dif_pos (by simpa using hs)]
  simp
  rfl
/-- What 'l26Find' says of a text. -/
def Found (c : UInt8) (bs : List UInt8) (r : Int) : Prop := (r = -1 ∧ c ∉ bs) ∨ (∃ l t, bs = l ++ c :: t ∧ c ∉ l ∧ r = (l.length : Int))
theorem find_l0 (s : ByteArray) (c : UInt8) (hs : s.size ≤ 4000000) : ∀ (k i : Nat), s.size < k + i → i ≤ s.size → c ∉ s.data.toList.take i → ∃ r, spec_l26Find.l0 k s (c.toNat : Int) (i : Int) = some r ∧ Found c s.data.toList r
  | 0, i, h, hi, _ => by omega
  | k + 1, i, h, hi, hn => by
    have hL : s.size = s.data.toList.length := Lib.size_eq s
    rw [spec_l26Find.l0]
    by_cases hlt : i < s.size
    · have hl : i < s.data.toList.length := by rw [← hL]; exact hlt
      rw [if_pos (by omega), if_pos (by omega), bt_list s i hl]
      by_cases hc : s.data.toList[i] = c
      · rw [if_pos (by rw [hc])]
        refine ⟨_, rfl, .inr ⟨s.data.toList.take i, s.data.toList.drop (i + 1), ?_, hn, ?_⟩⟩
        · rw [← hc, ← List.drop_eq_getElem_cons hl, List.take_append_drop]
        · rw [List.length_take]; omega
      · rw [if_neg (fun e => hc (UInt8.toNat.inj (by omega))), w64 _ (by omega)]
        rw [show (i : Int) + 1 = ((i + 1 : Nat) : Int) from rfl]
        refine find_l0 s c hs k (i + 1) (by omega) (by omega) ?_
        rw [List.take_succ_eq_append_getElem hl]
        intro hm
        rcases List.mem_append.1 hm with hm | hm
        · exact hn hm
        · exact hc (List.mem_singleton.1 hm).symm
    · rw [if_neg (by omega)]
      refine ⟨_, rfl, .inl ⟨rfl, ?_⟩⟩
      rw [List.take_of_length_le (by omega)] at hn
      exact hn
theorem find_any (s : ByteArray) (c : UInt8) (hs : s.size ≤ 4000000) (w : World) : Calls Tryd.prog 45 #[.string s, .int .u8 c.toNat] w fun e w' => ∃ r, e = .returned (.int .i64 r) ∧ Found c s.data.toList r ∧ Below w.heap.size w w' := by
  obtain ⟨r, h1, h2⟩ := find_l0 s c hs (s.size + 1) 0 (by omega) (by omega) (by simp)
  refine (spec_l26Find.calls (s.size + 1) s c.toNat r w h1).mono ?_
  rintro e w' ⟨he, hb⟩
  exact ⟨r, he, h2, hb.below⟩

/-! ### numbers -/
theorem valF_zero (l : List UInt8) : valF 0 l = val l := rfl
theorem val_snoc (l : List UInt8) (d : UInt8) : val (l ++ [d]) = val l * 10 + (d.toNat - 48) := by
  unfold val
  rw [List.foldl_append]
  rfl
theorem val_pos {c : UInt8} {l : List UInt8} (h : 48 < c.toNat) : 0 < val (c :: l) := by
  have := valF_ge l (0 * 10 + (c.toNat - 48))
  have e : val (c :: l) = valF (0 * 10 + (c.toNat - 48)) l := rfl
  omega
/-- A text of digits that does not begin with a nought, but for the nought itself. -/
def Canon (l : List UInt8) : Prop := l ≠ [] ∧ (∀ c ∈ l, Dig c) ∧ ∀ t, l = 48 :: t → t = []
theorem dig_back {d : UInt8} (h : Dig d) : UInt8.ofNat (48 + (d.toNat - 48)) = d := by
  unfold Dig at h
  rw [show 48 + (d.toNat - 48) = d.toNat by omega]
  simp
theorem canon_dec (l : List UInt8) (h : Canon l) : decDigits (val l) = l := by
  obtain ⟨h0, h1, h2⟩ := h
  obtain ⟨n, hn⟩ : ∃ n, l.length = n := ⟨_, rfl⟩
  induction n generalizing l with
  | zero => exact absurd (List.eq_nil_of_length_eq_zero hn) h0
  | succ n ih =>
    obtain ⟨k, d, rfl⟩ : ∃ k d, l = k ++ [d] := ⟨l.dropLast, l.getLast h0, (List.dropLast_concat_getLast h0).symm⟩
    have hd : Dig d := h1 d (by simp)
    have hdu := hd
    unfold Dig at hdu
    rw [val_snoc]
    cases k with
    | nil =>
      rw [show val [] = 0 from rfl, Nat.zero_mul, Nat.zero_add, decDigits, dif_pos (by omega)]
      rw [dig_back hd]
      rfl
    | cons c t =>
      have hc48 : c ≠ 48 := by
        intro e
        subst e
        have := h2 (t ++ [d]) rfl
        simp at this
      have hc : Dig c := h1 c (by simp)
      have hcn : 48 < c.toNat := by
        unfold Dig at hc
        have : c.toNat ≠ 48 := fun e => hc48 (UInt8.toNat.inj e)
        omega
      have hp := val_pos (l := t) hcn
      have ih' := ih (c :: t) (by simp) (fun x hx => h1 x (by simp only [List.mem_append]; exact .inl hx)) (fun t' e => by
        have := (List.cons.inj e).1
        exact absurd this hc48) (by simp at hn ⊢; omega)
      rw [decDigits, dif_neg (by omega)]
      rw [show (val (c :: t) * 10 + (d.toNat - 48)) / 10 = val (c :: t) by omega, ih', show (val (c :: t) * 10 + (d.toNat - 48)) % 10 = d.toNat - 48 by omega, dig_back hd]
theorem dec_nought (m : Nat) : ∀ t, decDigits m = 48 :: t → m = 0 := by
  induction m using Nat.strongRecOn with
  | ind m ih =>
    intro t ht
    rw [decDigits] at ht
    split at ht
    · rename_i h
      have := (List.cons.inj ht).1
      have h2 := dg_toNat h
      rw [this] at h2
      have : (48 : UInt8).toNat = 48 := rfl
      omega
    · rename_i h
      cases hd : decDigits (m / 10) with
      | nil => exact absurd hd (dec_ne _)
      | cons c l =>
        rw [hd] at ht
        have hc := (List.cons.inj ht).1
        rw [hc] at hd
        have := ih (m / 10) (by omega) l hd
        omega
theorem dec_canon (m : Nat) : Canon (decDigits m) := by
  refine ⟨dec_ne m, dec_digit m, fun t ht => ?_⟩
  have := dec_nought m t ht
  subst this
  rw [decDigits, dif_pos (by decide)] at ht
  exact (List.cons.inj ht).2.symm
theorem nd_le : ∀ (k u : Nat), u < 10 ^ (k + 1) → nDigits u ≤ k + 1
  | 0, u, h => by rw [nDigits_small (by simpa using h)]; omega
  | k + 1, u, h => by
    by_cases h9 : u < 10
    · rw [nDigits_small h9]; omega
    · rw [nDigits_big h9]
      have := nd_le k (u / 10) (by rw [Nat.pow_succ] at h; exact Nat.div_lt_of_lt_mul (by rw [Nat.mul_comm]; exact h))
      omega
theorem val_lt17 {l : List UInt8} (h : ∀ c ∈ l, Dig c) (hl : l.length ≤ 17) : val l < 10 ^ 17 := by
  have key : ∀ (l : List UInt8) (a : Nat), (∀ c ∈ l, Dig c) → valF a l < (a + 1) * 10 ^ l.length := by
    intro l
    induction l with
    | nil => intro a _; simp [valF]
    | cons c t ih =>
      intro a hd
      have hc := hd c (by simp)
      unfold Dig at hc
      have := ih (a * 10 + (c.toNat - 48)) (fun x hx => hd x (by simp [hx]))
      have e : valF a (c :: t) = valF (a * 10 + (c.toNat - 48)) t := rfl
      rw [e, List.length_cons, Nat.pow_succ]
      refine Nat.lt_of_lt_of_le this ?_
      have h2 : a * 10 + (c.toNat - 48) + 1 ≤ (a + 1) * 10 := by omega
      rw [Nat.mul_comm (10 ^ t.length) 10, ← Nat.mul_assoc]
      exact Nat.mul_le_mul_right _ h2
  have h1 := key l 0 h
  rw [Nat.zero_add, Nat.one_mul] at h1
  have h3 : (10 : Nat) ^ l.length ≤ 10 ^ 17 := Nat.pow_le_pow_right (by decide) hl
  exact Nat.lt_of_lt_of_le h1 h3
/-- What 'l26Num' says behind the sign. -/
def NumR (neg : Bool) (bs : List UInt8) (r : Int × Bool) : Prop :=
  (r = (0, false) ∧ ¬ ∀ c ∈ bs, Dig c) ∨ ((∀ c ∈ bs, Dig c) ∧ r = (if neg then -(val bs : Int) else (val bs : Int), true))
theorem num_l0 (s : ByteArray) (neg : Bool) (hs : s.size ≤ 17) : ∀ (k i : Nat), s.size < k + i → i ≤ s.size → (∀ c ∈ s.data.toList.take i, Dig c) → ∃ r, spec_l26Num.l0 k s neg (val (s.data.toList.take i) : Int) (i : Int) = some r ∧ NumR neg s.data.toList r
  | 0, i, h, hi, _ => by omega
  | k + 1, i, h, hi, hn => by
    have hL : s.size = s.data.toList.length := Lib.size_eq s
    have hv := val_lt17 hn (by rw [List.length_take]; omega)
    rw [spec_l26Num.l0]
    by_cases hlt : i < s.size
    · have hl : i < s.data.toList.length := by rw [← hL]; exact hlt
      rw [if_pos (by omega), if_pos (by omega), bt_list s i hl]
      have hmem : s.data.toList[i] ∈ s.data.toList := List.getElem_mem hl
      by_cases h1 : (s.data.toList[i]).toNat < 48
      · rw [if_pos (by omega)]
        refine ⟨_, rfl, .inl ⟨rfl, fun ha => ?_⟩⟩
        have := ha _ hmem
        unfold Dig at this
        omega
      rw [if_neg (by omega)]
      by_cases h2 : (s.data.toList[i]).toNat > 57
      · rw [if_pos (by omega)]
        refine ⟨_, rfl, .inl ⟨rfl, fun ha => ?_⟩⟩
        have := ha _ hmem
        unfold Dig at this
        omega
      rw [if_neg (by omega)]
      have hd : Dig s.data.toList[i] := ⟨by omega, by omega⟩
      have e1 : wrap64 (wrap64 ((val (s.data.toList.take i) : Int) * 10) + (((s.data.toList[i]).toNat : Int) - 48) % 256) = (val (s.data.toList.take (i + 1)) : Int) := by
        rw [List.take_succ_eq_append_getElem hl, val_snoc]
        rw [w64 (_ * 10) (by omega), w64 _ (by omega)]
        omega
      have e2 : wrap64 ((i : Int) + 1) = ((i + 1 : Nat) : Int) := by rw [w64 _ (by omega)]; rfl
      rw [e1, e2]
      refine num_l0 s neg hs k (i + 1) (by omega) (by omega) ?_
      rw [List.take_succ_eq_append_getElem hl]
      intro c hc
      rcases List.mem_append.1 hc with hc | hc
      · exact hn c hc
      · rw [List.mem_singleton.1 hc]; exact hd
    · rw [if_neg (by omega)]
      have ht : s.data.toList.take i = s.data.toList := List.take_of_length_le (by omega)
      rw [ht] at hn hv ⊢
      cases neg with
      | true => exact ⟨_, if_pos rfl, .inr ⟨hn, by rw [w64 _ (by omega)]; rfl⟩⟩
      | false => exact ⟨_, if_neg (by decide), .inr ⟨hn, rfl⟩⟩
/-- Digits as 'l26Num' takes them. -/
def Take (neg : Bool) (bs : List UInt8) : Prop := Canon bs ∧ bs.length ≤ 17 ∧ (neg = true → ¬ ∃ t, bs = 48 :: t)
def NumE (neg : Bool) (bs : List UInt8) (r : Int × Bool) : Prop :=
  (r = (0, false) ∧ ¬ Take neg bs) ∨ (Take neg bs ∧ r = (if neg then -(val bs : Int) else (val bs : Int), true))
theorem num_j2 (s : ByteArray) (neg : Bool) (h : s.size ≤ 17) (hc : s.data.toList ≠ [] ∧ (∀ t, s.data.toList = 48 :: t → t = []) ∧ (neg = true → ¬ ∃ t, s.data.toList = 48 :: t)) (k : Nat) (hk : s.size + 1 < k) :
    ∃ r, spec_l26Num.j2 k s neg false = some r ∧ NumE neg s.data.toList r := by
  obtain ⟨k, rfl⟩ : ∃ j, k = j + 1 := ⟨k - 1, by omega⟩
  rw [spec_l26Num.j2, if_neg (by decide)]
  obtain ⟨r, h1, h2⟩ := num_l0 s neg h k 0 (by omega) (by omega) (by simp)
  refine ⟨r, h1, ?_⟩
  have hL : s.size = s.data.toList.length := Lib.size_eq s
  rcases h2 with ⟨h2, h3⟩ | ⟨h2, h3⟩
  · exact .inl ⟨h2, fun ht => h3 ht.1.2.1⟩
  · exact .inr ⟨⟨⟨hc.1, h2, hc.2.1⟩, by omega, hc.2.2⟩, h3⟩
theorem num_j2t (s : ByteArray) (neg : Bool) (k : Nat) (hk : 0 < k) (hn : ¬ Take neg s.data.toList) : ∃ r, spec_l26Num.j2 k s neg true = some r ∧ NumE neg s.data.toList r := by
  obtain ⟨k, rfl⟩ : ∃ j, k = j + 1 := ⟨k - 1, by omega⟩
  rw [spec_l26Num.j2, if_pos rfl]
  exact ⟨_, rfl, .inl ⟨rfl, hn⟩⟩
theorem head_at {s : ByteArray} {c : UInt8} {t : List UInt8} (h : s.data.toList = c :: t) : bt s 0 = (c.toNat : Int) := by
  have := bt_list s 0 (by rw [h]; simp)
  rw [show ((0 : Nat) : Int) = 0 from rfl] at this
  rw [this]
  simp [h]
theorem num_j1 (s : ByteArray) (neg : Bool) (k : Nat) (hk : s.size + 3 < k) : ∃ r, spec_l26Num.j1 k s neg = some r ∧ NumE neg s.data.toList r := by
  obtain ⟨k, rfl⟩ : ∃ j, k = j + 1 := ⟨k - 1, by omega⟩
  have hL : s.size = s.data.toList.length := Lib.size_eq s
  rw [spec_l26Num.j1]
  by_cases h0 : s.size = 0
  · rw [if_pos (by omega)]
    exact num_j2t s neg k (by omega) (fun h => h.1.1 (List.eq_nil_of_length_eq_zero (by omega)))
  rw [if_neg (by omega)]
  by_cases h17 : s.size > 17
  · rw [if_pos (by omega)]
    exact num_j2t s neg k (by omega) (fun h => by have := h.2.1; omega)
  rw [if_neg (by omega), if_pos (by omega)]
  cases hd : s.data.toList with
  | nil => exact absurd (show s.size = 0 by rw [hL, hd]; rfl) h0
  | cons c t =>
    have hne : s.data.toList ≠ [] := by rw [hd]; simp
    have hsz : s.size = t.length + 1 := by rw [hL, hd]; rfl
    rw [head_at hd, ← hd]
    by_cases hc : c = 48
    · rw [if_pos (by rw [hc]; rfl)]
      by_cases h1 : s.size > 1
      · rw [if_pos (by omega)]
        refine num_j2t s neg k (by omega) (fun h => ?_)
        have := h.1.2.2 t (by rw [hd, hc])
        rw [this] at hsz
        simp at hsz
        omega
      · rw [if_neg (by omega)]
        have ht : t = [] := List.eq_nil_of_length_eq_zero (by omega)
        cases neg with
        | true => exact num_j2t s true k (by omega) (fun h => h.2.2 rfl ⟨t, by rw [hd, hc]⟩)
        | false => exact num_j2 s false (by omega) ⟨hne, fun t' e => by rw [hd] at e; rw [← (List.cons.inj e).2]; exact ht, fun h => by cases h⟩ k (by omega)
    · rw [if_neg (fun e => hc (UInt8.toNat.inj (by have : (48 : UInt8).toNat = 48 := rfl; omega)))]
      have hx : ∀ t', s.data.toList = 48 :: t' → False := fun t' e => by rw [hd] at e; exact hc (List.cons.inj e).1
      exact num_j2 s neg (by omega) ⟨hne, fun t' e => (hx t' e).elim, fun _ ⟨t', e⟩ => hx t' e⟩ k (by omega)
/-- What 'l26Num' says of a text. -/
def NumT (bs : List UInt8) (r : Int × Bool) : Prop :=
  (r.2 = true → bs = itoa r.1 ∧ -100000000000000000 < r.1 ∧ r.1 < 100000000000000000) ∧ (∀ m : Int, bs = itoa m → -100000000000000000 < m → m < 100000000000000000 → r = (m, true))
theorem extract_tail (s : ByteArray) : (s.extract 1 s.size).data.toList = s.data.toList.tail := by
  have h : s.size = s.data.size := rfl
  rw [ByteArray.data_extract, h]
  cases hd : s.data with
  | mk l => cases l <;> simp
theorem itoa_nat {m : Int} (h : 0 ≤ m) : itoa m = decDigits m.toNat := by unfold itoa; rw [if_neg (by omega)]
theorem take_len {m : Nat} (h : m < 10 ^ 17) : (decDigits m).length ≤ 17 := by rw [decDigits_length]; exact nd_le 16 m h
theorem num_f (s : ByteArray) : ∃ r, spec_l26Num.f (s.size + 20) s = some r ∧ NumT s.data.toList r := by
  have hL : s.size = s.data.toList.length := Lib.size_eq s
  rw [spec_l26Num.f]
  cases hd : s.data.toList with
  | nil =>
    have h0 : s.size = 0 := by rw [hL, hd]; rfl
    rw [if_neg (by omega), show s.size + 20 = (s.size + 19) + 1 from rfl, spec_l26Num.j0, if_neg (by decide)]
    obtain ⟨r, h1, h2⟩ := num_j1 s false (s.size + 19) (by omega)
    refine ⟨r, h1, ?_⟩
    rw [hd] at h2
    have hno : ¬ Take false ([] : List UInt8) := fun h => h.1.1 rfl
    rcases h2 with ⟨rfl, _⟩ | ⟨h2, _⟩
    · refine ⟨fun h => Bool.noConfusion h, fun m hm _ _ => ?_⟩
      exfalso
      unfold itoa at hm
      split at hm
      · cases hm
      · exact dec_ne _ hm.symm
    · exact absurd h2 hno
  | cons c t =>
    have h0 : s.size = t.length + 1 := by rw [hL, hd]; rfl
    rw [if_pos (by omega), if_pos (by omega), show s.size + 20 = (s.size + 19) + 1 from rfl, spec_l26Num.j0, head_at hd]
    by_cases hc : c = 45
    · have hb : ((c.toNat : Int) == 45) = true := by rw [hc]; rfl
      rw [hb, if_pos rfl, if_pos (by omega)]
      have hz : (s.extract 1 s.size).size = t.length := by rw [Lib.size_eq, extract_tail, hd]; rfl
      obtain ⟨r, h1, h2⟩ := num_j1 (s.extract 1 s.size) true (s.size + 19) (by omega)
      refine ⟨r, h1, ?_⟩
      rw [extract_tail, hd, List.tail_cons] at h2
      rcases h2 with ⟨rfl, h3⟩ | ⟨h3, rfl⟩
      · refine ⟨fun h => Bool.noConfusion h, fun m hm m1 m2 => ?_⟩
        exfalso
        apply h3
        unfold itoa at hm
        split at hm
        · rename_i hneg
          have ht := (List.cons.inj hm).2
          rw [ht]
          refine ⟨dec_canon _, take_len (by omega), fun _ ⟨t', e⟩ => ?_⟩
          have := dec_nought _ _ e
          omega
        · obtain ⟨d, l, e1, e2, e3⟩ := dec_head m.toNat
          rw [e1] at hm
          have := (List.cons.inj hm).1
          rw [← this, hc] at e2
          exact absurd e2 (by decide)
      · have hcd := canon_dec t h3.1
        have hv := val_lt17 h3.1.2.1 h3.2.1
        have hpos : 0 < val t := by
          apply Nat.pos_of_ne_zero
          intro hz
          rw [hz, decDigits, dif_pos (by decide)] at hcd
          exact h3.2.2 rfl ⟨[], hcd.symm⟩
        have hi : c :: t = itoa (-(val t : Int)) := by
          unfold itoa
          rw [if_pos (by omega), hc, show (-(val t : Int)).natAbs = val t by omega, hcd]
        refine ⟨fun _ => ⟨hi, ?_, ?_⟩, fun m hm _ _ => ?_⟩
        · show _ < -(val t : Int); omega
        · show -(val t : Int) < _; omega
        · rw [hi] at hm
          rw [← itoa_inj hm]
          rfl
    · have hb : ((c.toNat : Int) == 45) = false := by
        rw [beq_eq_false_iff_ne]
        intro e
        exact hc (UInt8.toNat.inj (by have : (45 : UInt8).toNat = 45 := rfl; omega))
      rw [hb, if_neg (by decide)]
      obtain ⟨r, h1, h2⟩ := num_j1 s false (s.size + 19) (by omega)
      refine ⟨r, h1, ?_⟩
      rw [hd] at h2
      rcases h2 with ⟨rfl, h3⟩ | ⟨h3, rfl⟩
      · refine ⟨fun h => Bool.noConfusion h, fun m hm m1 m2 => ?_⟩
        exfalso
        apply h3
        by_cases hneg : m < 0
        · unfold itoa at hm
          rw [if_pos hneg] at hm
          exact absurd (List.cons.inj hm).1 hc
        · rw [itoa_nat (by omega)] at hm
          rw [hm]
          exact ⟨dec_canon _, take_len (by omega), fun h => by cases h⟩
      · have hcd := canon_dec _ h3.1
        have hv := val_lt17 h3.1.2.1 h3.2.1
        have hi : c :: t = itoa ((val (c :: t) : Nat) : Int) := by
          rw [itoa_nat (by omega)]
          simp only [Int.toNat_natCast]
          exact hcd.symm
        refine ⟨fun _ => ⟨hi, ?_, ?_⟩, fun m hm _ _ => ?_⟩
        · show _ < ((val (c :: t) : Nat) : Int); omega
        · show ((val (c :: t) : Nat) : Int) < _; omega
        · have e := hi.symm.trans hm
          rw [← itoa_inj e]
          rfl
theorem num_any (s : ByteArray) (w : World) : Calls Tryd.prog 46 #[.string s] w fun e w' => ∃ r : Int × Bool, e = .returned (.tuple #[.int .i64 r.1, .bool r.2]) ∧ NumT s.data.toList r ∧ Below w.heap.size w w' := by
  obtain ⟨⟨r1, r2⟩, h1, h2⟩ := num_f s
  refine (spec_l26Num.calls (s.size + 20) s r1 r2 w h1).mono ?_
  rintro e w' ⟨he, hb⟩
  exact ⟨(r1, r2), he, h2, hb.below⟩
end Go.Proofs.YtcjlkekekalgdaaDoor.txt
