import Derived.Test.YtfppeppngodjjaaPFnWrapx2
namespace Go.Proofs.Ytfppeppngodjjaa.Pure
open Go.RowKit Go.Proofs.Ytfppeppngodjjaa.PFnWrap Go.Proofs.YtfppeppngodjjaaW.PrintWords Go.Proofs.YtfppeppngodjjaaW.PrintLast

theorem w64 (n : Int) (h : -9223372036854775808 ≤ n ∧ n ≤ 9223372036854775807) : wrap64 n = n := by unfold wrap64; omega
theorem w16 (n : Int) : IntKind.i16.wrap n = (n + 32768) % 65536 - 32768 := by
  simp [IntKind.wrap, IntKind.bits, IntKind.signed]
  omega
theorem xor_pos (a b : Int) (ha : 0 ≤ a ∧ a < 2 ^ 40) (hb : 0 ≤ b ∧ b < 2 ^ 40) : 0 ≤ Go.bits .xor .i64 a b ∧ Go.bits .xor .i64 a b < 2 ^ 40 := by
  obtain ⟨x, rfl⟩ := Int.eq_ofNat_of_zero_le ha.1
  obtain ⟨y, rfl⟩ := Int.eq_ofNat_of_zero_le hb.1
  have hx : x < 2 ^ 40 := by omega
  have hy : y < 2 ^ 40 := by omega
  have h3 : x ^^^ y < 2 ^ 40 := Nat.xor_lt_two_pow hx hy
  have h1 : (BitVec.ofInt 64 (x : Int)).toNat = x := by
    rw [BitVec.ofInt_natCast, BitVec.toNat_ofNat]; exact Nat.mod_eq_of_lt (by omega)
  have h2 : (BitVec.ofInt 64 (y : Int)).toNat = y := by
    rw [BitVec.ofInt_natCast, BitVec.toNat_ofNat]; exact Nat.mod_eq_of_lt (by omega)
  have e : Go.bits .xor .i64 (x : Int) (y : Int) = ((x ^^^ y : Nat) : Int) := by
    show IntKind.i64.wrap ((BitVec.ofInt 64 (x : Int) ^^^ BitVec.ofInt 64 (y : Int)).toNat : Int) = _
    rw [BitVec.toNat_xor, h1, h2, IntKind.wrap_i64]
    omega
  rw [e]; omega

theorem rd_byte (l : List Int) (h : ∀ x ∈ l, (Lit.int .u8 x).wf = true) (i : Int) : 0 ≤ rd l i ∧ rd l i ≤ 255 := by
  unfold rd
  rcases Nat.lt_or_ge i.toNat l.length with hi | hi
  · have := h (l[i.toNat]) (List.getElem_mem hi)
    rw [List.getD_eq_getElem?_getD, List.getElem?_eq_getElem hi, Option.getD_some]
    simp [Lit.wf, IntKind.min, IntKind.max, IntKind.signed, IntKind.bits] at this
    omega
  · rw [List.getD_eq_getElem?_getD, List.getElem?_eq_none hi, Option.getD_none]; omega

theorem tm (a b : Int) (ha : 0 ≤ a) (hb : 0 < b) : 0 ≤ Int.tmod a b ∧ Int.tmod a b < b := by
  rw [Int.tmod_eq_emod_of_nonneg ha]
  exact ⟨Int.emod_nonneg _ (by omega), Int.emod_lt_of_pos _ hb⟩
theorem td (a b : Int) (ha : 0 ≤ a) (hb : 0 < b) : 0 ≤ Int.tdiv a b ∧ Int.tdiv a b ≤ a := by
  rw [Int.tdiv_eq_ediv_of_nonneg ha]
  exact ⟨Int.ediv_nonneg ha (by omega), Int.ediv_le_self _ ha⟩

theorem pick (k : Nat) (l : List Int) (p n : Int) (hl : l.length ≤ 1048576) (h : ∀ x ∈ l, (Lit.int .u8 x).wf = true) (hp : 0 ≤ p ∧ p < 1000000) (hn : 1 ≤ n) :
    ∃ r, spec_l26Rd_pick.f (k + 1) l p n = some (r, p + 1) ∧ 0 ≤ r ∧ r < n := by
  have e1 : wrap64 (p + 1) = p + 1 := w64 _ (by omega)
  have e2 : wrap64 (p + 1 - 1) = p := by rw [w64 _ (by omega)]; omega
  unfold spec_l26Rd_pick.f
  rw [if_neg (by omega), e1]
  unfold spec_l26Rd_pick.j0
  simp only [e2]
  split
  · exact ⟨0, rfl, by omega, by omega⟩
  next h0 =>
  have hL : (0 : Int) < l.length := by
    rcases Nat.eq_zero_or_pos l.length with h1 | h1
    · simp [h1] at h0
    · omega
  split
  · rw [if_pos (by omega), if_neg (by omega)]
    have hb := rd_byte l h p
    refine ⟨_, rfl, ?_⟩
    rw [w64 _ (by omega)]
    exact tm _ _ (by omega) (by omega)
  · have hk := tm p l.length (by omega) hL
    have e7 : wrap64 (wrap64 (p * 7) + 3) = p * 7 + 3 := by rw [w64 (p * 7) (by omega), w64 _ (by omega)]
    have hk7 := tm (p * 7 + 3) l.length (by omega) hL
    have ha := rd_byte l h (Int.tmod p l.length)
    have hb := rd_byte l h (Int.tmod (p * 7 + 3) l.length)
    have hd := td p l.length (by omega) hL
    rw [if_neg (by omega), if_pos hk.1, if_pos hk.2, e7, if_pos hk7.1, if_pos hk7.2, if_neg (by omega)]
    generalize rd l (Int.tmod p l.length) = a at ha
    generalize rd l (Int.tmod (p * 7 + 3) l.length) = b at hb
    generalize Int.tdiv p l.length = d at hd
    have ex : wrap64 ((wrap64 ((wrap64 ((wrap64 ((wrap64 a) * 131)) + (wrap64 ((wrap64 b) * 1117)))) + (wrap64 (p * 29)))) + (wrap64 ((wrap64 d) * 53))) = a * 131 + b * 1117 + p * 29 + d * 53 := by
      rw [w64 a (by omega), w64 b (by omega), w64 d (by omega), w64 (a * 131) (by omega), w64 (b * 1117) (by omega), w64 (p * 29) (by omega), w64 (d * 53) (by omega), w64 (a * 131 + b * 1117) (by omega),
        w64 (a * 131 + b * 1117 + p * 29) (by omega), w64 _ (by omega)]
    rw [ex]
    have hx : 0 ≤ a * 131 + b * 1117 + p * 29 + d * 53 ∧ a * 131 + b * 1117 + p * 29 + d * 53 < 2 ^ 40 := by omega
    generalize a * 131 + b * 1117 + p * 29 + d * 53 = x at hx
    have h64 := td x 64 hx.1 (by omega)
    rw [w64 (Int.tdiv x 64) (by omega)]
    have hz := xor_pos x (Int.tdiv x 64) hx (by omega)
    exact ⟨_, rfl, tm _ _ hz.1 (by omega)⟩

theorem num (k : Nat) (l : List Int) (p : Int) (xs : List Int) (hl : l.length ≤ 1048576) (h : ∀ x ∈ l, (Lit.int .u8 x).wf = true) (hp : 0 ≤ p ∧ p < 1000000) (hn : 1 ≤ xs.length) :
    ∃ r, spec_l26Rd_num.f (k + 1) l p xs = some (r, p + 1) ∧ r ∈ xs := by
  obtain ⟨r, h1, h2, h3⟩ := pick k l p xs.length hl h hp (by omega)
  refine ⟨rd xs r, ?_, ?_⟩
  · unfold spec_l26Rd_num.f
    rw [h1, Option.bind_some, if_pos h2, if_pos h3]
  · unfold rd
    rw [List.getD_eq_getElem?_getD, List.getElem?_eq_getElem (by omega), Option.getD_some]
    exact List.getElem_mem _

theorem op (k : Nat) (l : List Int) (p : Int) (hl : l.length ≤ 1048576) (h : ∀ x ∈ l, (Lit.int .u8 x).wf = true) (hp : 0 ≤ p ∧ p < 1000) :
    ∃ r, spec_l3Op.f (k + 1) l p = some (r, p + 1 + 1) := by
  obtain ⟨r, h1, h2, h3⟩ := pick k l p 16 hl h (by omega) (by omega)
  unfold spec_l3Op.f
  rw [h1, Option.bind_some]
  dsimp only
  split
  · obtain ⟨q, g1, g2⟩ := num k l (p + 1) [(-1), 0, 7, 8, 99] hl h (by omega) (by decide)
    exact ⟨q, by rw [g1]; rfl⟩
  · obtain ⟨q, g1, g2⟩ := pick k l (p + 1) 6 hl h (by omega) (by omega)
    exact ⟨_, by rw [g1]; rfl⟩

theorem whole (k : Nat) (l : List Int) (p : Int) (hl : l.length ≤ 1048576) (h : ∀ x ∈ l, (Lit.int .u8 x).wf = true) (hp : 0 ≤ p ∧ p < 1000) :
    ∃ r, spec_l3Whole.f (k + 1) l p = some (r, p + 1 + 1) ∧ -32768 ≤ r ∧ r ≤ 32767 := by
  obtain ⟨r, h1, h2, h3⟩ := pick k l p 4 hl h (by omega) (by omega)
  unfold spec_l3Whole.f
  rw [h1, Option.bind_some]
  dsimp only
  split
  · obtain ⟨q, g1, g2⟩ := num k l (p + 1) [32767, (-32768), 0, (-1), 1, 32766, (-32767), 181, 182, (-182)] hl h (by omega) (by decide)
    exact ⟨_, by rw [g1]; rfl, by rw [w16]; omega, by rw [w16]; omega⟩
  · obtain ⟨q, g1, g2⟩ := pick k l (p + 1) 65536 hl h (by omega) (by omega)
    exact ⟨_, by rw [g1]; rfl, by rw [w16]; omega, by rw [w16]; omega⟩

theorem draw (k : Nat) (l : List Int) (hl : l.length ≤ 1048576) (h : ∀ x ∈ l, (Lit.int .u8 x).wf = true) :
    ∃ o a b, spec_DrawWholeCalc.f (k + 1) l = some (o, a, b) ∧ (-32768 ≤ a ∧ a ≤ 32767) ∧ (-32768 ≤ b ∧ b ≤ 32767) := by
  obtain ⟨m, e0, hm, hb⟩ : ∃ m : List Int, spec_l26Open.f l = some (m, 0) ∧ m.length ≤ 1048576 ∧ ∀ x ∈ m, (Lit.int .u8 x).wf = true := by
    unfold spec_l26Open.f
    split
    · rw [if_pos (by omega)]
      exact ⟨_, rfl, by rw [List.length_take]; omega, fun x hx => h x (List.mem_of_mem_take hx)⟩
    · exact ⟨_, rfl, hl, h⟩
  obtain ⟨o, e1⟩ := op k m 0 hm hb (by omega)
  obtain ⟨a, e2, ha⟩ := whole k m (0 + 1 + 1) hm hb (by omega)
  obtain ⟨q, e3, hq⟩ := pick k m (0 + 1 + 1 + 1 + 1) 3 hm hb (by omega) (by omega)
  unfold spec_DrawWholeCalc.f
  rw [e0, Option.bind_some]
  dsimp only
  rw [e1, Option.bind_some]
  dsimp only
  rw [e2, Option.bind_some]
  dsimp only
  rw [e3, Option.bind_some]
  dsimp only
  split
  · obtain ⟨r, e4, hr⟩ := pick k m (0 + 1 + 1 + 1 + 1 + 1) 9 hm hb (by omega) (by omega)
    exact ⟨o, a, _, by rw [e4]; rfl, ha, by rw [w16]; omega, by rw [w16]; omega⟩
  · obtain ⟨b, e4, hb⟩ := whole k m (0 + 1 + 1 + 1 + 1 + 1) hm hb (by omega)
    exact ⟨o, a, b, by rw [e4]; rfl, ha, hb⟩

/-- What WholeCalc computes. -/
theorem calc1 (k : Nat) (a b : Int) : impl_WholeCalc.f (k + 1) 1 a b = some (IntKind.i16.wrap (wrap64 (wrap64 a + wrap64 b)), true) := rfl
theorem calc2 (k : Nat) (a b : Int) : impl_WholeCalc.f (k + 1) 2 a b = some (IntKind.i16.wrap (wrap64 (wrap64 a - wrap64 b)), true) := rfl
theorem calc3 (k : Nat) (a b : Int) : impl_WholeCalc.f (k + 1) 3 a b = some (IntKind.i16.wrap (wrap64 (wrap64 a * wrap64 b)), true) := rfl
theorem calc4 (k : Nat) (a b : Int) (hb : -32768 ≤ b ∧ b ≤ 32767) (h : b ≠ 0) : impl_WholeCalc.f (k + 1) 4 a b = some (IntKind.i16.wrap (wrap64 (Int.tdiv (wrap64 a) (wrap64 b))), true) := by
  have e : wrap64 b = b := w64 _ (by omega)
  show impl_WholeCalc.j0 (k + 1) 4 b (wrap64 a) (wrap64 b) (b != 0) = _
  unfold impl_WholeCalc.j0
  dsimp only
  rw [if_pos (by simp [h]), if_neg (by omega)]
theorem calc4z (k : Nat) (a : Int) : impl_WholeCalc.f (k + 1) 4 a 0 = some (0, false) := rfl
theorem calc5z (k : Nat) (a : Int) : impl_WholeCalc.f (k + 1) 5 a 0 = some (0, false) := rfl
theorem calc5 (k : Nat) (a b : Int) (hb : -32768 ≤ b ∧ b ≤ 32767) (h : b ≠ 0) : impl_WholeCalc.f (k + 1) 5 a b = some (IntKind.i16.wrap (Int.tmod (wrap64 a) (wrap64 b)), true) := by
  have e : wrap64 b = b := w64 _ (by omega)
  show impl_WholeCalc.j0 (k + 1) 5 b (wrap64 a) (wrap64 b) false = _
  unfold impl_WholeCalc.j0
  dsimp only
  rw [if_neg (by decide), if_pos rfl, if_neg h, if_neg (by omega)]

theorem prod (a b : Int) (ha : -32768 ≤ a ∧ a ≤ 32767) (hb : -32768 ≤ b ∧ b ≤ 32767) : -1073741824 ≤ a * b ∧ a * b ≤ 1073741824 := by
  have h1 : (a * b).natAbs ≤ 32768 * 32768 := by
    rw [Int.natAbs_mul]
    exact Nat.mul_le_mul (by omega) (by omega)
  omega
theorem mul16 (a b : Int) : IntKind.i16.wrap (IntKind.i16.wrap a * b) = IntKind.i16.wrap (a * b) := by
  have h1 : ∃ k, IntKind.i16.wrap a = a + 65536 * k := by rw [w16]; exact ⟨-((a + 32768) / 65536), by omega⟩
  obtain ⟨k, h1⟩ := h1
  rw [h1, Int.add_mul, Int.mul_assoc, w16, w16]
  omega

theorem FnWrap : laws_FnWrap.Pure := by
  intro l h1 h2 h3
  refine ⟨3, ?_⟩
  unfold laws_FnWrap.f
  split
  · rfl
  next hl =>
  obtain ⟨o, a, b, e0, ha, hb⟩ := draw 2 l (by omega) h3
  have ea : wrap64 a = a := w64 _ (by omega)
  have eb : wrap64 b = b := w64 _ (by omega)
  have hS : ∃ s, IntKind.i16.wrap (wrap64 (wrap64 a + wrap64 b)) = s ∧ (-32768 ≤ s ∧ s ≤ 32767) ∧ IntKind.i16.wrap (wrap64 (wrap64 s - wrap64 b)) = a := by
    refine ⟨_, rfl, ?_, ?_⟩
    · rw [ea, eb, w16, w64 _ (by omega)]; omega
    · rw [ea, eb, w64 (a + b) (by omega), w16 (a + b), w64 ((a + b + 32768) % 65536 - 32768) (by omega), w64 _ (by omega), w16]; omega
  obtain ⟨s, es, hs, eback⟩ := hS
  rw [e0, Option.bind_some]
  dsimp only
  rw [calc1, es, Option.bind_some]
  dsimp only
  rw [calc2, eback, Option.bind_some]
  dsimp only
  rw [if_pos rfl, if_pos rfl]
  unfold laws_FnWrap.j0
  dsimp only
  rw [if_neg (by simp)]
  have et : IntKind.i16.wrap (wrap64 (wrap64 b + wrap64 a)) = s := by rw [Int.add_comm, es]
  rw [calc1, et, Option.bind_some]
  dsimp only
  rw [calc3, Option.bind_some]
  dsimp only
  rw [calc3, Option.bind_some, Int.mul_comm (wrap64 b)]
  dsimp only
  by_cases hz : b = 0
  · subst hz
    rw [calc4z, Option.bind_some, calc5z, Option.bind_some, if_pos rfl, if_pos rfl]
    dsimp only
    rw [if_neg (by decide)]
    unfold laws_FnWrap.j1
    dsimp only
    rw [if_neg (by decide), calc3, Option.bind_some, calc1, Option.bind_some, if_neg (by decide)]
  · have hQ : ∃ q, IntKind.i16.wrap (wrap64 (Int.tdiv (wrap64 a) (wrap64 b))) = q ∧ (-32768 ≤ q ∧ q ≤ 32767) ∧ IntKind.i16.wrap (q * b) = IntKind.i16.wrap (Int.tdiv a b * b) := by
      have hdl : -32768 ≤ Int.tdiv a b ∧ Int.tdiv a b ≤ 32768 := by
        have h5 : (Int.tdiv a b).natAbs ≤ a.natAbs := by rw [Int.natAbs_tdiv]; exact Nat.div_le_self _ _
        omega
      refine ⟨_, rfl, ?_, ?_⟩
      · rw [ea, eb, w64 _ (by omega), w16]; omega
      · rw [ea, eb, w64 (Int.tdiv a b) (by omega), mul16]
    obtain ⟨q, eq, hq, hqb⟩ := hQ
    have hm : -32768 ≤ Int.tmod a b ∧ Int.tmod a b ≤ 32767 := by
      have h6 : (Int.tmod a b).natAbs < b.natAbs := by rw [Int.natAbs_tmod]; exact Nat.mod_lt _ (by omega)
      omega
    have er : IntKind.i16.wrap (Int.tmod (wrap64 a) (wrap64 b)) = Int.tmod a b := by
      rw [ea, eb, w16]; omega
    have hqp := prod q b hq hb
    rw [calc4 1 a b hb hz, eq, Option.bind_some, calc5 1 a b hb hz, er, Option.bind_some, if_pos rfl, if_pos rfl]
    dsimp only
    rw [if_neg (by simp [hz])]
    unfold laws_FnWrap.j1
    dsimp only
    rw [if_neg (by decide), calc3, Option.bind_some]
    dsimp only
    rw [calc1, Option.bind_some, if_pos rfl]
    dsimp only
    have hfin : IntKind.i16.wrap (wrap64 (wrap64 (IntKind.i16.wrap (wrap64 (wrap64 q * wrap64 b))) + wrap64 (Int.tmod a b))) = a := by
      have hw : IntKind.i16.wrap (wrap64 (wrap64 q * wrap64 b)) = IntKind.i16.wrap (Int.tdiv a b * b) := by
        rw [w64 q (by omega), eb, w64 _ (by omega), hqb]
      rw [hw]
      have hd := Int.tmod_add_tdiv_mul a b
      generalize Int.tdiv a b * b = z at hd
      generalize Int.tmod a b = y at hd hm
      rw [w16 z, w64 y (by omega), w64 ((z + 32768) % 65536 - 32768) (by omega), w64 _ (by omega), w16]
      omega
    rw [hfin]
    simp

end Go.Proofs.Ytfppeppngodjjaa.Pure
