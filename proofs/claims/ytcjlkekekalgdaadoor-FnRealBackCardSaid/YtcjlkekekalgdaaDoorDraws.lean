/-
  The draws' reader ('l26Rd') and 'l3Real': what a caller may know of them. Over the printed functions (CutRb).
  Conditions: the reader has read fewer than 100000 bytes.
-/
import Derived.Test.YtcjlkekekalgdaaDoorNanTwo
import Derived.Test.YtcjlkekekalgdaaDoorCutRb
import Derived.Laws.FloatBits
import Derived.Test.YtcjlkekekalgdaaDoorBytes
namespace Go.Proofs.YtcjlkekekalgdaaDoor.draws
open Go.RowKit Go.Proofs.YtcjlkekekalgdaaDoor.CutRb Go.Proofs.YtcjlkekekalgdaaDoorW.PrintWords Go.Proofs.YtcjlkekekalgdaaDoorW.PrintLast Go.Proofs.YtcjlkekekalgdaaDoorW.PrintMore
set_option linter.unusedVariables false
set_option linter.unusedSimpArgs false

/-! ### numbers -/
theorem w64 (n : Int) (h : -9223372036854775808 ≤ n ∧ n ≤ 9223372036854775807) : wrap64 n = n := by unfold wrap64; omega
theorem w16 (n : Int) : IntKind.i16.wrap n = (n + 32768) % 65536 - 32768 := by
  simp [IntKind.wrap, IntKind.bits, IntKind.signed]
  omega
theorem xor_pos (a b : Int) (ha : 0 ≤ a ∧ a < 2 ^ 40) (hb : 0 ≤ b ∧ b < 2 ^ 40) : 0 ≤ Go.bits .xor .i64 a b ∧ Go.bits .xor .i64 a b < 2 ^ 40 := by
  obtain ⟨x, rfl⟩ := Int.eq_ofNat_of_zero_le ha.1
  obtain ⟨y, rfl⟩ := Int.eq_ofNat_of_zero_le hb.1
  have hx : x < 2 ^ 40 := by omega
  have hy : y < 2 ^ 40 := by omega
  have h3 : x ^^^ y < 2 ^ 40 := Nat.xor_lt_two_pow hx hy
  have h1 : (BitVec.ofInt 64 (x : Int)).toNat = x := by
    rw [BitVec.ofInt_natCast, BitVec.toNat_ofNat]; exact Nat.mod_eq_of_lt (by omega)
  have h2 : (BitVec.ofInt 64 (y : Int)).toNat = y := by
    rw [BitVec.ofInt_natCast, BitVec.toNat_ofNat]; exact Nat.mod_eq_of_lt (by omega)
  have e : Go.bits .xor .i64 (x : Int) (y : Int) = ((x ^^^ y : Nat) : Int) := by
    show IntKind.i64.wrap ((BitVec.ofInt 64 (x : Int) ^^^ BitVec.ofInt 64 (y : Int)).toNat : Int) = _
    rw [BitVec.toNat_xor, h1, h2, IntKind.wrap_i64]
    omega
  rw [e]; omega

theorem rd_byte (l : List Int) (h : ∀ x ∈ l, (Lit.int .u8 x).wf = true) (i : Int) : 0 ≤ rd l i ∧ rd l i ≤ 255 := by
  unfold rd
  rcases Nat.lt_or_ge i.toNat l.length with hi | hi
  · have := h (l[i.toNat]) (List.getElem_mem hi)
    rw [List.getD_eq_getElem?_getD, List.getElem?_eq_getElem hi, Option.getD_some]
    simp [Lit.wf, IntKind.min, IntKind.max, IntKind.signed, IntKind.bits] at this
    omega
  · rw [List.getD_eq_getElem?_getD, List.getElem?_eq_none hi, Option.getD_none]; omega

theorem tm (a b : Int) (ha : 0 ≤ a) (hb : 0 < b) : 0 ≤ Int.tmod a b ∧ Int.tmod a b < b := by
  rw [Int.tmod_eq_emod_of_nonneg ha]
  exact ⟨Int.emod_nonneg _ (by omega), Int.emod_lt_of_pos _ hb⟩
theorem td (a b : Int) (ha : 0 ≤ a) (hb : 0 < b) : 0 ≤ Int.tdiv a b ∧ Int.tdiv a b ≤ a := by
  rw [Int.tdiv_eq_ediv_of_nonneg ha]
  exact ⟨Int.ediv_nonneg ha (by omega), Int.ediv_le_self _ ha⟩

theorem pick (k : Nat) (l : List Int) (p n : Int) (hl : l.length ≤ 1048576) (h : ∀ x ∈ l, (Lit.int .u8 x).wf = true) (hp : 0 ≤ p ∧ p < 1000000) (hn : 1 ≤ n) :
    ∃ r, spec_l26Rd_pick.f (k + 1) l p n = some (r, p + 1) ∧ 0 ≤ r ∧ r < n := by
  have e1 : wrap64 (p + 1) = p + 1 := w64 _ (by omega)
  have e2 : wrap64 (p + 1 - 1) = p := by rw [w64 _ (by omega)]; omega
  unfold spec_l26Rd_pick.f
  rw [if_neg (by omega), e1]
  unfold spec_l26Rd_pick.j0
  simp only [e2]
  split
  · exact ⟨0, rfl, by omega, by omega⟩
  next h0 =>
  have hL : (0 : Int) < l.length := by
    rcases Nat.eq_zero_or_pos l.length with h1 | h1
    · simp [h1] at h0
    · omega
  split
  · rw [if_pos (by omega), if_neg (by omega)]
    have hb := rd_byte l h p
    refine ⟨_, rfl, ?_⟩
    rw [w64 _ (by omega)]
    exact tm _ _ (by omega) (by omega)
  · have hk := tm p l.length (by omega) hL
    have e7 : wrap64 (wrap64 (p * 7) + 3) = p * 7 + 3 := by rw [w64 (p * 7) (by omega), w64 _ (by omega)]
    have hk7 := tm (p * 7 + 3) l.length (by omega) hL
    have ha := rd_byte l h (Int.tmod p l.length)
    have hb := rd_byte l h (Int.tmod (p * 7 + 3) l.length)
    have hd := td p l.length (by omega) hL
    rw [if_neg (by omega), if_pos hk.1, if_pos hk.2, e7, if_pos hk7.1, if_pos hk7.2, if_neg (by omega)]
    generalize rd l (Int.tmod p l.length) = a at ha
    generalize rd l (Int.tmod (p * 7 + 3) l.length) = b at hb
    generalize Int.tdiv p l.length = d at hd
    have ex : wrap64 ((wrap64 ((wrap64 ((wrap64 ((wrap64 a) * 131)) + (wrap64 ((wrap64 b) * 1117)))) + (wrap64 (p * 29)))) + (wrap64 ((wrap64 d) * 53))) = a * 131 + b * 1117 + p * 29 + d * 53 := by
      rw [w64 a (by omega), w64 b (by omega), w64 d (by omega), w64 (a * 131) (by omega), w64 (b * 1117) (by omega), w64 (p * 29) (by omega), w64 (d * 53) (by omega), w64 (a * 131 + b * 1117) (by omega),
        w64 (a * 131 + b * 1117 + p * 29) (by omega), w64 _ (by omega)]
    rw [ex]
    have hx : 0 ≤ a * 131 + b * 1117 + p * 29 + d * 53 ∧ a * 131 + b * 1117 + p * 29 + d * 53 < 2 ^ 40 := by omega
    generalize a * 131 + b * 1117 + p * 29 + d * 53 = x at hx
    have h64 := td x 64 hx.1 (by omega)
    rw [w64 (Int.tdiv x 64) (by omega)]
    have hz := xor_pos x (Int.tdiv x 64) hx (by omega)
    exact ⟨_, rfl, tm _ _ hz.1 (by omega)⟩

theorem num (k : Nat) (l : List Int) (p : Int) (xs : List Int) (hl : l.length ≤ 1048576) (h : ∀ x ∈ l, (Lit.int .u8 x).wf = true) (hp : 0 ≤ p ∧ p < 1000000) (hn : 1 ≤ xs.length) :
    ∃ r, spec_l26Rd_num.f (k + 1) l p xs = some (r, p + 1) ∧ r ∈ xs := by
  obtain ⟨r, h1, h2, h3⟩ := pick k l p xs.length hl h hp (by omega)
  refine ⟨rd xs r, ?_, ?_⟩
  · unfold spec_l26Rd_num.f
    rw [h1, Option.bind_some, if_pos h2, if_pos h3]
  · unfold rd
    rw [List.getD_eq_getElem?_getD, List.getElem?_eq_getElem (by omega), Option.getD_some]
    exact List.getElem_mem _

theorem word0 (l : List Int) (hl : l.length ≤ 1048576) (h : ∀ x ∈ l, (Lit.int .u8 x).wf = true) : ∀ (k : Nat) (j : Nat) (x p : Int), j ≤ 8 → 8 - j < k → 0 ≤ p ∧ p + ((8 - j : Nat) : Int) < 1000000 →
    ∃ r, spec_l26Rd_word.l0 (k + 1) x j l p = some (r, p + ((8 - j : Nat) : Int)) := by
  intro k
  induction k with
  | zero => intro j x p h1 h2; omega
  | succ k ih =>
    intro j x p h1 h2 h3
    unfold spec_l26Rd_word.l0
    by_cases h4 : j < 8
    · rw [if_pos (by omega)]
      obtain ⟨q, g1, _, _⟩ := pick k l p 256 hl h (by omega) (by omega)
      rw [g1, Option.bind_some]
      dsimp only
      have e : wrap64 ((j : Int) + 1) = ((j + 1 : Nat) : Int) := by rw [w64 _ (by omega)]; omega
      by_cases h5 : 8 - (j + 1) < k
      · rw [e]
        obtain ⟨r, g2⟩ := ih (j + 1) _ (p + 1) (by omega) h5 (by omega)
        have e2 : p + 1 + ((8 - (j + 1) : Nat) : Int) = p + ((8 - j : Nat) : Int) := by omega
        exact ⟨r, by rw [← e2]; exact g2⟩
      · omega
    · rw [if_neg (by omega)]
      have e3 : p + ((8 - j : Nat) : Int) = p := by omega
      exact ⟨x, by rw [e3]⟩
theorem word (l : List Int) (p : Int) (hl : l.length ≤ 1048576) (h : ∀ x ∈ l, (Lit.int .u8 x).wf = true) (hp : 0 ≤ p ∧ p < 100000) :
    ∃ r, spec_l26Rd_word.f 10 l p = some (r, p + 8) := by
  obtain ⟨r, h1⟩ := word0 l hl h 9 0 0 p (by omega) (by omega) (by omega)
  exact ⟨r, by unfold spec_l26Rd_word.f; rw [show (9 + 1) = 10 from rfl] at h1; rw [show ((0 : Nat) : Int) = 0 from rfl] at h1; rw [h1]; congr 2⟩

/-! ### the reader -/
/-- A reader at place g that has read at most n bytes. -/
def Rd (w0 w : World) (g : Nat) (n : Int) : Prop := ∃ l p, IsS70 w0 w g l p ∧ l.length ≤ 1048576 ∧ (∀ x ∈ l, (Lit.int .u8 x).wf = true) ∧ 0 ≤ p ∧ p ≤ n ∧ Below w0.heap.size w0 w
theorem Rd.below {w0 w w1 : World} {g : Nat} {n : Int} (h : Rd w0 w g n) (hb : Below w.heap.size w w1) : Rd w0 w1 g n := by
  obtain ⟨l, p, h1, h2, h3, h4, h5, h6⟩ := h
  exact ⟨l, p, h1.below hb, h2, h3, h4, h5, below_step h6 hb⟩
theorem Rd.is {w0 w : World} {g : Nat} {n : Int} (h : Rd w0 w g n) : Below w0.heap.size w0 w := by
  obtain ⟨_, _, _, _, _, _, _, h⟩ := h; exact h
theorem Rd.drew {w0 w : World} {g : Nat} {n : Int} (h : Rd w0 w g n) : Rd w0 w.drew g n := h.below (flo.below_drew w)
theorem Rd.lt {w0 w : World} {g : Nat} {n : Int} (h : Rd w0 w g n) : g < w.heap.size := by
  obtain ⟨_, _, h, _⟩ := h; exact h.lt
theorem Rd.le {w0 w : World} {g : Nat} {n m : Int} (h : Rd w0 w g n) (hm : n ≤ m) : Rd w0 w g m := by
  obtain ⟨l, p, h1, h2, h3, h4, h5, h6⟩ := h
  exact ⟨l, p, h1, h2, h3, h4, by omega, h6⟩

theorem pick_w {w0 w : World} {g : Nat} {n : Int} (h : Rd w0 w g n) (hn : n < 100000) (a : Int) (ha : 1 ≤ a) :
    Calls Tryd.prog 34 #[.pointer (some ⟨g, 0, none⟩), .int .i64 a] w fun e w' => ∃ r, e = .returned (.int .i64 r) ∧ 0 ≤ r ∧ r < a ∧ Rd w0 w' g (n + 1) := by
  obtain ⟨l, p, h1, h2, h3, h4, h5, h6⟩ := h
  obtain ⟨r, e, g1, g2⟩ := pick 0 l p a h2 h3 (by omega) ha
  refine (spec_l26Rd_pick.calls 1 g l p a r (p + 1) w0 w h1 h6 e).mono ?_
  rintro e w' ⟨rfl, i1, i2, _⟩
  exact ⟨r, rfl, g1, g2, l, p + 1, i1, h2, h3, by omega, by omega, i2⟩

theorem word_w {w0 w : World} {g : Nat} {n : Int} (h : Rd w0 w g n) (hn : n < 100000) :
    Calls Tryd.prog 53 #[.pointer (some ⟨g, 0, none⟩)] w fun e w' => ∃ r, e = .returned (.int .u64 r) ∧ Rd w0 w' g (n + 8) := by
  obtain ⟨l, p, h1, h2, h3, h4, h5, h6⟩ := h
  obtain ⟨r, e⟩ := word l p h2 h3 (by omega)
  refine (spec_l26Rd_word.calls 10 g l p r (p + 8) w0 w h1 h6 e).mono ?_
  rintro e w' ⟨rfl, i1, i2, _⟩
  exact ⟨r, rfl, l, p + 8, i1, h2, h3, by omega, by omega, i2⟩

theorem num_w {w0 w : World} {g : Nat} {n : Int} (h : Rd w0 w g n) (hn : n < 100000) (b : Nat) (xs : List Int) (cs : Array Value) (t : TypeId) (fr : Nat × Nat) (hx : 1 ≤ xs.length) (hm : xs.length ≤ 1000) (hb : w.heap[b]? = some (.cells cs t fr)) (hc : ∀ j, j < xs.length → cs[j]? = some (.int .i64 (xs.getD j 0))) (hg : b ≠ g) :
    Calls Tryd.prog 54 #[.pointer (some ⟨g, 0, none⟩), .slice (some ⟨b, 0, none⟩) xs.length xs.length] w fun e w' => ∃ r, e = .returned (.int .i64 r) ∧ r ∈ xs ∧ Rd w0 w' g (n + 1) := by
  obtain ⟨l, p, h1, h2, h3, h4, h5, h6⟩ := h
  obtain ⟨r, e, hr⟩ := num 0 l p xs h2 h3 (by omega) hx
  have hrd : ReadsInt w .i64 (some ⟨b, 0, none⟩) xs.length xs := ⟨rfl, by omega, fun _ => ⟨_, rfl, fun j hj => by
    have := kit.box_cell hb j (hc j hj)
    cases j with
    | zero => simpa [Addr.add] using this
    | succ j => simpa [Addr.add] using this⟩⟩
  refine (spec_l26Rd_num.calls 1 g l p (some ⟨b, 0, none⟩) xs.length xs r (p + 1) w0 w h1 h6 (Kd.C_of_reads (d := (0 : Int)) (h1 := fun _ => rfl) hrd) (Nat.le_refl _) (fun ad e _ => by cases e; exact hg) e).mono ?_
  rintro e w' ⟨rfl, i1, i2, _⟩
  exact ⟨r, rfl, hr, l, p + 1, i1, h2, h3, by omega, by omega, i2⟩

/-! ### floats -/
/-- What an operation gives, and the world after it. -/
def arV (o : BinOp) (a b : Nat) (w : World) : Nat := match floatBits o .f64 a b with | some r => r | none => flo.nanAt a b w
def arW (o : BinOp) (a b : Nat) (w : World) : World := match floatBits o .f64 a b with | some _ => w | none => w.drew
theorem ar_run (o : BinOp) (ho : o = .add ∨ o = .sub ∨ o = .mul ∨ o = .quo) (a b : Nat) (w : World) :
    (binOp o 22 (.float .f64 a) (.float .f64 b)).run Tryd.prog w = .ok (.float .f64 (arV o a b w)) (arW o a b w) := by
  unfold arV arW
  cases h : floatBits o .f64 a b with
  | some r => exact run_float_arith (P := Tryd.prog) w o 22 .f64 _ _ _ h
  | none => exact flo.run_nan (P := Tryd.prog) o 22 a b ho h w
theorem Rd.ar {w0 w : World} {g : Nat} {n : Int} (h : Rd w0 w g n) (o : BinOp) (a b : Nat) : Rd w0 (arW o a b w) g n := by
  unfold arW
  split
  · exact h
  · exact h.drew

/-- No number, or a word of 64 bits. -/
def Wd (x : Nat) : Prop := flo.isNan x = true ∨ x < 2 ^ 64
theorem fb_lt {o : BinOp} (ho : o = .add ∨ o = .sub ∨ o = .mul ∨ o = .quo) {a b r : Nat} (h : floatBits o .f64 a b = some r) : r < 2 ^ 64 := by
  rcases ho with rfl | rfl | rfl | rfl
  · exact Ieee.Format.add_lt Ieee.double h
  · exact Ieee.Format.sub_lt Ieee.double h
  · exact Ieee.Format.mul_lt Ieee.double h
  · exact Ieee.Format.div_lt Ieee.double h
theorem arith_any (o : BinOp) (ho : o = .add ∨ o = .sub ∨ o = .mul ∨ o = .quo) (a b : Nat) :
    (∃ r, Hid (Wd r) ∧ ∀ w, (binOp o 22 (.float .f64 a) (.float .f64 b)).run Tryd.prog w = .ok (.float .f64 r) w) ∨
    ∀ w, (binOp o 22 (.float .f64 a) (.float .f64 b)).run Tryd.prog w = .ok (.float .f64 (flo.nanAt a b w)) w.drew := by
  cases h : floatBits o .f64 a b with
  | some r => exact .inl ⟨r, Lib.hid (.inr (fb_lt ho h)), fun w => run_float_arith (P := Tryd.prog) w o 22 .f64 _ _ _ h⟩
  | none => exact .inr (flo.run_nan (P := Tryd.prog) o 22 a b ho h)
theorem wd_ar (o : BinOp) (ho : o = .add ∨ o = .sub ∨ o = .mul ∨ o = .quo) (a b : Nat) (w : World) : Wd (arV o a b w) := by
  unfold arV
  cases h : floatBits o .f64 a b with
  | some r => exact .inr (fb_lt ho h)
  | none => exact .inl (flo.nanAt_nan _ _ _)
theorem wd_int (n : Int) : Wd (floatOfInt .f64 n) := .inr (Ieee.Format.nearest_lt Ieee.double _ _ _)
def Real (w0 : World) (g : Nat) (n : Int) (e : Ending) (w' : World) : Prop := ∃ x, e = .returned (.float .f64 x) ∧ Wd x ∧ Rd w0 w' g n
end Go.Proofs.YtcjlkekekalgdaaDoor.draws
