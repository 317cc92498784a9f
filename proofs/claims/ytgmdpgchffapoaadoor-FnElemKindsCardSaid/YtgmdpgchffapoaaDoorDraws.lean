/-
  The draws' reader ('l26Rd'): what a caller may know of them. Over the printed functions (CutEk).
  Conditions: the reader has read fewer than 100000 bytes.
-/
import Derived.Test.YtgmdpgchffapoaaDoorKit
import Derived.Test.YtgmdpgchffapoaaDoorCutEkx1
import Derived.Test.YtgmdpgchffapoaaDoorBytes
import Derived.Laws.Closers25b
namespace Go.Proofs.YtgmdpgchffapoaaDoor.draws
open Go.RowKit Go.Proofs.YtgmdpgchffapoaaDoor.CutEk Go.Proofs.YtgmdpgchffapoaaDoorW.PrintWords Go.Proofs.YtgmdpgchffapoaaDoorW.PrintLast
set_option linter.unusedVariables false
set_option linter.unusedSimpArgs false

/-! ### numbers -/
theorem w64 (n : Int) (h : -9223372036854775808 ≤ n ∧ n ≤ 9223372036854775807) : wrap64 n = n := by unfold wrap64; omega
theorem xor_pos (a b : Int) (ha : 0 ≤ a ∧ a < 2 ^ 40) (hb : 0 ≤ b ∧ b < 2 ^ 40) : 0 ≤ Go.bits .xor .i64 a b ∧ Go.bits .xor .i64 a b < 2 ^ 40 := by
  obtain ⟨x, rfl⟩ := Int.eq_ofNat_of_zero_le ha.1
  obtain ⟨y, rfl⟩ := Int.eq_ofNat_of_zero_le hb.1
  have hx : x < 2 ^ 40 := by omega
  have hy : y < 2 ^ 40 := by omega
  have h3 : x ^^^ y < 2 ^ 40 := Nat.xor_lt_two_pow hx hy
  have h1 : (BitVec.ofInt 64 (x : Int)).toNat = x := by
    rw [BitVec.ofInt_natCast, BitVec.toNat_ofNat]; exact Nat.mod_eq_of_lt (by omega)
  have h2 : (BitVec.ofInt 64 (y : Int)).toNat = y := by
    rw [BitVec.ofInt_natCast, BitVec.toNat_ofNat]; exact Nat.mod_eq_of_lt (by omega)
  have e : Go.bits .xor .i64 (x : Int) (y : Int) = ((x ^^^ y : Nat) : Int) := by
    show IntKind.i64.wrap ((BitVec.ofInt 64 (x : Int) ^^^ BitVec.ofInt 64 (y : Int)).toNat : Int) = _
    rw [BitVec.toNat_xor, h1, h2, IntKind.wrap_i64]
    omega
  rw [e]; omega

theorem rd_byte (l : List Int) (h : ∀ x ∈ l, (Lit.int .u8 x).wf = true) (i : Int) : 0 ≤ rd l i ∧ rd l i ≤ 255 := by
  unfold rd
  rcases Nat.lt_or_ge i.toNat l.length with hi | hi
  · have := h (l[i.toNat]) (List.getElem_mem hi)
    rw [List.getD_eq_getElem?_getD, List.getElem?_eq_getElem hi, Option.getD_some]
    simp [Lit.wf, IntKind.min, IntKind.max, IntKind.signed, IntKind.bits] at this
    omega
  · rw [List.getD_eq_getElem?_getD, List.getElem?_eq_none hi, Option.getD_none]; omega

theorem tm (a b : Int) (ha : 0 ≤ a) (hb : 0 < b) : 0 ≤ Int.tmod a b ∧ Int.tmod a b < b := by
  rw [Int.tmod_eq_emod_of_nonneg ha]
  exact ⟨Int.emod_nonneg _ (by omega), Int.emod_lt_of_pos _ hb⟩
theorem td (a b : Int) (ha : 0 ≤ a) (hb : 0 < b) : 0 ≤ Int.tdiv a b ∧ Int.tdiv a b ≤ a := by
  rw [Int.tdiv_eq_ediv_of_nonneg ha]
  exact ⟨Int.ediv_nonneg ha (by omega), Int.ediv_le_self _ ha⟩

theorem pick (k : Nat) (l : List Int) (p n : Int) (hl : l.length ≤ 1048576) (h : ∀ x ∈ l, (Lit.int .u8 x).wf = true) (hp : 0 ≤ p ∧ p < 1000000) (hn : 1 ≤ n) :
    ∃ r, spec_l26Rd_pick.f (k + 1) l p n = some (r, p + 1) ∧ 0 ≤ r ∧ r < n := by
  have e1 : wrap64 (p + 1) = p + 1 := w64 _ (by omega)
  have e2 : wrap64 (p + 1 - 1) = p := by rw [w64 _ (by omega)]; omega
  unfold spec_l26Rd_pick.f
  rw [if_neg (by omega), e1]
  unfold spec_l26Rd_pick.j0
  simp only [e2]
  split
  · exact ⟨0, rfl, by omega, by omega⟩
  next h0 =>
  have hL : (0 : Int) < l.length := by
    rcases Nat.eq_zero_or_pos l.length with h1 | h1
    · simp [h1] at h0
    · omega
  split
  · rw [if_pos (by omega), if_neg (by omega)]
    have hb := rd_byte l h p
    refine ⟨_, rfl, ?_⟩
    rw [w64 _ (by omega)]
    exact tm _ _ (by omega) (by omega)
  · have hk := tm p l.length (by omega) hL
    have e7 : wrap64 (wrap64 (p * 7) + 3) = p * 7 + 3 := by rw [w64 (p * 7) (by omega), w64 _ (by omega)]
    have hk7 := tm (p * 7 + 3) l.length (by omega) hL
    have ha := rd_byte l h (Int.tmod p l.length)
    have hb := rd_byte l h (Int.tmod (p * 7 + 3) l.length)
    have hd := td p l.length (by omega) hL
    rw [if_neg (by omega), if_pos hk.1, if_pos hk.2, e7, if_pos hk7.1, if_pos hk7.2, if_neg (by omega)]
    generalize rd l (Int.tmod p l.length) = a at ha
    generalize rd l (Int.tmod (p * 7 + 3) l.length) = b at hb
    generalize Int.tdiv p l.length = d at hd
    have ex : wrap64 ((wrap64 ((wrap64 ((wrap64 ((wrap64 a) * 131)) + (wrap64 ((wrap64 b) * 1117)))) + (wrap64 (p * 29)))) + (wrap64 ((wrap64 d) * 53))) = a * 131 + b * 1117 + p * 29 + d * 53 := by
      rw [w64 a (by omega), w64 b (by omega), w64 d (by omega), w64 (a * 131) (by omega), w64 (b * 1117) (by omega), w64 (p * 29) (by omega), w64 (d * 53) (by omega), w64 (a * 131 + b * 1117) (by omega),
        w64 (a * 131 + b * 1117 + p * 29) (by omega), w64 _ (by omega)]
    rw [ex]
    have hx : 0 ≤ a * 131 + b * 1117 + p * 29 + d * 53 ∧ a * 131 + b * 1117 + p * 29 + d * 53 < 2 ^ 40 := by omega
    generalize a * 131 + b * 1117 + p * 29 + d * 53 = x at hx
    have h64 := td x 64 hx.1 (by omega)
    rw [w64 (Int.tdiv x 64) (by omega)]
    have hz := xor_pos x (Int.tdiv x 64) hx (by omega)
    exact ⟨_, rfl, tm _ _ hz.1 (by omega)⟩

theorem pick0 (k : Nat) (l : List Int) (p n : Int) (hl : l.length ≤ 1048576) (h : ∀ x ∈ l, (Lit.int .u8 x).wf = true) (hp : 0 ≤ p ∧ p < 1000000) :
    ∃ r, spec_l26Rd_pick.f (k + 1) l p n = some (r, p + 1) := by
  by_cases hn : 1 ≤ n
  · obtain ⟨r, h1, _⟩ := pick k l p n hl h hp hn
    exact ⟨r, h1⟩
  · have e1 : wrap64 (p + 1) = p + 1 := w64 _ (by omega)
    refine ⟨0, ?_⟩
    unfold spec_l26Rd_pick.f
    rw [if_pos (by omega), e1]
    unfold spec_l26Rd_pick.j0
    simp only [if_true]
theorem num (k : Nat) (l : List Int) (p : Int) (xs : List Int) (hl : l.length ≤ 1048576) (h : ∀ x ∈ l, (Lit.int .u8 x).wf = true) (hp : 0 ≤ p ∧ p < 1000000) (hn : 1 ≤ xs.length) :
    ∃ r, spec_l26Rd_num.f (k + 1) l p xs = some (r, p + 1) ∧ r ∈ xs := by
  obtain ⟨r, h1, h2, h3⟩ := pick k l p xs.length hl h hp (by omega)
  refine ⟨rd xs r, ?_, ?_⟩
  · unfold spec_l26Rd_num.f
    rw [h1, Option.bind_some, if_pos h2, if_pos h3]
  · unfold rd
    rw [List.getD_eq_getElem?_getD, List.getElem?_eq_getElem (by omega), Option.getD_some]
    exact List.getElem_mem _

/-! ### the reader -/
/-- Where the reader's bytes lie; since when all but the reader stays as it was. -/
structure Base where
  w0 : World
  wf : World
/-- A reader at place g that has read at most n bytes. -/
def Rd (B : Base) (w : World) (g : Nat) (n : Int) : Prop := ∃ l p, IsS62 B.w0 w g l p ∧ l.length ≤ 1048576 ∧ (∀ x ∈ l, (Lit.int .u8 x).wf = true) ∧ 0 ≤ p ∧ p ≤ n ∧ Below B.w0.heap.size B.w0 w ∧ KeepBut B.wf w g none
theorem Rd.below {B : Base} {w w1 : World} {g : Nat} {n : Int} (h : Rd B w g n) (hb : Below w.heap.size w w1) : Rd B w1 g n := by
  obtain ⟨l, p, h1, h2, h3, h4, h5, h6, h7⟩ := h
  exact ⟨l, p, h1.below hb, h2, h3, h4, h5, below_step h6 hb, h7.trans (KeepBut.of_below hb g none) (.inl rfl)⟩
theorem Rd.is {B : Base} {w : World} {g : Nat} {n : Int} (h : Rd B w g n) : Below B.w0.heap.size B.w0 w := by
  obtain ⟨_, _, _, _, _, _, _, h, _⟩ := h; exact h
theorem Rd.keep {B : Base} {w : World} {g : Nat} {n : Int} (h : Rd B w g n) : KeepBut B.wf w g none := by
  obtain ⟨_, _, _, _, _, _, _, _, h⟩ := h; exact h
theorem Rd.drew {B : Base} {w : World} {g : Nat} {n : Int} (h : Rd B w g n) : Rd B w.drew g n := h.below ⟨rfl, rfl, rfl, Nat.le_refl _, fun _ _ => rfl⟩
theorem Rd.lt {B : Base} {w : World} {g : Nat} {n : Int} (h : Rd B w g n) : g < w.heap.size := by
  obtain ⟨_, _, h, _⟩ := h; exact h.lt
theorem Rd.le {B : Base} {w : World} {g : Nat} {n m : Int} (h : Rd B w g n) (hm : n ≤ m) : Rd B w g m := by
  obtain ⟨l, p, h1, h2, h3, h4, h5, h6, h7⟩ := h
  exact ⟨l, p, h1, h2, h3, h4, by omega, h6, h7⟩
theorem Rd.now {B : Base} {w : World} {g : Nat} {n : Int} (h : Rd B w g n) : Rd ⟨B.w0, w⟩ w g n := by
  obtain ⟨l, p, h1, h2, h3, h4, h5, h6, h7⟩ := h
  exact ⟨l, p, h1, h2, h3, h4, h5, h6, KeepBut.refl w g none⟩
theorem Rd.since {B : Base} {w w1 : World} {g : Nat} {n m : Int} (h : Rd B w g n) (k : Rd ⟨B.w0, w⟩ w1 g m) : Rd B w1 g m := by
  obtain ⟨l, p, h1, h2, h3, h4, h5, h6, h7⟩ := k
  exact ⟨l, p, h1, h2, h3, h4, h5, h6, h.keep.trans h7 (.inl rfl)⟩

theorem pick_w {B : Base} {w : World} {g : Nat} {n : Int} (h : Rd B w g n) (hn : n < 100000) (a : Int) (ha : 1 ≤ a) :
    Calls Tryd.prog 36 #[.pointer (some ⟨g, 0, none⟩), .int .i64 a] w fun e w' => ∃ r, e = .returned (.int .i64 r) ∧ 0 ≤ r ∧ r < a ∧ Rd B w' g (n + 1) := by
  obtain ⟨l, p, h1, h2, h3, h4, h5, h6, h7⟩ := h
  obtain ⟨r, e, g1, g2⟩ := pick 0 l p a h2 h3 (by omega) ha
  refine (spec_l26Rd_pick.calls 1 g l p a r (p + 1) B.w0 w h1 h6 e).mono ?_
  rintro e w' ⟨rfl, i1, i2, i3⟩
  exact ⟨r, rfl, g1, g2, l, p + 1, i1, h2, h3, by omega, by omega, i2, h7.trans i3 (.inl rfl)⟩

theorem pick_any {B : Base} {w : World} {g : Nat} {n : Int} (h : Rd B w g n) (hn : n < 100000) (a : Int) :
    Calls Tryd.prog 36 #[.pointer (some ⟨g, 0, none⟩), .int .i64 a] w fun e w' => ∃ r, e = .returned (.int .i64 r) ∧ Rd B w' g (n + 1) := by
  obtain ⟨l, p, h1, h2, h3, h4, h5, h6, h7⟩ := h
  obtain ⟨r, e⟩ := pick0 0 l p a h2 h3 (by omega)
  refine (spec_l26Rd_pick.calls 1 g l p a r (p + 1) B.w0 w h1 h6 e).mono ?_
  rintro e w' ⟨rfl, i1, i2, i3⟩
  exact ⟨r, rfl, l, p + 1, i1, h2, h3, by omega, by omega, i2, h7.trans i3 (.inl rfl)⟩
theorem num_w {B : Base} {w : World} {g : Nat} {n : Int} (h : Rd B w g n) (hn : n < 100000) (b : Nat) (xs : List Int) (cs : Array Value) (t : TypeId) (fr : Nat × Nat) (hx : 1 ≤ xs.length) (hm : xs.length ≤ 1000) (hb : w.heap[b]? = some (.cells cs t fr)) (hc : ∀ j, j < xs.length → cs[j]? = some (.int .i64 (xs.getD j 0))) (hg : b ≠ g) :
    Calls Tryd.prog 51 #[.pointer (some ⟨g, 0, none⟩), .slice (some ⟨b, 0, none⟩) xs.length xs.length] w fun e w' => ∃ r, e = .returned (.int .i64 r) ∧ r ∈ xs ∧ Rd B w' g (n + 1) := by
  obtain ⟨l, p, h1, h2, h3, h4, h5, h6, h7⟩ := h
  obtain ⟨r, e, hr⟩ := num 0 l p xs h2 h3 (by omega) hx
  have hrd : ReadsInt w .i64 (some ⟨b, 0, none⟩) xs.length xs := ⟨rfl, by omega, fun _ => ⟨_, rfl, fun j hj => by
    have := kit.box_cell hb j (hc j hj)
    cases j with
    | zero => simpa [Addr.add] using this
    | succ j => simpa [Addr.add] using this⟩⟩
  refine (spec_l26Rd_num.calls 1 g l p (some ⟨b, 0, none⟩) xs.length xs r (p + 1) B.w0 w h1 h6 (Kd.C_of_reads (d := (0 : Int)) (h1 := fun _ => rfl) hrd) (Nat.le_refl _) (fun ad e _ => by cases e; exact hg) e).mono ?_
  rintro e w' ⟨rfl, i1, i2, i3⟩
  exact ⟨r, rfl, hr, l, p + 1, i1, h2, h3, by omega, by omega, i2, h7.trans i3 (.inl rfl)⟩

theorem open_w {W w : World} {A : Option Addr} {l : List Int} {c : Nat} (hb : Below W.heap.size W w) (hr : ReadsInt W .u8 A l.length l) (hc : l.length ≤ c) (hl : l.length ≤ 1048576) (hw : ∀ x ∈ l, (Lit.int .u8 x).wf = true) :
    Calls Tryd.prog 34 #[.slice A l.length c] w fun e w' => ∃ g, e = .returned (.pointer (some ⟨g, 0, none⟩)) ∧ Rd ⟨W, W⟩ w' g 0 ∧ Below w.heap.size w w' := by
  obtain ⟨m, e0, hm, hwm⟩ : ∃ m : List Int, spec_l26Open.f l = some (m, 0) ∧ m.length ≤ 1048576 ∧ ∀ x ∈ m, (Lit.int .u8 x).wf = true := by
    unfold spec_l26Open.f
    split
    · rw [if_pos (by omega)]
      exact ⟨_, rfl, by rw [List.length_take]; omega, fun x hx => hw x (List.mem_of_mem_take hx)⟩
    · exact ⟨_, rfl, hl, hw⟩
  refine (spec_l26Open.calls A c l m 0 W w hb (Kd.C_of_reads (d := (0 : Int)) (h1 := fun _ => rfl) hr) hc e0).mono ?_
  rintro e w' ⟨g, rfl, h1, h2, h3⟩
  exact ⟨g, rfl, ⟨m, 0, h1, hm, hwm, by omega, by omega, h2, KeepBut.of_below h2 g none⟩, h3⟩


end Go.Proofs.YtgmdpgchffapoaaDoor.draws
