/-
  'laws.FnRealBack' returns true: a float is read back from its text.
  Conditions: the row's own: the listed tables and error variables.
-/
import Derived.Test.YtcjlkekekalgdaaDoorFlo
import Derived.Test.YtcjlkekekalgdaaDoorReal
import Derived.Test.YtcjlkekekalgdaaDoorRdK
namespace Go.Proofs.YtcjlkekekalgdaaDoor.flo
open Go.RowKit
set_option linter.unusedVariables false
set_option linter.unusedSimpArgs false

theorem wr_nan (x y : Nat) (w : World) (hx : isNan x = true) (hy : isNan y = true) : Calls Tryd.prog 12 #[.float .f64 x, .float .f64 y] w fun e w' => e = .returned (.bool true) ∧ w = w' := by
  have ox := order_nan_left (y := x) hx
  have oy := order_nan_left (y := y) hy
  clear hx hy
  go_enter Tryd.func12, Tryd.ntmps12
  go_wp2
  go_ret
  exact ⟨rfl, rfl⟩

theorem wr_num (x : Nat) (w : World) (hx : isNan x = false) : Calls Tryd.prog 12 #[.float .f64 x, .float .f64 x] w fun e w' => e = .returned (.bool true) ∧ w = w' := by
  have ox := order_self hx
  obtain ⟨c, hc⟩ := order_num (y := 0) hx (by decide +kernel)
  clear hx
  cases c with
  | eq =>
    obtain ⟨q, hq⟩ := one_by_zero hc
    have rq := fun (w : World) => run_float_arith (P := Tryd.prog) w .quo 22 .f64 _ _ _ hq
    clear hq
    go_enter Tryd.func12, Tryd.ntmps12
    go_wp2
    go_ret
    exact ⟨rfl, rfl⟩
  | lt =>
    go_enter Tryd.func12, Tryd.ntmps12
    go_wp2
    go_ret
    exact ⟨rfl, rfl⟩
  | gt =>
    go_enter Tryd.func12, Tryd.ntmps12
    go_wp2
    go_ret
    exact ⟨rfl, rfl⟩

theorem wr_any (x y : Nat) (w : World) (h : Same x y) : Calls Tryd.prog 12 #[.float .f64 x, .float .f64 y] w fun e w' => e = .returned (.bool true) ∧ w = w' := by
  rcases h with ⟨hx, hy⟩ | rfl
  · exact wr_nan x y w hx hy
  · cases hx : isNan x with
    | true => exact wr_nan x x w hx hx
    | false => exact wr_num x w hx
end Go.Proofs.YtcjlkekekalgdaaDoor.flo

namespace Go.Proofs.YtcjlkekekalgdaaDoor.draws
open Go.RowKit Go.Proofs.YtcjlkekekalgdaaDoor.CutRb Go.Proofs.YtcjlkekekalgdaaDoorW.PrintWords Go.Proofs.YtcjlkekekalgdaaDoorW.PrintLast Go.Proofs.YtcjlkekekalgdaaDoorW.PrintMore
set_option linter.unusedVariables false
set_option linter.unusedSimpArgs false

theorem open_w {w : World} {A : Option Addr} {l : List Int} {c : Nat} (hr : ReadsInt w .u8 A l.length l) (hc : l.length ≤ c) (hl : l.length ≤ 1048576) (hb : ∀ x ∈ l, (Lit.int .u8 x).wf = true) :
    Calls Tryd.prog 33 #[.slice A l.length c] w fun e w' => ∃ g, e = .returned (.pointer (some ⟨g, 0, none⟩)) ∧ Rd w w' g 0 := by
  obtain ⟨m, e0, hm, hw⟩ : ∃ m : List Int, spec_l26Open.f l = some (m, 0) ∧ m.length ≤ 1048576 ∧ ∀ x ∈ m, (Lit.int .u8 x).wf = true := by
    unfold spec_l26Open.f
    split
    · rw [if_pos (by omega)]
      exact ⟨_, rfl, by rw [List.length_take]; omega, fun x hx => hb x (List.mem_of_mem_take hx)⟩
    · exact ⟨_, rfl, hl, hb⟩
  refine (spec_l26Open.calls A c l m 0 w w (Below.refl _ _) (Kd.C_of_reads (d := (0 : Int)) (h1 := fun _ => rfl) hr) hc e0).mono ?_
  rintro e w' ⟨g, rfl, h1, h2, _⟩
  exact ⟨g, rfl, m, 0, h1, hm, hw, by omega, by omega, h2⟩

theorem drawText {w : World} {A : Option Addr} {l : List Int} {c : Nat} (hr : ReadsInt w .u8 A l.length l) (hc : l.length ≤ c) (hl : l.length ≤ 1048576) (hb : ∀ x ∈ l, (Lit.int .u8 x).wf = true) :
    Calls Tryd.prog 11 #[.slice A l.length c] w fun e w' => ∃ x, e = .returned (.float .f64 x) ∧ Wd x ∧ Below w.heap.size w w' := by
  have H := Lib.hid (⟨hr, hc, hl, hb⟩ : _ ∧ _ ∧ _ ∧ _)
  clear hr hc hl hb
  go_enter Tryd.func11, Tryd.ntmps11
  go_wp2_with fail
  refine (open_w H.out.1 H.out.2.1 H.out.2.2.1 H.out.2.2.2).mono ?_
  rintro e w1 ⟨g, rfl, h1⟩
  have H1 := Lib.hid h1
  clear h1
  go_wp2_with fail
  refine (l3Real_w H1.out (by decide)).mono ?_
  rintro e w3 ⟨a, rfl, ha, h3⟩
  have H3 := Lib.hid h3
  have HA := Lib.hid ha
  clear h3 ha
  go_wp2_with fail
  go_ret
  exact ⟨a, rfl, HA.out, H3.out.is⟩
theorem of_w {w0 w : World} {g : Nat} {n : Int} (h : Rd w0 w g n) (hn : n < 100000) (b : Nat) (xs : List ByteArray) (cs : Array Value) (t : TypeId) (fr : Nat × Nat) (hx : 1 ≤ xs.length) (hm : xs.length ≤ 1000) (hb : w.heap[b]? = some (.cells cs t fr)) (hc0 : cs = (xs.map Value.string).toArray) (hg : b ≠ g) (hz : (xs.all fun x => decide (x.size ≤ 30)) = true) :
    Calls Tryd.prog 35 #[.pointer (some ⟨g, 0, none⟩), .slice (some ⟨b, 0, none⟩) xs.length xs.length] w fun e w' => ∃ s : ByteArray, e = .returned (.string s) ∧ s.size ≤ 30 ∧ Rd w0 w' g (n + 1) := by
  have hc : ∀ j, j < xs.length → cs[j]? = some (.string (xs.getD j ByteArray.empty)) := fun j hj => by rw [hc0]; simp [hj, List.getD_eq_getElem?_getD]
  obtain ⟨l, p, h1, h2, h3, h4, h5, h6⟩ := h
  obtain ⟨r, e1, r1, r2⟩ := pick 0 l p xs.length h2 h3 (by omega) (by omega)
  have e : spec_l26Rd_of.f 1 l p xs = some (rdOf ByteArray.empty xs r, p + 1) := by
    unfold spec_l26Rd_of.f
    rw [e1, Option.bind_some, if_pos r1, if_pos r2]
  have hs : (rdOf ByteArray.empty xs r).size ≤ 30 := by
    unfold rdOf
    rw [List.getD_eq_getElem?_getD, List.getElem?_eq_getElem (by omega), Option.getD_some]
    have := List.all_eq_true.1 hz _ (List.getElem_mem (show r.toNat < xs.length by omega))
    simpa using this
  have hrd : ReadsOf Value.string ByteArray.empty w (some ⟨b, 0, none⟩) xs.length xs := ⟨rfl, by omega, fun _ => ⟨_, rfl, fun j hj => by
    have := kit.box_cell hb j (hc j hj)
    cases j with
    | zero => simpa [Addr.add] using this
    | succ j => simpa [Addr.add] using this⟩⟩
  refine (spec_l26Rd_of.calls 1 g l p (some ⟨b, 0, none⟩) xs.length xs _ (p + 1) w0 w h1 h6 (Kd.C_of_reads (d := ByteArray.empty) (h1 := fun _ => rfl) hrd) (Nat.le_refl _) (fun ad e _ => by cases e; exact hg) e).mono ?_
  rintro e w' ⟨rfl, i1, i2, i3⟩
  exact ⟨_, rfl, hs, l, p + 1, i1, h2, h3, by omega, by omega, i2⟩
theorem spec_wd (x : Nat) (h : Wd x) (w : World) : Calls Tryd.prog 6 #[.float .f64 x] w (txt.SomeTxt 100 (txt.Txt x) w) := by
  rcases h with h | h
  · exact txt.spec_nan x h w
  · exact txt.spec_text x h w
set_option maxHeartbeats 4000000 in
theorem drawRead {w : World} {A : Option Addr} {l : List Int} {c : Nat} (hr : ReadsInt w .u8 A l.length l) (hc : l.length ≤ c) (hl : l.length ≤ 1048576) (hb : ∀ x ∈ l, (Lit.int .u8 x).wf = true) :
    Calls Tryd.prog 13 #[.slice A l.length c] w fun e w' => ∃ s : ByteArray, e = .returned (.string s) ∧ s.size ≤ 200 ∧ Below w.heap.size w w' := by
  have H := Lib.hid (⟨hr, hc, hl, hb⟩ : _ ∧ _ ∧ _ ∧ _)
  clear hr hc hl hb
  go_enter Tryd.func13, Tryd.ntmps13
  go_wp2_with fail
  refine (open_w H.out.1 H.out.2.1 H.out.2.2.1 H.out.2.2.2).mono ?_
  rintro e w1 ⟨g, rfl, h1⟩
  have H1 := Lib.hid h1
  clear h1
  go_wp2_with fail
  refine (l3Real_w H1.out (by decide)).mono ?_
  rintro e w2 ⟨a, rfl, ha, h3⟩
  have H2 := Lib.hid h3
  have HA := Lib.hid ha
  clear h3 ha
  go_wp2_with fail
  refine (spec_wd a HA.out _).mono ?_
  rintro e w3 ⟨tx, rfl, _, htl, hbl⟩
  obtain ⟨S, hS⟩ : ∃ b : ByteArray, (⟨tx.toArray⟩ : ByteArray) = b := ⟨_, rfl⟩
  have hz : S.size ≤ 100 := by rw [← hS]; show tx.toArray.size ≤ 100; rw [List.size_toArray]; exact htl
  have H3 := Lib.hid (H2.out.below hbl)
  rw [hS]
  clear hS htl hbl
  go_wp2_with fail
  refine (pick_w H3.out (by decide) 9 (by decide)).mono ?_
  rintro e w4 ⟨q, rfl, q1, q2, h4⟩
  have H4 := Lib.hid h4
  have hlt := h4.lt
  clear h4
  have hcase : q = 0 ∨ q = 1 ∨ q = 2 ∨ 3 ≤ q := by omega
  rcases hcase with rfl | rfl | rfl | q3
  · go_wp2_with fail
    refine (of_w (xs := [⟨#[]⟩, ⟨#[45]⟩, ⟨#[49]⟩, ⟨#[49, 42, 50, 94, 48]⟩, ⟨#[50, 42, 50, 94, 48]⟩, ⟨#[48, 42, 50, 94, 48]⟩, ⟨#[45, 48, 42, 50, 94, 48]⟩, ⟨#[49, 42, 50, 94, 49, 48, 50, 51]⟩, ⟨#[49, 42, 50, 94, 49, 48, 50, 52]⟩, ⟨#[51, 42, 50, 94, 49, 48, 50, 50]⟩, ⟨#[51, 42, 50, 94, 49, 48, 50, 51]⟩, ⟨#[49, 42, 50, 94, 45, 49, 48, 55, 52]⟩, ⟨#[49, 42, 50, 94, 45, 49, 48, 55, 53]⟩, ⟨#[57, 48, 48, 55, 49, 57, 57, 50, 53, 52, 55, 52, 48, 57, 57, 49, 42, 50, 94, 57, 55, 49]⟩, ⟨#[57, 48, 48, 55, 49, 57, 57, 50, 53, 52, 55, 52, 48, 57, 57, 49, 42, 50, 94, 57, 55, 50]⟩, ⟨#[57, 48, 48, 55, 49, 57, 57, 50, 53, 52, 55, 52, 48, 57, 57, 51, 42, 50, 94, 48]⟩, ⟨#[49, 42, 50, 94, 43, 51]⟩, ⟨#[49, 42, 50, 94]⟩, ⟨#[49, 42, 50]⟩, ⟨#[42, 50, 94, 51]⟩, ⟨#[48, 49, 42, 50, 94, 51]⟩, ⟨#[49, 42, 50, 94, 48, 51]⟩, ⟨#[45, 45, 49, 42, 50, 94, 51]⟩, ⟨#[45, 110, 97, 110]⟩, ⟨#[45, 105, 110, 102]⟩, ⟨#[57, 48, 48, 55, 49, 57, 57, 50, 53, 52, 55, 52, 48, 57, 57, 49, 42, 50, 94, 45, 49, 48, 55, 52]⟩, ⟨#[49, 42, 50, 94, 45, 48]⟩, ⟨#[51, 42, 50, 94, 45, 49, 48, 55, 52, 32]⟩]) (H4.out.below ((Below.refl _ _).alloc (Nat.le_refl _) _)) (by decide) _ _ _ _ (by decide) (by decide) (kit.box_new _ _ _) rfl (by omega) (by decide)).mono ?_
    rintro e w5 ⟨s, rfl, hs, h5⟩
    have H5 := Lib.hid h5
    clear h5
    go_wp2_with fail
    go_ret
    exact ⟨s, rfl, by omega, H5.out.is⟩
  · go_wp2_with fail
    refine (of_w (xs := [⟨#[48]⟩, ⟨#[32]⟩, ⟨#[42]⟩, ⟨#[49]⟩]) (H4.out.below ((Below.refl _ _).alloc (Nat.le_refl _) _)) (by decide) _ _ _ _ (by decide) (by decide) (kit.box_new _ _ _) rfl (by omega) (by decide)).mono ?_
    rintro e w5 ⟨s, rfl, hs, h5⟩
    have H5 := Lib.hid h5
    clear h5
    go_wp2_with fail
    go_ret
    exact ⟨_, rfl, by rw [ByteArray.size_append]; omega, H5.out.is⟩
  · go_wp2_with fail
    refine (of_w (xs := [⟨#[45]⟩, ⟨#[48]⟩, ⟨#[32]⟩, ⟨#[49]⟩]) (H4.out.below ((Below.refl _ _).alloc (Nat.le_refl _) _)) (by decide) _ _ _ _ (by decide) (by decide) (kit.box_new _ _ _) rfl (by omega) (by decide)).mono ?_
    rintro e w5 ⟨s, rfl, hs, h5⟩
    have H5 := Lib.hid h5
    clear h5
    go_wp2_with fail
    go_ret
    exact ⟨_, rfl, by rw [ByteArray.size_append]; omega, H5.out.is⟩
  · have c0 : (q == 0) = false := beq_eq_false_iff_ne.2 (by omega)
    have c1 : (q == 1) = false := beq_eq_false_iff_ne.2 (by omega)
    have c2 : (q == 2) = false := beq_eq_false_iff_ne.2 (by omega)
    go_wp2_with fail
    go_ret
    exact ⟨S, rfl, by omega, H4.out.is⟩
end Go.Proofs.YtcjlkekekalgdaaDoor.draws

namespace Go.Proofs.YtcjlkekekalgdaaDoor.txt
open Go Go.RowKit Go.Proofs.YtcjlkekekalgdaaDoor.fl Go.Proofs.YtcjlkekekalgdaaDoor.flo
set_option linter.unusedVariables false
set_option linter.unusedSimpArgs false
set_option maxRecDepth 20000

open Ieee in
theorem eq_cases {x y : Nat} (hx : isNan x = false) (hy : isNan y = false) (x6 : x < 2 ^ 64) (y6 : y < 2 ^ 64) (h : FloatKind.f64.format.order x y = some .eq) (hne : x ≠ y) : (x = 0 ∧ y = 9223372036854775808) ∨ (x = 9223372036854775808 ∧ y = 0) := by
  rw [nan_iff] at hx hy
  have mx : mag x ≤ INF := Nat.le_of_not_lt (of_decide_eq_false hx)
  have my : mag y ≤ INF := Nat.le_of_not_lt (of_decide_eq_false hy)
  have form : ∀ z, z < 2 ^ 64 → mag z = INF → z = INF ∨ z = 2 ^ 63 + INF := fun z hz hm => by unfold mag at hm; unfold INF at *; omega
  have h2 : (double.read x).order (double.read y) = some .eq := h
  have r1 : double.read INF = .infinity false := by decide +kernel
  have r2 : double.read (2 ^ 63 + INF) = .infinity true := by decide +kernel
  rcases Nat.eq_or_lt_of_le mx with ex | ex
  · exfalso
    rcases Nat.eq_or_lt_of_le my with ey | ey
    · rcases form x x6 ex with rfl | rfl <;> rcases form y y6 ey with rfl | rfl
      · exact hne rfl
      · rw [r1, r2] at h2; exact absurd h2 (by decide)
      · rw [r1, r2] at h2; exact absurd h2 (by decide)
      · exact hne rfl
    · obtain ⟨m, e, hr, _⟩ := read_fin (x := y) ey
      rw [hr] at h2
      rcases form x x6 ex with rfl | rfl
      · rw [r1] at h2
        have h3 : (some Ordering.gt : Option Ordering) = some .eq := h2
        cases h3
      · rw [r2] at h2
        have h3 : (some Ordering.lt : Option Ordering) = some .eq := h2
        cases h3
  · rcases Nat.eq_or_lt_of_le my with ey | ey
    · exfalso
      obtain ⟨m, e, hr, _⟩ := read_fin (x := x) ex
      rw [hr] at h2
      rcases form y y6 ey with rfl | rfl
      · rw [r1] at h2
        have h3 : (some Ordering.lt : Option Ordering) = some .eq := h2
        cases h3
      · rw [r2] at h2
        have h3 : (some Ordering.gt : Option Ordering) = some .eq := h2
        cases h3
    · have h3 : double.order x y = some .eq := h
      rw [order_fin ex ey] at h3
      have h4 : sv x = sv y := by
        have h5 : compare (sv x) (sv y) = .eq := Option.some.inj h3
        rcases Int.lt_trichotomy (sv x) (sv y) with l | l | l
        · rw [cmp_lt l] at h5; cases h5
        · exact l
        · rw [cmp_gt l] at h5; cases h5
      unfold sv at h4
      cases nx : neg x with
      | true =>
        cases ny : neg y with
        | true =>
          rw [nx, ny] at h4
          simp only [if_true] at h4
          have : V (mag x) = V (mag y) := by omega
          exact absurd (word_eq x6 y6 (nx.trans ny.symm) (V_inj this)) hne
        | false =>
          rw [nx, ny] at h4
          simp only [if_true, Bool.false_eq_true, if_false] at h4
          have a : V (mag x) = 0 := by omega
          have b : V (mag y) = 0 := by omega
          have a1 : mag x = 0 := Nat.eq_zero_of_not_pos fun p => by have := V_pos p; omega
          have b1 : mag y = 0 := Nat.eq_zero_of_not_pos fun p => by have := V_pos p; omega
          right
          exact ⟨word_eq x6 (by decide) (nx.trans (by decide)) (a1.trans (by decide)), word_eq y6 (by decide) (ny.trans (by decide)) (b1.trans (by decide))⟩
      | false =>
        cases ny : neg y with
        | false =>
          rw [nx, ny] at h4
          simp only [Bool.false_eq_true, if_false] at h4
          have : V (mag x) = V (mag y) := by omega
          exact absurd (word_eq x6 y6 (nx.trans ny.symm) (V_inj this)) hne
        | true =>
          rw [nx, ny] at h4
          simp only [if_true, Bool.false_eq_true, if_false] at h4
          have a : V (mag x) = 0 := by omega
          have b : V (mag y) = 0 := by omega
          have a1 : mag x = 0 := Nat.eq_zero_of_not_pos fun p => by have := V_pos p; omega
          have b1 : mag y = 0 := Nat.eq_zero_of_not_pos fun p => by have := V_pos p; omega
          left
          exact ⟨word_eq x6 (by decide) (nx.trans (by decide)) (a1.trans (by decide)), word_eq y6 (by decide) (ny.trans (by decide)) (b1.trans (by decide))⟩
theorem no_nan1 (x y : Nat) (w : World) (hx : isNan x = true) (hy : isNan y = false) : Calls Tryd.prog 12 #[.float .f64 x, .float .f64 y] w (Is (.bool false) w) := by
  have ox := order_nan_left (y := x) hx
  have oy := order_self hy
  clear hx hy
  go_enter Tryd.func12, Tryd.ntmps12
  go_wp2
  go_ret
  exact ⟨rfl, rfl⟩
theorem no_nan2 (x y : Nat) (w : World) (hx : isNan x = false) (hy : isNan y = true) : Calls Tryd.prog 12 #[.float .f64 x, .float .f64 y] w (Is (.bool false) w) := by
  have ox := order_self hx
  have oy := order_nan_left (y := y) hy
  clear hx hy
  go_enter Tryd.func12, Tryd.ntmps12
  go_wp2
  go_ret
  exact ⟨rfl, rfl⟩
theorem no_zero1 (w : World) : Calls Tryd.prog 12 #[.float .f64 0, .float .f64 9223372036854775808] w (Is (.bool false) w) := by
  have o1 : FloatKind.f64.format.order 0 0 = some .eq := by decide +kernel
  have o2 : FloatKind.f64.format.order 9223372036854775808 9223372036854775808 = some .eq := by decide +kernel
  have o3 : FloatKind.f64.format.order 0 9223372036854775808 = some .eq := by decide +kernel
  have q1 : floatBits .quo .f64 4607182418800017408 0 = some 9218868437227405312 := by decide +kernel
  have q2 : floatBits .quo .f64 4607182418800017408 9223372036854775808 = some 18442240474082181120 := by decide +kernel
  have r1 := fun (w : World) => run_float_arith (P := Tryd.prog) w .quo 22 .f64 _ _ _ q1
  have r2 := fun (w : World) => run_float_arith (P := Tryd.prog) w .quo 22 .f64 _ _ _ q2
  have o4 : FloatKind.f64.format.order 9218868437227405312 0 = some .gt := by decide +kernel
  have o5 : FloatKind.f64.format.order 18442240474082181120 0 = some .lt := by decide +kernel
  clear q1 q2
  go_enter Tryd.func12, Tryd.ntmps12
  go_wp2
  go_ret
  exact ⟨rfl, rfl⟩
theorem no_zero2 (w : World) : Calls Tryd.prog 12 #[.float .f64 9223372036854775808, .float .f64 0] w (Is (.bool false) w) := by
  have o1 : FloatKind.f64.format.order 0 0 = some .eq := by decide +kernel
  have o2 : FloatKind.f64.format.order 9223372036854775808 9223372036854775808 = some .eq := by decide +kernel
  have o3 : FloatKind.f64.format.order 9223372036854775808 0 = some .eq := by decide +kernel
  have q1 : floatBits .quo .f64 4607182418800017408 0 = some 9218868437227405312 := by decide +kernel
  have q2 : floatBits .quo .f64 4607182418800017408 9223372036854775808 = some 18442240474082181120 := by decide +kernel
  have r1 := fun (w : World) => run_float_arith (P := Tryd.prog) w .quo 22 .f64 _ _ _ q1
  have r2 := fun (w : World) => run_float_arith (P := Tryd.prog) w .quo 22 .f64 _ _ _ q2
  have o4 : FloatKind.f64.format.order 9218868437227405312 0 = some .gt := by decide +kernel
  have o5 : FloatKind.f64.format.order 18442240474082181120 0 = some .lt := by decide +kernel
  clear q1 q2
  go_enter Tryd.func12, Tryd.ntmps12
  go_wp2
  go_ret
  exact ⟨rfl, rfl⟩
theorem no_any (x y : Nat) (hx : Wd x) (hy : Wd y) (h : ¬ Same x y) (w : World) : Calls Tryd.prog 12 #[.float .f64 x, .float .f64 y] w (Is (.bool false) w) := by
  cases nx : isNan x with
  | true =>
    cases ny : isNan y with
    | true => exact absurd (.inl ⟨nx, ny⟩) h
    | false => exact no_nan1 x y w nx ny
  | false =>
    cases ny : isNan y with
    | true => exact no_nan2 x y w nx ny
    | false =>
      have x6 : x < 2 ^ 64 := by rcases hx with e | e; · rw [nx] at e; cases e
                                 · exact e
      have y6 : y < 2 ^ 64 := by rcases hy with e | e; · rw [ny] at e; cases e
                                 · exact e
      have hne : x ≠ y := fun e => h (.inr e)
      have ox := order_self nx
      have oy := order_self ny
      obtain ⟨c, hc⟩ := order_num nx ny
      cases c with
      | eq =>
        rcases eq_cases nx ny x6 y6 hc hne with ⟨rfl, rfl⟩ | ⟨rfl, rfl⟩
        · exact no_zero1 w
        · exact no_zero2 w
      | lt =>
        clear hx hy h nx ny x6 y6 hne
        go_enter Tryd.func12, Tryd.ntmps12
        go_wp2
        go_ret
        exact ⟨rfl, rfl⟩
      | gt =>
        clear hx hy h nx ny x6 y6 hne
        go_enter Tryd.func12, Tryd.ntmps12
        go_wp2
        go_ret
        exact ⟨rfl, rfl⟩
/-- The texts of two words are one just where the words are. -/
theorem same_txt {x y : Nat} (hx : Wd x) (hy : Wd y) {s t : List UInt8} (h : Txt x s) (k : Txt y t) : s = t ↔ Same x y := by
  constructor
  · intro e
    subst e
    obtain ⟨x', a1, a2, a3⟩ := hx.norm h
    obtain ⟨y', b1, b2, b3⟩ := hy.norm k
    exact sm_trans a3 (sm_trans (Txt.inj a1 b1 a2 b2) (sm_symm b3))
  · intro e
    rcases e with ⟨a, b⟩ | e
    · rcases h with ⟨_, h⟩ | ⟨h, _⟩
      · rcases k with ⟨_, k⟩ | ⟨k, _⟩
        · rw [h, k]
        · rw [b] at k; cases k
      · rw [a] at h; cases h
    · subst e; exact h.uniq k
theorem wr_both (x y : Nat) (hx : Wd x) (hy : Wd y) {s t : List UInt8} (h : Txt x s) (k : Txt y t) (w : World) : Calls Tryd.prog 12 #[.float .f64 x, .float .f64 y] w (Is (.bool (s == t)) w) := by
  by_cases e : s = t
  · rw [beq_iff_eq.2 e]
    exact (wr_any x y w ((same_txt hx hy h k).1 e)).mono fun e' w' ⟨h1, h2⟩ => ⟨h1, h2.symm⟩
  · rw [beq_eq_false_iff_ne.2 e]
    exact no_any x y hx hy (fun h2 => e ((same_txt hx hy h k).2 h2)) w
end Go.Proofs.YtcjlkekekalgdaaDoor.txt

namespace Go.Proofs.YtcjlkekekalgdaaDoor.fnRealBack
open Go Go.RowKit Go.Lib Go.WideShapes Go.Proofs.YtcjlkekekalgdaaDoor.txt Go.Proofs.YtcjlkekekalgdaaDoor.pu Go.Proofs.YtcjlkekekalgdaaDoorW.PrintWords
set_option linter.unusedVariables false
set_option linter.unusedSimpArgs false
set_option maxRecDepth 20000

theorem tab_of {P : Program} {W : World} {l : List (String × DataW Unit)} {n : String} {g : Nat} {t e : TypeId} {m : Nat} {k : IntKind} {zs : List Int} (h : laidMetH P l W) (hp : (l.all fun x => x.2.handleName?.isNone) = true)
    (hm : (n, tabData k zs) ∈ l) (hg : P.globalNamed n = some g) (hty : (P.globals[g]?).map (·.type) = some t) (ht : P.underlying t = some (.array m e)) (he : P.underlying e = some (.int k)) (hce : P.cellsOf e = 1) (hct : P.cellsOf t = m) : TabIs P W n k zs := by
  rw [MakeChecks.laidMetH_plain _ _ _ hp] at h
  obtain ⟨ps, hl, _⟩ := h
  obtain ⟨g', t', cs, fuel, p, hg', ht', hv, hd⟩ := kit.laid_reads hl n _ hm
  obtain rfl := Option.some.inj (hg.symm.trans hg')
  obtain rfl := Option.some.inj (hty.symm.trans ht')
  unfold TabIs
  rw [hv, ← cells_of_tab ht he hce hct hd]
theorem err_of {P : Program} {W : World} {l : List (String × DataW Unit)} {n nm : String} {d : DataW Unit} {g : Nat} {t : TypeId} {ms : Array (String × TypeId)} (h : laidMetH P l W) (hp : (l.all fun x => x.2.handleName?.isNone) = true)
    (hm : (n, .iface nm d) ∈ l) (hg : P.globalNamed n = some g) (hty : (P.globals[g]?).map (·.type) = some t) (ht : P.underlying t = some (.interface ms)) : ∃ ev, W.cell? ⟨g, 0, none⟩ = some ev ∧ (ev = .nilIface ∨ ∃ te pe, ev = .iface te pe) := by
  rw [MakeChecks.laidMetH_plain _ _ _ hp] at h
  obtain ⟨ps, hl, _⟩ := h
  obtain ⟨g', t', cs, fuel, p, hg', ht', hv, hd⟩ := kit.laid_reads hl n _ hm
  obtain rfl := Option.some.inj (hg.symm.trans hg')
  obtain rfl := Option.some.inj (hty.symm.trans ht')
  have hc := World.var?_cell hg hv 0
  cases fuel with
  | zero => simp [DataW.trod] at hd
  | succ fuel =>
    generalize hL : cs.toList = L at hd
    have hc2 : W.cell? ⟨g, 0, none⟩ = L[0]? := by rw [hc, ← hL]; simp
    cases L with
    | nil => simp [DataW.trod, ht] at hd
    | cons v L =>
      cases L with
      | cons v2 L => cases v <;> simp [DataW.trod, ht] at hd
      | nil =>
        cases v
        all_goals first
          | (exact ⟨_, hc2, .inl rfl⟩)
          | (exact ⟨_, hc2, .inr ⟨_, _, rfl⟩⟩)
          | (simp [DataW.trod, ht] at hd)

def Code_ (W : World) (A : Option Addr) (l : List Int) (c : Nat) : Prop := ReadsInt W .u8 A l.length l ∧ l.length ≤ c ∧ l.length ≤ 1048576 ∧ ∀ x ∈ l, (Lit.int .u8 x).wf = true
theorem code_of {W w : World} {A : Option Addr} {l : List Int} {c : Nat} (h : Code_ W A l c) (hb : Below W.heap.size W w) : Code_ w A l c := ⟨h.1.below hb, h.2⟩
theorem impl_wd (x : Nat) (h : Wd x) (w : World) (hp : Pow w) : Calls Tryd.prog 7 #[.float .f64 x] w (SomeTxt 100 (Txt x) w) := by
  rcases h with h | h
  · exact impl_nan x h w
  · exact impl_text x h w hp
/-- All that is in hand. -/
structure Hand (W w : World) : Prop where
  below : Below W.heap.size W w
  pow : Pow w
  mx : Mx w
  errs : Errs w
theorem Hand.on {W w w1 : World} (h : Hand W w) (hb : Below w.heap.size w w1) : Hand W w1 := ⟨h.below.trans (hb.mono h.below.size), h.pow.stays hb, h.mx.stays hb, h.errs.stays hb⟩
theorem big (W : World) (A A2 : Option Addr) (n n2 c c2 : Nat) (h : 1048576 < (n : Int)) : Calls Tryd.prog 5 #[.slice A n c, .slice A2 n2 c2] W fun e w' => e = .returned (.bool true) ∧ Below W.heap.size W w' := by
  go_enter Tryd.func5, Tryd.ntmps5
  go_wp2_with fail
  go_ret
  exact ⟨rfl, Below.refl _ _⟩
theorem big2 (W : World) (A A2 : Option Addr) (n n2 c c2 : Nat) (h : ¬ (1048576 < (n : Int))) (h2 : 1048576 < (n2 : Int)) : Calls Tryd.prog 5 #[.slice A n c, .slice A2 n2 c2] W fun e w' => e = .returned (.bool true) ∧ Below W.heap.size W w' := by
  go_enter Tryd.func5, Tryd.ntmps5
  go_wp2_with fail
  go_ret
  exact ⟨rfl, Below.refl _ _⟩
/-- A text as its bytes. -/
theorem as_bytes (t : List UInt8) : ∃ b : ByteArray, (⟨t.toArray⟩ : ByteArray) = b ∧ b.data.toList = t ∧ b.size = t.length := ⟨_, rfl, rfl, by rw [Lib.size_eq]⟩

set_option maxHeartbeats 8000000 in
theorem walkI {W : World} (hp : Pow W) (hm : Mx W) (he : Errs W) {A A2 : Option Addr} {l l2 : List Int} {c c2 : Nat} (hc : ReadsInt W .u8 A l.length l ∧ l.length ≤ c ∧ ∀ x ∈ l, (Lit.int .u8 x).wf = true) (hc2 : ReadsInt W .u8 A2 l2.length l2 ∧ l2.length ≤ c2 ∧ ∀ x ∈ l2, (Lit.int .u8 x).wf = true) :
    Calls Tryd.prog 5 #[.slice A l.length c, .slice A2 l2.length c2] W fun e w' => e = .returned (.bool true) ∧ Below W.heap.size W w' := by
  by_cases hl : 1048576 < (l.length : Int)
  · exact big W A A2 _ _ c c2 hl
  by_cases hl2 : 1048576 < (l2.length : Int)
  · exact big2 W A A2 _ _ c c2 hl hl2
  have HC := Lib.hid (show Code_ W A l c from ⟨hc.1, hc.2.1, by omega, hc.2.2⟩)
  have HC2 := Lib.hid (show Code_ W A2 l2 c2 from ⟨hc2.1, hc2.2.1, by omega, hc2.2.2⟩)
  have H0 := Lib.hid (show Hand W W from ⟨Below.refl _ _, hp, hm, he⟩)
  clear hp hm he hc hc2
  go_enter Tryd.func5, Tryd.ntmps5
  go_wp2_with fail
  refine (draws.drawText HC.out.1 HC.out.2.1 HC.out.2.2.1 HC.out.2.2.2).mono ?_
  rintro e w1 ⟨x, rfl, hx, hb⟩
  have H1 := Lib.hid (H0.out.on hb)
  have HX : Hid (Wd x) := Lib.hid hx
  clear hb H0 HC hx
  have HC3 := Lib.hid (code_of HC2.out H1.out.below)
  go_wp2_with fail
  refine (draws.drawText HC3.out.1 HC3.out.2.1 HC3.out.2.2.1 HC3.out.2.2.2).mono ?_
  rintro e w2 ⟨y, rfl, hy, hb⟩
  have H2 := Lib.hid (H1.out.on hb)
  have HY : Hid (Wd y) := Lib.hid hy
  clear hb H1 HC3 hy
  go_wp2_with fail
  refine (impl_wd x HX.out _ H2.out.pow).mono ?_
  rintro e w3 ⟨s, rfl, t1, t2, hb⟩
  obtain ⟨S, hS, hS1, hS2⟩ := as_bytes s
  have TX := Lib.hid t1
  have TS := Lib.hid hS1
  have TZ := Lib.hid (show S.size ≤ 4000000 by omega)
  have H3 := Lib.hid (H2.out.on hb)
  rw [hS]
  clear hb H2 t1 t2 hS hS1 hS2
  go_wp2_with fail
  refine (impl_read S TZ.out _ H3.out.pow H3.out.mx H3.out.errs).mono ?_
  rintro e w4 ⟨back, ok, rfl, hok, hb⟩
  rw [TS.out] at hok
  obtain ⟨xn, n1, n2, n3⟩ := HX.out.norm TX.out
  obtain rfl := hok.2.2 xn n1 n2
  have HK := Lib.hid (hok.1 rfl)
  have H4 := Lib.hid (H3.out.on hb)
  clear hb H3 hok n1 n2 n3
  have W1 := Lib.hid (fun w => wr_both back x HK.out.1 HX.out HK.out.2 TX.out w)
  rw [show (s == s) = true from beq_iff_eq.2 rfl] at W1
  go_wp2_with (go_at_call 12; refine (W1.out _).mono ?_; rintro e w' ⟨rfl, rfl⟩)
  refine (impl_wd y HY.out _ H4.out.pow).mono ?_
  rintro e w5 ⟨t, rfl, t1, t2, hb⟩
  obtain ⟨T, hT, hT1, hT2⟩ := as_bytes t
  have H5 := Lib.hid (H4.out.on hb)
  have W2 := Lib.hid (fun w => wr_both x y HX.out HY.out TX.out t1 w)
  obtain ⟨q, hq⟩ : ∃ q, (s == t) = q := ⟨_, rfl⟩
  have hq2 : (S.toList == T.toList) = q := by rw [ByteArray.toList_eq, ByteArray.toList_eq, TS.out, hT1]; exact hq
  rw [hq] at W2
  rw [hT]
  clear hb H4 t1 t2 hT hT1 hT2 hq W1
  have HC4 := Lib.hid (code_of HC2.out H5.out.below)
  cases q
  all_goals
    go_wp2_with (go_at_call 12; refine (W2.out _).mono ?_; rintro e w' ⟨rfl, rfl⟩)
    refine (draws.drawRead HC4.out.1 HC4.out.2.1 HC4.out.2.2.1 HC4.out.2.2.2).mono ?_
    rintro e w6 ⟨u, rfl, hu, hb⟩
    have H6 := Lib.hid (H5.out.on hb)
    have UZ := Lib.hid (show u.size ≤ 4000000 by omega)
    clear hb H5 hu W2 hq2
    go_wp2_with fail
    refine (impl_read u UZ.out _ H6.out.pow H6.out.mx H6.out.errs).mono ?_
    rintro e w7 ⟨z, fine, rfl, hz, hb⟩
    have H7 := Lib.hid (H6.out.on hb)
    have Z1 := Lib.hid hz
    clear hb H6 hz
    go_wp2_with fail
    refine (spec_read u UZ.out _).mono ?_
    rintro e w8 ⟨want, told, rfl, hz, hb⟩
    have H8 := Lib.hid (H7.out.on hb)
    obtain ⟨hsame, rfl⟩ := Z1.out.same hz
    have W3 := Lib.hid (fun w => flo.wr_any z want w hsame)
    clear hb H7 hz hsame
    cases fine with
    | false =>
      go_wp2_with (go_at_call 12; refine (W3.out _).mono ?_; rintro e w' ⟨rfl, rfl⟩)
      go_ret
      exact ⟨rfl, H8.out.below⟩
    | true =>
      have ZK := Lib.hid (Z1.out.1 rfl)
      go_wp2_with (go_at_call 12; refine (W3.out _).mono ?_; rintro e w' ⟨rfl, rfl⟩)
      refine (impl_wd z ZK.out.1 _ H8.out.pow).mono ?_
      rintro e w9 ⟨v, rfl, v1, v2, hb⟩
      obtain ⟨T2, hT, hT1, hT2⟩ := as_bytes v
      have hv : v = u.data.toList := v1.uniq ZK.out.2
      have hq3 : (T2.toList == u.toList) = true := by rw [ByteArray.toList_eq, ByteArray.toList_eq, hT1, hv]; exact beq_iff_eq.2 rfl
      have H9 := Lib.hid (H8.out.on hb)
      rw [hT]
      clear hb H8 v1 v2 hT hT1 hT2 hv W3
      go_wp2_with fail
      go_ret
      exact ⟨rfl, H9.out.below⟩

theorem walk (W : World) (base : Nat) (v0 v1 : Value) (o0 : Value.okWide Tryd.prog W .any base 29 v0) (o1 : Value.okWide Tryd.prog W .any base 29 v1) (b0 : kit.Bytes W v0) (b1 : kit.Bytes W v1) (hL : laidMetH Tryd.prog Rows.fnRealBackRow.laid W) (hsh : W.ShapedOpen Tryd.prog) :
    Calls Tryd.prog 5 #[v0, v1] W fun e w' => e = .returned (.bool true) ∧ Below W.heap.size W w' := by
  have hs : Pow W := tab_of (g := 1) hL (by kernel_rfl) (List.Mem.tail _ (List.Mem.tail _ (List.Mem.head _))) (by kernel_rfl) (by kernel_rfl) Tryd.underlying89 Tryd.underlying36 (by kernel_rfl) (by kernel_rfl)
  have e1 := err_of (g := 4) hL (by kernel_rfl) (List.Mem.tail _ (List.Mem.tail _ (List.Mem.tail _ (List.Mem.head _)))) (by kernel_rfl) (by kernel_rfl) Tryd.underlying47
  have e2 := err_of (g := 3) hL (by kernel_rfl) (List.Mem.tail _ (List.Mem.tail _ (List.Mem.tail _ (List.Mem.tail _ (List.Mem.head _))))) (by kernel_rfl) (by kernel_rfl) Tryd.underlying47
  obtain ⟨A0, len0, cap0, zs0, rfl, h0, y0⟩ := b0
  obtain ⟨l0, rfl, hr0, hm0, hwf0, hc0⟩ := ReadsInt.ofRowC h0
  obtain ⟨A1, len1, cap1, zs1, rfl, h1, y1⟩ := b1
  obtain ⟨l1, rfl, hr1, hm1, hwf1, hc1⟩ := ReadsInt.ofRowC h1
  exact walkI hs (Tryd.lays145.s1_3 W hsh) ⟨e2, e1⟩ ⟨hr0, hc0, hwf0⟩ ⟨hr1, hc1, hwf1⟩
end Go.Proofs.YtcjlkekekalgdaaDoor.fnRealBack
