/-
  'l5Bit', 'l5Turned', 'l5Given' and 'bit': what they return.
  Conditions: the word lies in its kind's range; the place in the word.
-/
import Derived.Test.YtnffgafofkknoaaDoorBits
import Derived.Test.YtnffgafofkknoaaDoorEqMem
import Derived.Deep.LoopGhost
namespace Go.Proofs.YtnffgafofkknoaaDoor.bitm
open Go Go.RowKit Go.Proofs.YtnffgafofkknoaaDoor.part
set_option linter.unusedVariables false
set_option linter.unusedSimpArgs false

theorem bit_any (b : Bool) (w : World) : Calls Tryd.prog 53 #[.bool b] w fun e w' => e = .returned (.int .u64 b.toNat) ∧ w = w' := by
  cases b
  all_goals
    go_enter Tryd.func53, Tryd.ntmps53
    go_wp2
    go_ret
    exact ⟨rfl, rfl⟩

theorem halve_w (x : Int) (k : Nat) (h0 : 0 ≤ x) (h1 : x < 18446744073709551616) : IntKind.u64.wrap ((x / 2 ^ k).tdiv 2) = x / 2 ^ (k + 1) := by
  have hp : (0 : Int) < 2 ^ k := Int.pow_pos (by decide)
  have hq : 0 ≤ x / 2 ^ k := Int.ediv_nonneg h0 (Int.le_of_lt hp)
  have hl : x / 2 ^ k ≤ x := Int.ediv_le_self _ h0
  rw [Int.tdiv_eq_ediv_of_nonneg hq, IntKind.wrap_u64, ← halve]
  omega
def small (x : Int) : Prop := 0 ≤ x ∧ x < 18446744073709551616

set_option maxRecDepth 100000 in
theorem l5Bit_any (x : Int) (j : Nat) (h : small x) (hj : j ≤ 64) (w : World) : Calls Tryd.prog 44 #[.int .u64 x, .int .i64 j] w fun e w' => e = .returned (.bool (bitAt x j)) ∧ w = w' := by
  have H := Lib.hid h
  clear h
  go_enter Tryd.func44, Tryd.ntmps44
  go_wp2
  go_loop [0, 5] (fun v i => ∃ k : Nat, k ≤ j ∧ i = .int .i64 k ∧ v = .int .u64 (x / 2 ^ k)) (fun _ i => j - (intOf i).toNat)
  case atStart => exact ⟨0, by omega, rfl, by simp⟩
  case round =>
    obtain ⟨k, hk, rfl, rfl⟩ := hrel
    have Hh := Lib.hid (halve_w x k H.out.1 H.out.2)
    have hq : 0 ≤ x / 2 ^ k := Int.ediv_nonneg H.out.1 (Int.pow_nonneg (by decide))
    by_cases hlt : k < j
    · clear hq
      go_wp2
      go_round
      case rel => exact ⟨k + 1, by omega, by go_num, by rw [Hh.out]⟩
      case measure => simp [intOf]; omega
    · obtain rfl : k = j := by omega
      go_wp2
      go_ret
      exact ⟨rfl, rfl⟩

theorem double_w (k : Nat) (h : k < 63) : IntKind.u64.wrap (2 ^ k * 2) = 2 ^ (k + 1) := by
  have h2 : (2 : Nat) ^ (k + 1) ≤ 2 ^ 63 := Nat.pow_le_pow_right (by decide) (by omega)
  rw [Int.pow_succ, IntKind.wrap_u64, ← pow_cast]
  rw [Nat.pow_succ] at h2
  omega

set_option maxRecDepth 100000 in
theorem l5Turned_any (x : Int) (j : Nat) (b : Bool) (h : small x) (ht : small (turned x j b)) (hj : j < 64) (w : World) : Calls Tryd.prog 52 #[.int .u64 x, .int .i64 j, .bool b] w fun e w' => e = .returned (.int .u64 (turned x j b)) ∧ w = w' := by
  have H := Lib.hid h
  have HT := Lib.hid ht
  by_cases hb : bitAt x j = b
  · have Hv := Lib.hid (show x = turned x j b by unfold turned; rw [if_pos hb])
    subst hb
    clear h ht
    go_enter Tryd.func52, Tryd.ntmps52
    go_wp2_with fail
    refine (l5Bit_any x j H.out (by omega) _).mono ?_
    rintro e w' ⟨rfl, rfl⟩
    go_wp2_with fail
    go_ret
    exact ⟨kit.ret_int Hv.out, rfl⟩
  · have hne : (bitAt x j == b) = false := beq_eq_false_iff_ne.2 hb
    have Hv := Lib.hid (show turned x j b = if b then x + 2 ^ j else x - 2 ^ j by unfold turned; rw [if_neg hb])
    obtain ⟨q, hq⟩ : ∃ q, bitAt x j = q := ⟨_, rfl⟩
    have Hq := Lib.hid hq
    rw [hq] at hne
    clear h ht hb hq
    go_enter Tryd.func52, Tryd.ntmps52
    go_wp2_with fail
    refine (l5Bit_any x j H.out (by omega) _).mono ?_
    rintro e w' ⟨rfl, rfl⟩
    rw [Hq.out]
    go_wp2_with fail
    go_loop [7, 8] (fun v i => ∃ k : Nat, k ≤ j ∧ i = .int .i64 k ∧ v = .int .u64 (2 ^ k)) (fun _ i => j - (intOf i).toNat)
    case atStart => exact ⟨0, by omega, rfl, by simp⟩
    case round =>
      obtain ⟨k, hk, rfl, rfl⟩ := hrel
      by_cases hlt : k < j
      · have Hh := Lib.hid (double_w k (by omega))
        go_wp2
        go_round
        case rel => exact ⟨k + 1, by omega, by go_num, by rw [Hh.out]⟩
        case measure => simp [intOf]; omega
      · obtain rfl : k = j := by omega
        cases b
        · have Hw := Lib.hid (show IntKind.u64.wrap (x - 2 ^ k) = turned x k false by
            have e : turned x k false = x - 2 ^ k := by rw [Hv.out]; rfl
            have := HT.out
            rw [e] at this ⊢
            unfold small at this
            rw [IntKind.wrap_u64]; omega)
          clear Hv
          go_wp2
          go_ret
          exact ⟨kit.ret_int Hw.out, rfl⟩
        · have Hw := Lib.hid (show IntKind.u64.wrap (x + 2 ^ k) = turned x k true by
            have e : turned x k true = x + 2 ^ k := by rw [Hv.out]; rfl
            have := HT.out
            rw [e] at this ⊢
            unfold small at this
            rw [IntKind.wrap_u64]; omega)
          clear Hv
          go_wp2
          go_ret
          exact ⟨kit.ret_int Hw.out, rfl⟩

def tru : Value → Bool | .bool b => b | _ => false
def numb : Value → Int | .int _ q => q | _ => 0
/-- A given bit. -/
def given (cs : Array Value) (j : Int) : Bool := if j = 0 then true else if j = 2 then !tru (cel cs 134) else if j = 3 then tru (cel cs 135) else if j = 4 then decide (500 ≤ numb (cel cs 133) % 1000) else false

set_option maxRecDepth 100000 in
theorem l5Given_any (cs : Array Value) (t : Int) (a b : Bool) (h1 : cs[133]? = some (.int .u32 t)) (h2 : cs[134]? = some (.bool a)) (h3 : cs[135]? = some (.bool b)) (h0 : 0 ≤ t) (j : Int) (w : World) :
    Calls Tryd.prog 45 #[.agg cs, .int .i64 j] w fun e w' => e = .returned (.bool (given cs j)) ∧ Below w.heap.size w w' := by
  have KB := Lib.hid (kit.box_new w cs 45)
  have B := Lib.hid ((Below.refl w.heap.size w).alloc (Nat.le_refl _) (.cells cs 45))
  have c1 := kit.box_cell KB.out 133 h1
  have c2 := kit.box_cell KB.out 134 h2
  have c3 := kit.box_cell KB.out 135 h3
  have g1 := cel_is h1
  have g2 := cel_is h2
  have g3 := cel_is h3
  clear h1 h2 h3
  by_cases j0 : j = 0
  · subst j0
    have Hv := Lib.hid (show true = given cs 0 from rfl)
    clear g1 g2 g3 c1 c2 c3
    go_enter Tryd.func45, Tryd.ntmps45
    go_wp2
    go_ret
    exact ⟨kit.ret_bool Hv.out, B.out⟩
  by_cases j2 : j = 2
  · subst j2
    have Hv := Lib.hid (show (!a) = given cs 2 by unfold given; rw [if_neg (by decide), if_pos rfl, g2]; rfl)
    clear g1 g2 g3 c1 c3 j0
    go_enter Tryd.func45, Tryd.ntmps45
    go_wp2
    go_ret
    exact ⟨kit.ret_bool Hv.out, B.out⟩
  by_cases j3 : j = 3
  · subst j3
    have Hv := Lib.hid (show b = given cs 3 by unfold given; rw [if_neg (by decide), if_neg (by decide), if_pos rfl, g3]; rfl)
    clear g1 g2 g3 c1 c2 j0 j2
    go_enter Tryd.func45, Tryd.ntmps45
    go_wp2
    go_ret
    exact ⟨kit.ret_bool Hv.out, B.out⟩
  by_cases j4 : j = 4
  · subst j4
    have Hv := Lib.hid (show decide (500 ≤ t % 1000) = given cs 4 by unfold given; rw [if_neg (by decide), if_neg (by decide), if_neg (by decide), if_pos rfl, g1]; rfl)
    clear g1 g2 g3 c2 c3 j0 j2 j3
    go_enter Tryd.func45, Tryd.ntmps45
    go_wp2
    go_ret
    exact ⟨kit.ret_bool Hv.out, B.out⟩
  · have Hv := Lib.hid (show false = given cs j by unfold given; rw [if_neg j0, if_neg j2, if_neg j3, if_neg j4])
    have b0 : (j == 0) = false := beq_eq_false_iff_ne.2 j0
    have b2 : (j == 2) = false := beq_eq_false_iff_ne.2 j2
    have b3 : (j == 3) = false := beq_eq_false_iff_ne.2 j3
    have b4 : (j == 4) = false := beq_eq_false_iff_ne.2 j4
    clear g1 g2 g3 c1 c2 c3 j0 j2 j3 j4
    go_enter Tryd.func45, Tryd.ntmps45
    go_wp2
    go_ret
    exact ⟨kit.ret_bool Hv.out, B.out⟩
end Go.Proofs.YtnffgafofkknoaaDoor.bitm
