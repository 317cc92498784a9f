/-
  'slices.Contains' at []int, and '(DevArg).kindIs': what they return.
  Conditions: the slice's cells hold its numbers.
-/
import Derived.Test.YtgmdpgchffapoaaDoorDevOk
namespace Go.Proofs.YtgmdpgchffapoaaDoor.dev
open Go.RowKit
set_option linter.unusedVariables false
set_option linter.unusedSimpArgs false

/-- The slice's cells hold the numbers. -/
def Row (w : World) (b off : Nat) (zs : List Int) : Prop := ∀ j, j < zs.length → w.cell? ⟨b, off + j, none⟩ = some (.int .i64 (zs.getD j 0))
theorem Row.below {w w' : World} {b off : Nat} {zs : List Int} (h : Row w b off zs) (hb : Below w.heap.size w w') : Row w' b off zs := fun j hj => cell_stays (h j hj) hb

theorem take_succ (zs : List Int) (k : Nat) (h : k < zs.length) : zs.take (k + 1) = zs.take k ++ [zs.getD k 0] := by
  rw [List.take_succ_eq_append_getElem h]
  simp [h]

def has (zs : List Int) (v : Int) : Bool := zs.contains v
/-- What 'slices.Index' returns: 0 or more just if the number is among them. -/
def Found (zs : List Int) (v : Int) (w : World) (e : Ending) (w' : World) : Prop := ∃ n : Int, e = .returned (.int .i64 n) ∧ decide (0 ≤ n) = has zs v ∧ w = w'

theorem index_any (b off : Nat) (zs : List Int) (v : Int) (w : World) (hl : zs.length ≤ 100) (hr : Row w b off zs) :
    Calls Tryd.prog 54 #[.slice (some ⟨b, off, none⟩) zs.length zs.length, .int .i64 v] w (Found zs v w) := by
  have Hr := Lib.hid hr
  clear hr
  go_enter Tryd.func54, Tryd.ntmps54
  go_wp2
  go_loop [8] (fun i => ∃ k : Nat, k ≤ zs.length ∧ i = .int .i64 k ∧ Hid ((zs.take k).contains v = false)) (fun i => zs.length - (intOf i).toNat)
  case atStart => exact ⟨0, Nat.zero_le _, rfl, Lib.hid rfl⟩
  case round =>
    obtain ⟨k, hk, rfl, hno⟩ := hrel
    by_cases hlt : k < zs.length
    · have hc := Hr.out k hlt
      have hs := Lib.hid (take_succ zs k hlt)
      have hg : Hid (zs.getD k 0 ∈ zs) := Lib.hid (by simp [hlt])
      generalize zs.getD k 0 = z at *
      by_cases he : v = z
      · have hb : (v == z) = true := beq_iff_eq.2 he
        have He := Lib.hid he
        clear he
        go_wp2
        go_ret
        refine ⟨k, rfl, ?_, rfl⟩
        rw [decide_eq_true (by omega : (0 : Int) ≤ k)]
        symm
        unfold has
        rw [List.contains_iff_mem, He.out]
        exact hg.out
      · have hb : (v == z) = false := beq_eq_false_iff_ne.2 he
        have He := Lib.hid he
        clear he
        go_wp2
        go_round
        case rel => exact ⟨k + 1, by omega, by go_num, Lib.hid (by rw [hs.out, List.contains_append, hno.out]; simpa using He.out)⟩
        case measure => simp [intOf]; omega
    · have hall := Lib.hid (List.take_of_length_le (l := zs) (i := k) (by omega))
      go_wp2
      go_ret
      refine ⟨-1, rfl, ?_, rfl⟩
      have h1 := hno.out
      rw [hall.out] at h1
      unfold has
      rw [h1]
      rfl

theorem contains_any (b off : Nat) (zs : List Int) (v : Int) (w : World) (hl : zs.length ≤ 100) (hr : Row w b off zs) :
    Calls Tryd.prog 38 #[.slice (some ⟨b, off, none⟩) zs.length zs.length, .int .i64 v] w fun e w' => e = .returned (.bool (has zs v)) ∧ w = w' := by
  have Hr := Lib.hid hr
  clear hr
  go_enter Tryd.func38, Tryd.ntmps38
  go_wp2_with fail
  refine (index_any _ _ _ _ _ hl Hr.out).mono ?_
  rintro e w' ⟨n, rfl, hn, rfl⟩
  have Hn := Lib.hid hn
  clear hn
  go_wp2
  go_ret
  exact ⟨kit.ret_bool Hn.out, rfl⟩

def kis (k n p : Int) (zs : List Int) : Bool := dok k n p && has zs k
theorem kindIs_any (k n p : Int) (b off : Nat) (zs : List Int) (w : World) (hl : zs.length ≤ 100) (hr : Row w b off zs) (hs : Sizes w) (hw : Words w) :
    Calls Tryd.prog 16 #[.agg #[.int .i64 k, .int .i64 n, .int .i64 p], .slice (some ⟨b, off, none⟩) zs.length zs.length] w fun e w' => e = .returned (.bool (kis k n p zs)) ∧ Below w.heap.size w w' := by
  have Hr := Lib.hid hr
  have Hs := Lib.hid hs
  have Hw := Lib.hid hw
  clear hr hs hw
  have hdk : ∃ d, dok k n p = d := ⟨_, rfl⟩
  obtain ⟨d, hdk⟩ := hdk
  go_enter Tryd.func16, Tryd.ntmps16
  go_wp2_with fail
  refine (impl_dok _ _ _ _ (Hs.out.alloc _) (Hw.out.alloc _)).mono ?_
  rintro e w1 ⟨rfl, h1⟩
  have k1 := kit.box_keep (kit.box_new w _ _) h1 (by simp)
  have c0 := kit.box_cell k1 0 rfl
  have Hr1 := Lib.hid ((Hr.out.below ((Below.refl _ _).alloc (Nat.le_refl _) _)).below h1)
  have Hd := Lib.hid hdk
  cases d with
  | false =>
    go_wp2_with fail
    go_ret
    exact ⟨kit.ret_bool (by rw [kis, Hd.out]; rfl), ((Below.refl _ _).alloc (Nat.le_refl _) _).trans (h1.mono (by simp))⟩
  | true =>
    go_wp2_with fail
    refine (contains_any _ _ _ _ _ hl Hr1.out).mono ?_
    rintro e w2 ⟨rfl, rfl⟩
    go_wp2_with fail
    go_ret
    exact ⟨kit.ret_bool (by rw [kis, Hd.out]; rfl), ((Below.refl _ _).alloc (Nat.le_refl _) _).trans (h1.mono (by simp))⟩
end Go.Proofs.YtgmdpgchffapoaaDoor.dev
