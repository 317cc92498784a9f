/-
  'impl.ElemIsCoil', 'spec.ElemIsCoil': what they return.
  Conditions: the operands' cells hold them; for the first, the variables 'devSizes', 'devWords' hold what they are laid with.
-/
import Derived.Test.YtgmdpgchffapoaaDoorElemM
import Derived.Test.YtgmdpgchffapoaaDoorElemN
import Derived.Test.YtgmdpgchffapoaaDoorElemO
import Derived.Test.YtgmdpgchffapoaaDoorElemP
import Derived.Test.YtgmdpgchffapoaaDoorElemR
import Derived.Test.YtgmdpgchffapoaaDoorElemS
namespace Go.Proofs.YtgmdpgchffapoaaDoor.dev
open Go Go.RowKit Go.Proofs.YtgmdpgchffapoaaDoor.part
set_option linter.unusedVariables false
set_option linter.unusedSimpArgs false

def armB (op : Int) (l : List Tri) : Bool :=
  if op = 21 then tKis (l.getD 0 zT) [2, 3] else if op = 22 then tKis (l.getD 0 zT) [2, 3, 4] else if op = 23 then tKis (l.getD 0 zT) [2, 3, 4, 7, 8]
  else if op = 24 then tKis (l.getD 0 zT) [2, 3] && tKis (l.getD 1 zT) [5] else if op = 25 then tKis (l.getD 0 zT) [4]
  else if op ≤ 28 then tKis (l.getD 0 zT) [7] && preset (l.getD 1 zT) else if op = 29 then tKis (l.getD 0 zT) [8] && preset (l.getD 1 zT)
  else if op = 36 then tKis (l.getD 0 zT) [10] && tWhole (l.getD 1 zT) else if op = 37 then tKis (l.getD 0 zT) [9] && tReal (l.getD 1 zT)
  else if op = 35 then tKis (l.getD 0 zT) [9] && (l.drop 1).all tWhole
  else tKis (l.getD 0 zT) [9] && (l.drop 1).all tWhole || tKis (l.getD 0 zT) [10] && (l.drop 1).all tReal
def coil (op : Int) (l : List Tri) : Bool := inB op 21 37 && decide ((l.length : Int) = arity op) && armB op l
theorem coil_out_f {op : Int} (l : List Tri) (h : inB op 21 37 = false) : coil op l = false := by unfold coil; rw [h]; rfl
theorem coil_len_f {op : Int} (l : List Tri) (h : ¬ (l.length : Int) = arity op) : coil op l = false := by unfold coil; rw [decide_eq_false h, Bool.and_false]; rfl
theorem coil_in_f {op : Int} (l : List Tri) (h : inB op 21 37 = true) (h2 : (l.length : Int) = arity op) : coil op l = armB op l := by unfold coil; rw [h, decide_eq_true h2]; rfl
theorem kis1 (x : Tri) (a : Int) : tKis x [a, a] = tKis x [a] := by rw [kis2]; cases tKis x [a] <;> rfl
theorem argsat_off {W : World} {A : Option Addr} {x : Tri} {l : List Tri} (h : Argsat W A (x :: l)) : ∃ b off, A = some ⟨b, off, none⟩ ∧ Trip W b off (x :: l) := by
  rcases h with h | h
  · cases h
  · exact h


theorem coil_any (op : Int) (A : Option Addr) (c : Nat) (l : List Tri) (W : World) (hA : Argsat W A l) (hc : l.length ≤ c) (hs : Sizes W) (hw : Words W) :
    Calls Tryd.prog 6 #[.agg #[.int .i64 op, .slice A l.length c]] W fun e w' => e = .returned (.bool (coil op l)) ∧ Below W.heap.size W w' := by
  cases hin : inB op 21 37 with
  | false => rw [coil_out_f l hin]; exact coil_out op l.length A c W hin hs hw
  | true =>
    by_cases hne : (l.length : Int) = arity op
    · rw [coil_in_f l hin hne]
      have hop := of_decide_eq_true hin
      have hop : op = 21 ∨ op = 22 ∨ op = 23 ∨ op = 24 ∨ op = 25 ∨ op = 26 ∨ op = 27 ∨ op = 28 ∨ op = 29 ∨ op = 30 ∨ op = 31 ∨ op = 32 ∨ op = 33 ∨ op = 34 ∨ op = 35 ∨ op = 36 ∨ op = 37 := by omega
      rcases hop with rfl | rfl | rfl | rfl | rfl | rfl | rfl | rfl | rfl | rfl | rfl | rfl | rfl | rfl | rfl | rfl | rfl
      · obtain ⟨x, rfl⟩ := kit.list1 (l := l) (by have e : arity 21 = 1 := (by decide); rw [e] at hne; omega)
        obtain ⟨b, off, rfl, hT⟩ := argsat_off hA
        exact coil_21 x b off c W hT hc hs hw
      · obtain ⟨x, rfl⟩ := kit.list1 (l := l) (by have e : arity 22 = 1 := (by decide); rw [e] at hne; omega)
        obtain ⟨b, off, rfl, hT⟩ := argsat_off hA
        exact coil_22 x b off c W hT hc hs hw
      · obtain ⟨x, rfl⟩ := kit.list1 (l := l) (by have e : arity 23 = 1 := (by decide); rw [e] at hne; omega)
        obtain ⟨b, off, rfl, hT⟩ := argsat_off hA
        exact coil_23 x b off c W hT hc hs hw
      · obtain ⟨x, y, rfl⟩ := kit.list2 (l := l) (by have e : arity 24 = 2 := (by decide); rw [e] at hne; omega)
        obtain ⟨b, off, rfl, hT⟩ := argsat_off hA
        exact coil_24 x y b off c W hT hc hs hw
      · obtain ⟨x, rfl⟩ := kit.list1 (l := l) (by have e : arity 25 = 1 := (by decide); rw [e] at hne; omega)
        obtain ⟨b, off, rfl, hT⟩ := argsat_off hA
        exact coil_25 x b off c W hT hc hs hw
      · obtain ⟨x, y, rfl⟩ := kit.list2 (l := l) (by have e : arity 26 = 2 := (by decide); rw [e] at hne; omega)
        obtain ⟨b, off, rfl, hT⟩ := argsat_off hA
        exact coil_26 x y b off c W hT hc hs hw
      · obtain ⟨x, y, rfl⟩ := kit.list2 (l := l) (by have e : arity 27 = 2 := (by decide); rw [e] at hne; omega)
        obtain ⟨b, off, rfl, hT⟩ := argsat_off hA
        exact coil_27 x y b off c W hT hc hs hw
      · obtain ⟨x, y, rfl⟩ := kit.list2 (l := l) (by have e : arity 28 = 2 := (by decide); rw [e] at hne; omega)
        obtain ⟨b, off, rfl, hT⟩ := argsat_off hA
        exact coil_28 x y b off c W hT hc hs hw
      · obtain ⟨x, y, rfl⟩ := kit.list2 (l := l) (by have e : arity 29 = 2 := (by decide); rw [e] at hne; omega)
        obtain ⟨b, off, rfl, hT⟩ := argsat_off hA
        exact coil_29 x y b off c W hT hc hs hw
      · obtain ⟨x, y, rfl⟩ := kit.list2 (l := l) (by have e : arity 30 = 2 := (by decide); rw [e] at hne; omega)
        obtain ⟨b, off, rfl, hT⟩ := argsat_off hA
        exact coil_30 x y b off c W hT hc hs hw
      · obtain ⟨x, y, z, rfl⟩ := kit.list3 (l := l) (by have e : arity 31 = 3 := (by decide); rw [e] at hne; omega)
        obtain ⟨b, off, rfl, hT⟩ := argsat_off hA
        exact coil_31 x y z b off c W hT hc hs hw
      · obtain ⟨x, y, z, rfl⟩ := kit.list3 (l := l) (by have e : arity 32 = 3 := (by decide); rw [e] at hne; omega)
        obtain ⟨b, off, rfl, hT⟩ := argsat_off hA
        exact coil_32 x y z b off c W hT hc hs hw
      · obtain ⟨x, y, z, rfl⟩ := kit.list3 (l := l) (by have e : arity 33 = 3 := (by decide); rw [e] at hne; omega)
        obtain ⟨b, off, rfl, hT⟩ := argsat_off hA
        exact coil_33 x y z b off c W hT hc hs hw
      · obtain ⟨x, y, z, rfl⟩ := kit.list3 (l := l) (by have e : arity 34 = 3 := (by decide); rw [e] at hne; omega)
        obtain ⟨b, off, rfl, hT⟩ := argsat_off hA
        exact coil_34 x y z b off c W hT hc hs hw
      · obtain ⟨x, y, z, rfl⟩ := kit.list3 (l := l) (by have e : arity 35 = 3 := (by decide); rw [e] at hne; omega)
        obtain ⟨b, off, rfl, hT⟩ := argsat_off hA
        exact coil_35 x y z b off c W hT hc hs hw
      · obtain ⟨x, y, rfl⟩ := kit.list2 (l := l) (by have e : arity 36 = 2 := (by decide); rw [e] at hne; omega)
        obtain ⟨b, off, rfl, hT⟩ := argsat_off hA
        exact coil_36 x y b off c W hT hc hs hw
      · obtain ⟨x, y, rfl⟩ := kit.list2 (l := l) (by have e : arity 37 = 2 := (by decide); rw [e] at hne; omega)
        obtain ⟨b, off, rfl, hT⟩ := argsat_off hA
        exact coil_37 x y b off c W hT hc hs hw
    · rw [coil_len_f l hne]
      exact coil_len op l.length A c W hin hne hs hw
theorem scoil_any (op : Int) (A : Option Addr) (c : Nat) (l : List Tri) (W : World) (hA : Argsat W A l) :
    Calls Tryd.prog 8 #[.agg #[.int .i64 op, .slice A l.length c]] W fun e w' => e = .returned (.bool (coil op l)) ∧ Below W.heap.size W w' := by
  cases hin : inB op 21 37 with
  | false =>
    rw [coil_out_f l hin]
    have hop : ¬ (21 ≤ op ∧ op ≤ 37) := of_decide_eq_false hin
    by_cases h : op < 21
    · exact scoil_lt op l.length A c W h
    · exact scoil_gt op l.length A c W (by omega) (by omega)
  | true =>
    by_cases hne : (l.length : Int) = arity op
    · rw [coil_in_f l hin hne]
      have hop := of_decide_eq_true hin
      have hop : op = 21 ∨ op = 22 ∨ op = 23 ∨ op = 24 ∨ op = 25 ∨ op = 26 ∨ op = 27 ∨ op = 28 ∨ op = 29 ∨ op = 30 ∨ op = 31 ∨ op = 32 ∨ op = 33 ∨ op = 34 ∨ op = 35 ∨ op = 36 ∨ op = 37 := by omega
      rcases hop with rfl | rfl | rfl | rfl | rfl | rfl | rfl | rfl | rfl | rfl | rfl | rfl | rfl | rfl | rfl | rfl | rfl
      · obtain ⟨x, rfl⟩ := kit.list1 (l := l) (by have e : arity 21 = 1 := (by decide); rw [e] at hne; omega)
        obtain ⟨b, off, rfl, hT⟩ := argsat_off hA
        exact scoil_21 x b off c W hT
      · obtain ⟨x, rfl⟩ := kit.list1 (l := l) (by have e : arity 22 = 1 := (by decide); rw [e] at hne; omega)
        obtain ⟨b, off, rfl, hT⟩ := argsat_off hA
        have e : tKis x [2, 3, 4] = (tKis x [2, 3] || tKis x [4, 4]) := by rw [kis3, kis2, kis1]
        have h := scoil_22 x b off c W hT
        rw [← e] at h
        exact h
      · obtain ⟨x, rfl⟩ := kit.list1 (l := l) (by have e : arity 23 = 1 := (by decide); rw [e] at hne; omega)
        obtain ⟨b, off, rfl, hT⟩ := argsat_off hA
        have e : tKis x [2, 3, 4, 7, 8] = (tKis x [2, 3] || tKis x [4, 7] || tKis x [8, 8]) := by rw [kis5, kis1, kis2, kis2]; simp only [Bool.or_assoc]
        have h := scoil_23 x b off c W hT
        rw [← e] at h
        exact h
      · obtain ⟨x, y, rfl⟩ := kit.list2 (l := l) (by have e : arity 24 = 2 := (by decide); rw [e] at hne; omega)
        obtain ⟨b, off, rfl, hT⟩ := argsat_off hA
        have e : (tKis x [2, 3] && tKis y [5]) = (tKis x [2, 3] && tKis y [5, 5]) := by rw [kis1]
        have h := scoil_24 x y b off c W hT
        rw [← e] at h
        exact h
      · obtain ⟨x, rfl⟩ := kit.list1 (l := l) (by have e : arity 25 = 1 := (by decide); rw [e] at hne; omega)
        obtain ⟨b, off, rfl, hT⟩ := argsat_off hA
        have e : tKis x [4] = tKis x [4, 4] := by rw [kis1]
        have h := scoil_25 x b off c W hT
        rw [← e] at h
        exact h
      · obtain ⟨x, y, rfl⟩ := kit.list2 (l := l) (by have e : arity 26 = 2 := (by decide); rw [e] at hne; omega)
        obtain ⟨b, off, rfl, hT⟩ := argsat_off hA
        have e : (tKis x [7] && preset y) = (tKis x [7, 7] && tKis y [11, 11] && decide (0 ≤ y.2.1)) := by unfold preset; rw [kis1, kis1, Bool.and_assoc]
        have h := scoil_26 x y b off c W hT
        rw [← e] at h
        exact h
      · obtain ⟨x, y, rfl⟩ := kit.list2 (l := l) (by have e : arity 27 = 2 := (by decide); rw [e] at hne; omega)
        obtain ⟨b, off, rfl, hT⟩ := argsat_off hA
        have e : (tKis x [7] && preset y) = (tKis x [7, 7] && tKis y [11, 11] && decide (0 ≤ y.2.1)) := by unfold preset; rw [kis1, kis1, Bool.and_assoc]
        have h := scoil_27 x y b off c W hT
        rw [← e] at h
        exact h
      · obtain ⟨x, y, rfl⟩ := kit.list2 (l := l) (by have e : arity 28 = 2 := (by decide); rw [e] at hne; omega)
        obtain ⟨b, off, rfl, hT⟩ := argsat_off hA
        have e : (tKis x [7] && preset y) = (tKis x [7, 7] && tKis y [11, 11] && decide (0 ≤ y.2.1)) := by unfold preset; rw [kis1, kis1, Bool.and_assoc]
        have h := scoil_28 x y b off c W hT
        rw [← e] at h
        exact h
      · obtain ⟨x, y, rfl⟩ := kit.list2 (l := l) (by have e : arity 29 = 2 := (by decide); rw [e] at hne; omega)
        obtain ⟨b, off, rfl, hT⟩ := argsat_off hA
        have e : (tKis x [8] && preset y) = (tKis x [8, 8] && tKis y [11, 11] && decide (0 ≤ y.2.1)) := by unfold preset; rw [kis1, kis1, Bool.and_assoc]
        have h := scoil_29 x y b off c W hT
        rw [← e] at h
        exact h
      · obtain ⟨x, y, rfl⟩ := kit.list2 (l := l) (by have e : arity 30 = 2 := (by decide); rw [e] at hne; omega)
        obtain ⟨b, off, rfl, hT⟩ := argsat_off hA
        have e : (tKis x [9] && [y].all tWhole || tKis x [10] && [y].all tReal) = calcB 30 x [y] := by unfold calcB; simp
        have h := scoil_30 x y b off c W hT
        rw [← e] at h
        exact h
      · obtain ⟨x, y, z, rfl⟩ := kit.list3 (l := l) (by have e : arity 31 = 3 := (by decide); rw [e] at hne; omega)
        obtain ⟨b, off, rfl, hT⟩ := argsat_off hA
        have e : (tKis x [9] && [y, z].all tWhole || tKis x [10] && [y, z].all tReal) = calcB 31 x [y, z] := by unfold calcB; simp
        have h := scoil_31 x y z b off c W hT
        rw [← e] at h
        exact h
      · obtain ⟨x, y, z, rfl⟩ := kit.list3 (l := l) (by have e : arity 32 = 3 := (by decide); rw [e] at hne; omega)
        obtain ⟨b, off, rfl, hT⟩ := argsat_off hA
        have e : (tKis x [9] && [y, z].all tWhole || tKis x [10] && [y, z].all tReal) = calcB 32 x [y, z] := by unfold calcB; simp
        have h := scoil_32 x y z b off c W hT
        rw [← e] at h
        exact h
      · obtain ⟨x, y, z, rfl⟩ := kit.list3 (l := l) (by have e : arity 33 = 3 := (by decide); rw [e] at hne; omega)
        obtain ⟨b, off, rfl, hT⟩ := argsat_off hA
        have e : (tKis x [9] && [y, z].all tWhole || tKis x [10] && [y, z].all tReal) = calcB 33 x [y, z] := by unfold calcB; simp
        have h := scoil_33 x y z b off c W hT
        rw [← e] at h
        exact h
      · obtain ⟨x, y, z, rfl⟩ := kit.list3 (l := l) (by have e : arity 34 = 3 := (by decide); rw [e] at hne; omega)
        obtain ⟨b, off, rfl, hT⟩ := argsat_off hA
        have e : (tKis x [9] && [y, z].all tWhole || tKis x [10] && [y, z].all tReal) = calcB 34 x [y, z] := by unfold calcB; simp
        have h := scoil_34 x y z b off c W hT
        rw [← e] at h
        exact h
      · obtain ⟨x, y, z, rfl⟩ := kit.list3 (l := l) (by have e : arity 35 = 3 := (by decide); rw [e] at hne; omega)
        obtain ⟨b, off, rfl, hT⟩ := argsat_off hA
        have e : (tKis x [9] && [y, z].all tWhole) = calcB 35 x [y, z] := by unfold calcB; simp
        have h := scoil_35 x y z b off c W hT
        rw [← e] at h
        exact h
      · obtain ⟨x, y, rfl⟩ := kit.list2 (l := l) (by have e : arity 36 = 2 := (by decide); rw [e] at hne; omega)
        obtain ⟨b, off, rfl, hT⟩ := argsat_off hA
        have e : (tKis x [10] && tWhole y) = (tKis x [10, 10] && tWhole y) := by rw [kis1]
        have h := scoil_36 x y b off c W hT
        rw [← e] at h
        exact h
      · obtain ⟨x, y, rfl⟩ := kit.list2 (l := l) (by have e : arity 37 = 2 := (by decide); rw [e] at hne; omega)
        obtain ⟨b, off, rfl, hT⟩ := argsat_off hA
        have e : (tKis x [9] && tReal y) = (tKis x [9, 9] && tReal y) := by rw [kis1]
        have h := scoil_37 x y b off c W hT
        rw [← e] at h
        exact h
    · rw [coil_len_f l hne]
      have hop : 21 ≤ op ∧ op ≤ 37 := of_decide_eq_true hin
      exact scoil_len op l.length A c W hop.1 hop.2 hne
end Go.Proofs.YtgmdpgchffapoaaDoor.dev
