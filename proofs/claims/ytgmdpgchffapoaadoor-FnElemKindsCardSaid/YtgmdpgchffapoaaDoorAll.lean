/-
  'impl.all' at 'DevIsWhole' and at 'DevIsReal', and 'impl.numbers': what they return.
  Conditions: the slice's cells hold its operands; the variables 'devSizes', 'devWords' hold what they are laid with.
-/
import Derived.Test.YtgmdpgchffapoaaDoorDevIs
import Derived.Deep.LoopGhost
namespace Go.Proofs.YtgmdpgchffapoaaDoor.dev
open Go.RowKit
set_option linter.unusedVariables false
set_option linter.unusedSimpArgs false

/-- An operand's three numbers. -/
abbrev Tri := Int × Int × Int
def zT : Tri := (0, 0, 0)
/-- The slice's cells hold the operands. -/
def Trip (w : World) (b off : Nat) (l : List Tri) : Prop := ∀ i, i < l.length → w.cell? ⟨b, off + i * 3, none⟩ = some (.int .i64 (l.getD i zT).1) ∧ w.cell? ⟨b, off + i * 3 + 1, none⟩ = some (.int .i64 (l.getD i zT).2.1) ∧ w.cell? ⟨b, off + i * 3 + 2, none⟩ = some (.int .i64 (l.getD i zT).2.2)
theorem Trip.below {w w' : World} {b off : Nat} {l : List Tri} (h : Trip w b off l) (hb : Below w.heap.size w w') : Trip w' b off l := fun j hj => ⟨cell_stays (h j hj).1 hb, cell_stays (h j hj).2.1 hb, cell_stays (h j hj).2.2 hb⟩
theorem Trip.alloc {w : World} {b off : Nat} {l : List Tri} (h : Trip w b off l) (o : Obj) : Trip (w.alloc o) b off l := h.below ((Below.refl _ _).alloc (Nat.le_refl _) _)
theorem take_succT (l : List Tri) (k : Nat) (h : k < l.length) : l.take (k + 1) = l.take k ++ [l.getD k zT] := by
  rw [List.take_succ_eq_append_getElem h]
  simp [h]


/-! ### DevIsWhole -/
def tWhole (x : Tri) : Bool := isWhole x.1 x.2.1 x.2.2
/-- The box that holds the closure's test. -/
def BoxWhole (w : World) (g : Nat) : Prop := w.cell? ⟨g, 0, none⟩ = some (.func (.func 20) #[] #[])
theorem BoxWhole.below {w w' : World} {g : Nat} (h : BoxWhole w g) (hb : Below w.heap.size w w') : BoxWhole w' g := cell_stays h hb

theorem negWhole (k n p : Int) (g : Nat) (w : World) (hg : BoxWhole w g) (hs : Sizes w) (hw : Words w) :
    Calls Tryd.prog 40 #[.agg #[.int .i64 k, .int .i64 n, .int .i64 p], .pointer (some ⟨g, 0, none⟩)] w fun e w' => e = .returned (.bool (!isWhole k n p)) ∧ Below w.heap.size w w' := by
  have Hs := Lib.hid (hs.alloc (.cells #[.int .i64 k, .int .i64 n, .int .i64 p] 31))
  have Hw := Lib.hid (hw.alloc (.cells #[.int .i64 k, .int .i64 n, .int .i64 p] 31))
  have cg : (w.alloc (.cells #[.int .i64 k, .int .i64 n, .int .i64 p] 31)).cell? ⟨g, 0, none⟩ = _ := hg.below ((Below.refl _ _).alloc (Nat.le_refl _) _)
  clear hs hw hg
  go_enter Tryd.func40, Tryd.ntmps40
  go_wp2_with fail
  refine (impl_isWhole _ _ _ _ Hs.out Hw.out).mono ?_
  rintro e w1 ⟨rfl, h1⟩
  go_wp2_with fail
  go_ret
  exact ⟨rfl, ((Below.refl _ _).alloc (Nat.le_refl _) _).trans (h1.mono (by simp))⟩

theorem indexWhole (b off c g : Nat) (l : List Tri) (w : World) (hl : l.length ≤ 100) (hr : Trip w b off l) (hg : BoxWhole w g) (hs : Sizes w) (hw : Words w) :
    Calls Tryd.prog 55 #[.slice (some ⟨b, off, none⟩) l.length c, .func (.func 40) #[] #[.pointer (some ⟨g, 0, none⟩)]] w
      fun e w' => ∃ n : Int, e = .returned (.int .i64 n) ∧ decide (0 ≤ n) = l.any (fun x => !tWhole x) ∧ Below w.heap.size w w' := by
  have Hr := Lib.hid hr
  have Hg := Lib.hid hg
  have Hs := Lib.hid hs
  have Hw := Lib.hid hw
  clear hr hg hs hw
  go_enter Tryd.func55, Tryd.ntmps55
  go_wp2
  go_loopg [5, 8] l.length (fun gg _ s8 wr => ∃ kk : Nat, kk ≤ l.length ∧ l.length - kk ≤ gg ∧ s8 = .int .i64 kk ∧ Hid (Below w.heap.size w wr) ∧ Hid ((l.take kk).any (fun x => !tWhole x) = false))
  case atStart => exact ⟨0, Nat.zero_le _, by omega, rfl, Lib.hid (Below.refl _ w), Lib.hid rfl⟩
  case round =>
    obtain ⟨kk, hkk, hgg, rfl, BW, hno⟩ := hrel
    by_cases hlt : kk < l.length
    · obtain ⟨c0, c1, c2⟩ := (Hr.out.below BW.out) kk hlt
      have ht := Lib.hid (take_succT l kk hlt)
      have hm : Hid (l.getD kk zT ∈ l) := Lib.hid (by simp [hlt])
      generalize l.getD kk zT = x at *
      have hcall := negWhole x.1 x.2.1 x.2.2 g wr (Hg.out.below BW.out) (Hs.out.below BW.out) (Hw.out.below BW.out)
      cases hq : tWhole x with
      | false =>
        have Hq := Lib.hid hq
        rw [show isWhole x.1 x.2.1 x.2.2 = false from hq] at hcall
        clear hq
        go_wp2_with fail
        refine hcall.mono ?_
        rintro e w' ⟨rfl, hb'⟩
        go_wp2_with fail
        go_ret
        refine ⟨kk, rfl, ?_, BW.out.trans (hb'.mono BW.out.size)⟩
        rw [decide_eq_true (by omega : (0 : Int) ≤ kk)]
        symm
        rw [List.any_eq_true]
        exact ⟨x, hm.out, by rw [Hq.out]; rfl⟩
      | true =>
        have Hq := Lib.hid hq
        rw [show isWhole x.1 x.2.1 x.2.2 = true from hq] at hcall
        clear hq
        go_wp2_with fail
        refine hcall.mono ?_
        rintro e w' ⟨rfl, hb'⟩
        go_wp2_with fail
        go_roundg (l.length - (kk + 1))
        case measure => omega
        case rel => exact ⟨kk + 1, by omega, by omega, by go_num, Lib.hid (BW.out.trans (hb'.mono BW.out.size)), Lib.hid (by rw [ht.out, List.any_append, hno.out]; simp [Hq.out])⟩
    · have hall := Lib.hid (List.take_of_length_le (l := l) (i := kk) (by omega))
      go_wp2
      go_ret
      refine ⟨-1, rfl, ?_, BW.out⟩
      have h1 := hno.out
      rw [hall.out] at h1
      rw [h1]
      rfl

theorem containsWhole (b off c g : Nat) (l : List Tri) (w : World) (hl : l.length ≤ 100) (hr : Trip w b off l) (hg : BoxWhole w g) (hs : Sizes w) (hw : Words w) :
    Calls Tryd.prog 39 #[.slice (some ⟨b, off, none⟩) l.length c, .func (.func 40) #[] #[.pointer (some ⟨g, 0, none⟩)]] w
      fun e w' => e = .returned (.bool (l.any (fun x => !tWhole x))) ∧ Below w.heap.size w w' := by
  have H := Lib.hid (indexWhole b off c g l w hl hr hg hs hw)
  clear hr hg hs hw
  go_enter Tryd.func39, Tryd.ntmps39
  go_wp2_with fail
  refine H.out.mono ?_
  rintro e w' ⟨n, rfl, hn, hb⟩
  have Hn := Lib.hid hn
  clear hn
  go_wp2_with fail
  go_ret
  exact ⟨kit.ret_bool Hn.out, hb⟩

theorem allWhole (b off c : Nat) (l : List Tri) (w : World) (hl : l.length ≤ 100) (hr : Trip w b off l) (hs : Sizes w) (hw : Words w) :
    Calls Tryd.prog 19 #[.slice (some ⟨b, off, none⟩) l.length c, .func (.func 20) #[] #[]] w fun e w' => e = .returned (.bool (l.all tWhole)) ∧ Below w.heap.size w w' := by
  have H := Lib.hid (containsWhole b off c w.heap.size l (w.alloc (.cells #[.func (.func 20) #[] #[]] 29)) hl (hr.alloc _) (kit.box_cell (kit.box_new w _ _) 0 rfl) (hs.alloc _) (hw.alloc _))
  clear hr hs hw
  go_enter Tryd.func19, Tryd.ntmps19
  go_wp2_with fail
  refine H.out.mono ?_
  rintro e w' ⟨rfl, hb⟩
  go_wp2_with fail
  go_ret
  refine ⟨kit.ret_bool ?_, ((Below.refl _ _).alloc (Nat.le_refl _) _).trans (hb.mono (by simp))⟩
  rw [List.not_any_eq_all_not]
  simp


/-! ### DevIsReal -/
def tReal (x : Tri) : Bool := isReal x.1 x.2.1 x.2.2
/-- The box that holds the closure's test. -/
def BoxReal (w : World) (g : Nat) : Prop := w.cell? ⟨g, 0, none⟩ = some (.func (.func 21) #[] #[])
theorem BoxReal.below {w w' : World} {g : Nat} (h : BoxReal w g) (hb : Below w.heap.size w w') : BoxReal w' g := cell_stays h hb

theorem negReal (k n p : Int) (g : Nat) (w : World) (hg : BoxReal w g) (hs : Sizes w) (hw : Words w) :
    Calls Tryd.prog 40 #[.agg #[.int .i64 k, .int .i64 n, .int .i64 p], .pointer (some ⟨g, 0, none⟩)] w fun e w' => e = .returned (.bool (!isReal k n p)) ∧ Below w.heap.size w w' := by
  have Hs := Lib.hid (hs.alloc (.cells #[.int .i64 k, .int .i64 n, .int .i64 p] 31))
  have Hw := Lib.hid (hw.alloc (.cells #[.int .i64 k, .int .i64 n, .int .i64 p] 31))
  have cg : (w.alloc (.cells #[.int .i64 k, .int .i64 n, .int .i64 p] 31)).cell? ⟨g, 0, none⟩ = _ := hg.below ((Below.refl _ _).alloc (Nat.le_refl _) _)
  clear hs hw hg
  go_enter Tryd.func40, Tryd.ntmps40
  go_wp2_with fail
  refine (impl_isReal _ _ _ _ Hs.out Hw.out).mono ?_
  rintro e w1 ⟨rfl, h1⟩
  go_wp2_with fail
  go_ret
  exact ⟨rfl, ((Below.refl _ _).alloc (Nat.le_refl _) _).trans (h1.mono (by simp))⟩

theorem indexReal (b off c g : Nat) (l : List Tri) (w : World) (hl : l.length ≤ 100) (hr : Trip w b off l) (hg : BoxReal w g) (hs : Sizes w) (hw : Words w) :
    Calls Tryd.prog 55 #[.slice (some ⟨b, off, none⟩) l.length c, .func (.func 40) #[] #[.pointer (some ⟨g, 0, none⟩)]] w
      fun e w' => ∃ n : Int, e = .returned (.int .i64 n) ∧ decide (0 ≤ n) = l.any (fun x => !tReal x) ∧ Below w.heap.size w w' := by
  have Hr := Lib.hid hr
  have Hg := Lib.hid hg
  have Hs := Lib.hid hs
  have Hw := Lib.hid hw
  clear hr hg hs hw
  go_enter Tryd.func55, Tryd.ntmps55
  go_wp2
  go_loopg [5, 8] l.length (fun gg _ s8 wr => ∃ kk : Nat, kk ≤ l.length ∧ l.length - kk ≤ gg ∧ s8 = .int .i64 kk ∧ Hid (Below w.heap.size w wr) ∧ Hid ((l.take kk).any (fun x => !tReal x) = false))
  case atStart => exact ⟨0, Nat.zero_le _, by omega, rfl, Lib.hid (Below.refl _ w), Lib.hid rfl⟩
  case round =>
    obtain ⟨kk, hkk, hgg, rfl, BW, hno⟩ := hrel
    by_cases hlt : kk < l.length
    · obtain ⟨c0, c1, c2⟩ := (Hr.out.below BW.out) kk hlt
      have ht := Lib.hid (take_succT l kk hlt)
      have hm : Hid (l.getD kk zT ∈ l) := Lib.hid (by simp [hlt])
      generalize l.getD kk zT = x at *
      have hcall := negReal x.1 x.2.1 x.2.2 g wr (Hg.out.below BW.out) (Hs.out.below BW.out) (Hw.out.below BW.out)
      cases hq : tReal x with
      | false =>
        have Hq := Lib.hid hq
        rw [show isReal x.1 x.2.1 x.2.2 = false from hq] at hcall
        clear hq
        go_wp2_with fail
        refine hcall.mono ?_
        rintro e w' ⟨rfl, hb'⟩
        go_wp2_with fail
        go_ret
        refine ⟨kk, rfl, ?_, BW.out.trans (hb'.mono BW.out.size)⟩
        rw [decide_eq_true (by omega : (0 : Int) ≤ kk)]
        symm
        rw [List.any_eq_true]
        exact ⟨x, hm.out, by rw [Hq.out]; rfl⟩
      | true =>
        have Hq := Lib.hid hq
        rw [show isReal x.1 x.2.1 x.2.2 = true from hq] at hcall
        clear hq
        go_wp2_with fail
        refine hcall.mono ?_
        rintro e w' ⟨rfl, hb'⟩
        go_wp2_with fail
        go_roundg (l.length - (kk + 1))
        case measure => omega
        case rel => exact ⟨kk + 1, by omega, by omega, by go_num, Lib.hid (BW.out.trans (hb'.mono BW.out.size)), Lib.hid (by rw [ht.out, List.any_append, hno.out]; simp [Hq.out])⟩
    · have hall := Lib.hid (List.take_of_length_le (l := l) (i := kk) (by omega))
      go_wp2
      go_ret
      refine ⟨-1, rfl, ?_, BW.out⟩
      have h1 := hno.out
      rw [hall.out] at h1
      rw [h1]
      rfl

theorem containsReal (b off c g : Nat) (l : List Tri) (w : World) (hl : l.length ≤ 100) (hr : Trip w b off l) (hg : BoxReal w g) (hs : Sizes w) (hw : Words w) :
    Calls Tryd.prog 39 #[.slice (some ⟨b, off, none⟩) l.length c, .func (.func 40) #[] #[.pointer (some ⟨g, 0, none⟩)]] w
      fun e w' => e = .returned (.bool (l.any (fun x => !tReal x))) ∧ Below w.heap.size w w' := by
  have H := Lib.hid (indexReal b off c g l w hl hr hg hs hw)
  clear hr hg hs hw
  go_enter Tryd.func39, Tryd.ntmps39
  go_wp2_with fail
  refine H.out.mono ?_
  rintro e w' ⟨n, rfl, hn, hb⟩
  have Hn := Lib.hid hn
  clear hn
  go_wp2_with fail
  go_ret
  exact ⟨kit.ret_bool Hn.out, hb⟩

theorem allReal (b off c : Nat) (l : List Tri) (w : World) (hl : l.length ≤ 100) (hr : Trip w b off l) (hs : Sizes w) (hw : Words w) :
    Calls Tryd.prog 19 #[.slice (some ⟨b, off, none⟩) l.length c, .func (.func 21) #[] #[]] w fun e w' => e = .returned (.bool (l.all tReal)) ∧ Below w.heap.size w w' := by
  have H := Lib.hid (containsReal b off c w.heap.size l (w.alloc (.cells #[.func (.func 21) #[] #[]] 29)) hl (hr.alloc _) (kit.box_cell (kit.box_new w _ _) 0 rfl) (hs.alloc _) (hw.alloc _))
  clear hr hs hw
  go_enter Tryd.func19, Tryd.ntmps19
  go_wp2_with fail
  refine H.out.mono ?_
  rintro e w' ⟨rfl, hb⟩
  go_wp2_with fail
  go_ret
  refine ⟨kit.ret_bool ?_, ((Below.refl _ _).alloc (Nat.le_refl _) _).trans (hb.mono (by simp))⟩
  rw [List.not_any_eq_all_not]
  simp


theorem numbers_any (b off c : Nat) (l : List Tri) (w : World) (hl : l.length ≤ 100) (hr : Trip w b off l) (hs : Sizes w) (hw : Words w) :
    Calls Tryd.prog 17 #[.slice (some ⟨b, off, none⟩) l.length c] w fun e w' => e = .returned (.bool (l.all tWhole || l.all tReal)) ∧ Below w.heap.size w w' := by
  have H1 := Lib.hid (allWhole b off c l w hl hr hs hw)
  have H2 := Lib.hid (fun (w' : World) (hb : Below w.heap.size w w') => allReal b off c l w' hl (hr.below hb) (hs.below hb) (hw.below hb))
  clear hr hs hw
  cases ha : l.all tWhole with
  | true =>
    have Ha := Lib.hid ha
    clear ha
    go_enter Tryd.func17, Tryd.ntmps17
    go_wp2_with fail
    refine H1.out.mono ?_
    rw [Ha.out]
    rintro e w' ⟨rfl, hb⟩
    go_wp2_with fail
    go_ret
    exact ⟨rfl, hb⟩
  | false =>
    have Ha := Lib.hid ha
    clear ha
    go_enter Tryd.func17, Tryd.ntmps17
    go_wp2_with fail
    refine H1.out.mono ?_
    rw [Ha.out]
    rintro e w' ⟨rfl, hb⟩
    go_wp2_with fail
    refine (H2.out _ hb).mono ?_
    rintro e w2 ⟨rfl, hb2⟩
    go_wp2_with fail
    go_ret
    exact ⟨by rw [Bool.false_or]; rfl, hb.trans (hb2.mono hb.size)⟩
end Go.Proofs.YtgmdpgchffapoaaDoor.dev
