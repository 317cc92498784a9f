/-
  'FnElemKinds': the law's walk.
  Conditions: the variables 'devSizes', 'devWords', 'coilNames' hold what they are laid with.
-/
import Derived.Test.YtgmdpgchffapoaaDoorElemHalf
import Derived.Test.YtgmdpgchffapoaaDoorKindsLaw
import Derived.Deep.QuietTactic
namespace Go.Proofs.YtgmdpgchffapoaaDoor.kit
theorem list5 {α : Type} {l : List α} (h : l.length = 5) : ∃ a b c d e, l = [a, b, c, d, e] := by
  match l, h with
  | [a, b, c, d, e], _ => exact ⟨a, b, c, d, e, rfl⟩
end Go.Proofs.YtgmdpgchffapoaaDoor.kit
namespace Go.Proofs.YtgmdpgchffapoaaDoor.fnElemKinds
open Go Go.RowKit Go.Proofs.YtgmdpgchffapoaaDoor.part Go.Proofs.YtgmdpgchffapoaaDoor.dev Go.Proofs.YtgmdpgchffapoaaDoor.draws Go.Proofs.YtgmdpgchffapoaaDoor.CutEk Go.Proofs.YtgmdpgchffapoaaDoorW.PrintWords
set_option linter.unusedVariables false
set_option linter.unusedSimpArgs false
set_option maxRecDepth 100000

set_option maxHeartbeats 8000000 in
theorem walkI (A0 : Option Addr) (l : List Int) (k0 : Nat) (W : World) (hr : ReadsInt W .u8 A0 l.length l) (hc0 : l.length ≤ k0) (hb : ∀ x ∈ l, (Lit.int .u8 x).wf = true) (hs : Sizes W) (hw : Words W) (hn : Names W) :
    Calls Tryd.prog 3 #[.slice A0 l.length k0] W fun e w' => e = .returned (.bool true) ∧ Below W.heap.size W w' := by
  have HC0 := Lib.hid (⟨hr, hc0, hb⟩ : _ ∧ _ ∧ _)
  have Hs := Lib.hid hs
  have Hw := Lib.hid hw
  have Hn := Lib.hid hn
  clear hr hc0 hb hs hw hn
  by_cases hl : l.length ≤ 1048576
  · have Hl := Lib.hid hl
    clear hl
    have hlb : decide ((l.length : Int) > 1048576) = false := decide_eq_false (by have := Hl.out; omega)
    go_enter Tryd.func3, Tryd.ntmps3
    go_wp2_with fail
    refine (draw_elem HC0.out.1 HC0.out.2.1 Hl.out HC0.out.2.2).mono ?_
    rintro e w1 ⟨op, A, c, Y, rfl, hc, hz, hC, hB⟩
    have H1 := Lib.hid (Hx.box (Hx.nil hB) #[.int .i64 op, .slice A Y.length c] 25)
    have HC1 := Lib.hid (Kd.C_alloc hC (.cells #[.int .i64 op, .slice A Y.length c] 25))
    have Hz := Lib.hid (⟨hc, hz⟩ : _ ∧ _)
    clear hc hz hC hB hlb
    rcases ha : contact op (Y.map tr) with _ | _ <;> rcases hb : coil op (Y.map tr) with _ | _
    · have KA := Lib.hid ha
      have KB := Lib.hid hb
      clear ha hb
      have c0 := H1.out.cell (g := w1.heap.size) (cs := #[.int .i64 op, .slice A Y.length c]) (by simp) 0 rfl
      have c1 := H1.out.cell (g := w1.heap.size) (cs := #[.int .i64 op, .slice A Y.length c]) (by simp) 1 rfl
      go_wp2_with fail
      refine (contactY op A c Y _ (argsat_of HC1.out) (Hs.out.below H1.out.1) (Hw.out.below H1.out.1)).mono ?_
      rw [KA.out]
      rintro e w2 ⟨rfl, h2⟩
      have H2 := Lib.hid (H1.out.below h2)
      have HC2 := Lib.hid (Kd.C_below HC1.out h2)
      clear h2 c0 c1 H1 HC1
      have c0 := H2.out.cell (g := w1.heap.size) (cs := #[.int .i64 op, .slice A Y.length c]) (by simp) 0 rfl
      have c1 := H2.out.cell (g := w1.heap.size) (cs := #[.int .i64 op, .slice A Y.length c]) (by simp) 1 rfl
      go_wp2_with fail
      refine (coilY op A c Y _ (argsat_of HC2.out) Hz.out.1 (Hs.out.below H2.out.1) (Hw.out.below H2.out.1)).mono ?_
      rw [KB.out]
      rintro e w3 ⟨rfl, h3⟩
      have H3 := Lib.hid (H2.out.below h3)
      have HC3 := Lib.hid (Kd.C_below HC2.out h3)
      clear h3 c0 c1 H2 HC2
      have c0 := H3.out.cell (g := w1.heap.size) (cs := #[.int .i64 op, .slice A Y.length c]) (by simp) 0 rfl
      have c1 := H3.out.cell (g := w1.heap.size) (cs := #[.int .i64 op, .slice A Y.length c]) (by simp) 1 rfl
      go_wp2_with fail
      refine (sconY op A c Y _ (argsat_of HC3.out)).mono ?_
      rw [KA.out]
      rintro e w4 ⟨rfl, h4⟩
      have H4 := Lib.hid (H3.out.below h4)
      have HC4 := Lib.hid (Kd.C_below HC3.out h4)
      clear h4 c0 c1 H3 HC3
      have c0 := H4.out.cell (g := w1.heap.size) (cs := #[.int .i64 op, .slice A Y.length c]) (by simp) 0 rfl
      have c1 := H4.out.cell (g := w1.heap.size) (cs := #[.int .i64 op, .slice A Y.length c]) (by simp) 1 rfl
      go_wp2_with fail
      refine (scoilY op A c Y _ (argsat_of HC4.out)).mono ?_
      rw [KB.out]
      rintro e w5 ⟨rfl, h5⟩
      have H5 := Lib.hid (H4.out.below h5)
      have HC5 := Lib.hid (Kd.C_below HC4.out h5)
      clear h5 c0 c1 H4 HC4
      have c0 := H5.out.cell (g := w1.heap.size) (cs := #[.int .i64 op, .slice A Y.length c]) (by simp) 0 rfl
      have c1 := H5.out.cell (g := w1.heap.size) (cs := #[.int .i64 op, .slice A Y.length c]) (by simp) 1 rfl
      go_wp2_with fail
      refine (notext op A c Y _ (argsat_of HC5.out) Hz.out.1 (Hs.out.below H5.out.1) (Hw.out.below H5.out.1) KA.out KB.out).mono ?_
      rintro e w6 ⟨rfl, h6⟩
      have H6 := Lib.hid (H5.out.below h6)
      clear h6 c0 c1 H5 HC5
      go_wp2_with fail
      go_ret
      exact ⟨rfl, H6.out.1⟩
    · have KA := Lib.hid ha
      have KB := Lib.hid hb
      clear ha hb
      have c0 := H1.out.cell (g := w1.heap.size) (cs := #[.int .i64 op, .slice A Y.length c]) (by simp) 0 rfl
      have c1 := H1.out.cell (g := w1.heap.size) (cs := #[.int .i64 op, .slice A Y.length c]) (by simp) 1 rfl
      go_wp2_with fail
      refine (contactY op A c Y _ (argsat_of HC1.out) (Hs.out.below H1.out.1) (Hw.out.below H1.out.1)).mono ?_
      rw [KA.out]
      rintro e w2 ⟨rfl, h2⟩
      have H2 := Lib.hid (H1.out.below h2)
      have HC2 := Lib.hid (Kd.C_below HC1.out h2)
      clear h2 c0 c1 H1 HC1
      have c0 := H2.out.cell (g := w1.heap.size) (cs := #[.int .i64 op, .slice A Y.length c]) (by simp) 0 rfl
      have c1 := H2.out.cell (g := w1.heap.size) (cs := #[.int .i64 op, .slice A Y.length c]) (by simp) 1 rfl
      go_wp2_with fail
      refine (coilY op A c Y _ (argsat_of HC2.out) Hz.out.1 (Hs.out.below H2.out.1) (Hw.out.below H2.out.1)).mono ?_
      rw [KB.out]
      rintro e w3 ⟨rfl, h3⟩
      have H3 := Lib.hid (H2.out.below h3)
      have HC3 := Lib.hid (Kd.C_below HC2.out h3)
      clear h3 c0 c1 H2 HC2
      have c0 := H3.out.cell (g := w1.heap.size) (cs := #[.int .i64 op, .slice A Y.length c]) (by simp) 0 rfl
      have c1 := H3.out.cell (g := w1.heap.size) (cs := #[.int .i64 op, .slice A Y.length c]) (by simp) 1 rfl
      go_wp2_with fail
      refine (sconY op A c Y _ (argsat_of HC3.out)).mono ?_
      rw [KA.out]
      rintro e w4 ⟨rfl, h4⟩
      have H4 := Lib.hid (H3.out.below h4)
      have HC4 := Lib.hid (Kd.C_below HC3.out h4)
      clear h4 c0 c1 H3 HC3
      have c0 := H4.out.cell (g := w1.heap.size) (cs := #[.int .i64 op, .slice A Y.length c]) (by simp) 0 rfl
      have c1 := H4.out.cell (g := w1.heap.size) (cs := #[.int .i64 op, .slice A Y.length c]) (by simp) 1 rfl
      go_wp2_with fail
      refine (scoilY op A c Y _ (argsat_of HC4.out)).mono ?_
      rw [KB.out]
      rintro e w5 ⟨rfl, h5⟩
      have H5 := Lib.hid (H4.out.below h5)
      have HC5 := Lib.hid (Kd.C_below HC4.out h5)
      clear h5 c0 c1 H4 HC4
      have c0 := H5.out.cell (g := w1.heap.size) (cs := #[.int .i64 op, .slice A Y.length c]) (by simp) 0 rfl
      have c1 := H5.out.cell (g := w1.heap.size) (cs := #[.int .i64 op, .slice A Y.length c]) (by simp) 1 rfl
      obtain ⟨hop, har, hall⟩ := coil_ok KB.out
      rw [List.length_map] at har
      have Hop := Lib.hid hop
      have Har := Lib.hid har
      have Hall := Lib.hid hall
      clear hop har hall
      go_wp2_with fail
      go_loopg [6] 6 (fun gg s6 wr => ∃ kk : Nat, kk ≤ Y.length ∧ 6 - kk ≤ gg ∧ s6 = .int .i64 kk ∧ Hid (Hx W [(w1.heap.size, #[.int .i64 op, .slice A Y.length c])] wr) ∧ Hid (Kd.C k31 wr A Y.length Y))
      case atStart => exact ⟨0, Nat.zero_le _, by omega, rfl, H5, HC5⟩
      case round =>
        clear c0 c1 H5 HC5
        obtain ⟨kk, hk1, hgg, rfl, H6, HC6⟩ := hrel
        have c0 := H6.out.cell (g := w1.heap.size) (cs := #[.int .i64 op, .slice A Y.length c]) (by simp) 0 rfl
        have c1 := H6.out.cell (g := w1.heap.size) (cs := #[.int .i64 op, .slice A Y.length c]) (by simp) 1 rfl
        by_cases hlt : kk < Y.length
        · obtain ⟨ad, e, y0, y1, y2⟩ := at_T31 HC6.out (kk : Int) (by omega) (by omega)
          subst e
          have hd : Hid (dok (rd_T31 Y (kk : Int)).f0 (rd_T31 Y (kk : Int)).f1 (rd_T31 Y (kk : Int)).f2 = true) := Lib.hid (by
            have hm : rd_T31 Y (kk : Int) ∈ Y := by
              show Y.getD (kk : Int).toNat z31 ∈ Y
              rw [Int.toNat_natCast, List.getD_eq_getElem?_getD, List.getElem?_eq_getElem hlt]
              exact List.getElem_mem _
            exact List.all_eq_true.1 Hall.out (tr _) (List.mem_map_of_mem hm))
          generalize rd_T31 Y (kk : Int) = y at *
          rw [Int.toNat_natCast] at y0 y1 y2
          go_wp2_with fail
          refine (impl_dok y.f0 y.f1 y.f2 _ (Hs.out.below H6.out.1) (Hw.out.below H6.out.1)).mono ?_
          rw [hd.out]
          rintro e w7 ⟨rfl, h7⟩
          have H7 := Lib.hid (H6.out.below h7)
          have HC7 := Lib.hid (Kd.C_below HC6.out h7)
          clear h7 c0 c1 y0 y1 y2 H6 HC6
          go_wp2_with fail
          go_roundg (6 - (kk + 1))
          case measure => have := Hz.out.2; omega
          case rel => exact ⟨kk + 1, by omega, Nat.le_refl _, (by rw [draws.w64 ((kk : Int) + 1) (by have := Hz.out.2; omega)]; rfl), H7, HC7⟩
        · go_wp2_with fail
          have e1 : ((Y.length : Int) == arity op) = true := beq_iff_eq.2 Har.out
          have Hn6 := Lib.hid (Hn.out.below H6.out.1)
          obtain ⟨S, hS⟩ : ∃ S, cname op = S := ⟨_, rfl⟩
          have hne : S.toList.isEmpty = false := hS ▸ cname_in op Hop.out
          have hname : ∀ m, Calls Tryd.prog 12 #[.int .i64 op] (wr.drewN m) fun e w'' => e = .returned (.string S) ∧ ∃ n, w'' = wr.drewN n := fun m => (name_any op (wr.drewN m) (Hn6.out.below ⟨rfl, rfl, rfl, Nat.le_refl _, fun _ _ => rfl⟩)).mono fun e w' ⟨a, b⟩ => ⟨by rw [a, hS], m, b.symm⟩
          have harity : ∀ m, Calls Tryd.prog 11 #[.int .i64 op] (wr.drewN m) fun e w'' => e = .returned (.int .i64 (arity op)) ∧ ∃ n, w'' = wr.drewN n := fun m => (arity_same op (wr.drewN m)).mono fun e w' ⟨a, b⟩ => ⟨a, m, b.symm⟩
          go_quiet (first | exact harity _ | exact hname _)
          go_wp2_with fail
          go_ret
          exact ⟨rfl, H6.out.1.trans ⟨rfl, rfl, rfl, Nat.le_refl _, fun _ _ => rfl⟩⟩
    · have KA := Lib.hid ha
      have KB := Lib.hid hb
      clear ha hb
      have c0 := H1.out.cell (g := w1.heap.size) (cs := #[.int .i64 op, .slice A Y.length c]) (by simp) 0 rfl
      have c1 := H1.out.cell (g := w1.heap.size) (cs := #[.int .i64 op, .slice A Y.length c]) (by simp) 1 rfl
      go_wp2_with fail
      refine (contactY op A c Y _ (argsat_of HC1.out) (Hs.out.below H1.out.1) (Hw.out.below H1.out.1)).mono ?_
      rw [KA.out]
      rintro e w2 ⟨rfl, h2⟩
      have H2 := Lib.hid (H1.out.below h2)
      have HC2 := Lib.hid (Kd.C_below HC1.out h2)
      clear h2 c0 c1 H1 HC1
      have c0 := H2.out.cell (g := w1.heap.size) (cs := #[.int .i64 op, .slice A Y.length c]) (by simp) 0 rfl
      have c1 := H2.out.cell (g := w1.heap.size) (cs := #[.int .i64 op, .slice A Y.length c]) (by simp) 1 rfl
      go_wp2_with fail
      refine (coilY op A c Y _ (argsat_of HC2.out) Hz.out.1 (Hs.out.below H2.out.1) (Hw.out.below H2.out.1)).mono ?_
      rw [KB.out]
      rintro e w3 ⟨rfl, h3⟩
      have H3 := Lib.hid (H2.out.below h3)
      have HC3 := Lib.hid (Kd.C_below HC2.out h3)
      clear h3 c0 c1 H2 HC2
      have c0 := H3.out.cell (g := w1.heap.size) (cs := #[.int .i64 op, .slice A Y.length c]) (by simp) 0 rfl
      have c1 := H3.out.cell (g := w1.heap.size) (cs := #[.int .i64 op, .slice A Y.length c]) (by simp) 1 rfl
      go_wp2_with fail
      refine (sconY op A c Y _ (argsat_of HC3.out)).mono ?_
      rw [KA.out]
      rintro e w4 ⟨rfl, h4⟩
      have H4 := Lib.hid (H3.out.below h4)
      have HC4 := Lib.hid (Kd.C_below HC3.out h4)
      clear h4 c0 c1 H3 HC3
      have c0 := H4.out.cell (g := w1.heap.size) (cs := #[.int .i64 op, .slice A Y.length c]) (by simp) 0 rfl
      have c1 := H4.out.cell (g := w1.heap.size) (cs := #[.int .i64 op, .slice A Y.length c]) (by simp) 1 rfl
      go_wp2_with fail
      refine (scoilY op A c Y _ (argsat_of HC4.out)).mono ?_
      rw [KB.out]
      rintro e w5 ⟨rfl, h5⟩
      have H5 := Lib.hid (H4.out.below h5)
      have HC5 := Lib.hid (Kd.C_below HC4.out h5)
      clear h5 c0 c1 H4 HC4
      have c0 := H5.out.cell (g := w1.heap.size) (cs := #[.int .i64 op, .slice A Y.length c]) (by simp) 0 rfl
      have c1 := H5.out.cell (g := w1.heap.size) (cs := #[.int .i64 op, .slice A Y.length c]) (by simp) 1 rfl
      obtain ⟨hop, har, hall⟩ := contact_ok KA.out
      rw [List.length_map] at har
      have Hop := Lib.hid hop
      have Har := Lib.hid har
      have Hall := Lib.hid hall
      clear hop har hall
      go_wp2_with fail
      go_loopg [6] 6 (fun gg s6 wr => ∃ kk : Nat, kk ≤ Y.length ∧ 6 - kk ≤ gg ∧ s6 = .int .i64 kk ∧ Hid (Hx W [(w1.heap.size, #[.int .i64 op, .slice A Y.length c])] wr) ∧ Hid (Kd.C k31 wr A Y.length Y))
      case atStart => exact ⟨0, Nat.zero_le _, by omega, rfl, H5, HC5⟩
      case round =>
        clear c0 c1 H5 HC5
        obtain ⟨kk, hk1, hgg, rfl, H6, HC6⟩ := hrel
        have c0 := H6.out.cell (g := w1.heap.size) (cs := #[.int .i64 op, .slice A Y.length c]) (by simp) 0 rfl
        have c1 := H6.out.cell (g := w1.heap.size) (cs := #[.int .i64 op, .slice A Y.length c]) (by simp) 1 rfl
        by_cases hlt : kk < Y.length
        · obtain ⟨ad, e, y0, y1, y2⟩ := at_T31 HC6.out (kk : Int) (by omega) (by omega)
          subst e
          have hd : Hid (dok (rd_T31 Y (kk : Int)).f0 (rd_T31 Y (kk : Int)).f1 (rd_T31 Y (kk : Int)).f2 = true) := Lib.hid (by
            have hm : rd_T31 Y (kk : Int) ∈ Y := by
              show Y.getD (kk : Int).toNat z31 ∈ Y
              rw [Int.toNat_natCast, List.getD_eq_getElem?_getD, List.getElem?_eq_getElem hlt]
              exact List.getElem_mem _
            exact List.all_eq_true.1 Hall.out (tr _) (List.mem_map_of_mem hm))
          generalize rd_T31 Y (kk : Int) = y at *
          rw [Int.toNat_natCast] at y0 y1 y2
          go_wp2_with fail
          refine (impl_dok y.f0 y.f1 y.f2 _ (Hs.out.below H6.out.1) (Hw.out.below H6.out.1)).mono ?_
          rw [hd.out]
          rintro e w7 ⟨rfl, h7⟩
          have H7 := Lib.hid (H6.out.below h7)
          have HC7 := Lib.hid (Kd.C_below HC6.out h7)
          clear h7 c0 c1 y0 y1 y2 H6 HC6
          go_wp2_with fail
          go_roundg (6 - (kk + 1))
          case measure => have := Hz.out.2; omega
          case rel => exact ⟨kk + 1, by omega, Nat.le_refl _, (by rw [draws.w64 ((kk : Int) + 1) (by have := Hz.out.2; omega)]; rfl), H7, HC7⟩
        · go_wp2_with fail
          have e1 : ((Y.length : Int) == arity op) = true := beq_iff_eq.2 Har.out
          have Hn6 := Lib.hid (Hn.out.below H6.out.1)
          obtain ⟨S, hS⟩ : ∃ S, cname op = S := ⟨_, rfl⟩
          have hne : S = ⟨#[]⟩ := by rw [← hS]; exact cname_out op (by have := Hop.out; omega)
          subst hne
          have hname : ∀ m, Calls Tryd.prog 12 #[.int .i64 op] (wr.drewN m) fun e w'' => e = .returned (.string ⟨#[]⟩) ∧ ∃ n, w'' = wr.drewN n := fun m => (name_any op (wr.drewN m) (Hn6.out.below ⟨rfl, rfl, rfl, Nat.le_refl _, fun _ _ => rfl⟩)).mono fun e w' ⟨a, b⟩ => ⟨by rw [a, hS], m, b.symm⟩
          have harity : ∀ m, Calls Tryd.prog 11 #[.int .i64 op] (wr.drewN m) fun e w'' => e = .returned (.int .i64 (arity op)) ∧ ∃ n, w'' = wr.drewN n := fun m => (arity_same op (wr.drewN m)).mono fun e w' ⟨a, b⟩ => ⟨a, m, b.symm⟩
          go_quiet (first | exact harity _ | exact hname _)
          go_wp2_with fail
          go_ret
          exact ⟨rfl, H6.out.1.trans ⟨rfl, rfl, rfl, Nat.le_refl _, fun _ _ => rfl⟩⟩
    · exfalso
      have := (contact_ok ha).1
      have := (coil_ok hb).1
      omega
  · have hlb : decide ((l.length : Int) > 1048576) = true := decide_eq_true (by omega)
    clear hl
    go_enter Tryd.func3, Tryd.ntmps3
    go_wp2_with fail
    go_ret
    exact ⟨rfl, Below.refl _ _⟩
theorem walk (W : World) (base : Nat) (v0 : Value) (o0 : Value.okWide Tryd.prog W .any base 22 v0) (b0 : kit.Bytes W v0) (hL : laidMetH Tryd.prog Rows.fnElemKindsRow.laid W) :
    Calls Tryd.prog 3 #[v0] W fun e w' => e = .returned (.bool true) ∧ Below W.heap.size W w' := by
  have hs : Sizes W := kit.laid_ints (zs := sizes) (k := .i64) (n := "loop.example/stile/impl.devSizes") hL (by kernel_rfl) (by repeat (first | exact List.Mem.head _ | apply List.Mem.tail)) (by kernel_rfl) (by kernel_rfl) Tryd.underlying48 Tryd.underlying3 (by kernel_rfl) (by decide)
  have hw : Words W := by
    obtain ⟨b, off, hc, _⟩ := kit.laid_strs (g := 0) (L := [[110, 97, 110], [105, 110, 102], [45, 105, 110, 102], [45, 48, 46, 48]]) (n := "loop.example/stile/impl.devWords") hL (by kernel_rfl) (by repeat (first | exact List.Mem.head _ | apply List.Mem.tail)) (by kernel_rfl) (by kernel_rfl) Tryd.underlying41 Tryd.underlying9 (by kernel_rfl) (by decide)
    exact ⟨b, off, hc⟩
  have hn : Names W := kit.laid_strs (g := 1) (L := cnames) (n := "loop.example/stile/impl.coilNames") hL (by kernel_rfl) (by repeat (first | exact List.Mem.head _ | apply List.Mem.tail)) (by kernel_rfl) (by kernel_rfl) Tryd.underlying41 Tryd.underlying9 (by kernel_rfl) (by decide)
  obtain ⟨A, n, cap, zs, rfl, hrow, hsz⟩ := b0
  obtain ⟨l, rfl, hr, hm, hwf, hcap⟩ := ReadsInt.ofRowC hrow
  exact walkI A l cap W hr hcap hwf hs hw hn
end Go.Proofs.YtgmdpgchffapoaaDoor.fnElemKinds
