/-
  The walk of 'FnExactCmpText': it returns true, whatever the number.
  Conditions: the listed variable holds its texts.
-/
import Derived.Test.YtpijegkmghhbhaaDoorCmp
namespace Go.Proofs.YtpijegkmghhbhaaDoor.fnExactCmpText
open Go.RowKit Go.Proofs.YtpijegkmghhbhaaDoor.dev Go.Proofs.YtpijegkmghhbhaaDoor.cmp
set_option linter.unusedVariables false
def texts : List (List UInt8) := [[], [60], [60, 61], [61], [60, 62], [62, 61], [62]]
def txt (k : Int) : ByteArray := ⟨(if 1 ≤ k ∧ k ≤ 6 then texts.getD (k - 0).toNat [] else []).toArray⟩
theorem ret_str {a b : ByteArray} (h : a = b) : Ending.returned (.string a) = .returned (.string b) := by rw [h]

theorem impl_txt (k : Int) (w : World) (hs : ∃ b off, w.cell? ⟨2, 0, none⟩ = some (.slice (some ⟨b, off, none⟩) 7 7) ∧ ∀ j, j < 7 → w.cell? ⟨b, off + j, none⟩ = some (.string ⟨(texts.getD j []).toArray⟩)) :
    Calls Tryd.prog 13 #[.int .i64 k] w fun e w' => e = .returned (.string (txt k)) ∧ w = w' := by
  obtain ⟨b, off, hc, hel⟩ := hs
  by_cases h1 : 1 ≤ k ∧ k ≤ 6
  · have hi := inB_true h1
    have he := hel (k - 0).toNat (by omega)
    have hv : Hid ((⟨(texts.getD (k - 0).toNat []).toArray⟩ : ByteArray) = txt k) := Lib.hid (by rw [txt, if_pos h1])
    obtain ⟨h1, h2⟩ := h1
    generalize (⟨(texts.getD (k - 0).toNat []).toArray⟩ : ByteArray) = v at *
    clear hel
    simp only [Int.sub_zero] at he
    go_enter Tryd.func13, Tryd.ntmps13
    go_wp2_with (go_at_call 19; refine (isCmp_any _ _).mono ?_; rintro e w' ⟨rfl, rfl⟩)
    go_ret
    exact ⟨ret_str hv.out, rfl⟩
  · have hi := inB_false h1
    have hv : Hid (ByteArray.empty = txt k) := Lib.hid (by rw [txt, if_neg h1]; rfl)
    clear hel h1
    go_enter Tryd.func13, Tryd.ntmps13
    go_wp2_with (go_at_call 19; refine (isCmp_any _ _).mono ?_; rintro e w' ⟨rfl, rfl⟩)
    go_ret
    exact ⟨ret_str hv.out, rfl⟩

set_option maxHeartbeats 4000000 in
theorem spec_txt (k : Int) (w : World) : Calls Tryd.prog 12 #[.int .i64 k] w fun e w' => e = .returned (.string (txt k)) ∧ Below w.heap.size w w' := by
  by_cases h1 : 1 ≤ k ∧ k ≤ 6
  · have hk : k = 1 ∨ k = 2 ∨ k = 3 ∨ k = 4 ∨ k = 5 ∨ k = 6 := by omega
    clear h1
    rcases hk with rfl | rfl | rfl | rfl | rfl | rfl
    all_goals
      go_enter Tryd.func12, Tryd.ntmps12
      go_wp2
      go_ret
      exact ⟨ret_str (by decide), (Below.refl _ _).alloc (Nat.le_refl _) _⟩
  · have hv : Hid (ByteArray.empty = txt k) := Lib.hid (by rw [txt, if_neg h1]; rfl)
    by_cases h2 : k < 1
    · clear h1
      go_enter Tryd.func12, Tryd.ntmps12
      go_wp2
      go_ret
      exact ⟨ret_str hv.out, Below.refl _ _⟩
    · have h3 : 6 < k := by omega
      clear h1
      go_enter Tryd.func12, Tryd.ntmps12
      go_wp2
      go_ret
      exact ⟨ret_str hv.out, Below.refl _ _⟩

theorem walk (W : World) (base : Nat) (v0 : Value) (o0 : Value.okWide Tryd.prog W .any base 3 v0) (hL : laidMetH Tryd.prog Rows.fnExactCmpTextRow.laid W) :
    Calls Tryd.prog 5 #[v0] W fun e w' => e = .returned (.bool true) ∧ Below W.heap.size W w' := by
  obtain ⟨k, rfl, _, _⟩ := kit.ok_int Tryd.underlying3 o0
  have hs := kit.laid_strs (g := 2) (L := texts) (n := "loop.example/stile/impl.cmpTexts") hL (by kernel_rfl) (List.Mem.head _) (by kernel_rfl) (by kernel_rfl) Tryd.underlying25 Tryd.underlying9 (by kernel_rfl) (by decide)
  have hs1 : Hid _ := Lib.hid hs
  clear o0 hL hs
  go_enter Tryd.func5, Tryd.ntmps5
  go_wp2_with fail
  refine (spec_txt _ _).mono ?_
  rintro e w1 ⟨rfl, h1⟩
  go_wp2_with fail
  obtain ⟨b, off, hc, hel⟩ := hs1.out
  refine (impl_txt _ _ ⟨b, off, cell_stays hc h1, fun j hj => cell_stays (hel j hj) h1⟩).mono ?_
  rintro e w' ⟨rfl, rfl⟩
  go_wp2_with fail
  go_ret
  exact ⟨rfl, h1⟩
end Go.Proofs.YtpijegkmghhbhaaDoor.fnExactCmpText
