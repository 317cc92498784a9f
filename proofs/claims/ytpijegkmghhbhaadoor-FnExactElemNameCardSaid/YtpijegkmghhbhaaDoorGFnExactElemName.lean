/-
  The walk of 'FnExactElemName': it returns true, whatever the number.
  Conditions: the listed variable holds its texts.
-/
import Derived.Test.YtpijegkmghhbhaaDoorCmp
namespace Go.Proofs.YtpijegkmghhbhaaDoor.fnExactElemName
open Go.RowKit Go.Proofs.YtpijegkmghhbhaaDoor.dev Go.Proofs.YtpijegkmghhbhaaDoor.cmp
set_option linter.unusedVariables false
def texts : List (List UInt8) := [[111, 117, 116], [115, 101, 116], [114, 101, 115, 101, 116], [112, 117, 108, 115, 101], [115, 116, 101, 112], [116, 105, 109, 101, 114], [104, 111, 108, 100], [108, 97, 116, 101], [99, 111, 117, 110, 116], [109, 111, 118, 101], [97, 100, 100], [115, 117, 98], [109, 117, 108], [100, 105, 118], [114, 101, 109], [114, 101, 97, 108], [119, 104, 111, 108, 101]]
def txt (k : Int) : ByteArray := ⟨(if 21 ≤ k ∧ k ≤ 37 then texts.getD (k - 21).toNat [] else []).toArray⟩
theorem ret_str {a b : ByteArray} (h : a = b) : Ending.returned (.string a) = .returned (.string b) := by rw [h]

theorem impl_txt (k : Int) (w : World) (hs : ∃ b off, w.cell? ⟨0, 0, none⟩ = some (.slice (some ⟨b, off, none⟩) 17 17) ∧ ∀ j, j < 17 → w.cell? ⟨b, off + j, none⟩ = some (.string ⟨(texts.getD j []).toArray⟩)) :
    Calls Tryd.prog 9 #[.int .i64 k] w fun e w' => e = .returned (.string (txt k)) ∧ w = w' := by
  obtain ⟨b, off, hc, hel⟩ := hs
  by_cases h1 : 21 ≤ k ∧ k ≤ 37
  · have hi := inB_true h1
    have he := hel (k - 21).toNat (by omega)
    have hv : Hid ((⟨(texts.getD (k - 21).toNat []).toArray⟩ : ByteArray) = txt k) := Lib.hid (by rw [txt, if_pos h1])
    obtain ⟨h1, h2⟩ := h1
    generalize (⟨(texts.getD (k - 21).toNat []).toArray⟩ : ByteArray) = v at *
    clear hel
    skip
    go_enter Tryd.func9, Tryd.ntmps9
    go_wp2_with (go_at_call 18; refine (in_any _ _ _ _).mono ?_; rintro e w' ⟨rfl, rfl⟩)
    go_ret
    exact ⟨ret_str hv.out, rfl⟩
  · have hi := inB_false h1
    have hv : Hid (ByteArray.empty = txt k) := Lib.hid (by rw [txt, if_neg h1]; rfl)
    clear hel h1
    go_enter Tryd.func9, Tryd.ntmps9
    go_wp2_with (go_at_call 18; refine (in_any _ _ _ _).mono ?_; rintro e w' ⟨rfl, rfl⟩)
    go_ret
    exact ⟨ret_str hv.out, rfl⟩

set_option maxHeartbeats 4000000 in
theorem spec_txt (k : Int) (w : World) : Calls Tryd.prog 8 #[.int .i64 k] w fun e w' => e = .returned (.string (txt k)) ∧ Below w.heap.size w w' := by
  by_cases h1 : 21 ≤ k ∧ k ≤ 37
  · have hk : k = 21 ∨ k = 22 ∨ k = 23 ∨ k = 24 ∨ k = 25 ∨ k = 26 ∨ k = 27 ∨ k = 28 ∨ k = 29 ∨ k = 30 ∨ k = 31 ∨ k = 32 ∨ k = 33 ∨ k = 34 ∨ k = 35 ∨ k = 36 ∨ k = 37 := by omega
    clear h1
    rcases hk with rfl | rfl | rfl | rfl | rfl | rfl | rfl | rfl | rfl | rfl | rfl | rfl | rfl | rfl | rfl | rfl | rfl
    all_goals
      go_enter Tryd.func8, Tryd.ntmps8
      go_wp2
      go_ret
      exact ⟨ret_str (by decide), (Below.refl _ _).alloc (Nat.le_refl _) _⟩
  · have hv : Hid (ByteArray.empty = txt k) := Lib.hid (by rw [txt, if_neg h1]; rfl)
    by_cases h2 : k < 21
    · clear h1
      go_enter Tryd.func8, Tryd.ntmps8
      go_wp2
      go_ret
      exact ⟨ret_str hv.out, Below.refl _ _⟩
    · have h3 : 37 < k := by omega
      clear h1
      go_enter Tryd.func8, Tryd.ntmps8
      go_wp2
      go_ret
      exact ⟨ret_str hv.out, Below.refl _ _⟩

theorem walk (W : World) (base : Nat) (v0 : Value) (o0 : Value.okWide Tryd.prog W .any base 3 v0) (hL : laidMetH Tryd.prog Rows.fnExactElemNameRow.laid W) :
    Calls Tryd.prog 3 #[v0] W fun e w' => e = .returned (.bool true) ∧ Below W.heap.size W w' := by
  obtain ⟨k, rfl, _, _⟩ := kit.ok_int Tryd.underlying3 o0
  have hs := kit.laid_strs (g := 0) (L := texts) (n := "loop.example/stile/impl.coilNames") hL (by kernel_rfl) (List.Mem.head _) (by kernel_rfl) (by kernel_rfl) Tryd.underlying25 Tryd.underlying9 (by kernel_rfl) (by decide)
  have hs1 : Hid _ := Lib.hid hs
  clear o0 hL hs
  go_enter Tryd.func3, Tryd.ntmps3
  go_wp2_with fail
  refine (spec_txt _ _).mono ?_
  rintro e w1 ⟨rfl, h1⟩
  go_wp2_with fail
  obtain ⟨b, off, hc, hel⟩ := hs1.out
  refine (impl_txt _ _ ⟨b, off, cell_stays hc h1, fun j hj => cell_stays (hel j hj) h1⟩).mono ?_
  rintro e w' ⟨rfl, rfl⟩
  go_wp2_with fail
  go_ret
  exact ⟨rfl, h1⟩
end Go.Proofs.YtpijegkmghhbhaaDoor.fnExactElemName
