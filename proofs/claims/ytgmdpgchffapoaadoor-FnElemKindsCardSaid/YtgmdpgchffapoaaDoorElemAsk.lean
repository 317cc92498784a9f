/-
  'l4Whole', 'l4Real', 'l4Bit' of the draws; 'l2Arg' over what a drawing function has in hand.
  Conditions: the reader has read fewer than 60000 bytes.
-/
import Derived.Test.YtgmdpgchffapoaaDoorAsks
import Derived.Test.YtgmdpgchffapoaaDoorGx
import Derived.Test.YtgmdpgchffapoaaDoorElemC
namespace Go.Proofs.YtgmdpgchffapoaaDoor.draws
open Go Go.RowKit Go.Proofs.YtgmdpgchffapoaaDoor.part Go.Proofs.YtgmdpgchffapoaaDoor.CutEk
set_option linter.unusedVariables false
set_option linter.unusedSimpArgs false
set_option maxRecDepth 100000

section
variable {B : Base} {w : World} {g : Nat} {n : Int} {bs : List (Nat × Array Value × TypeId)}
theorem Gx.arg (h : Gx B g n bs w) (hn : n < 70000) (k : Int) :
    Calls Tryd.prog 62 #[.pointer (some ⟨g, 0, none⟩), .int .i64 k] w fun e w' => ∃ a b c : Int, e = .returned (.agg #[.int .i64 a, .int .i64 b, .int .i64 c]) ∧ Gx B g (n + 3) bs w' :=
  (arg_w h.rd (by omega) k).mono fun e w' ⟨a, b, c, he, k⟩ => ⟨a, b, c, he, h.step k⟩
theorem Gx.any (h : Gx B g n bs w) (hn : n < 60000) :
    Calls Tryd.prog 52 #[.pointer (some ⟨g, 0, none⟩)] w fun e w' => ∃ a b c : Int, e = .returned (.agg #[.int .i64 a, .int .i64 b, .int .i64 c]) ∧ Gx B g (n + 7) bs w' :=
  (any_w h.rd (by omega)).mono fun e w' ⟨a, b, c, he, k⟩ => ⟨a, b, c, he, h.step k⟩
theorem Gx.spoilt (h : Gx B g n bs w) (hn : n < 60000) (x y z : Int) :
    Calls Tryd.prog 53 #[.pointer (some ⟨g, 0, none⟩), .agg #[.int .i64 x, .int .i64 y, .int .i64 z]] w fun e w' => ∃ a b c : Int, e = .returned (.agg #[.int .i64 a, .int .i64 b, .int .i64 c]) ∧ Gx B g (n + 2) bs w' :=
  (spoilt_w h.rd (by omega) x y z).mono fun e w' ⟨a, b, c, he, k⟩ => ⟨a, b, c, he, h.step k⟩
end
theorem whole_w {B : Base} {w : World} {g : Nat} {n : Int} (h : Rd B w g n) (hn : n < 60000) : Calls Tryd.prog 63 #[.pointer (some ⟨g, 0, none⟩)] w (AnyDev ⟨B.w0, w⟩ g (n + 4)) := by
  have HB0 := Lib.hid hn
  have G0 := Lib.hid ((gx_nil h).box #[.int .i64 0, .int .i64 0, .int .i64 0] 31)
  clear h hn
  go_enter Tryd.func63, Tryd.ntmps63
  go_wp2_with fail
  refine (G0.out.num (by have := HB0.out; omega) [9, 9, 9, 11, 11, 7, 8] _ _ _ (by simp) (by decide) (by decide) (rowOfG _)).mono ?_
  rintro e w1 ⟨o, rfl, ho, G1⟩
  have H1 := Lib.hid G1
  clear G1 G0 ho
  go_wp2_with fail
  refine (H1.out.arg (by have := HB0.out; omega) _).mono ?_
  rintro e w2 ⟨a, b, c, rfl, G2⟩
  have H2 := Lib.hid G2
  clear G2 H1
  go_wp2_with (refine wl_gst rfl _ _ _ rfl H2.out (b := w.heap.size) (old := #[.int .i64 0, .int .i64 0, .int .i64 0]) (t := 31) (by simp) rfl #[.int .i64 a, .int .i64 b, .int .i64 c] rfl (dev_one _ _ _) rfl (by kernel_rfl) [] (by simp) ?_; intro w9 G9)
  refine bodyPost_ret (v := .agg #[.int .i64 a, .int .i64 b, .int .i64 c]) (results_cell_row Tryd.results63 _ _ w.heap.size 31 #[.int .i64 a, .int .i64 b, .int .i64 c] (0, 0) _ rfl (G9.2 (w.heap.size, #[.int .i64 a, .int .i64 b, .int .i64 c], 31) (by simp)).1 Tryd.underlying31 rfl (by kernel_rfl)) rfl ⟨a, b, c, rfl, G9.1.le (by omega)⟩
theorem Gx.whole {B : Base} {w : World} {g : Nat} {n : Int} {bs : List (Nat × Array Value × TypeId)} (h : Gx B g n bs w) (hn : n < 60000) :
    Calls Tryd.prog 63 #[.pointer (some ⟨g, 0, none⟩)] w fun e w' => ∃ a b c : Int, e = .returned (.agg #[.int .i64 a, .int .i64 b, .int .i64 c]) ∧ Gx B g (n + 4) bs w' :=
  (whole_w h.1 hn).mono fun e w' ⟨a, b, c, he, k⟩ => ⟨a, b, c, he, h.step k⟩
theorem real_w {B : Base} {w : World} {g : Nat} {n : Int} (h : Rd B w g n) (hn : n < 60000) : Calls Tryd.prog 64 #[.pointer (some ⟨g, 0, none⟩)] w (AnyDev ⟨B.w0, w⟩ g (n + 4)) := by
  have HB0 := Lib.hid hn
  have G0 := Lib.hid ((gx_nil h).box #[.int .i64 0, .int .i64 0, .int .i64 0] 31)
  clear h hn
  go_enter Tryd.func64, Tryd.ntmps64
  go_wp2_with fail
  refine (G0.out.num (by have := HB0.out; omega) [10, 10, 10, 12, 13] _ _ _ (by simp) (by decide) (by decide) (rowOfG _)).mono ?_
  rintro e w1 ⟨o, rfl, ho, G1⟩
  have H1 := Lib.hid G1
  clear G1 G0 ho
  go_wp2_with fail
  refine (H1.out.arg (by have := HB0.out; omega) _).mono ?_
  rintro e w2 ⟨a, b, c, rfl, G2⟩
  have H2 := Lib.hid G2
  clear G2 H1
  go_wp2_with (refine wl_gst rfl _ _ _ rfl H2.out (b := w.heap.size) (old := #[.int .i64 0, .int .i64 0, .int .i64 0]) (t := 31) (by simp) rfl #[.int .i64 a, .int .i64 b, .int .i64 c] rfl (dev_one _ _ _) rfl (by kernel_rfl) [] (by simp) ?_; intro w9 G9)
  refine bodyPost_ret (v := .agg #[.int .i64 a, .int .i64 b, .int .i64 c]) (results_cell_row Tryd.results64 _ _ w.heap.size 31 #[.int .i64 a, .int .i64 b, .int .i64 c] (0, 0) _ rfl (G9.2 (w.heap.size, #[.int .i64 a, .int .i64 b, .int .i64 c], 31) (by simp)).1 Tryd.underlying31 rfl (by kernel_rfl)) rfl ⟨a, b, c, rfl, G9.1.le (by omega)⟩
theorem Gx.real {B : Base} {w : World} {g : Nat} {n : Int} {bs : List (Nat × Array Value × TypeId)} (h : Gx B g n bs w) (hn : n < 60000) :
    Calls Tryd.prog 64 #[.pointer (some ⟨g, 0, none⟩)] w fun e w' => ∃ a b c : Int, e = .returned (.agg #[.int .i64 a, .int .i64 b, .int .i64 c]) ∧ Gx B g (n + 4) bs w' :=
  (real_w h.1 hn).mono fun e w' ⟨a, b, c, he, k⟩ => ⟨a, b, c, he, h.step k⟩
theorem bit_w {B : Base} {w : World} {g : Nat} {n : Int} (h : Rd B w g n) (hn : n < 60000) : Calls Tryd.prog 65 #[.pointer (some ⟨g, 0, none⟩)] w (AnyDev ⟨B.w0, w⟩ g (n + 4)) := by
  have HB0 := Lib.hid hn
  have G0 := Lib.hid ((gx_nil h).box #[.int .i64 0, .int .i64 0, .int .i64 0] 31)
  clear h hn
  go_enter Tryd.func65, Tryd.ntmps65
  go_wp2_with fail
  refine (G0.out.num (by have := HB0.out; omega) [1, 1, 2, 3, 3, 4, 6, 7, 8] _ _ _ (by simp) (by decide) (by decide) (rowOfG _)).mono ?_
  rintro e w1 ⟨o, rfl, ho, G1⟩
  have H1 := Lib.hid G1
  clear G1 G0 ho
  go_wp2_with fail
  refine (H1.out.arg (by have := HB0.out; omega) _).mono ?_
  rintro e w2 ⟨a, b, c, rfl, G2⟩
  have H2 := Lib.hid G2
  clear G2 H1
  go_wp2_with (refine wl_gst rfl _ _ _ rfl H2.out (b := w.heap.size) (old := #[.int .i64 0, .int .i64 0, .int .i64 0]) (t := 31) (by simp) rfl #[.int .i64 a, .int .i64 b, .int .i64 c] rfl (dev_one _ _ _) rfl (by kernel_rfl) [] (by simp) ?_; intro w9 G9)
  refine bodyPost_ret (v := .agg #[.int .i64 a, .int .i64 b, .int .i64 c]) (results_cell_row Tryd.results65 _ _ w.heap.size 31 #[.int .i64 a, .int .i64 b, .int .i64 c] (0, 0) _ rfl (G9.2 (w.heap.size, #[.int .i64 a, .int .i64 b, .int .i64 c], 31) (by simp)).1 Tryd.underlying31 rfl (by kernel_rfl)) rfl ⟨a, b, c, rfl, G9.1.le (by omega)⟩
theorem Gx.bit {B : Base} {w : World} {g : Nat} {n : Int} {bs : List (Nat × Array Value × TypeId)} (h : Gx B g n bs w) (hn : n < 60000) :
    Calls Tryd.prog 65 #[.pointer (some ⟨g, 0, none⟩)] w fun e w' => ∃ a b c : Int, e = .returned (.agg #[.int .i64 a, .int .i64 b, .int .i64 c]) ∧ Gx B g (n + 4) bs w' :=
  (bit_w h.1 hn).mono fun e w' ⟨a, b, c, he, k⟩ => ⟨a, b, c, he, h.step k⟩
end Go.Proofs.YtgmdpgchffapoaaDoor.draws
