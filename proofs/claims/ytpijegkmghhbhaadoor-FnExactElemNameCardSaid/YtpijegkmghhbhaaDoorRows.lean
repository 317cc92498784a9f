/-
  NARROWER THAN 'FOR EVERY INPUT', by the rows' own cells (each row's printed sentence says how): FnExactElemName: laid · FnExactCmpFlip: laid · FnExactCmpText: laid · FnExactCmpSwap: laid · FnExactDevSize: laid.
  DERIVED. THE GIVEN ROWS OF THIS SEAT. 5 by the template 'for every input the law returns true; each argument reads behind the call as it read before'; 0 by the template 'total and deterministic' (their statements: YtpijegkmghhbhaaDoorTotals.lean).
  GIVEN WITH THE SEED: the statements are not yours to turn. If you find one false, say at which input.
  Laid BY PROGRAM, IN A SANDBOX (cutbox-rows.mjs): the forced cells as the released guide's own fill.sh prints them over the translation 5665810035eab5ec… (all of the seat's roots in one cut). By AI agents, Wed Nov 11 2026. No macro, syntax, notation, axiom, sorry.
-/
import Derived.Test.YtpijegkmghhbhaaDoorChecked
import GoSem.Claim
import GoSem.ClaimJoined
import GoSem.ClaimMapViews
import Derived.JoinedTies
import Derived.KernelRfl
namespace Go.Proofs.YtpijegkmghhbhaaDoor
/- THE CELL 'sum', in the pinned program and in every row, IS THE sha256 OF THE DUMP (.gsa) THAT YtpijegkmghhbhaaDoorProg.lean LOADS. Nothing in Lean hashes anything: it is a label: what it is worth is what the hold of that sum in a sandbox is worth. -/
noncomputable def Tryd.pinned : Pinned := { name := "ytpijegkmghhbhaadoor", sum := "5665810035eab5ecaa31bed55cecdcf926506e932a504b10fe2173daa9aac24d", checked := Tryd.checked }
namespace Rows
def none {H : Type} : Left H := { results := [], args := [] }

/- WHAT THE LISTED PACKAGE-LEVEL VARIABLES READ AS WHEN THE CALL BEGINS. Each datum BY PROGRAM (the guide's laid-datum.mjs) off the statement by which the dump's own 'gosem.cut.vars' lays the variable. In a bare row this is a premise. The card (YtpijegkmghhbhaaDoorCards.lean) ties it to the program's text. -/
def laid_loop_example_stile_impl_coilNames {H : Type} : DataW H := .slice [.lit (.string [111, 117, 116]), .lit (.string [115, 101, 116]), .lit (.string [114, 101, 115, 101, 116]), .lit (.string [112, 117, 108, 115, 101]), .lit (.string [115, 116, 101, 112]), .lit (.string [116, 105, 109, 101, 114]), .lit (.string [104, 111, 108, 100]), .lit (.string [108, 97, 116, 101]), .lit (.string [99, 111, 117, 110, 116]), .lit (.string [109, 111, 118, 101]), .lit (.string [97, 100, 100]), .lit (.string [115, 117, 98]), .lit (.string [109, 117, 108]), .lit (.string [100, 105, 118]), .lit (.string [114, 101, 109]), .lit (.string [114, 101, 97, 108]), .lit (.string [119, 104, 111, 108, 101])] []
def laid_loop_example_stile_impl_cmpFlips {H : Type} : DataW H := .slice [.lit (.int .i64 0), .lit (.int .i64 5), .lit (.int .i64 6), .lit (.int .i64 4), .lit (.int .i64 3), .lit (.int .i64 1), .lit (.int .i64 2)] []
def laid_loop_example_stile_impl_cmpTexts {H : Type} : DataW H := .slice [.lit (.string []), .lit (.string [60]), .lit (.string [60, 61]), .lit (.string [61]), .lit (.string [60, 62]), .lit (.string [62, 61]), .lit (.string [62])] []
def laid_loop_example_stile_impl_cmpSwaps {H : Type} : DataW H := .slice [.lit (.int .i64 0), .lit (.int .i64 6), .lit (.int .i64 5), .lit (.int .i64 3), .lit (.int .i64 4), .lit (.int .i64 2), .lit (.int .i64 1)] []
def laid_loop_example_stile_impl_devSizes {H : Type} : DataW H := .slice [.lit (.int .i64 0), .lit (.int .i64 32), .lit (.int .i64 32), .lit (.int .i64 64), .lit (.int .i64 16), .lit (.int .i64 32), .lit (.int .i64 5), .lit (.int .i64 16), .lit (.int .i64 16), .lit (.int .i64 32), .lit (.int .i64 16)] []

/-- 'laws.FnExactElemName': WHATEVER THE INPUT: true; the input reads as it did. -/
def fnExactElemNameSpec : ChangeSpec := { name := "fnExactElemName", vars := ["loop.example/stile/impl.coilNames"], fn := fun _ => fun
  | [d, g1] => { results := [.lit (.bool true)], args := [d], vars := [g1] }
  | _ => none }
def fnExactElemNameRow : OpenClaim := { program := "ytpijegkmghhbhaadoor", sum := "5665810035eab5ecaa31bed55cecdcf926506e932a504b10fe2173daa9aac24d", func := "loop.example/stile/laws.FnExactElemName", spec := "fnExactElemName", named := ["loop.example/stile/impl.coilNames"], apart := false, laid := [("loop.example/stile/impl.coilNames", laid_loop_example_stile_impl_coilNames)] }
def FnExactElemNameSaid : Prop := fnExactElemNameRow.holds Tryd.pinned (OpenSpec.ofChange fnExactElemNameSpec)

/-- ITS FALSE NEIGHBOUR: 'it returns false'. Refute it at one input. -/
def fnExactElemNameWrong : ChangeSpec := { name := "fnExactElemName", vars := ["loop.example/stile/impl.coilNames"], fn := fun _ => fun
  | [d, g1] => { results := [.lit (.bool false)], args := [d], vars := [g1] }
  | _ => none }
def FnExactElemNameWrongFalsely : Prop := fnExactElemNameRow.holds Tryd.pinned (OpenSpec.ofChange fnExactElemNameWrong)

/-- 'laws.FnExactCmpFlip': WHATEVER THE INPUT: true; the input reads as it did. -/
def fnExactCmpFlipSpec : ChangeSpec := { name := "fnExactCmpFlip", vars := ["loop.example/stile/impl.cmpFlips"], fn := fun _ => fun
  | [d, g1] => { results := [.lit (.bool true)], args := [d], vars := [g1] }
  | _ => none }
def fnExactCmpFlipRow : OpenClaim := { program := "ytpijegkmghhbhaadoor", sum := "5665810035eab5ecaa31bed55cecdcf926506e932a504b10fe2173daa9aac24d", func := "loop.example/stile/laws.FnExactCmpFlip", spec := "fnExactCmpFlip", named := ["loop.example/stile/impl.cmpFlips"], apart := false, laid := [("loop.example/stile/impl.cmpFlips", laid_loop_example_stile_impl_cmpFlips)] }
def FnExactCmpFlipSaid : Prop := fnExactCmpFlipRow.holds Tryd.pinned (OpenSpec.ofChange fnExactCmpFlipSpec)

/-- ITS FALSE NEIGHBOUR: 'it returns false'. Refute it at one input. -/
def fnExactCmpFlipWrong : ChangeSpec := { name := "fnExactCmpFlip", vars := ["loop.example/stile/impl.cmpFlips"], fn := fun _ => fun
  | [d, g1] => { results := [.lit (.bool false)], args := [d], vars := [g1] }
  | _ => none }
def FnExactCmpFlipWrongFalsely : Prop := fnExactCmpFlipRow.holds Tryd.pinned (OpenSpec.ofChange fnExactCmpFlipWrong)

/-- 'laws.FnExactCmpText': WHATEVER THE INPUT: true; the input reads as it did. -/
def fnExactCmpTextSpec : ChangeSpec := { name := "fnExactCmpText", vars := ["loop.example/stile/impl.cmpTexts"], fn := fun _ => fun
  | [d, g1] => { results := [.lit (.bool true)], args := [d], vars := [g1] }
  | _ => none }
def fnExactCmpTextRow : OpenClaim := { program := "ytpijegkmghhbhaadoor", sum := "5665810035eab5ecaa31bed55cecdcf926506e932a504b10fe2173daa9aac24d", func := "loop.example/stile/laws.FnExactCmpText", spec := "fnExactCmpText", named := ["loop.example/stile/impl.cmpTexts"], apart := false, laid := [("loop.example/stile/impl.cmpTexts", laid_loop_example_stile_impl_cmpTexts)] }
def FnExactCmpTextSaid : Prop := fnExactCmpTextRow.holds Tryd.pinned (OpenSpec.ofChange fnExactCmpTextSpec)

/-- ITS FALSE NEIGHBOUR: 'it returns false'. Refute it at one input. -/
def fnExactCmpTextWrong : ChangeSpec := { name := "fnExactCmpText", vars := ["loop.example/stile/impl.cmpTexts"], fn := fun _ => fun
  | [d, g1] => { results := [.lit (.bool false)], args := [d], vars := [g1] }
  | _ => none }
def FnExactCmpTextWrongFalsely : Prop := fnExactCmpTextRow.holds Tryd.pinned (OpenSpec.ofChange fnExactCmpTextWrong)

/-- 'laws.FnExactCmpSwap': WHATEVER THE INPUT: true; the input reads as it did. -/
def fnExactCmpSwapSpec : ChangeSpec := { name := "fnExactCmpSwap", vars := ["loop.example/stile/impl.cmpSwaps"], fn := fun _ => fun
  | [d, g1] => { results := [.lit (.bool true)], args := [d], vars := [g1] }
  | _ => none }
def fnExactCmpSwapRow : OpenClaim := { program := "ytpijegkmghhbhaadoor", sum := "5665810035eab5ecaa31bed55cecdcf926506e932a504b10fe2173daa9aac24d", func := "loop.example/stile/laws.FnExactCmpSwap", spec := "fnExactCmpSwap", named := ["loop.example/stile/impl.cmpSwaps"], apart := false, laid := [("loop.example/stile/impl.cmpSwaps", laid_loop_example_stile_impl_cmpSwaps)] }
def FnExactCmpSwapSaid : Prop := fnExactCmpSwapRow.holds Tryd.pinned (OpenSpec.ofChange fnExactCmpSwapSpec)

/-- ITS FALSE NEIGHBOUR: 'it returns false'. Refute it at one input. -/
def fnExactCmpSwapWrong : ChangeSpec := { name := "fnExactCmpSwap", vars := ["loop.example/stile/impl.cmpSwaps"], fn := fun _ => fun
  | [d, g1] => { results := [.lit (.bool false)], args := [d], vars := [g1] }
  | _ => none }
def FnExactCmpSwapWrongFalsely : Prop := fnExactCmpSwapRow.holds Tryd.pinned (OpenSpec.ofChange fnExactCmpSwapWrong)

/-- 'laws.FnExactDevSize': WHATEVER THE INPUT: true; the input reads as it did. -/
def fnExactDevSizeSpec : ChangeSpec := { name := "fnExactDevSize", vars := ["loop.example/stile/impl.devSizes"], fn := fun _ => fun
  | [d, g1] => { results := [.lit (.bool true)], args := [d], vars := [g1] }
  | _ => none }
def fnExactDevSizeRow : OpenClaim := { program := "ytpijegkmghhbhaadoor", sum := "5665810035eab5ecaa31bed55cecdcf926506e932a504b10fe2173daa9aac24d", func := "loop.example/stile/laws.FnExactDevSize", spec := "fnExactDevSize", named := ["loop.example/stile/impl.devSizes"], apart := false, laid := [("loop.example/stile/impl.devSizes", laid_loop_example_stile_impl_devSizes)] }
def FnExactDevSizeSaid : Prop := fnExactDevSizeRow.holds Tryd.pinned (OpenSpec.ofChange fnExactDevSizeSpec)

/-- ITS FALSE NEIGHBOUR: 'it returns false'. Refute it at one input. -/
def fnExactDevSizeWrong : ChangeSpec := { name := "fnExactDevSize", vars := ["loop.example/stile/impl.devSizes"], fn := fun _ => fun
  | [d, g1] => { results := [.lit (.bool false)], args := [d], vars := [g1] }
  | _ => none }
def FnExactDevSizeWrongFalsely : Prop := fnExactDevSizeRow.holds Tryd.pinned (OpenSpec.ofChange fnExactDevSizeWrong)

/- THE SECOND FORM. 'bulk': how many values and letters a reading holds, each counted each time it is reached (what is shared counts as often as it is met; a slice's spare places count too). A statement '..UptoSaid' is the law's where the arguments, and the package variables that the reading takes, are together of bulk at most 1048576: NARROWER than '..Said'. Prove '..Said' where nothing that the law and all that it calls make is longer than what came in: it says more and counts as full. Else prove '..UptoSaid'. A law counts once. -/
mutual
def uptoBulk {H : Type} : DataW H → Nat
  | .lit (.string bytes) => bytes.length + 1
  | .lit _ => 1
  | .nil => 1
  | .ptr d => uptoBulk d + 1
  | .slice elems spare => uptoBulkAll elems + uptoBulkAll spare + 1
  | .agg parts => uptoBulkAll parts + 1
  | .iface _ d => uptoBulk d + 1
  | .map entries => uptoBulkEntries entries + 1
  | .held _ => 1
def uptoBulkAll {H : Type} : List (DataW H) → Nat
  | [] => 0
  | d :: r => uptoBulk d + uptoBulkAll r
def uptoBulkEntries {H : Type} : List (Lit × DataW H) → Nat
  | [] => 0
  | x :: r => uptoBulkEntry x + uptoBulkEntries r
def uptoBulkEntry {H : Type} : Lit × DataW H → Nat
  | (.string bytes, d) => bytes.length + uptoBulk d + 1
  | (_, d) => uptoBulk d + 1
 end
def uptoSmall : (H : Type) → List (DataW H) → Bool := fun _ ds => decide (uptoBulkAll ds ≤ 1048576)
def OpenSpec.upto (s : _root_.Go.ChangeSpec) : _root_.Go.OpenSpec := { _root_.Go.OpenSpec.ofChange s with cond := some uptoSmall }

/-- 'laws.FnExactElemName', WHERE WHAT IT READS IS OF BULK AT MOST 1048576: true; the input reads as it did. -/
def fnExactElemNameUptoRow : OpenClaim := { program := "ytpijegkmghhbhaadoor", sum := "5665810035eab5ecaa31bed55cecdcf926506e932a504b10fe2173daa9aac24d", func := "loop.example/stile/laws.FnExactElemName", spec := "fnExactElemName", named := ["loop.example/stile/impl.coilNames"], apart := false, laid := [("loop.example/stile/impl.coilNames", laid_loop_example_stile_impl_coilNames)], narrowed := true }
def FnExactElemNameUptoSaid : Prop := fnExactElemNameUptoRow.holds Tryd.pinned (OpenSpec.upto fnExactElemNameSpec)

/-- 'laws.FnExactCmpFlip', WHERE WHAT IT READS IS OF BULK AT MOST 1048576: true; the input reads as it did. -/
def fnExactCmpFlipUptoRow : OpenClaim := { program := "ytpijegkmghhbhaadoor", sum := "5665810035eab5ecaa31bed55cecdcf926506e932a504b10fe2173daa9aac24d", func := "loop.example/stile/laws.FnExactCmpFlip", spec := "fnExactCmpFlip", named := ["loop.example/stile/impl.cmpFlips"], apart := false, laid := [("loop.example/stile/impl.cmpFlips", laid_loop_example_stile_impl_cmpFlips)], narrowed := true }
def FnExactCmpFlipUptoSaid : Prop := fnExactCmpFlipUptoRow.holds Tryd.pinned (OpenSpec.upto fnExactCmpFlipSpec)

/-- 'laws.FnExactCmpText', WHERE WHAT IT READS IS OF BULK AT MOST 1048576: true; the input reads as it did. -/
def fnExactCmpTextUptoRow : OpenClaim := { program := "ytpijegkmghhbhaadoor", sum := "5665810035eab5ecaa31bed55cecdcf926506e932a504b10fe2173daa9aac24d", func := "loop.example/stile/laws.FnExactCmpText", spec := "fnExactCmpText", named := ["loop.example/stile/impl.cmpTexts"], apart := false, laid := [("loop.example/stile/impl.cmpTexts", laid_loop_example_stile_impl_cmpTexts)], narrowed := true }
def FnExactCmpTextUptoSaid : Prop := fnExactCmpTextUptoRow.holds Tryd.pinned (OpenSpec.upto fnExactCmpTextSpec)

/-- 'laws.FnExactCmpSwap', WHERE WHAT IT READS IS OF BULK AT MOST 1048576: true; the input reads as it did. -/
def fnExactCmpSwapUptoRow : OpenClaim := { program := "ytpijegkmghhbhaadoor", sum := "5665810035eab5ecaa31bed55cecdcf926506e932a504b10fe2173daa9aac24d", func := "loop.example/stile/laws.FnExactCmpSwap", spec := "fnExactCmpSwap", named := ["loop.example/stile/impl.cmpSwaps"], apart := false, laid := [("loop.example/stile/impl.cmpSwaps", laid_loop_example_stile_impl_cmpSwaps)], narrowed := true }
def FnExactCmpSwapUptoSaid : Prop := fnExactCmpSwapUptoRow.holds Tryd.pinned (OpenSpec.upto fnExactCmpSwapSpec)

/-- 'laws.FnExactDevSize', WHERE WHAT IT READS IS OF BULK AT MOST 1048576: true; the input reads as it did. -/
def fnExactDevSizeUptoRow : OpenClaim := { program := "ytpijegkmghhbhaadoor", sum := "5665810035eab5ecaa31bed55cecdcf926506e932a504b10fe2173daa9aac24d", func := "loop.example/stile/laws.FnExactDevSize", spec := "fnExactDevSize", named := ["loop.example/stile/impl.devSizes"], apart := false, laid := [("loop.example/stile/impl.devSizes", laid_loop_example_stile_impl_devSizes)], narrowed := true }
def FnExactDevSizeUptoSaid : Prop := fnExactDevSizeUptoRow.holds Tryd.pinned (OpenSpec.upto fnExactDevSizeSpec)

end Rows
end Go.Proofs.YtpijegkmghhbhaaDoor
