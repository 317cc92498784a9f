/-
  No cell of these rows narrows 'for every input' (looked for: loops, veiled, ifaces, maps, wideKeys, modest, calm, conditions, laid).
  DERIVED. THE GIVEN ROWS OF THIS SEAT. 7 by the template 'for every input the law returns true; each argument reads behind the call as it read before'; 0 by the template 'total and deterministic' (their statements: YtpijegkmghhbhaaTotals.lean).
  GIVEN WITH THE SEED: the statements are not yours to turn. If you find one false, say at which input.
  Laid BY PROGRAM, IN A SANDBOX (cutbox-rows.mjs): the forced cells as the released guide's own fill.sh prints them over the translation 14fc1c3e5ad98504… (all of the seat's roots in one cut). By AI agents, Wed Nov 11 2026. No macro, syntax, notation, axiom, sorry.
-/
import Derived.Test.YtpijegkmghhbhaaChecked
import GoSem.Claim
import GoSem.ClaimJoined
import GoSem.ClaimMapViews
import Derived.JoinedTies
import Derived.KernelRfl
namespace Go.Proofs.Ytpijegkmghhbhaa
/- THE CELL 'sum', in the pinned program and in every row, IS THE sha256 OF THE DUMP (.gsa) THAT YtpijegkmghhbhaaProg.lean LOADS. Nothing in Lean hashes anything: it is a label: what it is worth is what the hold of that sum in a sandbox is worth. -/
noncomputable def Try.pinned : Pinned := { name := "ytpijegkmghhbhaa", sum := "14fc1c3e5ad985043f95c0380f1335d5b3a80bfd870a2de519d053e01ea2d3b2", checked := Try.checked }
namespace Rows
def none {H : Type} : Left H := { results := [], args := [] }

/-- 'laws.FnExactConstants': WHATEVER THE INPUT: true; the input reads as it did. -/
def fnExactConstantsSpec : ChangeSpec := { name := "fnExactConstants", fn := fun _ => fun
  | [] => { results := [.lit (.bool true)], args := [] }
  | _ => none }
def fnExactConstantsRow : OpenClaim := { program := "ytpijegkmghhbhaa", sum := "14fc1c3e5ad985043f95c0380f1335d5b3a80bfd870a2de519d053e01ea2d3b2", func := "loop.example/stile/laws.FnExactConstants", spec := "fnExactConstants", apart := false }
def FnExactConstantsSaid : Prop := fnExactConstantsRow.holds Try.pinned (OpenSpec.ofChange fnExactConstantsSpec)

/-- ITS FALSE NEIGHBOUR: 'it returns false'. Refute it at one input. -/
def fnExactConstantsWrong : ChangeSpec := { name := "fnExactConstants", fn := fun _ => fun
  | [] => { results := [.lit (.bool false)], args := [] }
  | _ => none }
def FnExactConstantsWrongFalsely : Prop := fnExactConstantsRow.holds Try.pinned (OpenSpec.ofChange fnExactConstantsWrong)

/-- 'laws.FnExactBitOk': WHATEVER THE INPUT: true; the input reads as it did. -/
def fnExactBitOkSpec : ChangeSpec := { name := "fnExactBitOk", fn := fun _ => fun
  | [d] => { results := [.lit (.bool true)], args := [d] }
  | _ => none }
def fnExactBitOkRow : OpenClaim := { program := "ytpijegkmghhbhaa", sum := "14fc1c3e5ad985043f95c0380f1335d5b3a80bfd870a2de519d053e01ea2d3b2", func := "loop.example/stile/laws.FnExactBitOk", spec := "fnExactBitOk", apart := false }
def FnExactBitOkSaid : Prop := fnExactBitOkRow.holds Try.pinned (OpenSpec.ofChange fnExactBitOkSpec)

/-- ITS FALSE NEIGHBOUR: 'it returns false'. Refute it at one input. -/
def fnExactBitOkWrong : ChangeSpec := { name := "fnExactBitOk", fn := fun _ => fun
  | [d] => { results := [.lit (.bool false)], args := [d] }
  | _ => none }
def FnExactBitOkWrongFalsely : Prop := fnExactBitOkRow.holds Try.pinned (OpenSpec.ofChange fnExactBitOkWrong)

/-- 'laws.FnExactForkOk': WHATEVER THE INPUT: true; the input reads as it did. -/
def fnExactForkOkSpec : ChangeSpec := { name := "fnExactForkOk", fn := fun _ => fun
  | [d] => { results := [.lit (.bool true)], args := [d] }
  | _ => none }
def fnExactForkOkRow : OpenClaim := { program := "ytpijegkmghhbhaa", sum := "14fc1c3e5ad985043f95c0380f1335d5b3a80bfd870a2de519d053e01ea2d3b2", func := "loop.example/stile/laws.FnExactForkOk", spec := "fnExactForkOk", apart := false }
def FnExactForkOkSaid : Prop := fnExactForkOkRow.holds Try.pinned (OpenSpec.ofChange fnExactForkOkSpec)

/-- ITS FALSE NEIGHBOUR: 'it returns false'. Refute it at one input. -/
def fnExactForkOkWrong : ChangeSpec := { name := "fnExactForkOk", fn := fun _ => fun
  | [d] => { results := [.lit (.bool false)], args := [d] }
  | _ => none }
def FnExactForkOkWrongFalsely : Prop := fnExactForkOkRow.holds Try.pinned (OpenSpec.ofChange fnExactForkOkWrong)

/-- 'laws.FnExactElemArity': WHATEVER THE INPUT: true; the input reads as it did. -/
def fnExactElemAritySpec : ChangeSpec := { name := "fnExactElemArity", fn := fun _ => fun
  | [d] => { results := [.lit (.bool true)], args := [d] }
  | _ => none }
def fnExactElemArityRow : OpenClaim := { program := "ytpijegkmghhbhaa", sum := "14fc1c3e5ad985043f95c0380f1335d5b3a80bfd870a2de519d053e01ea2d3b2", func := "loop.example/stile/laws.FnExactElemArity", spec := "fnExactElemArity", apart := false }
def FnExactElemAritySaid : Prop := fnExactElemArityRow.holds Try.pinned (OpenSpec.ofChange fnExactElemAritySpec)

/-- ITS FALSE NEIGHBOUR: 'it returns false'. Refute it at one input. -/
def fnExactElemArityWrong : ChangeSpec := { name := "fnExactElemArity", fn := fun _ => fun
  | [d] => { results := [.lit (.bool false)], args := [d] }
  | _ => none }
def FnExactElemArityWrongFalsely : Prop := fnExactElemArityRow.holds Try.pinned (OpenSpec.ofChange fnExactElemArityWrong)

/-- 'laws.FnExactRealCmp': WHATEVER THE INPUT: true; the input reads as it did. -/
def fnExactRealCmpSpec : ChangeSpec := { name := "fnExactRealCmp", fn := fun _ => fun
  | [d1, d2, d3] => { results := [.lit (.bool true)], args := [d1, d2, d3] }
  | _ => none }
def fnExactRealCmpRow : OpenClaim := { program := "ytpijegkmghhbhaa", sum := "14fc1c3e5ad985043f95c0380f1335d5b3a80bfd870a2de519d053e01ea2d3b2", func := "loop.example/stile/laws.FnExactRealCmp", spec := "fnExactRealCmp", apart := false }
def FnExactRealCmpSaid : Prop := fnExactRealCmpRow.holds Try.pinned (OpenSpec.ofChange fnExactRealCmpSpec)

/-- ITS FALSE NEIGHBOUR: 'it returns false'. Refute it at one input. -/
def fnExactRealCmpWrong : ChangeSpec := { name := "fnExactRealCmp", fn := fun _ => fun
  | [d1, d2, d3] => { results := [.lit (.bool false)], args := [d1, d2, d3] }
  | _ => none }
def FnExactRealCmpWrongFalsely : Prop := fnExactRealCmpRow.holds Try.pinned (OpenSpec.ofChange fnExactRealCmpWrong)

/-- 'laws.FnExactWholeCmp': WHATEVER THE INPUT: true; the input reads as it did. -/
def fnExactWholeCmpSpec : ChangeSpec := { name := "fnExactWholeCmp", fn := fun _ => fun
  | [d1, d2, d3] => { results := [.lit (.bool true)], args := [d1, d2, d3] }
  | _ => none }
def fnExactWholeCmpRow : OpenClaim := { program := "ytpijegkmghhbhaa", sum := "14fc1c3e5ad985043f95c0380f1335d5b3a80bfd870a2de519d053e01ea2d3b2", func := "loop.example/stile/laws.FnExactWholeCmp", spec := "fnExactWholeCmp", apart := false }
def FnExactWholeCmpSaid : Prop := fnExactWholeCmpRow.holds Try.pinned (OpenSpec.ofChange fnExactWholeCmpSpec)

/-- ITS FALSE NEIGHBOUR: 'it returns false'. Refute it at one input. -/
def fnExactWholeCmpWrong : ChangeSpec := { name := "fnExactWholeCmp", fn := fun _ => fun
  | [d1, d2, d3] => { results := [.lit (.bool false)], args := [d1, d2, d3] }
  | _ => none }
def FnExactWholeCmpWrongFalsely : Prop := fnExactWholeCmpRow.holds Try.pinned (OpenSpec.ofChange fnExactWholeCmpWrong)

/-- 'laws.FnExactWholeCalc': WHATEVER THE INPUT: true; the input reads as it did. -/
def fnExactWholeCalcSpec : ChangeSpec := { name := "fnExactWholeCalc", fn := fun _ => fun
  | [d1, d2, d3] => { results := [.lit (.bool true)], args := [d1, d2, d3] }
  | _ => none }
def fnExactWholeCalcRow : OpenClaim := { program := "ytpijegkmghhbhaa", sum := "14fc1c3e5ad985043f95c0380f1335d5b3a80bfd870a2de519d053e01ea2d3b2", func := "loop.example/stile/laws.FnExactWholeCalc", spec := "fnExactWholeCalc", apart := false }
def FnExactWholeCalcSaid : Prop := fnExactWholeCalcRow.holds Try.pinned (OpenSpec.ofChange fnExactWholeCalcSpec)

/-- ITS FALSE NEIGHBOUR: 'it returns false'. Refute it at one input. -/
def fnExactWholeCalcWrong : ChangeSpec := { name := "fnExactWholeCalc", fn := fun _ => fun
  | [d1, d2, d3] => { results := [.lit (.bool false)], args := [d1, d2, d3] }
  | _ => none }
def FnExactWholeCalcWrongFalsely : Prop := fnExactWholeCalcRow.holds Try.pinned (OpenSpec.ofChange fnExactWholeCalcWrong)

/- THE SECOND FORM. 'bulk': how many values and letters a reading holds, each counted each time it is reached (what is shared counts as often as it is met; a slice's spare places count too). A statement '..UptoSaid' is the law's where the arguments, and the package variables that the reading takes, are together of bulk at most 1048576: NARROWER than '..Said'. Prove '..Said' where nothing that the law and all that it calls make is longer than what came in: it says more and counts as full. Else prove '..UptoSaid'. A law counts once. -/
mutual
def uptoBulk {H : Type} : DataW H → Nat
  | .lit (.string bytes) => bytes.length + 1
  | .lit _ => 1
  | .nil => 1
  | .ptr d => uptoBulk d + 1
  | .slice elems spare => uptoBulkAll elems + uptoBulkAll spare + 1
  | .agg parts => uptoBulkAll parts + 1
  | .iface _ d => uptoBulk d + 1
  | .map entries => uptoBulkEntries entries + 1
  | .held _ => 1
def uptoBulkAll {H : Type} : List (DataW H) → Nat
  | [] => 0
  | d :: r => uptoBulk d + uptoBulkAll r
def uptoBulkEntries {H : Type} : List (Lit × DataW H) → Nat
  | [] => 0
  | x :: r => uptoBulkEntry x + uptoBulkEntries r
def uptoBulkEntry {H : Type} : Lit × DataW H → Nat
  | (.string bytes, d) => bytes.length + uptoBulk d + 1
  | (_, d) => uptoBulk d + 1
 end
def uptoSmall : (H : Type) → List (DataW H) → Bool := fun _ ds => decide (uptoBulkAll ds ≤ 1048576)
def OpenSpec.upto (s : _root_.Go.ChangeSpec) : _root_.Go.OpenSpec := { _root_.Go.OpenSpec.ofChange s with cond := some uptoSmall }

/-- 'laws.FnExactConstants', WHERE WHAT IT READS IS OF BULK AT MOST 1048576: true; the input reads as it did. -/
def fnExactConstantsUptoRow : OpenClaim := { program := "ytpijegkmghhbhaa", sum := "14fc1c3e5ad985043f95c0380f1335d5b3a80bfd870a2de519d053e01ea2d3b2", func := "loop.example/stile/laws.FnExactConstants", spec := "fnExactConstants", apart := false, narrowed := true }
def FnExactConstantsUptoSaid : Prop := fnExactConstantsUptoRow.holds Try.pinned (OpenSpec.upto fnExactConstantsSpec)

/-- 'laws.FnExactBitOk', WHERE WHAT IT READS IS OF BULK AT MOST 1048576: true; the input reads as it did. -/
def fnExactBitOkUptoRow : OpenClaim := { program := "ytpijegkmghhbhaa", sum := "14fc1c3e5ad985043f95c0380f1335d5b3a80bfd870a2de519d053e01ea2d3b2", func := "loop.example/stile/laws.FnExactBitOk", spec := "fnExactBitOk", apart := false, narrowed := true }
def FnExactBitOkUptoSaid : Prop := fnExactBitOkUptoRow.holds Try.pinned (OpenSpec.upto fnExactBitOkSpec)

/-- 'laws.FnExactForkOk', WHERE WHAT IT READS IS OF BULK AT MOST 1048576: true; the input reads as it did. -/
def fnExactForkOkUptoRow : OpenClaim := { program := "ytpijegkmghhbhaa", sum := "14fc1c3e5ad985043f95c0380f1335d5b3a80bfd870a2de519d053e01ea2d3b2", func := "loop.example/stile/laws.FnExactForkOk", spec := "fnExactForkOk", apart := false, narrowed := true }
def FnExactForkOkUptoSaid : Prop := fnExactForkOkUptoRow.holds Try.pinned (OpenSpec.upto fnExactForkOkSpec)

/-- 'laws.FnExactElemArity', WHERE WHAT IT READS IS OF BULK AT MOST 1048576: true; the input reads as it did. -/
def fnExactElemArityUptoRow : OpenClaim := { program := "ytpijegkmghhbhaa", sum := "14fc1c3e5ad985043f95c0380f1335d5b3a80bfd870a2de519d053e01ea2d3b2", func := "loop.example/stile/laws.FnExactElemArity", spec := "fnExactElemArity", apart := false, narrowed := true }
def FnExactElemArityUptoSaid : Prop := fnExactElemArityUptoRow.holds Try.pinned (OpenSpec.upto fnExactElemAritySpec)

/-- 'laws.FnExactRealCmp', WHERE WHAT IT READS IS OF BULK AT MOST 1048576: true; the input reads as it did. -/
def fnExactRealCmpUptoRow : OpenClaim := { program := "ytpijegkmghhbhaa", sum := "14fc1c3e5ad985043f95c0380f1335d5b3a80bfd870a2de519d053e01ea2d3b2", func := "loop.example/stile/laws.FnExactRealCmp", spec := "fnExactRealCmp", apart := false, narrowed := true }
def FnExactRealCmpUptoSaid : Prop := fnExactRealCmpUptoRow.holds Try.pinned (OpenSpec.upto fnExactRealCmpSpec)

/-- 'laws.FnExactWholeCmp', WHERE WHAT IT READS IS OF BULK AT MOST 1048576: true; the input reads as it did. -/
def fnExactWholeCmpUptoRow : OpenClaim := { program := "ytpijegkmghhbhaa", sum := "14fc1c3e5ad985043f95c0380f1335d5b3a80bfd870a2de519d053e01ea2d3b2", func := "loop.example/stile/laws.FnExactWholeCmp", spec := "fnExactWholeCmp", apart := false, narrowed := true }
def FnExactWholeCmpUptoSaid : Prop := fnExactWholeCmpUptoRow.holds Try.pinned (OpenSpec.upto fnExactWholeCmpSpec)

/-- 'laws.FnExactWholeCalc', WHERE WHAT IT READS IS OF BULK AT MOST 1048576: true; the input reads as it did. -/
def fnExactWholeCalcUptoRow : OpenClaim := { program := "ytpijegkmghhbhaa", sum := "14fc1c3e5ad985043f95c0380f1335d5b3a80bfd870a2de519d053e01ea2d3b2", func := "loop.example/stile/laws.FnExactWholeCalc", spec := "fnExactWholeCalc", apart := false, narrowed := true }
def FnExactWholeCalcUptoSaid : Prop := fnExactWholeCalcUptoRow.holds Try.pinned (OpenSpec.upto fnExactWholeCalcSpec)

end Rows
end Go.Proofs.Ytpijegkmghhbhaa
