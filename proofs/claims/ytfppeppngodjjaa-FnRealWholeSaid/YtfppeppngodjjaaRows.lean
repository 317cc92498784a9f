/-
  No cell of these rows narrows 'for every input' (looked for: loops, veiled, ifaces, maps, wideKeys, modest, calm, conditions, laid).
  DERIVED. THE GIVEN ROWS OF THIS SEAT. 4 by the template 'for every input the law returns true; each argument reads behind the call as it read before'; 0 by the template 'total and deterministic' (their statements: YtfppeppngodjjaaTotals.lean).
  GIVEN WITH THE SEED: the statements are not yours to turn. If you find one false, say at which input.
  Laid BY PROGRAM, IN A SANDBOX (cutbox-rows.mjs): the forced cells as the released guide's own fill.sh prints them over the translation 71e0ce24b179bfdc… (all of the seat's roots in one cut). By AI agents, Wed Nov 11 2026. No macro, syntax, notation, axiom, sorry.
-/
import Derived.Test.YtfppeppngodjjaaChecked
import GoSem.Claim
import GoSem.ClaimJoined
import GoSem.ClaimMapViews
import Derived.JoinedTies
import Derived.KernelRfl
namespace Go.Proofs.Ytfppeppngodjjaa
/- THE CELL 'sum', in the pinned program and in every row, IS THE sha256 OF THE DUMP (.gsa) THAT YtfppeppngodjjaaProg.lean LOADS. Nothing in Lean hashes anything: it is a label: what it is worth is what the hold of that sum in a sandbox is worth. -/
noncomputable def Try.pinned : Pinned := { name := "ytfppeppngodjjaa", sum := "71e0ce24b179bfdc0a1e0abf3fce461648642784d45841295c5194d0098a6aec", checked := Try.checked }
namespace Rows
def none {H : Type} : Left H := { results := [], args := [] }

/-- 'laws.FnExactRealCalc': WHATEVER THE INPUT: true; the input reads as it did. -/
def fnExactRealCalcSpec : ChangeSpec := { name := "fnExactRealCalc", fn := fun _ => fun
  | [d1, d2, d3] => { results := [.lit (.bool true)], args := [d1, d2, d3] }
  | _ => none }
def fnExactRealCalcRow : OpenClaim := { program := "ytfppeppngodjjaa", sum := "71e0ce24b179bfdc0a1e0abf3fce461648642784d45841295c5194d0098a6aec", func := "loop.example/stile/laws.FnExactRealCalc", spec := "fnExactRealCalc", inPlace := ["math.Float64frombits"], apart := false }
def FnExactRealCalcSaid : Prop := fnExactRealCalcRow.holds Try.pinned (OpenSpec.ofChange fnExactRealCalcSpec)

/-- ITS FALSE NEIGHBOUR: 'it returns false'. Refute it at one input. -/
def fnExactRealCalcWrong : ChangeSpec := { name := "fnExactRealCalc", fn := fun _ => fun
  | [d1, d2, d3] => { results := [.lit (.bool false)], args := [d1, d2, d3] }
  | _ => none }
def FnExactRealCalcWrongFalsely : Prop := fnExactRealCalcRow.holds Try.pinned (OpenSpec.ofChange fnExactRealCalcWrong)

/-- 'laws.FnExactRealWhole': WHATEVER THE INPUT: true; the input reads as it did. -/
def fnExactRealWholeSpec : ChangeSpec := { name := "fnExactRealWhole", fn := fun _ => fun
  | [d] => { results := [.lit (.bool true)], args := [d] }
  | _ => none }
def fnExactRealWholeRow : OpenClaim := { program := "ytfppeppngodjjaa", sum := "71e0ce24b179bfdc0a1e0abf3fce461648642784d45841295c5194d0098a6aec", func := "loop.example/stile/laws.FnExactRealWhole", spec := "fnExactRealWhole", inPlace := ["math.archTrunc", "math.Float64bits", "math.Float64frombits"], apart := false }
def FnExactRealWholeSaid : Prop := fnExactRealWholeRow.holds Try.pinned (OpenSpec.ofChange fnExactRealWholeSpec)

/-- ITS FALSE NEIGHBOUR: 'it returns false'. Refute it at one input. -/
def fnExactRealWholeWrong : ChangeSpec := { name := "fnExactRealWhole", fn := fun _ => fun
  | [d] => { results := [.lit (.bool false)], args := [d] }
  | _ => none }
def FnExactRealWholeWrongFalsely : Prop := fnExactRealWholeRow.holds Try.pinned (OpenSpec.ofChange fnExactRealWholeWrong)

/-- 'laws.FnWrap': WHATEVER THE INPUT: true; the input reads as it did. -/
def fnWrapSpec : ChangeSpec := { name := "fnWrap", fn := fun _ => fun
  | [d] => { results := [.lit (.bool true)], args := [d] }
  | _ => none }
def fnWrapRow : OpenClaim := { program := "ytfppeppngodjjaa", sum := "71e0ce24b179bfdc0a1e0abf3fce461648642784d45841295c5194d0098a6aec", func := "loop.example/stile/laws.FnWrap", spec := "fnWrap", apart := false }
def FnWrapSaid : Prop := fnWrapRow.holds Try.pinned (OpenSpec.ofChange fnWrapSpec)

/-- ITS FALSE NEIGHBOUR: 'it returns false'. Refute it at one input. -/
def fnWrapWrong : ChangeSpec := { name := "fnWrap", fn := fun _ => fun
  | [d] => { results := [.lit (.bool false)], args := [d] }
  | _ => none }
def FnWrapWrongFalsely : Prop := fnWrapRow.holds Try.pinned (OpenSpec.ofChange fnWrapWrong)

/-- 'laws.FnRealWhole': WHATEVER THE INPUT: true; the input reads as it did. -/
def fnRealWholeSpec : ChangeSpec := { name := "fnRealWhole", fn := fun _ => fun
  | [d] => { results := [.lit (.bool true)], args := [d] }
  | _ => none }
def fnRealWholeRow : OpenClaim := { program := "ytfppeppngodjjaa", sum := "71e0ce24b179bfdc0a1e0abf3fce461648642784d45841295c5194d0098a6aec", func := "loop.example/stile/laws.FnRealWhole", spec := "fnRealWhole", inPlace := ["math.archTrunc", "math.Float64bits", "math.Float64frombits"], apart := false }
def FnRealWholeSaid : Prop := fnRealWholeRow.holds Try.pinned (OpenSpec.ofChange fnRealWholeSpec)

/-- ITS FALSE NEIGHBOUR: 'it returns false'. Refute it at one input. -/
def fnRealWholeWrong : ChangeSpec := { name := "fnRealWhole", fn := fun _ => fun
  | [d] => { results := [.lit (.bool false)], args := [d] }
  | _ => none }
def FnRealWholeWrongFalsely : Prop := fnRealWholeRow.holds Try.pinned (OpenSpec.ofChange fnRealWholeWrong)

/- THE SECOND FORM. 'bulk': how many values and letters a reading holds, each counted each time it is reached (what is shared counts as often as it is met; a slice's spare places count too). A statement '..UptoSaid' is the law's where the arguments, and the package variables that the reading takes, are together of bulk at most 1048576: NARROWER than '..Said'. Prove '..Said' where nothing that the law and all that it calls make is longer than what came in: it says more and counts as full. Else prove '..UptoSaid'. A law counts once. -/
mutual
def uptoBulk {H : Type} : DataW H → Nat
  | .lit (.string bytes) => bytes.length + 1
  | .lit _ => 1
  | .nil => 1
  | .ptr d => uptoBulk d + 1
  | .slice elems spare => uptoBulkAll elems + uptoBulkAll spare + 1
  | .agg parts => uptoBulkAll parts + 1
  | .iface _ d => uptoBulk d + 1
  | .map entries => uptoBulkEntries entries + 1
  | .held _ => 1
def uptoBulkAll {H : Type} : List (DataW H) → Nat
  | [] => 0
  | d :: r => uptoBulk d + uptoBulkAll r
def uptoBulkEntries {H : Type} : List (Lit × DataW H) → Nat
  | [] => 0
  | x :: r => uptoBulkEntry x + uptoBulkEntries r
def uptoBulkEntry {H : Type} : Lit × DataW H → Nat
  | (.string bytes, d) => bytes.length + uptoBulk d + 1
  | (_, d) => uptoBulk d + 1
 end
def uptoSmall : (H : Type) → List (DataW H) → Bool := fun _ ds => decide (uptoBulkAll ds ≤ 1048576)
def OpenSpec.upto (s : _root_.Go.ChangeSpec) : _root_.Go.OpenSpec := { _root_.Go.OpenSpec.ofChange s with cond := some uptoSmall }

/-- 'laws.FnExactRealCalc', WHERE WHAT IT READS IS OF BULK AT MOST 1048576: true; the input reads as it did. -/
def fnExactRealCalcUptoRow : OpenClaim := { program := "ytfppeppngodjjaa", sum := "71e0ce24b179bfdc0a1e0abf3fce461648642784d45841295c5194d0098a6aec", func := "loop.example/stile/laws.FnExactRealCalc", spec := "fnExactRealCalc", inPlace := ["math.Float64frombits"], apart := false, narrowed := true }
def FnExactRealCalcUptoSaid : Prop := fnExactRealCalcUptoRow.holds Try.pinned (OpenSpec.upto fnExactRealCalcSpec)

/-- 'laws.FnExactRealWhole', WHERE WHAT IT READS IS OF BULK AT MOST 1048576: true; the input reads as it did. -/
def fnExactRealWholeUptoRow : OpenClaim := { program := "ytfppeppngodjjaa", sum := "71e0ce24b179bfdc0a1e0abf3fce461648642784d45841295c5194d0098a6aec", func := "loop.example/stile/laws.FnExactRealWhole", spec := "fnExactRealWhole", inPlace := ["math.archTrunc", "math.Float64bits", "math.Float64frombits"], apart := false, narrowed := true }
def FnExactRealWholeUptoSaid : Prop := fnExactRealWholeUptoRow.holds Try.pinned (OpenSpec.upto fnExactRealWholeSpec)

/-- 'laws.FnWrap', WHERE WHAT IT READS IS OF BULK AT MOST 1048576: true; the input reads as it did. -/
def fnWrapUptoRow : OpenClaim := { program := "ytfppeppngodjjaa", sum := "71e0ce24b179bfdc0a1e0abf3fce461648642784d45841295c5194d0098a6aec", func := "loop.example/stile/laws.FnWrap", spec := "fnWrap", apart := false, narrowed := true }
def FnWrapUptoSaid : Prop := fnWrapUptoRow.holds Try.pinned (OpenSpec.upto fnWrapSpec)

/-- 'laws.FnRealWhole', WHERE WHAT IT READS IS OF BULK AT MOST 1048576: true; the input reads as it did. -/
def fnRealWholeUptoRow : OpenClaim := { program := "ytfppeppngodjjaa", sum := "71e0ce24b179bfdc0a1e0abf3fce461648642784d45841295c5194d0098a6aec", func := "loop.example/stile/laws.FnRealWhole", spec := "fnRealWhole", inPlace := ["math.archTrunc", "math.Float64bits", "math.Float64frombits"], apart := false, narrowed := true }
def FnRealWholeUptoSaid : Prop := fnRealWholeUptoRow.holds Try.pinned (OpenSpec.upto fnRealWholeSpec)

end Rows
end Go.Proofs.Ytfppeppngodjjaa
