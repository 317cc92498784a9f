/-
  NARROWER THAN 'FOR EVERY INPUT', by the rows' own cells (each row's printed sentence says how): FnExactDevOk: laid · FnExactDevIsBit: laid · FnExactDevIsReal: laid · FnExactDevIsWhole: laid · FnExactElemIsContact: laid · FnExactElemIsCoil: laid · FnExactRealArg: laid · FnRealArg: laid.
  DERIVED. THE GIVEN ROWS OF THIS SEAT. 8 by the template 'for every input the law returns true; each argument reads behind the call as it read before'; 0 by the template 'total and deterministic' (their statements: YtanamdlnlmihfaaDoorTotals.lean).
  GIVEN WITH THE SEED: the statements are not yours to turn. If you find one false, say at which input.
  Laid BY PROGRAM, IN A SANDBOX (cutbox-rows.mjs): the forced cells as the released guide's own fill.sh prints them over the translation bc28ee83f57e85b6… (all of the seat's roots in one cut). By AI agents, Wed Nov 11 2026. No macro, syntax, notation, axiom, sorry.
-/
import Derived.Test.YtanamdlnlmihfaaDoorChecked
import GoSem.Claim
import GoSem.ClaimJoined
import GoSem.ClaimMapViews
import Derived.JoinedTies
import Derived.KernelRfl
namespace Go.Proofs.YtanamdlnlmihfaaDoor
/- THE CELL 'sum', in the pinned program and in every row, IS THE sha256 OF THE DUMP (.gsa) THAT YtanamdlnlmihfaaDoorProg.lean LOADS. Nothing in Lean hashes anything: it is a label: what it is worth is what the hold of that sum in a sandbox is worth. -/
noncomputable def Tryd.pinned : Pinned := { name := "ytanamdlnlmihfaadoor", sum := "bc28ee83f57e85b6d0f02e7d0ade4bd3b8e1e72ffc151bde1c31da987dae88ab", checked := Tryd.checked }
namespace Rows
def none {H : Type} : Left H := { results := [], args := [] }

/- WHAT THE LISTED PACKAGE-LEVEL VARIABLES READ AS WHEN THE CALL BEGINS. Each datum BY PROGRAM (the guide's laid-datum.mjs) off the statement by which the dump's own 'gosem.cut.vars' lays the variable. In a bare row this is a premise. The card (YtanamdlnlmihfaaDoorCards.lean) ties it to the program's text. -/
def laid_loop_example_stile_impl_devSizes {H : Type} : DataW H := .slice [.lit (.int .i64 0), .lit (.int .i64 32), .lit (.int .i64 32), .lit (.int .i64 64), .lit (.int .i64 16), .lit (.int .i64 32), .lit (.int .i64 5), .lit (.int .i64 16), .lit (.int .i64 16), .lit (.int .i64 32), .lit (.int .i64 16)] []
def laid_loop_example_stile_impl_devWords {H : Type} : DataW H := .slice [.lit (.string [110, 97, 110]), .lit (.string [105, 110, 102]), .lit (.string [45, 105, 110, 102]), .lit (.string [45, 48, 46, 48])] []

/-- 'laws.FnExactDevOk': WHATEVER THE INPUT: true; the input reads as it did. -/
def fnExactDevOkSpec : ChangeSpec := { name := "fnExactDevOk", vars := ["loop.example/stile/impl.devWords", "loop.example/stile/impl.devSizes"], fn := fun _ => fun
  | [d, g1, g2] => { results := [.lit (.bool true)], args := [d], vars := [g1, g2] }
  | _ => none }
def fnExactDevOkRow : OpenClaim := { program := "ytanamdlnlmihfaadoor", sum := "bc28ee83f57e85b6d0f02e7d0ade4bd3b8e1e72ffc151bde1c31da987dae88ab", func := "loop.example/stile/laws.FnExactDevOk", spec := "fnExactDevOk", named := ["loop.example/stile/impl.devWords", "loop.example/stile/impl.devSizes"], apart := false, laid := [("loop.example/stile/impl.devSizes", laid_loop_example_stile_impl_devSizes), ("loop.example/stile/impl.devWords", laid_loop_example_stile_impl_devWords)] }
def FnExactDevOkSaid : Prop := fnExactDevOkRow.holds Tryd.pinned (OpenSpec.ofChange fnExactDevOkSpec)

/-- ITS FALSE NEIGHBOUR: 'it returns false'. Refute it at one input. -/
def fnExactDevOkWrong : ChangeSpec := { name := "fnExactDevOk", vars := ["loop.example/stile/impl.devWords", "loop.example/stile/impl.devSizes"], fn := fun _ => fun
  | [d, g1, g2] => { results := [.lit (.bool false)], args := [d], vars := [g1, g2] }
  | _ => none }
def FnExactDevOkWrongFalsely : Prop := fnExactDevOkRow.holds Tryd.pinned (OpenSpec.ofChange fnExactDevOkWrong)

/-- 'laws.FnExactDevIsBit': WHATEVER THE INPUT: true; the input reads as it did. -/
def fnExactDevIsBitSpec : ChangeSpec := { name := "fnExactDevIsBit", vars := ["loop.example/stile/impl.devWords", "loop.example/stile/impl.devSizes"], fn := fun _ => fun
  | [d, g1, g2] => { results := [.lit (.bool true)], args := [d], vars := [g1, g2] }
  | _ => none }
def fnExactDevIsBitRow : OpenClaim := { program := "ytanamdlnlmihfaadoor", sum := "bc28ee83f57e85b6d0f02e7d0ade4bd3b8e1e72ffc151bde1c31da987dae88ab", func := "loop.example/stile/laws.FnExactDevIsBit", spec := "fnExactDevIsBit", named := ["loop.example/stile/impl.devWords", "loop.example/stile/impl.devSizes"], apart := false, laid := [("loop.example/stile/impl.devSizes", laid_loop_example_stile_impl_devSizes), ("loop.example/stile/impl.devWords", laid_loop_example_stile_impl_devWords)] }
def FnExactDevIsBitSaid : Prop := fnExactDevIsBitRow.holds Tryd.pinned (OpenSpec.ofChange fnExactDevIsBitSpec)

/-- ITS FALSE NEIGHBOUR: 'it returns false'. Refute it at one input. -/
def fnExactDevIsBitWrong : ChangeSpec := { name := "fnExactDevIsBit", vars := ["loop.example/stile/impl.devWords", "loop.example/stile/impl.devSizes"], fn := fun _ => fun
  | [d, g1, g2] => { results := [.lit (.bool false)], args := [d], vars := [g1, g2] }
  | _ => none }
def FnExactDevIsBitWrongFalsely : Prop := fnExactDevIsBitRow.holds Tryd.pinned (OpenSpec.ofChange fnExactDevIsBitWrong)

/-- 'laws.FnExactDevIsReal': WHATEVER THE INPUT: true; the input reads as it did. -/
def fnExactDevIsRealSpec : ChangeSpec := { name := "fnExactDevIsReal", vars := ["loop.example/stile/impl.devWords", "loop.example/stile/impl.devSizes"], fn := fun _ => fun
  | [d, g1, g2] => { results := [.lit (.bool true)], args := [d], vars := [g1, g2] }
  | _ => none }
def fnExactDevIsRealRow : OpenClaim := { program := "ytanamdlnlmihfaadoor", sum := "bc28ee83f57e85b6d0f02e7d0ade4bd3b8e1e72ffc151bde1c31da987dae88ab", func := "loop.example/stile/laws.FnExactDevIsReal", spec := "fnExactDevIsReal", named := ["loop.example/stile/impl.devWords", "loop.example/stile/impl.devSizes"], apart := false, laid := [("loop.example/stile/impl.devSizes", laid_loop_example_stile_impl_devSizes), ("loop.example/stile/impl.devWords", laid_loop_example_stile_impl_devWords)] }
def FnExactDevIsRealSaid : Prop := fnExactDevIsRealRow.holds Tryd.pinned (OpenSpec.ofChange fnExactDevIsRealSpec)

/-- ITS FALSE NEIGHBOUR: 'it returns false'. Refute it at one input. -/
def fnExactDevIsRealWrong : ChangeSpec := { name := "fnExactDevIsReal", vars := ["loop.example/stile/impl.devWords", "loop.example/stile/impl.devSizes"], fn := fun _ => fun
  | [d, g1, g2] => { results := [.lit (.bool false)], args := [d], vars := [g1, g2] }
  | _ => none }
def FnExactDevIsRealWrongFalsely : Prop := fnExactDevIsRealRow.holds Tryd.pinned (OpenSpec.ofChange fnExactDevIsRealWrong)

/-- 'laws.FnExactDevIsWhole': WHATEVER THE INPUT: true; the input reads as it did. -/
def fnExactDevIsWholeSpec : ChangeSpec := { name := "fnExactDevIsWhole", vars := ["loop.example/stile/impl.devWords", "loop.example/stile/impl.devSizes"], fn := fun _ => fun
  | [d, g1, g2] => { results := [.lit (.bool true)], args := [d], vars := [g1, g2] }
  | _ => none }
def fnExactDevIsWholeRow : OpenClaim := { program := "ytanamdlnlmihfaadoor", sum := "bc28ee83f57e85b6d0f02e7d0ade4bd3b8e1e72ffc151bde1c31da987dae88ab", func := "loop.example/stile/laws.FnExactDevIsWhole", spec := "fnExactDevIsWhole", named := ["loop.example/stile/impl.devWords", "loop.example/stile/impl.devSizes"], apart := false, laid := [("loop.example/stile/impl.devSizes", laid_loop_example_stile_impl_devSizes), ("loop.example/stile/impl.devWords", laid_loop_example_stile_impl_devWords)] }
def FnExactDevIsWholeSaid : Prop := fnExactDevIsWholeRow.holds Tryd.pinned (OpenSpec.ofChange fnExactDevIsWholeSpec)

/-- ITS FALSE NEIGHBOUR: 'it returns false'. Refute it at one input. -/
def fnExactDevIsWholeWrong : ChangeSpec := { name := "fnExactDevIsWhole", vars := ["loop.example/stile/impl.devWords", "loop.example/stile/impl.devSizes"], fn := fun _ => fun
  | [d, g1, g2] => { results := [.lit (.bool false)], args := [d], vars := [g1, g2] }
  | _ => none }
def FnExactDevIsWholeWrongFalsely : Prop := fnExactDevIsWholeRow.holds Tryd.pinned (OpenSpec.ofChange fnExactDevIsWholeWrong)

/-- 'laws.FnExactElemIsContact': WHATEVER THE INPUT: true; the input reads as it did. -/
def fnExactElemIsContactSpec : ChangeSpec := { name := "fnExactElemIsContact", vars := ["loop.example/stile/impl.devWords", "loop.example/stile/impl.devSizes"], fn := fun _ => fun
  | [d, g1, g2] => { results := [.lit (.bool true)], args := [d], vars := [g1, g2] }
  | _ => none }
def fnExactElemIsContactRow : OpenClaim := { program := "ytanamdlnlmihfaadoor", sum := "bc28ee83f57e85b6d0f02e7d0ade4bd3b8e1e72ffc151bde1c31da987dae88ab", func := "loop.example/stile/laws.FnExactElemIsContact", spec := "fnExactElemIsContact", unfollowed := true, recurses := true, named := ["loop.example/stile/impl.devWords", "loop.example/stile/impl.devSizes"], apart := false, laid := [("loop.example/stile/impl.devSizes", laid_loop_example_stile_impl_devSizes), ("loop.example/stile/impl.devWords", laid_loop_example_stile_impl_devWords)] }
def FnExactElemIsContactSaid : Prop := fnExactElemIsContactRow.holds Tryd.pinned (OpenSpec.ofChange fnExactElemIsContactSpec)

/-- ITS FALSE NEIGHBOUR: 'it returns false'. Refute it at one input. -/
def fnExactElemIsContactWrong : ChangeSpec := { name := "fnExactElemIsContact", vars := ["loop.example/stile/impl.devWords", "loop.example/stile/impl.devSizes"], fn := fun _ => fun
  | [d, g1, g2] => { results := [.lit (.bool false)], args := [d], vars := [g1, g2] }
  | _ => none }
def FnExactElemIsContactWrongFalsely : Prop := fnExactElemIsContactRow.holds Tryd.pinned (OpenSpec.ofChange fnExactElemIsContactWrong)

/-- 'laws.FnExactElemIsCoil': WHATEVER THE INPUT: true; the input reads as it did. -/
def fnExactElemIsCoilSpec : ChangeSpec := { name := "fnExactElemIsCoil", vars := ["loop.example/stile/impl.devWords", "loop.example/stile/impl.devSizes"], fn := fun _ => fun
  | [d, g1, g2] => { results := [.lit (.bool true)], args := [d], vars := [g1, g2] }
  | _ => none }
def fnExactElemIsCoilRow : OpenClaim := { program := "ytanamdlnlmihfaadoor", sum := "bc28ee83f57e85b6d0f02e7d0ade4bd3b8e1e72ffc151bde1c31da987dae88ab", func := "loop.example/stile/laws.FnExactElemIsCoil", spec := "fnExactElemIsCoil", unfollowed := true, recurses := true, named := ["loop.example/stile/impl.devWords", "loop.example/stile/impl.devSizes"], apart := false, laid := [("loop.example/stile/impl.devSizes", laid_loop_example_stile_impl_devSizes), ("loop.example/stile/impl.devWords", laid_loop_example_stile_impl_devWords)] }
def FnExactElemIsCoilSaid : Prop := fnExactElemIsCoilRow.holds Tryd.pinned (OpenSpec.ofChange fnExactElemIsCoilSpec)

/-- ITS FALSE NEIGHBOUR: 'it returns false'. Refute it at one input. -/
def fnExactElemIsCoilWrong : ChangeSpec := { name := "fnExactElemIsCoil", vars := ["loop.example/stile/impl.devWords", "loop.example/stile/impl.devSizes"], fn := fun _ => fun
  | [d, g1, g2] => { results := [.lit (.bool false)], args := [d], vars := [g1, g2] }
  | _ => none }
def FnExactElemIsCoilWrongFalsely : Prop := fnExactElemIsCoilRow.holds Tryd.pinned (OpenSpec.ofChange fnExactElemIsCoilWrong)

/-- 'laws.FnExactRealArg': WHATEVER THE INPUT: true; the input reads as it did. -/
def fnExactRealArgSpec : ChangeSpec := { name := "fnExactRealArg", vars := ["loop.example/stile/impl.devWords", "loop.example/stile/impl.devSizes"], fn := fun _ => fun
  | [d, g1, g2] => { results := [.lit (.bool true)], args := [d], vars := [g1, g2] }
  | _ => none }
def fnExactRealArgRow : OpenClaim := { program := "ytanamdlnlmihfaadoor", sum := "bc28ee83f57e85b6d0f02e7d0ade4bd3b8e1e72ffc151bde1c31da987dae88ab", func := "loop.example/stile/laws.FnExactRealArg", spec := "fnExactRealArg", inPlace := ["math.Float64frombits", "math.Float64bits"], named := ["loop.example/stile/impl.devWords", "loop.example/stile/impl.devSizes"], apart := false, laid := [("loop.example/stile/impl.devSizes", laid_loop_example_stile_impl_devSizes), ("loop.example/stile/impl.devWords", laid_loop_example_stile_impl_devWords)] }
def FnExactRealArgSaid : Prop := fnExactRealArgRow.holds Tryd.pinned (OpenSpec.ofChange fnExactRealArgSpec)

/-- ITS FALSE NEIGHBOUR: 'it returns false'. Refute it at one input. -/
def fnExactRealArgWrong : ChangeSpec := { name := "fnExactRealArg", vars := ["loop.example/stile/impl.devWords", "loop.example/stile/impl.devSizes"], fn := fun _ => fun
  | [d, g1, g2] => { results := [.lit (.bool false)], args := [d], vars := [g1, g2] }
  | _ => none }
def FnExactRealArgWrongFalsely : Prop := fnExactRealArgRow.holds Tryd.pinned (OpenSpec.ofChange fnExactRealArgWrong)

/-- 'laws.FnRealArg': WHATEVER THE INPUT: true; the input reads as it did. -/
def fnRealArgSpec : ChangeSpec := { name := "fnRealArg", vars := ["loop.example/stile/impl.devWords", "loop.example/stile/impl.devSizes"], fn := fun _ => fun
  | [d1, d2, g1, g2] => { results := [.lit (.bool true)], args := [d1, d2], vars := [g1, g2] }
  | _ => none }
def fnRealArgRow : OpenClaim := { program := "ytanamdlnlmihfaadoor", sum := "bc28ee83f57e85b6d0f02e7d0ade4bd3b8e1e72ffc151bde1c31da987dae88ab", func := "loop.example/stile/laws.FnRealArg", spec := "fnRealArg", inPlace := ["math.Float64frombits", "math.Float64bits"], named := ["loop.example/stile/impl.devWords", "loop.example/stile/impl.devSizes"], apart := false, laid := [("loop.example/stile/impl.devSizes", laid_loop_example_stile_impl_devSizes), ("loop.example/stile/impl.devWords", laid_loop_example_stile_impl_devWords)] }
def FnRealArgSaid : Prop := fnRealArgRow.holds Tryd.pinned (OpenSpec.ofChange fnRealArgSpec)

/-- ITS FALSE NEIGHBOUR: 'it returns false'. Refute it at one input. -/
def fnRealArgWrong : ChangeSpec := { name := "fnRealArg", vars := ["loop.example/stile/impl.devWords", "loop.example/stile/impl.devSizes"], fn := fun _ => fun
  | [d1, d2, g1, g2] => { results := [.lit (.bool false)], args := [d1, d2], vars := [g1, g2] }
  | _ => none }
def FnRealArgWrongFalsely : Prop := fnRealArgRow.holds Tryd.pinned (OpenSpec.ofChange fnRealArgWrong)

/- THE SECOND FORM. 'bulk': how many values and letters a reading holds, each counted each time it is reached (what is shared counts as often as it is met; a slice's spare places count too). A statement '..UptoSaid' is the law's where the arguments, and the package variables that the reading takes, are together of bulk at most 1048576: NARROWER than '..Said'. Prove '..Said' where nothing that the law and all that it calls make is longer than what came in: it says more and counts as full. Else prove '..UptoSaid'. A law counts once. -/
mutual
def uptoBulk {H : Type} : DataW H → Nat
  | .lit (.string bytes) => bytes.length + 1
  | .lit _ => 1
  | .nil => 1
  | .ptr d => uptoBulk d + 1
  | .slice elems spare => uptoBulkAll elems + uptoBulkAll spare + 1
  | .agg parts => uptoBulkAll parts + 1
  | .iface _ d => uptoBulk d + 1
  | .map entries => uptoBulkEntries entries + 1
  | .held _ => 1
def uptoBulkAll {H : Type} : List (DataW H) → Nat
  | [] => 0
  | d :: r => uptoBulk d + uptoBulkAll r
def uptoBulkEntries {H : Type} : List (Lit × DataW H) → Nat
  | [] => 0
  | x :: r => uptoBulkEntry x + uptoBulkEntries r
def uptoBulkEntry {H : Type} : Lit × DataW H → Nat
  | (.string bytes, d) => bytes.length + uptoBulk d + 1
  | (_, d) => uptoBulk d + 1
 end
def uptoSmall : (H : Type) → List (DataW H) → Bool := fun _ ds => decide (uptoBulkAll ds ≤ 1048576)
def OpenSpec.upto (s : _root_.Go.ChangeSpec) : _root_.Go.OpenSpec := { _root_.Go.OpenSpec.ofChange s with cond := some uptoSmall }

/-- 'laws.FnExactDevOk', WHERE WHAT IT READS IS OF BULK AT MOST 1048576: true; the input reads as it did. -/
def fnExactDevOkUptoRow : OpenClaim := { program := "ytanamdlnlmihfaadoor", sum := "bc28ee83f57e85b6d0f02e7d0ade4bd3b8e1e72ffc151bde1c31da987dae88ab", func := "loop.example/stile/laws.FnExactDevOk", spec := "fnExactDevOk", named := ["loop.example/stile/impl.devWords", "loop.example/stile/impl.devSizes"], apart := false, laid := [("loop.example/stile/impl.devSizes", laid_loop_example_stile_impl_devSizes), ("loop.example/stile/impl.devWords", laid_loop_example_stile_impl_devWords)], narrowed := true }
def FnExactDevOkUptoSaid : Prop := fnExactDevOkUptoRow.holds Tryd.pinned (OpenSpec.upto fnExactDevOkSpec)

/-- 'laws.FnExactDevIsBit', WHERE WHAT IT READS IS OF BULK AT MOST 1048576: true; the input reads as it did. -/
def fnExactDevIsBitUptoRow : OpenClaim := { program := "ytanamdlnlmihfaadoor", sum := "bc28ee83f57e85b6d0f02e7d0ade4bd3b8e1e72ffc151bde1c31da987dae88ab", func := "loop.example/stile/laws.FnExactDevIsBit", spec := "fnExactDevIsBit", named := ["loop.example/stile/impl.devWords", "loop.example/stile/impl.devSizes"], apart := false, laid := [("loop.example/stile/impl.devSizes", laid_loop_example_stile_impl_devSizes), ("loop.example/stile/impl.devWords", laid_loop_example_stile_impl_devWords)], narrowed := true }
def FnExactDevIsBitUptoSaid : Prop := fnExactDevIsBitUptoRow.holds Tryd.pinned (OpenSpec.upto fnExactDevIsBitSpec)

/-- 'laws.FnExactDevIsReal', WHERE WHAT IT READS IS OF BULK AT MOST 1048576: true; the input reads as it did. -/
def fnExactDevIsRealUptoRow : OpenClaim := { program := "ytanamdlnlmihfaadoor", sum := "bc28ee83f57e85b6d0f02e7d0ade4bd3b8e1e72ffc151bde1c31da987dae88ab", func := "loop.example/stile/laws.FnExactDevIsReal", spec := "fnExactDevIsReal", named := ["loop.example/stile/impl.devWords", "loop.example/stile/impl.devSizes"], apart := false, laid := [("loop.example/stile/impl.devSizes", laid_loop_example_stile_impl_devSizes), ("loop.example/stile/impl.devWords", laid_loop_example_stile_impl_devWords)], narrowed := true }
def FnExactDevIsRealUptoSaid : Prop := fnExactDevIsRealUptoRow.holds Tryd.pinned (OpenSpec.upto fnExactDevIsRealSpec)

/-- 'laws.FnExactDevIsWhole', WHERE WHAT IT READS IS OF BULK AT MOST 1048576: true; the input reads as it did. -/
def fnExactDevIsWholeUptoRow : OpenClaim := { program := "ytanamdlnlmihfaadoor", sum := "bc28ee83f57e85b6d0f02e7d0ade4bd3b8e1e72ffc151bde1c31da987dae88ab", func := "loop.example/stile/laws.FnExactDevIsWhole", spec := "fnExactDevIsWhole", named := ["loop.example/stile/impl.devWords", "loop.example/stile/impl.devSizes"], apart := false, laid := [("loop.example/stile/impl.devSizes", laid_loop_example_stile_impl_devSizes), ("loop.example/stile/impl.devWords", laid_loop_example_stile_impl_devWords)], narrowed := true }
def FnExactDevIsWholeUptoSaid : Prop := fnExactDevIsWholeUptoRow.holds Tryd.pinned (OpenSpec.upto fnExactDevIsWholeSpec)

/-- 'laws.FnExactElemIsContact', WHERE WHAT IT READS IS OF BULK AT MOST 1048576: true; the input reads as it did. -/
def fnExactElemIsContactUptoRow : OpenClaim := { program := "ytanamdlnlmihfaadoor", sum := "bc28ee83f57e85b6d0f02e7d0ade4bd3b8e1e72ffc151bde1c31da987dae88ab", func := "loop.example/stile/laws.FnExactElemIsContact", spec := "fnExactElemIsContact", unfollowed := true, recurses := true, named := ["loop.example/stile/impl.devWords", "loop.example/stile/impl.devSizes"], apart := false, laid := [("loop.example/stile/impl.devSizes", laid_loop_example_stile_impl_devSizes), ("loop.example/stile/impl.devWords", laid_loop_example_stile_impl_devWords)], narrowed := true }
def FnExactElemIsContactUptoSaid : Prop := fnExactElemIsContactUptoRow.holds Tryd.pinned (OpenSpec.upto fnExactElemIsContactSpec)

/-- 'laws.FnExactElemIsCoil', WHERE WHAT IT READS IS OF BULK AT MOST 1048576: true; the input reads as it did. -/
def fnExactElemIsCoilUptoRow : OpenClaim := { program := "ytanamdlnlmihfaadoor", sum := "bc28ee83f57e85b6d0f02e7d0ade4bd3b8e1e72ffc151bde1c31da987dae88ab", func := "loop.example/stile/laws.FnExactElemIsCoil", spec := "fnExactElemIsCoil", unfollowed := true, recurses := true, named := ["loop.example/stile/impl.devWords", "loop.example/stile/impl.devSizes"], apart := false, laid := [("loop.example/stile/impl.devSizes", laid_loop_example_stile_impl_devSizes), ("loop.example/stile/impl.devWords", laid_loop_example_stile_impl_devWords)], narrowed := true }
def FnExactElemIsCoilUptoSaid : Prop := fnExactElemIsCoilUptoRow.holds Tryd.pinned (OpenSpec.upto fnExactElemIsCoilSpec)

/-- 'laws.FnExactRealArg', WHERE WHAT IT READS IS OF BULK AT MOST 1048576: true; the input reads as it did. -/
def fnExactRealArgUptoRow : OpenClaim := { program := "ytanamdlnlmihfaadoor", sum := "bc28ee83f57e85b6d0f02e7d0ade4bd3b8e1e72ffc151bde1c31da987dae88ab", func := "loop.example/stile/laws.FnExactRealArg", spec := "fnExactRealArg", inPlace := ["math.Float64frombits", "math.Float64bits"], named := ["loop.example/stile/impl.devWords", "loop.example/stile/impl.devSizes"], apart := false, laid := [("loop.example/stile/impl.devSizes", laid_loop_example_stile_impl_devSizes), ("loop.example/stile/impl.devWords", laid_loop_example_stile_impl_devWords)], narrowed := true }
def FnExactRealArgUptoSaid : Prop := fnExactRealArgUptoRow.holds Tryd.pinned (OpenSpec.upto fnExactRealArgSpec)

/-- 'laws.FnRealArg', WHERE WHAT IT READS IS OF BULK AT MOST 1048576: true; the input reads as it did. -/
def fnRealArgUptoRow : OpenClaim := { program := "ytanamdlnlmihfaadoor", sum := "bc28ee83f57e85b6d0f02e7d0ade4bd3b8e1e72ffc151bde1c31da987dae88ab", func := "loop.example/stile/laws.FnRealArg", spec := "fnRealArg", inPlace := ["math.Float64frombits", "math.Float64bits"], named := ["loop.example/stile/impl.devWords", "loop.example/stile/impl.devSizes"], apart := false, laid := [("loop.example/stile/impl.devSizes", laid_loop_example_stile_impl_devSizes), ("loop.example/stile/impl.devWords", laid_loop_example_stile_impl_devWords)], narrowed := true }
def FnRealArgUptoSaid : Prop := fnRealArgUptoRow.holds Tryd.pinned (OpenSpec.upto fnRealArgSpec)

end Rows
end Go.Proofs.YtanamdlnlmihfaaDoor
