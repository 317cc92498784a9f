/-
  NARROWER THAN 'FOR EVERY INPUT', by the rows' own cells (each row's printed sentence says how): FnExactMemWhole: laid · FnExactMemBit: laid · FnExactMemPutReal: laid · FnExactMemPutWhole: laid · FnExactMemReal: laid · FnExactMemPut: laid · FnMemPut: laid · FnMemPutNumber: laid · FnMemRound: laid.
  DERIVED. THE GIVEN ROWS OF THIS SEAT. 9 by the template 'for every input the law returns true; each argument reads behind the call as it read before'; 0 by the template 'total and deterministic' (their statements: YtnffgafofkknoaaDoorTotals.lean).
  GIVEN WITH THE SEED: the statements are not yours to turn. If you find one false, say at which input.
  Laid BY PROGRAM, IN A SANDBOX (cutbox-rows.mjs): the forced cells as the released guide's own fill.sh prints them over the translation 312c65cc6255de65… (all of the seat's roots in one cut). By AI agents, Wed Nov 11 2026. No macro, syntax, notation, axiom, sorry.
-/
import Derived.Test.YtnffgafofkknoaaDoorChecked
import GoSem.Claim
import GoSem.ClaimJoined
import GoSem.ClaimMapViews
import Derived.JoinedTies
import Derived.KernelRfl
namespace Go.Proofs.YtnffgafofkknoaaDoor
/- THE CELL 'sum', in the pinned program and in every row, IS THE sha256 OF THE DUMP (.gsa) THAT YtnffgafofkknoaaDoorProg.lean LOADS. Nothing in Lean hashes anything: it is a label: what it is worth is what the hold of that sum in a sandbox is worth. -/
noncomputable def Tryd.pinned : Pinned := { name := "ytnffgafofkknoaadoor", sum := "312c65cc6255de658c63c94255a35834d68cdb6b73aef10dfbb58c480bbf12f7", checked := Tryd.checked }
namespace Rows
def none {H : Type} : Left H := { results := [], args := [] }

/- WHAT THE LISTED PACKAGE-LEVEL VARIABLES READ AS WHEN THE CALL BEGINS. Each datum BY PROGRAM (the guide's laid-datum.mjs) off the statement by which the dump's own 'gosem.cut.vars' lays the variable. In a bare row this is a premise. The card (YtnffgafofkknoaaDoorCards.lean) ties it to the program's text. -/
def laid_loop_example_stile_impl_devSizes {H : Type} : DataW H := .slice [.lit (.int .i64 0), .lit (.int .i64 32), .lit (.int .i64 32), .lit (.int .i64 64), .lit (.int .i64 16), .lit (.int .i64 32), .lit (.int .i64 5), .lit (.int .i64 16), .lit (.int .i64 16), .lit (.int .i64 32), .lit (.int .i64 16)] []
def laid_loop_example_stile_impl_devWords {H : Type} : DataW H := .slice [.lit (.string [110, 97, 110]), .lit (.string [105, 110, 102]), .lit (.string [45, 105, 110, 102]), .lit (.string [45, 48, 46, 48])] []

/-- 'laws.FnExactMemWhole': WHATEVER THE INPUT: true; the input reads as it did. -/
def fnExactMemWholeSpec : ChangeSpec := { name := "fnExactMemWhole", vars := ["loop.example/stile/impl.devSizes"], fn := fun _ => fun
  | [d1, d2, g1] => { results := [.lit (.bool true)], args := [d1, d2], vars := [g1] }
  | _ => none }
def fnExactMemWholeRow : OpenClaim := { program := "ytnffgafofkknoaadoor", sum := "312c65cc6255de658c63c94255a35834d68cdb6b73aef10dfbb58c480bbf12f7", func := "loop.example/stile/laws.FnExactMemWhole", spec := "fnExactMemWhole", named := ["loop.example/stile/impl.devSizes"], apart := false, laid := [("loop.example/stile/impl.devSizes", laid_loop_example_stile_impl_devSizes)] }
def FnExactMemWholeSaid : Prop := fnExactMemWholeRow.holds Tryd.pinned (OpenSpec.ofChange fnExactMemWholeSpec)

/-- ITS FALSE NEIGHBOUR: 'it returns false'. Refute it at one input. -/
def fnExactMemWholeWrong : ChangeSpec := { name := "fnExactMemWhole", vars := ["loop.example/stile/impl.devSizes"], fn := fun _ => fun
  | [d1, d2, g1] => { results := [.lit (.bool false)], args := [d1, d2], vars := [g1] }
  | _ => none }
def FnExactMemWholeWrongFalsely : Prop := fnExactMemWholeRow.holds Tryd.pinned (OpenSpec.ofChange fnExactMemWholeWrong)

/-- 'laws.FnExactMemBit': WHATEVER THE INPUT: true; the input reads as it did. -/
def fnExactMemBitSpec : ChangeSpec := { name := "fnExactMemBit", vars := ["loop.example/stile/impl.devSizes"], fn := fun _ => fun
  | [d1, d2, g1] => { results := [.lit (.bool true)], args := [d1, d2], vars := [g1] }
  | _ => none }
def fnExactMemBitRow : OpenClaim := { program := "ytnffgafofkknoaadoor", sum := "312c65cc6255de658c63c94255a35834d68cdb6b73aef10dfbb58c480bbf12f7", func := "loop.example/stile/laws.FnExactMemBit", spec := "fnExactMemBit", named := ["loop.example/stile/impl.devSizes"], apart := false, laid := [("loop.example/stile/impl.devSizes", laid_loop_example_stile_impl_devSizes)] }
def FnExactMemBitSaid : Prop := fnExactMemBitRow.holds Tryd.pinned (OpenSpec.ofChange fnExactMemBitSpec)

/-- ITS FALSE NEIGHBOUR: 'it returns false'. Refute it at one input. -/
def fnExactMemBitWrong : ChangeSpec := { name := "fnExactMemBit", vars := ["loop.example/stile/impl.devSizes"], fn := fun _ => fun
  | [d1, d2, g1] => { results := [.lit (.bool false)], args := [d1, d2], vars := [g1] }
  | _ => none }
def FnExactMemBitWrongFalsely : Prop := fnExactMemBitRow.holds Tryd.pinned (OpenSpec.ofChange fnExactMemBitWrong)

/-- 'laws.FnExactMemPutReal': WHATEVER THE INPUT: true; the input reads as it did. -/
def fnExactMemPutRealSpec : ChangeSpec := { name := "fnExactMemPutReal", vars := ["loop.example/stile/impl.devSizes"], fn := fun _ => fun
  | [d1, d2, d3, g1] => { results := [.lit (.bool true)], args := [d1, d2, d3], vars := [g1] }
  | _ => none }
def fnExactMemPutRealRow : OpenClaim := { program := "ytnffgafofkknoaadoor", sum := "312c65cc6255de658c63c94255a35834d68cdb6b73aef10dfbb58c480bbf12f7", func := "loop.example/stile/laws.FnExactMemPutReal", spec := "fnExactMemPutReal", named := ["loop.example/stile/impl.devSizes"], apart := false, laid := [("loop.example/stile/impl.devSizes", laid_loop_example_stile_impl_devSizes)] }
def FnExactMemPutRealSaid : Prop := fnExactMemPutRealRow.holds Tryd.pinned (OpenSpec.ofChange fnExactMemPutRealSpec)

/-- ITS FALSE NEIGHBOUR: 'it returns false'. Refute it at one input. -/
def fnExactMemPutRealWrong : ChangeSpec := { name := "fnExactMemPutReal", vars := ["loop.example/stile/impl.devSizes"], fn := fun _ => fun
  | [d1, d2, d3, g1] => { results := [.lit (.bool false)], args := [d1, d2, d3], vars := [g1] }
  | _ => none }
def FnExactMemPutRealWrongFalsely : Prop := fnExactMemPutRealRow.holds Tryd.pinned (OpenSpec.ofChange fnExactMemPutRealWrong)

/-- 'laws.FnExactMemPutWhole': WHATEVER THE INPUT: true; the input reads as it did. -/
def fnExactMemPutWholeSpec : ChangeSpec := { name := "fnExactMemPutWhole", vars := ["loop.example/stile/impl.devSizes"], fn := fun _ => fun
  | [d1, d2, d3, g1] => { results := [.lit (.bool true)], args := [d1, d2, d3], vars := [g1] }
  | _ => none }
def fnExactMemPutWholeRow : OpenClaim := { program := "ytnffgafofkknoaadoor", sum := "312c65cc6255de658c63c94255a35834d68cdb6b73aef10dfbb58c480bbf12f7", func := "loop.example/stile/laws.FnExactMemPutWhole", spec := "fnExactMemPutWhole", named := ["loop.example/stile/impl.devSizes"], apart := false, laid := [("loop.example/stile/impl.devSizes", laid_loop_example_stile_impl_devSizes)] }
def FnExactMemPutWholeSaid : Prop := fnExactMemPutWholeRow.holds Tryd.pinned (OpenSpec.ofChange fnExactMemPutWholeSpec)

/-- ITS FALSE NEIGHBOUR: 'it returns false'. Refute it at one input. -/
def fnExactMemPutWholeWrong : ChangeSpec := { name := "fnExactMemPutWhole", vars := ["loop.example/stile/impl.devSizes"], fn := fun _ => fun
  | [d1, d2, d3, g1] => { results := [.lit (.bool false)], args := [d1, d2, d3], vars := [g1] }
  | _ => none }
def FnExactMemPutWholeWrongFalsely : Prop := fnExactMemPutWholeRow.holds Tryd.pinned (OpenSpec.ofChange fnExactMemPutWholeWrong)

/-- 'laws.FnExactMemReal': WHATEVER THE INPUT: true; the input reads as it did. -/
def fnExactMemRealSpec : ChangeSpec := { name := "fnExactMemReal", vars := ["loop.example/stile/impl.devSizes", "loop.example/stile/impl.devWords"], fn := fun _ => fun
  | [d1, d2, g1, g2] => { results := [.lit (.bool true)], args := [d1, d2], vars := [g1, g2] }
  | _ => none }
def fnExactMemRealRow : OpenClaim := { program := "ytnffgafofkknoaadoor", sum := "312c65cc6255de658c63c94255a35834d68cdb6b73aef10dfbb58c480bbf12f7", func := "loop.example/stile/laws.FnExactMemReal", spec := "fnExactMemReal", inPlace := ["math.Float64frombits", "math.Float64bits"], named := ["loop.example/stile/impl.devSizes", "loop.example/stile/impl.devWords"], apart := false, laid := [("loop.example/stile/impl.devSizes", laid_loop_example_stile_impl_devSizes), ("loop.example/stile/impl.devWords", laid_loop_example_stile_impl_devWords)] }
def FnExactMemRealSaid : Prop := fnExactMemRealRow.holds Tryd.pinned (OpenSpec.ofChange fnExactMemRealSpec)

/-- ITS FALSE NEIGHBOUR: 'it returns false'. Refute it at one input. -/
def fnExactMemRealWrong : ChangeSpec := { name := "fnExactMemReal", vars := ["loop.example/stile/impl.devSizes", "loop.example/stile/impl.devWords"], fn := fun _ => fun
  | [d1, d2, g1, g2] => { results := [.lit (.bool false)], args := [d1, d2], vars := [g1, g2] }
  | _ => none }
def FnExactMemRealWrongFalsely : Prop := fnExactMemRealRow.holds Tryd.pinned (OpenSpec.ofChange fnExactMemRealWrong)

/-- 'laws.FnExactMemPut': WHATEVER THE INPUT: true; the input reads as it did. -/
def fnExactMemPutSpec : ChangeSpec := { name := "fnExactMemPut", vars := ["loop.example/stile/impl.devSizes"], fn := fun _ => fun
  | [d1, d2, d3, g1] => { results := [.lit (.bool true)], args := [d1, d2, d3], vars := [g1] }
  | _ => none }
def fnExactMemPutRow : OpenClaim := { program := "ytnffgafofkknoaadoor", sum := "312c65cc6255de658c63c94255a35834d68cdb6b73aef10dfbb58c480bbf12f7", func := "loop.example/stile/laws.FnExactMemPut", spec := "fnExactMemPut", named := ["loop.example/stile/impl.devSizes"], apart := false, laid := [("loop.example/stile/impl.devSizes", laid_loop_example_stile_impl_devSizes)] }
def FnExactMemPutSaid : Prop := fnExactMemPutRow.holds Tryd.pinned (OpenSpec.ofChange fnExactMemPutSpec)

/-- ITS FALSE NEIGHBOUR: 'it returns false'. Refute it at one input. -/
def fnExactMemPutWrong : ChangeSpec := { name := "fnExactMemPut", vars := ["loop.example/stile/impl.devSizes"], fn := fun _ => fun
  | [d1, d2, d3, g1] => { results := [.lit (.bool false)], args := [d1, d2, d3], vars := [g1] }
  | _ => none }
def FnExactMemPutWrongFalsely : Prop := fnExactMemPutRow.holds Tryd.pinned (OpenSpec.ofChange fnExactMemPutWrong)

/-- 'laws.FnMemPut': WHATEVER THE INPUT: true; the input reads as it did. -/
def fnMemPutSpec : ChangeSpec := { name := "fnMemPut", vars := ["loop.example/stile/impl.devSizes"], fn := fun _ => fun
  | [d1, d2, g1] => { results := [.lit (.bool true)], args := [d1, d2], vars := [g1] }
  | _ => none }
def fnMemPutRow : OpenClaim := { program := "ytnffgafofkknoaadoor", sum := "312c65cc6255de658c63c94255a35834d68cdb6b73aef10dfbb58c480bbf12f7", func := "loop.example/stile/laws.FnMemPut", spec := "fnMemPut", inPlace := ["math.Float64bits"], named := ["loop.example/stile/impl.devSizes"], apart := false, laid := [("loop.example/stile/impl.devSizes", laid_loop_example_stile_impl_devSizes)] }
def FnMemPutSaid : Prop := fnMemPutRow.holds Tryd.pinned (OpenSpec.ofChange fnMemPutSpec)

/-- ITS FALSE NEIGHBOUR: 'it returns false'. Refute it at one input. -/
def fnMemPutWrong : ChangeSpec := { name := "fnMemPut", vars := ["loop.example/stile/impl.devSizes"], fn := fun _ => fun
  | [d1, d2, g1] => { results := [.lit (.bool false)], args := [d1, d2], vars := [g1] }
  | _ => none }
def FnMemPutWrongFalsely : Prop := fnMemPutRow.holds Tryd.pinned (OpenSpec.ofChange fnMemPutWrong)

/-- 'laws.FnMemPutNumber': WHATEVER THE INPUT: true; the input reads as it did. -/
def fnMemPutNumberSpec : ChangeSpec := { name := "fnMemPutNumber", vars := ["loop.example/stile/impl.devSizes", "loop.example/stile/impl.devWords"], fn := fun _ => fun
  | [d1, d2, g1, g2] => { results := [.lit (.bool true)], args := [d1, d2], vars := [g1, g2] }
  | _ => none }
def fnMemPutNumberRow : OpenClaim := { program := "ytnffgafofkknoaadoor", sum := "312c65cc6255de658c63c94255a35834d68cdb6b73aef10dfbb58c480bbf12f7", func := "loop.example/stile/laws.FnMemPutNumber", spec := "fnMemPutNumber", inPlace := ["math.Float64bits", "math.Float64frombits"], named := ["loop.example/stile/impl.devSizes", "loop.example/stile/impl.devWords"], apart := false, laid := [("loop.example/stile/impl.devSizes", laid_loop_example_stile_impl_devSizes), ("loop.example/stile/impl.devWords", laid_loop_example_stile_impl_devWords)] }
def FnMemPutNumberSaid : Prop := fnMemPutNumberRow.holds Tryd.pinned (OpenSpec.ofChange fnMemPutNumberSpec)

/-- ITS FALSE NEIGHBOUR: 'it returns false'. Refute it at one input. -/
def fnMemPutNumberWrong : ChangeSpec := { name := "fnMemPutNumber", vars := ["loop.example/stile/impl.devSizes", "loop.example/stile/impl.devWords"], fn := fun _ => fun
  | [d1, d2, g1, g2] => { results := [.lit (.bool false)], args := [d1, d2], vars := [g1, g2] }
  | _ => none }
def FnMemPutNumberWrongFalsely : Prop := fnMemPutNumberRow.holds Tryd.pinned (OpenSpec.ofChange fnMemPutNumberWrong)

/-- 'laws.FnMemRound': WHATEVER THE INPUT: true; the input reads as it did. -/
def fnMemRoundSpec : ChangeSpec := { name := "fnMemRound", vars := ["loop.example/stile/impl.devSizes", "loop.example/stile/impl.devWords"], fn := fun _ => fun
  | [d, g1, g2] => { results := [.lit (.bool true)], args := [d], vars := [g1, g2] }
  | _ => none }
def fnMemRoundRow : OpenClaim := { program := "ytnffgafofkknoaadoor", sum := "312c65cc6255de658c63c94255a35834d68cdb6b73aef10dfbb58c480bbf12f7", func := "loop.example/stile/laws.FnMemRound", spec := "fnMemRound", inPlace := ["math.Float64frombits", "math.Float64bits"], named := ["loop.example/stile/impl.devSizes", "loop.example/stile/impl.devWords"], apart := false, laid := [("loop.example/stile/impl.devSizes", laid_loop_example_stile_impl_devSizes), ("loop.example/stile/impl.devWords", laid_loop_example_stile_impl_devWords)] }
def FnMemRoundSaid : Prop := fnMemRoundRow.holds Tryd.pinned (OpenSpec.ofChange fnMemRoundSpec)

/-- ITS FALSE NEIGHBOUR: 'it returns false'. Refute it at one input. -/
def fnMemRoundWrong : ChangeSpec := { name := "fnMemRound", vars := ["loop.example/stile/impl.devSizes", "loop.example/stile/impl.devWords"], fn := fun _ => fun
  | [d, g1, g2] => { results := [.lit (.bool false)], args := [d], vars := [g1, g2] }
  | _ => none }
def FnMemRoundWrongFalsely : Prop := fnMemRoundRow.holds Tryd.pinned (OpenSpec.ofChange fnMemRoundWrong)

/- THE SECOND FORM. 'bulk': how many values and letters a reading holds, each counted each time it is reached (what is shared counts as often as it is met; a slice's spare places count too). A statement '..UptoSaid' is the law's where the arguments, and the package variables that the reading takes, are together of bulk at most 1048576: NARROWER than '..Said'. Prove '..Said' where nothing that the law and all that it calls make is longer than what came in: it says more and counts as full. Else prove '..UptoSaid'. A law counts once. -/
mutual
def uptoBulk {H : Type} : DataW H → Nat
  | .lit (.string bytes) => bytes.length + 1
  | .lit _ => 1
  | .nil => 1
  | .ptr d => uptoBulk d + 1
  | .slice elems spare => uptoBulkAll elems + uptoBulkAll spare + 1
  | .agg parts => uptoBulkAll parts + 1
  | .iface _ d => uptoBulk d + 1
  | .map entries => uptoBulkEntries entries + 1
  | .held _ => 1
def uptoBulkAll {H : Type} : List (DataW H) → Nat
  | [] => 0
  | d :: r => uptoBulk d + uptoBulkAll r
def uptoBulkEntries {H : Type} : List (Lit × DataW H) → Nat
  | [] => 0
  | x :: r => uptoBulkEntry x + uptoBulkEntries r
def uptoBulkEntry {H : Type} : Lit × DataW H → Nat
  | (.string bytes, d) => bytes.length + uptoBulk d + 1
  | (_, d) => uptoBulk d + 1
 end
def uptoSmall : (H : Type) → List (DataW H) → Bool := fun _ ds => decide (uptoBulkAll ds ≤ 1048576)
def OpenSpec.upto (s : _root_.Go.ChangeSpec) : _root_.Go.OpenSpec := { _root_.Go.OpenSpec.ofChange s with cond := some uptoSmall }

/-- 'laws.FnExactMemWhole', WHERE WHAT IT READS IS OF BULK AT MOST 1048576: true; the input reads as it did. -/
def fnExactMemWholeUptoRow : OpenClaim := { program := "ytnffgafofkknoaadoor", sum := "312c65cc6255de658c63c94255a35834d68cdb6b73aef10dfbb58c480bbf12f7", func := "loop.example/stile/laws.FnExactMemWhole", spec := "fnExactMemWhole", named := ["loop.example/stile/impl.devSizes"], apart := false, laid := [("loop.example/stile/impl.devSizes", laid_loop_example_stile_impl_devSizes)], narrowed := true }
def FnExactMemWholeUptoSaid : Prop := fnExactMemWholeUptoRow.holds Tryd.pinned (OpenSpec.upto fnExactMemWholeSpec)

/-- 'laws.FnExactMemBit', WHERE WHAT IT READS IS OF BULK AT MOST 1048576: true; the input reads as it did. -/
def fnExactMemBitUptoRow : OpenClaim := { program := "ytnffgafofkknoaadoor", sum := "312c65cc6255de658c63c94255a35834d68cdb6b73aef10dfbb58c480bbf12f7", func := "loop.example/stile/laws.FnExactMemBit", spec := "fnExactMemBit", named := ["loop.example/stile/impl.devSizes"], apart := false, laid := [("loop.example/stile/impl.devSizes", laid_loop_example_stile_impl_devSizes)], narrowed := true }
def FnExactMemBitUptoSaid : Prop := fnExactMemBitUptoRow.holds Tryd.pinned (OpenSpec.upto fnExactMemBitSpec)

/-- 'laws.FnExactMemPutReal', WHERE WHAT IT READS IS OF BULK AT MOST 1048576: true; the input reads as it did. -/
def fnExactMemPutRealUptoRow : OpenClaim := { program := "ytnffgafofkknoaadoor", sum := "312c65cc6255de658c63c94255a35834d68cdb6b73aef10dfbb58c480bbf12f7", func := "loop.example/stile/laws.FnExactMemPutReal", spec := "fnExactMemPutReal", named := ["loop.example/stile/impl.devSizes"], apart := false, laid := [("loop.example/stile/impl.devSizes", laid_loop_example_stile_impl_devSizes)], narrowed := true }
def FnExactMemPutRealUptoSaid : Prop := fnExactMemPutRealUptoRow.holds Tryd.pinned (OpenSpec.upto fnExactMemPutRealSpec)

/-- 'laws.FnExactMemPutWhole', WHERE WHAT IT READS IS OF BULK AT MOST 1048576: true; the input reads as it did. -/
def fnExactMemPutWholeUptoRow : OpenClaim := { program := "ytnffgafofkknoaadoor", sum := "312c65cc6255de658c63c94255a35834d68cdb6b73aef10dfbb58c480bbf12f7", func := "loop.example/stile/laws.FnExactMemPutWhole", spec := "fnExactMemPutWhole", named := ["loop.example/stile/impl.devSizes"], apart := false, laid := [("loop.example/stile/impl.devSizes", laid_loop_example_stile_impl_devSizes)], narrowed := true }
def FnExactMemPutWholeUptoSaid : Prop := fnExactMemPutWholeUptoRow.holds Tryd.pinned (OpenSpec.upto fnExactMemPutWholeSpec)

/-- 'laws.FnExactMemReal', WHERE WHAT IT READS IS OF BULK AT MOST 1048576: true; the input reads as it did. -/
def fnExactMemRealUptoRow : OpenClaim := { program := "ytnffgafofkknoaadoor", sum := "312c65cc6255de658c63c94255a35834d68cdb6b73aef10dfbb58c480bbf12f7", func := "loop.example/stile/laws.FnExactMemReal", spec := "fnExactMemReal", inPlace := ["math.Float64frombits", "math.Float64bits"], named := ["loop.example/stile/impl.devSizes", "loop.example/stile/impl.devWords"], apart := false, laid := [("loop.example/stile/impl.devSizes", laid_loop_example_stile_impl_devSizes), ("loop.example/stile/impl.devWords", laid_loop_example_stile_impl_devWords)], narrowed := true }
def FnExactMemRealUptoSaid : Prop := fnExactMemRealUptoRow.holds Tryd.pinned (OpenSpec.upto fnExactMemRealSpec)

/-- 'laws.FnExactMemPut', WHERE WHAT IT READS IS OF BULK AT MOST 1048576: true; the input reads as it did. -/
def fnExactMemPutUptoRow : OpenClaim := { program := "ytnffgafofkknoaadoor", sum := "312c65cc6255de658c63c94255a35834d68cdb6b73aef10dfbb58c480bbf12f7", func := "loop.example/stile/laws.FnExactMemPut", spec := "fnExactMemPut", named := ["loop.example/stile/impl.devSizes"], apart := false, laid := [("loop.example/stile/impl.devSizes", laid_loop_example_stile_impl_devSizes)], narrowed := true }
def FnExactMemPutUptoSaid : Prop := fnExactMemPutUptoRow.holds Tryd.pinned (OpenSpec.upto fnExactMemPutSpec)

/-- 'laws.FnMemPut', WHERE WHAT IT READS IS OF BULK AT MOST 1048576: true; the input reads as it did. -/
def fnMemPutUptoRow : OpenClaim := { program := "ytnffgafofkknoaadoor", sum := "312c65cc6255de658c63c94255a35834d68cdb6b73aef10dfbb58c480bbf12f7", func := "loop.example/stile/laws.FnMemPut", spec := "fnMemPut", inPlace := ["math.Float64bits"], named := ["loop.example/stile/impl.devSizes"], apart := false, laid := [("loop.example/stile/impl.devSizes", laid_loop_example_stile_impl_devSizes)], narrowed := true }
def FnMemPutUptoSaid : Prop := fnMemPutUptoRow.holds Tryd.pinned (OpenSpec.upto fnMemPutSpec)

/-- 'laws.FnMemPutNumber', WHERE WHAT IT READS IS OF BULK AT MOST 1048576: true; the input reads as it did. -/
def fnMemPutNumberUptoRow : OpenClaim := { program := "ytnffgafofkknoaadoor", sum := "312c65cc6255de658c63c94255a35834d68cdb6b73aef10dfbb58c480bbf12f7", func := "loop.example/stile/laws.FnMemPutNumber", spec := "fnMemPutNumber", inPlace := ["math.Float64bits", "math.Float64frombits"], named := ["loop.example/stile/impl.devSizes", "loop.example/stile/impl.devWords"], apart := false, laid := [("loop.example/stile/impl.devSizes", laid_loop_example_stile_impl_devSizes), ("loop.example/stile/impl.devWords", laid_loop_example_stile_impl_devWords)], narrowed := true }
def FnMemPutNumberUptoSaid : Prop := fnMemPutNumberUptoRow.holds Tryd.pinned (OpenSpec.upto fnMemPutNumberSpec)

/-- 'laws.FnMemRound', WHERE WHAT IT READS IS OF BULK AT MOST 1048576: true; the input reads as it did. -/
def fnMemRoundUptoRow : OpenClaim := { program := "ytnffgafofkknoaadoor", sum := "312c65cc6255de658c63c94255a35834d68cdb6b73aef10dfbb58c480bbf12f7", func := "loop.example/stile/laws.FnMemRound", spec := "fnMemRound", inPlace := ["math.Float64frombits", "math.Float64bits"], named := ["loop.example/stile/impl.devSizes", "loop.example/stile/impl.devWords"], apart := false, laid := [("loop.example/stile/impl.devSizes", laid_loop_example_stile_impl_devSizes), ("loop.example/stile/impl.devWords", laid_loop_example_stile_impl_devWords)], narrowed := true }
def FnMemRoundUptoSaid : Prop := fnMemRoundUptoRow.holds Tryd.pinned (OpenSpec.upto fnMemRoundSpec)

end Rows
end Go.Proofs.YtnffgafofkknoaaDoor
