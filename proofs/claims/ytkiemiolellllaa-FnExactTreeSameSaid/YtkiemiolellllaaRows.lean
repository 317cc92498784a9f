/-
  NARROWER THAN 'FOR EVERY INPUT', by the rows' own cells (each row's printed sentence says how): FnExactTreeSize: loops · FnExactTreeUses: loops · FnExactTreeSame: loops.
  DERIVED. THE GIVEN ROWS OF THIS SEAT. 3 by the template 'for every input the law returns true; each argument reads behind the call as it read before'; 0 by the template 'total and deterministic' (their statements: YtkiemiolellllaaTotals.lean).
  GIVEN WITH THE SEED: the statements are not yours to turn. If you find one false, say at which input.
  Laid BY PROGRAM, IN A SANDBOX (cutbox-rows.mjs): the forced cells as the released guide's own fill.sh prints them over the translation e2cb70aca18b9c4a… (all of the seat's roots in one cut). By AI agents, Wed Nov 11 2026. No macro, syntax, notation, axiom, sorry.
-/
import Derived.Test.YtkiemiolellllaaChecked
import GoSem.Claim
import GoSem.ClaimJoined
import GoSem.ClaimMapViews
import Derived.JoinedTies
import Derived.KernelRfl
namespace Go.Proofs.Ytkiemiolellllaa
/- THE CELL 'sum', in the pinned program and in every row, IS THE sha256 OF THE DUMP (.gsa) THAT YtkiemiolellllaaProg.lean LOADS. Nothing in Lean hashes anything: it is a label: what it is worth is what the hold of that sum in a sandbox is worth. -/
noncomputable def Try.pinned : Pinned := { name := "ytkiemiolellllaa", sum := "e2cb70aca18b9c4a501c0dbb37f64577db1e34395bc73cfb882f8ab8131c4805", checked := Try.checked }
namespace Rows
def none {H : Type} : Left H := { results := [], args := [] }

/-- 'laws.FnExactTreeSize': WHATEVER THE INPUT: true; the input reads as it did. -/
def fnExactTreeSizeSpec : ChangeSpec := { name := "fnExactTreeSize", fn := fun _ => fun
  | [d] => { results := [.lit (.bool true)], args := [d] }
  | _ => none }
def fnExactTreeSizeRow : OpenClaim := { program := "ytkiemiolellllaa", sum := "e2cb70aca18b9c4a501c0dbb37f64577db1e34395bc73cfb882f8ab8131c4805", func := "loop.example/stile/laws.FnExactTreeSize", spec := "fnExactTreeSize", recurses := true, loops := true, apart := false }
def FnExactTreeSizeSaid : Prop := fnExactTreeSizeRow.holds Try.pinned (OpenSpec.ofChange fnExactTreeSizeSpec)

/-- ITS FALSE NEIGHBOUR: 'it returns false'. Refute it at one input. -/
def fnExactTreeSizeWrong : ChangeSpec := { name := "fnExactTreeSize", fn := fun _ => fun
  | [d] => { results := [.lit (.bool false)], args := [d] }
  | _ => none }
def FnExactTreeSizeWrongFalsely : Prop := fnExactTreeSizeRow.holds Try.pinned (OpenSpec.ofChange fnExactTreeSizeWrong)

/-- 'laws.FnExactTreeUses': WHATEVER THE INPUT: true; the input reads as it did. -/
def fnExactTreeUsesSpec : ChangeSpec := { name := "fnExactTreeUses", fn := fun _ => fun
  | [d1, d2] => { results := [.lit (.bool true)], args := [d1, d2] }
  | _ => none }
def fnExactTreeUsesRow : OpenClaim := { program := "ytkiemiolellllaa", sum := "e2cb70aca18b9c4a501c0dbb37f64577db1e34395bc73cfb882f8ab8131c4805", func := "loop.example/stile/laws.FnExactTreeUses", spec := "fnExactTreeUses", recurses := true, loops := true, apart := false }
def FnExactTreeUsesSaid : Prop := fnExactTreeUsesRow.holds Try.pinned (OpenSpec.ofChange fnExactTreeUsesSpec)

/-- ITS FALSE NEIGHBOUR: 'it returns false'. Refute it at one input. -/
def fnExactTreeUsesWrong : ChangeSpec := { name := "fnExactTreeUses", fn := fun _ => fun
  | [d1, d2] => { results := [.lit (.bool false)], args := [d1, d2] }
  | _ => none }
def FnExactTreeUsesWrongFalsely : Prop := fnExactTreeUsesRow.holds Try.pinned (OpenSpec.ofChange fnExactTreeUsesWrong)

/-- 'laws.FnExactTreeSame': WHATEVER THE INPUT: true; the input reads as it did. -/
def fnExactTreeSameSpec : ChangeSpec := { name := "fnExactTreeSame", fn := fun _ => fun
  | [d1, d2] => { results := [.lit (.bool true)], args := [d1, d2] }
  | _ => none }
def fnExactTreeSameRow : OpenClaim := { program := "ytkiemiolellllaa", sum := "e2cb70aca18b9c4a501c0dbb37f64577db1e34395bc73cfb882f8ab8131c4805", func := "loop.example/stile/laws.FnExactTreeSame", spec := "fnExactTreeSame", unfollowed := true, recurses := true, loops := true, apart := false }
def FnExactTreeSameSaid : Prop := fnExactTreeSameRow.holds Try.pinned (OpenSpec.ofChange fnExactTreeSameSpec)

/-- ITS FALSE NEIGHBOUR: 'it returns false'. Refute it at one input. -/
def fnExactTreeSameWrong : ChangeSpec := { name := "fnExactTreeSame", fn := fun _ => fun
  | [d1, d2] => { results := [.lit (.bool false)], args := [d1, d2] }
  | _ => none }
def FnExactTreeSameWrongFalsely : Prop := fnExactTreeSameRow.holds Try.pinned (OpenSpec.ofChange fnExactTreeSameWrong)

/- THE SECOND FORM. 'bulk': how many values and letters a reading holds, each counted each time it is reached (what is shared counts as often as it is met; a slice's spare places count too). A statement '..UptoSaid' is the law's where the arguments, and the package variables that the reading takes, are together of bulk at most 1048576: NARROWER than '..Said'. Prove '..Said' where nothing that the law and all that it calls make is longer than what came in: it says more and counts as full. Else prove '..UptoSaid'. A law counts once. -/
mutual
def uptoBulk {H : Type} : DataW H → Nat
  | .lit (.string bytes) => bytes.length + 1
  | .lit _ => 1
  | .nil => 1
  | .ptr d => uptoBulk d + 1
  | .slice elems spare => uptoBulkAll elems + uptoBulkAll spare + 1
  | .agg parts => uptoBulkAll parts + 1
  | .iface _ d => uptoBulk d + 1
  | .map entries => uptoBulkEntries entries + 1
  | .held _ => 1
def uptoBulkAll {H : Type} : List (DataW H) → Nat
  | [] => 0
  | d :: r => uptoBulk d + uptoBulkAll r
def uptoBulkEntries {H : Type} : List (Lit × DataW H) → Nat
  | [] => 0
  | x :: r => uptoBulkEntry x + uptoBulkEntries r
def uptoBulkEntry {H : Type} : Lit × DataW H → Nat
  | (.string bytes, d) => bytes.length + uptoBulk d + 1
  | (_, d) => uptoBulk d + 1
 end
def uptoSmall : (H : Type) → List (DataW H) → Bool := fun _ ds => decide (uptoBulkAll ds ≤ 1048576)
def OpenSpec.upto (s : _root_.Go.ChangeSpec) : _root_.Go.OpenSpec := { _root_.Go.OpenSpec.ofChange s with cond := some uptoSmall }

/-- 'laws.FnExactTreeSize', WHERE WHAT IT READS IS OF BULK AT MOST 1048576: true; the input reads as it did. -/
def fnExactTreeSizeUptoRow : OpenClaim := { program := "ytkiemiolellllaa", sum := "e2cb70aca18b9c4a501c0dbb37f64577db1e34395bc73cfb882f8ab8131c4805", func := "loop.example/stile/laws.FnExactTreeSize", spec := "fnExactTreeSize", recurses := true, loops := true, apart := false, narrowed := true }
def FnExactTreeSizeUptoSaid : Prop := fnExactTreeSizeUptoRow.holds Try.pinned (OpenSpec.upto fnExactTreeSizeSpec)

/-- 'laws.FnExactTreeUses', WHERE WHAT IT READS IS OF BULK AT MOST 1048576: true; the input reads as it did. -/
def fnExactTreeUsesUptoRow : OpenClaim := { program := "ytkiemiolellllaa", sum := "e2cb70aca18b9c4a501c0dbb37f64577db1e34395bc73cfb882f8ab8131c4805", func := "loop.example/stile/laws.FnExactTreeUses", spec := "fnExactTreeUses", recurses := true, loops := true, apart := false, narrowed := true }
def FnExactTreeUsesUptoSaid : Prop := fnExactTreeUsesUptoRow.holds Try.pinned (OpenSpec.upto fnExactTreeUsesSpec)

/-- 'laws.FnExactTreeSame', WHERE WHAT IT READS IS OF BULK AT MOST 1048576: true; the input reads as it did. -/
def fnExactTreeSameUptoRow : OpenClaim := { program := "ytkiemiolellllaa", sum := "e2cb70aca18b9c4a501c0dbb37f64577db1e34395bc73cfb882f8ab8131c4805", func := "loop.example/stile/laws.FnExactTreeSame", spec := "fnExactTreeSame", unfollowed := true, recurses := true, loops := true, apart := false, narrowed := true }
def FnExactTreeSameUptoSaid : Prop := fnExactTreeSameUptoRow.holds Try.pinned (OpenSpec.upto fnExactTreeSameSpec)

end Rows
end Go.Proofs.Ytkiemiolellllaa
