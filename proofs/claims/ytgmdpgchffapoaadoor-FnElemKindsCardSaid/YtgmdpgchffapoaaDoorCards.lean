/-
  DERIVED. GIVEN WITH THE SEED: THE CARDS: each row of YtgmdpgchffapoaaDoorRows.lean that lists a variable, with what it lists TIED to the program's text (the seventh form; the later family's looks); each row that meets fmt, with fmt's text TOLD by the authors' own Lean function (tested against real Go, not proved from fmt's source: count such statements apart). THE CARD IS WHAT COUNTS. Prove the row's statement (the work); the ties are given (YtgmdpgchffapoaaDoorTie.lean); close each card by the builder's one call (the guide's Derived/Test/ToyasCard.lean, 'card_holds'). Laid BY PROGRAM, IN A SANDBOX (cutbox-door.mjs). By AI agents, Wed Nov 11 2026. No macro, syntax, notation, axiom, sorry.
-/
import Derived.Test.YtgmdpgchffapoaaDoorRows
import GoSem.ClaimSeven
namespace Go.Proofs.YtgmdpgchffapoaaDoor
namespace Rows

/-- THE TIED CARD OF 'laws.FnElemKinds'. -/
def fnElemKindsCard : Claim7 := { stood := { row := fnElemKindsRow, standIns := [], harness := (true, "c49b94b3f3e34b2df42918ec9fdb6481cfd802c33baeb804e7fbae70b9b0d2a5"), looks := false }, kinds := [], alts := [], laidByText := true, laidKinds := [.data, .data, .data, .data, .widerDeep, .widerDeep, .widerDeep], laidTests := true, laidLooks := .later }
def FnElemKindsCardSaid : Prop := Claim7.holds Tryd.pinned (.plain (OpenSpec.ofChange fnElemKindsSpec)) fnElemKindsCard

/-- THE SECOND FORM's CARD OF 'laws.FnElemKinds'. -/
def fnElemKindsUptoCard : Claim7 := { stood := { row := fnElemKindsUptoRow, standIns := [], harness := (true, "c49b94b3f3e34b2df42918ec9fdb6481cfd802c33baeb804e7fbae70b9b0d2a5"), looks := false }, kinds := [], alts := [], laidByText := true, laidKinds := [.data, .data, .data, .data, .widerDeep, .widerDeep, .widerDeep], laidTests := true, laidLooks := .later }
def FnElemKindsUptoCardSaid : Prop := Claim7.holds Tryd.pinned (.plain (OpenSpec.upto fnElemKindsSpec)) fnElemKindsUptoCard
end Rows
end Go.Proofs.YtgmdpgchffapoaaDoor
