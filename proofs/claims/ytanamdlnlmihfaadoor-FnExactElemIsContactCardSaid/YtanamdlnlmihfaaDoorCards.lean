/-
  DERIVED. GIVEN WITH THE SEED: THE CARDS: each row of YtanamdlnlmihfaaDoorRows.lean that lists a variable, with what it lists TIED to the program's text (the seventh form; the later family's looks); each row that meets fmt, with fmt's text TOLD by the authors' own Lean function (tested against real Go, not proved from fmt's source: count such statements apart). THE CARD IS WHAT COUNTS. Prove the row's statement (the work); the ties are given (YtanamdlnlmihfaaDoorTie.lean); close each card by the builder's one call (the guide's Derived/Test/ToyasCard.lean, 'card_holds'). Laid BY PROGRAM, IN A SANDBOX (cutbox-door.mjs). By AI agents, Wed Nov 11 2026. No macro, syntax, notation, axiom, sorry.
-/
import Derived.Test.YtanamdlnlmihfaaDoorRows
import GoSem.ClaimSeven
namespace Go.Proofs.YtanamdlnlmihfaaDoor
namespace Rows

/-- THE TIED CARD OF 'laws.FnExactDevOk'. -/
def fnExactDevOkCard : Claim7 := { stood := { row := fnExactDevOkRow, standIns := [], harness := (true, "033a09c7eb66770d2036e4f4db4c63a4c5367a2cfa294945be94f9bf5ed9bd33"), looks := false }, kinds := [], alts := [], laidByText := true, laidKinds := [.data, .widerDeep], laidTests := true, laidLooks := .later }
def FnExactDevOkCardSaid : Prop := Claim7.holds Tryd.pinned (.plain (OpenSpec.ofChange fnExactDevOkSpec)) fnExactDevOkCard

/-- THE TIED CARD OF 'laws.FnExactDevIsBit'. -/
def fnExactDevIsBitCard : Claim7 := { stood := { row := fnExactDevIsBitRow, standIns := [], harness := (true, "033a09c7eb66770d2036e4f4db4c63a4c5367a2cfa294945be94f9bf5ed9bd33"), looks := false }, kinds := [], alts := [], laidByText := true, laidKinds := [.data, .widerDeep], laidTests := true, laidLooks := .later }
def FnExactDevIsBitCardSaid : Prop := Claim7.holds Tryd.pinned (.plain (OpenSpec.ofChange fnExactDevIsBitSpec)) fnExactDevIsBitCard

/-- THE TIED CARD OF 'laws.FnExactDevIsReal'. -/
def fnExactDevIsRealCard : Claim7 := { stood := { row := fnExactDevIsRealRow, standIns := [], harness := (true, "033a09c7eb66770d2036e4f4db4c63a4c5367a2cfa294945be94f9bf5ed9bd33"), looks := false }, kinds := [], alts := [], laidByText := true, laidKinds := [.data, .widerDeep], laidTests := true, laidLooks := .later }
def FnExactDevIsRealCardSaid : Prop := Claim7.holds Tryd.pinned (.plain (OpenSpec.ofChange fnExactDevIsRealSpec)) fnExactDevIsRealCard

/-- THE TIED CARD OF 'laws.FnExactDevIsWhole'. -/
def fnExactDevIsWholeCard : Claim7 := { stood := { row := fnExactDevIsWholeRow, standIns := [], harness := (true, "033a09c7eb66770d2036e4f4db4c63a4c5367a2cfa294945be94f9bf5ed9bd33"), looks := false }, kinds := [], alts := [], laidByText := true, laidKinds := [.data, .widerDeep], laidTests := true, laidLooks := .later }
def FnExactDevIsWholeCardSaid : Prop := Claim7.holds Tryd.pinned (.plain (OpenSpec.ofChange fnExactDevIsWholeSpec)) fnExactDevIsWholeCard

/-- THE TIED CARD OF 'laws.FnExactElemIsContact'. -/
def fnExactElemIsContactCard : Claim7 := { stood := { row := fnExactElemIsContactRow, standIns := [], harness := (true, "033a09c7eb66770d2036e4f4db4c63a4c5367a2cfa294945be94f9bf5ed9bd33"), looks := false }, kinds := [], alts := [], laidByText := true, laidKinds := [.data, .widerDeep], laidTests := true, laidLooks := .later }
def FnExactElemIsContactCardSaid : Prop := Claim7.holds Tryd.pinned (.plain (OpenSpec.ofChange fnExactElemIsContactSpec)) fnExactElemIsContactCard

/-- THE TIED CARD OF 'laws.FnExactElemIsCoil'. -/
def fnExactElemIsCoilCard : Claim7 := { stood := { row := fnExactElemIsCoilRow, standIns := [], harness := (true, "033a09c7eb66770d2036e4f4db4c63a4c5367a2cfa294945be94f9bf5ed9bd33"), looks := false }, kinds := [], alts := [], laidByText := true, laidKinds := [.data, .widerDeep], laidTests := true, laidLooks := .later }
def FnExactElemIsCoilCardSaid : Prop := Claim7.holds Tryd.pinned (.plain (OpenSpec.ofChange fnExactElemIsCoilSpec)) fnExactElemIsCoilCard

/-- THE TIED CARD OF 'laws.FnExactRealArg'. -/
def fnExactRealArgCard : Claim7 := { stood := { row := fnExactRealArgRow, standIns := [], harness := (true, "033a09c7eb66770d2036e4f4db4c63a4c5367a2cfa294945be94f9bf5ed9bd33"), looks := false }, kinds := [], alts := [], laidByText := true, laidKinds := [.data, .widerDeep], laidTests := true, laidLooks := .later }
def FnExactRealArgCardSaid : Prop := Claim7.holds Tryd.pinned (.plain (OpenSpec.ofChange fnExactRealArgSpec)) fnExactRealArgCard

/-- THE TIED CARD OF 'laws.FnRealArg'. -/
def fnRealArgCard : Claim7 := { stood := { row := fnRealArgRow, standIns := [], harness := (true, "033a09c7eb66770d2036e4f4db4c63a4c5367a2cfa294945be94f9bf5ed9bd33"), looks := false }, kinds := [], alts := [], laidByText := true, laidKinds := [.data, .widerDeep], laidTests := true, laidLooks := .later }
def FnRealArgCardSaid : Prop := Claim7.holds Tryd.pinned (.plain (OpenSpec.ofChange fnRealArgSpec)) fnRealArgCard

/-- THE SECOND FORM's CARD OF 'laws.FnExactDevOk'. -/
def fnExactDevOkUptoCard : Claim7 := { stood := { row := fnExactDevOkUptoRow, standIns := [], harness := (true, "033a09c7eb66770d2036e4f4db4c63a4c5367a2cfa294945be94f9bf5ed9bd33"), looks := false }, kinds := [], alts := [], laidByText := true, laidKinds := [.data, .widerDeep], laidTests := true, laidLooks := .later }
def FnExactDevOkUptoCardSaid : Prop := Claim7.holds Tryd.pinned (.plain (OpenSpec.upto fnExactDevOkSpec)) fnExactDevOkUptoCard

/-- THE SECOND FORM's CARD OF 'laws.FnExactDevIsBit'. -/
def fnExactDevIsBitUptoCard : Claim7 := { stood := { row := fnExactDevIsBitUptoRow, standIns := [], harness := (true, "033a09c7eb66770d2036e4f4db4c63a4c5367a2cfa294945be94f9bf5ed9bd33"), looks := false }, kinds := [], alts := [], laidByText := true, laidKinds := [.data, .widerDeep], laidTests := true, laidLooks := .later }
def FnExactDevIsBitUptoCardSaid : Prop := Claim7.holds Tryd.pinned (.plain (OpenSpec.upto fnExactDevIsBitSpec)) fnExactDevIsBitUptoCard

/-- THE SECOND FORM's CARD OF 'laws.FnExactDevIsReal'. -/
def fnExactDevIsRealUptoCard : Claim7 := { stood := { row := fnExactDevIsRealUptoRow, standIns := [], harness := (true, "033a09c7eb66770d2036e4f4db4c63a4c5367a2cfa294945be94f9bf5ed9bd33"), looks := false }, kinds := [], alts := [], laidByText := true, laidKinds := [.data, .widerDeep], laidTests := true, laidLooks := .later }
def FnExactDevIsRealUptoCardSaid : Prop := Claim7.holds Tryd.pinned (.plain (OpenSpec.upto fnExactDevIsRealSpec)) fnExactDevIsRealUptoCard

/-- THE SECOND FORM's CARD OF 'laws.FnExactDevIsWhole'. -/
def fnExactDevIsWholeUptoCard : Claim7 := { stood := { row := fnExactDevIsWholeUptoRow, standIns := [], harness := (true, "033a09c7eb66770d2036e4f4db4c63a4c5367a2cfa294945be94f9bf5ed9bd33"), looks := false }, kinds := [], alts := [], laidByText := true, laidKinds := [.data, .widerDeep], laidTests := true, laidLooks := .later }
def FnExactDevIsWholeUptoCardSaid : Prop := Claim7.holds Tryd.pinned (.plain (OpenSpec.upto fnExactDevIsWholeSpec)) fnExactDevIsWholeUptoCard

/-- THE SECOND FORM's CARD OF 'laws.FnExactElemIsContact'. -/
def fnExactElemIsContactUptoCard : Claim7 := { stood := { row := fnExactElemIsContactUptoRow, standIns := [], harness := (true, "033a09c7eb66770d2036e4f4db4c63a4c5367a2cfa294945be94f9bf5ed9bd33"), looks := false }, kinds := [], alts := [], laidByText := true, laidKinds := [.data, .widerDeep], laidTests := true, laidLooks := .later }
def FnExactElemIsContactUptoCardSaid : Prop := Claim7.holds Tryd.pinned (.plain (OpenSpec.upto fnExactElemIsContactSpec)) fnExactElemIsContactUptoCard

/-- THE SECOND FORM's CARD OF 'laws.FnExactElemIsCoil'. -/
def fnExactElemIsCoilUptoCard : Claim7 := { stood := { row := fnExactElemIsCoilUptoRow, standIns := [], harness := (true, "033a09c7eb66770d2036e4f4db4c63a4c5367a2cfa294945be94f9bf5ed9bd33"), looks := false }, kinds := [], alts := [], laidByText := true, laidKinds := [.data, .widerDeep], laidTests := true, laidLooks := .later }
def FnExactElemIsCoilUptoCardSaid : Prop := Claim7.holds Tryd.pinned (.plain (OpenSpec.upto fnExactElemIsCoilSpec)) fnExactElemIsCoilUptoCard

/-- THE SECOND FORM's CARD OF 'laws.FnExactRealArg'. -/
def fnExactRealArgUptoCard : Claim7 := { stood := { row := fnExactRealArgUptoRow, standIns := [], harness := (true, "033a09c7eb66770d2036e4f4db4c63a4c5367a2cfa294945be94f9bf5ed9bd33"), looks := false }, kinds := [], alts := [], laidByText := true, laidKinds := [.data, .widerDeep], laidTests := true, laidLooks := .later }
def FnExactRealArgUptoCardSaid : Prop := Claim7.holds Tryd.pinned (.plain (OpenSpec.upto fnExactRealArgSpec)) fnExactRealArgUptoCard

/-- THE SECOND FORM's CARD OF 'laws.FnRealArg'. -/
def fnRealArgUptoCard : Claim7 := { stood := { row := fnRealArgUptoRow, standIns := [], harness := (true, "033a09c7eb66770d2036e4f4db4c63a4c5367a2cfa294945be94f9bf5ed9bd33"), looks := false }, kinds := [], alts := [], laidByText := true, laidKinds := [.data, .widerDeep], laidTests := true, laidLooks := .later }
def FnRealArgUptoCardSaid : Prop := Claim7.holds Tryd.pinned (.plain (OpenSpec.upto fnRealArgSpec)) fnRealArgUptoCard
end Rows
end Go.Proofs.YtanamdlnlmihfaaDoor
