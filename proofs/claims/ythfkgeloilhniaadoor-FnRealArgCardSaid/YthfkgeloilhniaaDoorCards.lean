/-
  DERIVED. GIVEN WITH THE SEED: THE CARDS: each row of YthfkgeloilhniaaDoorRows.lean that lists a variable, with what it lists TIED to the program's text (the seventh form; the later family's looks); each row that meets fmt, with fmt's text TOLD by the authors' own Lean function (tested against real Go, not proved from fmt's source: count such statements apart). THE CARD IS WHAT COUNTS. Prove the row's statement (the work); the ties are given (YthfkgeloilhniaaDoorTie.lean); close each card by the builder's one call (the guide's Derived/Test/ToyasCard.lean, 'card_holds'). Laid BY PROGRAM, IN A SANDBOX (cutbox-door.mjs). By AI agents, Wed Nov 11 2026. No macro, syntax, notation, axiom, sorry.
-/
import Derived.Test.YthfkgeloilhniaaDoorRows
import GoSem.ClaimSeven
namespace Go.Proofs.YthfkgeloilhniaaDoor
namespace Rows

/-- THE TIED CARD OF 'laws.FnExactElemIsContact'. -/
def fnExactElemIsContactCard : Claim7 := { stood := { row := fnExactElemIsContactRow, standIns := [], harness := (true, "3ae8ce81644f32e0bddcdd8ee7d3fbab1925d3ec869a28d0638e4833bf620aab"), looks := false }, kinds := [], alts := [], laidByText := true, laidKinds := [.data, .widerDeep], laidTests := true, laidLooks := .later }
def FnExactElemIsContactCardSaid : Prop := Claim7.holds Tryd.pinned (.plain (OpenSpec.ofChange fnExactElemIsContactSpec)) fnExactElemIsContactCard

/-- THE TIED CARD OF 'laws.FnRealArg'. -/
def fnRealArgCard : Claim7 := { stood := { row := fnRealArgRow, standIns := [], harness := (true, "3ae8ce81644f32e0bddcdd8ee7d3fbab1925d3ec869a28d0638e4833bf620aab"), looks := false }, kinds := [], alts := [], laidByText := true, laidKinds := [.data, .widerDeep], laidTests := true, laidLooks := .later }
def FnRealArgCardSaid : Prop := Claim7.holds Tryd.pinned (.plain (OpenSpec.ofChange fnRealArgSpec)) fnRealArgCard

/-- THE TIED CARD OF 'laws.FnExactElemIsCoil'. -/
def fnExactElemIsCoilCard : Claim7 := { stood := { row := fnExactElemIsCoilRow, standIns := [], harness := (true, "3ae8ce81644f32e0bddcdd8ee7d3fbab1925d3ec869a28d0638e4833bf620aab"), looks := false }, kinds := [], alts := [], laidByText := true, laidKinds := [.data, .widerDeep], laidTests := true, laidLooks := .later }
def FnExactElemIsCoilCardSaid : Prop := Claim7.holds Tryd.pinned (.plain (OpenSpec.ofChange fnExactElemIsCoilSpec)) fnExactElemIsCoilCard

/-- THE SECOND FORM's CARD OF 'laws.FnExactElemIsContact'. -/
def fnExactElemIsContactUptoCard : Claim7 := { stood := { row := fnExactElemIsContactUptoRow, standIns := [], harness := (true, "3ae8ce81644f32e0bddcdd8ee7d3fbab1925d3ec869a28d0638e4833bf620aab"), looks := false }, kinds := [], alts := [], laidByText := true, laidKinds := [.data, .widerDeep], laidTests := true, laidLooks := .later }
def FnExactElemIsContactUptoCardSaid : Prop := Claim7.holds Tryd.pinned (.plain (OpenSpec.upto fnExactElemIsContactSpec)) fnExactElemIsContactUptoCard

/-- THE SECOND FORM's CARD OF 'laws.FnRealArg'. -/
def fnRealArgUptoCard : Claim7 := { stood := { row := fnRealArgUptoRow, standIns := [], harness := (true, "3ae8ce81644f32e0bddcdd8ee7d3fbab1925d3ec869a28d0638e4833bf620aab"), looks := false }, kinds := [], alts := [], laidByText := true, laidKinds := [.data, .widerDeep], laidTests := true, laidLooks := .later }
def FnRealArgUptoCardSaid : Prop := Claim7.holds Tryd.pinned (.plain (OpenSpec.upto fnRealArgSpec)) fnRealArgUptoCard

/-- THE SECOND FORM's CARD OF 'laws.FnExactElemIsCoil'. -/
def fnExactElemIsCoilUptoCard : Claim7 := { stood := { row := fnExactElemIsCoilUptoRow, standIns := [], harness := (true, "3ae8ce81644f32e0bddcdd8ee7d3fbab1925d3ec869a28d0638e4833bf620aab"), looks := false }, kinds := [], alts := [], laidByText := true, laidKinds := [.data, .widerDeep], laidTests := true, laidLooks := .later }
def FnExactElemIsCoilUptoCardSaid : Prop := Claim7.holds Tryd.pinned (.plain (OpenSpec.upto fnExactElemIsCoilSpec)) fnExactElemIsCoilUptoCard
end Rows
end Go.Proofs.YthfkgeloilhniaaDoor
