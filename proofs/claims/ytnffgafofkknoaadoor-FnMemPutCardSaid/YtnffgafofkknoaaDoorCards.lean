/-
  DERIVED. GIVEN WITH THE SEED: THE CARDS: each row of YtnffgafofkknoaaDoorRows.lean that lists a variable, with what it lists TIED to the program's text (the seventh form; the later family's looks); each row that meets fmt, with fmt's text TOLD by the authors' own Lean function (tested against real Go, not proved from fmt's source: count such statements apart). THE CARD IS WHAT COUNTS. Prove the row's statement (the work); the ties are given (YtnffgafofkknoaaDoorTie.lean); close each card by the builder's one call (the guide's Derived/Test/ToyasCard.lean, 'card_holds'). Laid BY PROGRAM, IN A SANDBOX (cutbox-door.mjs). By AI agents, Wed Nov 11 2026. No macro, syntax, notation, axiom, sorry.
-/
import Derived.Test.YtnffgafofkknoaaDoorRows
import GoSem.ClaimSeven
namespace Go.Proofs.YtnffgafofkknoaaDoor
namespace Rows

/-- THE TIED CARD OF 'laws.FnExactMemWhole'. -/
def fnExactMemWholeCard : Claim7 := { stood := { row := fnExactMemWholeRow, standIns := [], harness := (true, "03ce29a3d402704487f45aec8c08ae4c39833913e70a72120d9247eaefd060bd"), looks := false }, kinds := [], alts := [], laidByText := true, laidKinds := [.data], laidTests := true, laidLooks := .later }
def FnExactMemWholeCardSaid : Prop := Claim7.holds Tryd.pinned (.plain (OpenSpec.ofChange fnExactMemWholeSpec)) fnExactMemWholeCard

/-- THE TIED CARD OF 'laws.FnExactMemBit'. -/
def fnExactMemBitCard : Claim7 := { stood := { row := fnExactMemBitRow, standIns := [], harness := (true, "03ce29a3d402704487f45aec8c08ae4c39833913e70a72120d9247eaefd060bd"), looks := false }, kinds := [], alts := [], laidByText := true, laidKinds := [.data], laidTests := true, laidLooks := .later }
def FnExactMemBitCardSaid : Prop := Claim7.holds Tryd.pinned (.plain (OpenSpec.ofChange fnExactMemBitSpec)) fnExactMemBitCard

/-- THE TIED CARD OF 'laws.FnExactMemPutReal'. -/
def fnExactMemPutRealCard : Claim7 := { stood := { row := fnExactMemPutRealRow, standIns := [], harness := (true, "03ce29a3d402704487f45aec8c08ae4c39833913e70a72120d9247eaefd060bd"), looks := false }, kinds := [], alts := [], laidByText := true, laidKinds := [.data], laidTests := true, laidLooks := .later }
def FnExactMemPutRealCardSaid : Prop := Claim7.holds Tryd.pinned (.plain (OpenSpec.ofChange fnExactMemPutRealSpec)) fnExactMemPutRealCard

/-- THE TIED CARD OF 'laws.FnExactMemPutWhole'. -/
def fnExactMemPutWholeCard : Claim7 := { stood := { row := fnExactMemPutWholeRow, standIns := [], harness := (true, "03ce29a3d402704487f45aec8c08ae4c39833913e70a72120d9247eaefd060bd"), looks := false }, kinds := [], alts := [], laidByText := true, laidKinds := [.data], laidTests := true, laidLooks := .later }
def FnExactMemPutWholeCardSaid : Prop := Claim7.holds Tryd.pinned (.plain (OpenSpec.ofChange fnExactMemPutWholeSpec)) fnExactMemPutWholeCard

/-- THE TIED CARD OF 'laws.FnExactMemReal'. -/
def fnExactMemRealCard : Claim7 := { stood := { row := fnExactMemRealRow, standIns := [], harness := (true, "03ce29a3d402704487f45aec8c08ae4c39833913e70a72120d9247eaefd060bd"), looks := false }, kinds := [], alts := [], laidByText := true, laidKinds := [.data, .widerDeep], laidTests := true, laidLooks := .later }
def FnExactMemRealCardSaid : Prop := Claim7.holds Tryd.pinned (.plain (OpenSpec.ofChange fnExactMemRealSpec)) fnExactMemRealCard

/-- THE TIED CARD OF 'laws.FnExactMemPut'. -/
def fnExactMemPutCard : Claim7 := { stood := { row := fnExactMemPutRow, standIns := [], harness := (true, "03ce29a3d402704487f45aec8c08ae4c39833913e70a72120d9247eaefd060bd"), looks := false }, kinds := [], alts := [], laidByText := true, laidKinds := [.data], laidTests := true, laidLooks := .later }
def FnExactMemPutCardSaid : Prop := Claim7.holds Tryd.pinned (.plain (OpenSpec.ofChange fnExactMemPutSpec)) fnExactMemPutCard

/-- THE TIED CARD OF 'laws.FnMemPut'. -/
def fnMemPutCard : Claim7 := { stood := { row := fnMemPutRow, standIns := [], harness := (true, "03ce29a3d402704487f45aec8c08ae4c39833913e70a72120d9247eaefd060bd"), looks := false }, kinds := [], alts := [], laidByText := true, laidKinds := [.data], laidTests := true, laidLooks := .later }
def FnMemPutCardSaid : Prop := Claim7.holds Tryd.pinned (.plain (OpenSpec.ofChange fnMemPutSpec)) fnMemPutCard

/-- THE TIED CARD OF 'laws.FnMemPutNumber'. -/
def fnMemPutNumberCard : Claim7 := { stood := { row := fnMemPutNumberRow, standIns := [], harness := (true, "03ce29a3d402704487f45aec8c08ae4c39833913e70a72120d9247eaefd060bd"), looks := false }, kinds := [], alts := [], laidByText := true, laidKinds := [.data, .widerDeep], laidTests := true, laidLooks := .later }
def FnMemPutNumberCardSaid : Prop := Claim7.holds Tryd.pinned (.plain (OpenSpec.ofChange fnMemPutNumberSpec)) fnMemPutNumberCard

/-- THE TIED CARD OF 'laws.FnMemRound'. -/
def fnMemRoundCard : Claim7 := { stood := { row := fnMemRoundRow, standIns := [], harness := (true, "03ce29a3d402704487f45aec8c08ae4c39833913e70a72120d9247eaefd060bd"), looks := false }, kinds := [], alts := [], laidByText := true, laidKinds := [.data, .widerDeep], laidTests := true, laidLooks := .later }
def FnMemRoundCardSaid : Prop := Claim7.holds Tryd.pinned (.plain (OpenSpec.ofChange fnMemRoundSpec)) fnMemRoundCard

/-- THE SECOND FORM's CARD OF 'laws.FnExactMemWhole'. -/
def fnExactMemWholeUptoCard : Claim7 := { stood := { row := fnExactMemWholeUptoRow, standIns := [], harness := (true, "03ce29a3d402704487f45aec8c08ae4c39833913e70a72120d9247eaefd060bd"), looks := false }, kinds := [], alts := [], laidByText := true, laidKinds := [.data], laidTests := true, laidLooks := .later }
def FnExactMemWholeUptoCardSaid : Prop := Claim7.holds Tryd.pinned (.plain (OpenSpec.upto fnExactMemWholeSpec)) fnExactMemWholeUptoCard

/-- THE SECOND FORM's CARD OF 'laws.FnExactMemBit'. -/
def fnExactMemBitUptoCard : Claim7 := { stood := { row := fnExactMemBitUptoRow, standIns := [], harness := (true, "03ce29a3d402704487f45aec8c08ae4c39833913e70a72120d9247eaefd060bd"), looks := false }, kinds := [], alts := [], laidByText := true, laidKinds := [.data], laidTests := true, laidLooks := .later }
def FnExactMemBitUptoCardSaid : Prop := Claim7.holds Tryd.pinned (.plain (OpenSpec.upto fnExactMemBitSpec)) fnExactMemBitUptoCard

/-- THE SECOND FORM's CARD OF 'laws.FnExactMemPutReal'. -/
def fnExactMemPutRealUptoCard : Claim7 := { stood := { row := fnExactMemPutRealUptoRow, standIns := [], harness := (true, "03ce29a3d402704487f45aec8c08ae4c39833913e70a72120d9247eaefd060bd"), looks := false }, kinds := [], alts := [], laidByText := true, laidKinds := [.data], laidTests := true, laidLooks := .later }
def FnExactMemPutRealUptoCardSaid : Prop := Claim7.holds Tryd.pinned (.plain (OpenSpec.upto fnExactMemPutRealSpec)) fnExactMemPutRealUptoCard

/-- THE SECOND FORM's CARD OF 'laws.FnExactMemPutWhole'. -/
def fnExactMemPutWholeUptoCard : Claim7 := { stood := { row := fnExactMemPutWholeUptoRow, standIns := [], harness := (true, "03ce29a3d402704487f45aec8c08ae4c39833913e70a72120d9247eaefd060bd"), looks := false }, kinds := [], alts := [], laidByText := true, laidKinds := [.data], laidTests := true, laidLooks := .later }
def FnExactMemPutWholeUptoCardSaid : Prop := Claim7.holds Tryd.pinned (.plain (OpenSpec.upto fnExactMemPutWholeSpec)) fnExactMemPutWholeUptoCard

/-- THE SECOND FORM's CARD OF 'laws.FnExactMemReal'. -/
def fnExactMemRealUptoCard : Claim7 := { stood := { row := fnExactMemRealUptoRow, standIns := [], harness := (true, "03ce29a3d402704487f45aec8c08ae4c39833913e70a72120d9247eaefd060bd"), looks := false }, kinds := [], alts := [], laidByText := true, laidKinds := [.data, .widerDeep], laidTests := true, laidLooks := .later }
def FnExactMemRealUptoCardSaid : Prop := Claim7.holds Tryd.pinned (.plain (OpenSpec.upto fnExactMemRealSpec)) fnExactMemRealUptoCard

/-- THE SECOND FORM's CARD OF 'laws.FnExactMemPut'. -/
def fnExactMemPutUptoCard : Claim7 := { stood := { row := fnExactMemPutUptoRow, standIns := [], harness := (true, "03ce29a3d402704487f45aec8c08ae4c39833913e70a72120d9247eaefd060bd"), looks := false }, kinds := [], alts := [], laidByText := true, laidKinds := [.data], laidTests := true, laidLooks := .later }
def FnExactMemPutUptoCardSaid : Prop := Claim7.holds Tryd.pinned (.plain (OpenSpec.upto fnExactMemPutSpec)) fnExactMemPutUptoCard

/-- THE SECOND FORM's CARD OF 'laws.FnMemPut'. -/
def fnMemPutUptoCard : Claim7 := { stood := { row := fnMemPutUptoRow, standIns := [], harness := (true, "03ce29a3d402704487f45aec8c08ae4c39833913e70a72120d9247eaefd060bd"), looks := false }, kinds := [], alts := [], laidByText := true, laidKinds := [.data], laidTests := true, laidLooks := .later }
def FnMemPutUptoCardSaid : Prop := Claim7.holds Tryd.pinned (.plain (OpenSpec.upto fnMemPutSpec)) fnMemPutUptoCard

/-- THE SECOND FORM's CARD OF 'laws.FnMemPutNumber'. -/
def fnMemPutNumberUptoCard : Claim7 := { stood := { row := fnMemPutNumberUptoRow, standIns := [], harness := (true, "03ce29a3d402704487f45aec8c08ae4c39833913e70a72120d9247eaefd060bd"), looks := false }, kinds := [], alts := [], laidByText := true, laidKinds := [.data, .widerDeep], laidTests := true, laidLooks := .later }
def FnMemPutNumberUptoCardSaid : Prop := Claim7.holds Tryd.pinned (.plain (OpenSpec.upto fnMemPutNumberSpec)) fnMemPutNumberUptoCard

/-- THE SECOND FORM's CARD OF 'laws.FnMemRound'. -/
def fnMemRoundUptoCard : Claim7 := { stood := { row := fnMemRoundUptoRow, standIns := [], harness := (true, "03ce29a3d402704487f45aec8c08ae4c39833913e70a72120d9247eaefd060bd"), looks := false }, kinds := [], alts := [], laidByText := true, laidKinds := [.data, .widerDeep], laidTests := true, laidLooks := .later }
def FnMemRoundUptoCardSaid : Prop := Claim7.holds Tryd.pinned (.plain (OpenSpec.upto fnMemRoundSpec)) fnMemRoundUptoCard
end Rows
end Go.Proofs.YtnffgafofkknoaaDoor
