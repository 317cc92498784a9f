/-
  DERIVED. GIVEN WITH THE SEED: THE CARDS: each row of YtpijegkmghhbhaaDoorRows.lean that lists a variable, with what it lists TIED to the program's text (the seventh form; the later family's looks); each row that meets fmt, with fmt's text TOLD by the authors' own Lean function (tested against real Go, not proved from fmt's source: count such statements apart). THE CARD IS WHAT COUNTS. Prove the row's statement (the work); the ties are given (YtpijegkmghhbhaaDoorTie.lean); close each card by the builder's one call (the guide's Derived/Test/ToyasCard.lean, 'card_holds'). Laid BY PROGRAM, IN A SANDBOX (cutbox-door.mjs). By AI agents, Wed Nov 11 2026. No macro, syntax, notation, axiom, sorry.
-/
import Derived.Test.YtpijegkmghhbhaaDoorRows
import GoSem.ClaimSeven
namespace Go.Proofs.YtpijegkmghhbhaaDoor
namespace Rows

/-- THE TIED CARD OF 'laws.FnExactElemName'. -/
def fnExactElemNameCard : Claim7 := { stood := { row := fnExactElemNameRow, standIns := [], harness := (true, "fe17632a216306dd1fe829dc6463bbd2277d56fefc27b5ea0fcf09683aaa942c"), looks := false }, kinds := [], alts := [], laidByText := true, laidKinds := [.widerDeep], laidTests := true, laidLooks := .later }
def FnExactElemNameCardSaid : Prop := Claim7.holds Tryd.pinned (.plain (OpenSpec.ofChange fnExactElemNameSpec)) fnExactElemNameCard

/-- THE TIED CARD OF 'laws.FnExactCmpFlip'. -/
def fnExactCmpFlipCard : Claim7 := { stood := { row := fnExactCmpFlipRow, standIns := [], harness := (true, "fe17632a216306dd1fe829dc6463bbd2277d56fefc27b5ea0fcf09683aaa942c"), looks := false }, kinds := [], alts := [], laidByText := true, laidKinds := [.data], laidTests := true, laidLooks := .later }
def FnExactCmpFlipCardSaid : Prop := Claim7.holds Tryd.pinned (.plain (OpenSpec.ofChange fnExactCmpFlipSpec)) fnExactCmpFlipCard

/-- THE TIED CARD OF 'laws.FnExactCmpText'. -/
def fnExactCmpTextCard : Claim7 := { stood := { row := fnExactCmpTextRow, standIns := [], harness := (true, "fe17632a216306dd1fe829dc6463bbd2277d56fefc27b5ea0fcf09683aaa942c"), looks := false }, kinds := [], alts := [], laidByText := true, laidKinds := [.widerDeep], laidTests := true, laidLooks := .later }
def FnExactCmpTextCardSaid : Prop := Claim7.holds Tryd.pinned (.plain (OpenSpec.ofChange fnExactCmpTextSpec)) fnExactCmpTextCard

/-- THE TIED CARD OF 'laws.FnExactCmpSwap'. -/
def fnExactCmpSwapCard : Claim7 := { stood := { row := fnExactCmpSwapRow, standIns := [], harness := (true, "fe17632a216306dd1fe829dc6463bbd2277d56fefc27b5ea0fcf09683aaa942c"), looks := false }, kinds := [], alts := [], laidByText := true, laidKinds := [.data], laidTests := true, laidLooks := .later }
def FnExactCmpSwapCardSaid : Prop := Claim7.holds Tryd.pinned (.plain (OpenSpec.ofChange fnExactCmpSwapSpec)) fnExactCmpSwapCard

/-- THE TIED CARD OF 'laws.FnExactDevSize'. -/
def fnExactDevSizeCard : Claim7 := { stood := { row := fnExactDevSizeRow, standIns := [], harness := (true, "fe17632a216306dd1fe829dc6463bbd2277d56fefc27b5ea0fcf09683aaa942c"), looks := false }, kinds := [], alts := [], laidByText := true, laidKinds := [.data], laidTests := true, laidLooks := .later }
def FnExactDevSizeCardSaid : Prop := Claim7.holds Tryd.pinned (.plain (OpenSpec.ofChange fnExactDevSizeSpec)) fnExactDevSizeCard

/-- THE SECOND FORM's CARD OF 'laws.FnExactElemName'. -/
def fnExactElemNameUptoCard : Claim7 := { stood := { row := fnExactElemNameUptoRow, standIns := [], harness := (true, "fe17632a216306dd1fe829dc6463bbd2277d56fefc27b5ea0fcf09683aaa942c"), looks := false }, kinds := [], alts := [], laidByText := true, laidKinds := [.widerDeep], laidTests := true, laidLooks := .later }
def FnExactElemNameUptoCardSaid : Prop := Claim7.holds Tryd.pinned (.plain (OpenSpec.upto fnExactElemNameSpec)) fnExactElemNameUptoCard

/-- THE SECOND FORM's CARD OF 'laws.FnExactCmpFlip'. -/
def fnExactCmpFlipUptoCard : Claim7 := { stood := { row := fnExactCmpFlipUptoRow, standIns := [], harness := (true, "fe17632a216306dd1fe829dc6463bbd2277d56fefc27b5ea0fcf09683aaa942c"), looks := false }, kinds := [], alts := [], laidByText := true, laidKinds := [.data], laidTests := true, laidLooks := .later }
def FnExactCmpFlipUptoCardSaid : Prop := Claim7.holds Tryd.pinned (.plain (OpenSpec.upto fnExactCmpFlipSpec)) fnExactCmpFlipUptoCard

/-- THE SECOND FORM's CARD OF 'laws.FnExactCmpText'. -/
def fnExactCmpTextUptoCard : Claim7 := { stood := { row := fnExactCmpTextUptoRow, standIns := [], harness := (true, "fe17632a216306dd1fe829dc6463bbd2277d56fefc27b5ea0fcf09683aaa942c"), looks := false }, kinds := [], alts := [], laidByText := true, laidKinds := [.widerDeep], laidTests := true, laidLooks := .later }
def FnExactCmpTextUptoCardSaid : Prop := Claim7.holds Tryd.pinned (.plain (OpenSpec.upto fnExactCmpTextSpec)) fnExactCmpTextUptoCard

/-- THE SECOND FORM's CARD OF 'laws.FnExactCmpSwap'. -/
def fnExactCmpSwapUptoCard : Claim7 := { stood := { row := fnExactCmpSwapUptoRow, standIns := [], harness := (true, "fe17632a216306dd1fe829dc6463bbd2277d56fefc27b5ea0fcf09683aaa942c"), looks := false }, kinds := [], alts := [], laidByText := true, laidKinds := [.data], laidTests := true, laidLooks := .later }
def FnExactCmpSwapUptoCardSaid : Prop := Claim7.holds Tryd.pinned (.plain (OpenSpec.upto fnExactCmpSwapSpec)) fnExactCmpSwapUptoCard

/-- THE SECOND FORM's CARD OF 'laws.FnExactDevSize'. -/
def fnExactDevSizeUptoCard : Claim7 := { stood := { row := fnExactDevSizeUptoRow, standIns := [], harness := (true, "fe17632a216306dd1fe829dc6463bbd2277d56fefc27b5ea0fcf09683aaa942c"), looks := false }, kinds := [], alts := [], laidByText := true, laidKinds := [.data], laidTests := true, laidLooks := .later }
def FnExactDevSizeUptoCardSaid : Prop := Claim7.holds Tryd.pinned (.plain (OpenSpec.upto fnExactDevSizeSpec)) fnExactDevSizeUptoCard
end Rows
end Go.Proofs.YtpijegkmghhbhaaDoor
