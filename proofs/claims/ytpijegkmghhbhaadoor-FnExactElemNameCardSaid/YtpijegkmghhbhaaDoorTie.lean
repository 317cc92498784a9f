/-
  DERIVED. GIVEN WITH THE SEED: THE PROGRAM's TIES (one call each: nine closed facts by the kernel) AND EACH ROW's TIE, after the 31st guide's Derived/Test/Toyas{Tie, Card}.lean. No idea stands in it: it is a product of the set-up. Laid BY PROGRAM, IN A SANDBOX (cutbox-door.mjs). By AI agents, Wed Nov 11 2026. No macro, syntax, notation, axiom, sorry.
-/
import Derived.Test.YtpijegkmghhbhaaDoorRows
import Derived.LaidByTextLater
import Derived.SevenTiedAt
import Derived.LaidSub
import Derived.LaidOnce
namespace Go.Proofs.YtpijegkmghhbhaaDoor
open Go
set_option maxRecDepth 100000
theorem seatTie1 : Tryd.prog.laidByTextLater [("loop.example/stile/impl.devSizes", Rows.laid_loop_example_stile_impl_devSizes), ("loop.example/stile/impl.cmpTexts", Rows.laid_loop_example_stile_impl_cmpTexts), ("loop.example/stile/impl.cmpFlips", Rows.laid_loop_example_stile_impl_cmpFlips), ("loop.example/stile/impl.cmpSwaps", Rows.laid_loop_example_stile_impl_cmpSwaps), ("loop.example/stile/impl.coilNames", Rows.laid_loop_example_stile_impl_coilNames)] [.data, .widerDeep, .data, .data, .widerDeep] true :=
  Program.laidByTextLater_by_one 34 8 18 (by kernel_rfl) (by kernel_rfl) (by kernel_rfl) (by kernel_rfl) (by kernel_rfl) (by kernel_rfl) (fun _ _ => by kernel_rfl)
theorem noOwnUnsafe : Tryd.pinned.checked.prog.headLifts.contains "ownunsafe" = false := by kernel_rfl
theorem tie : Tryd.prog.laidByTextLater [("loop.example/stile/impl.coilNames", Rows.laid_loop_example_stile_impl_coilNames)] [.widerDeep] true :=
  Program.laidByTextLater.sub seatTie1 ["loop.example/stile/impl.coilNames"] (by kernel_rfl) (by kernel_rfl)
theorem fnExactElemName_row_tie : Rows.fnExactElemNameRow.laidByTextAt .later Tryd.pinned [.widerDeep] true :=
  OpenClaim.laidByTextAt_later rfl rfl tie noOwnUnsafe
theorem tie2 : Tryd.prog.laidByTextLater [("loop.example/stile/impl.cmpFlips", Rows.laid_loop_example_stile_impl_cmpFlips)] [.data] true :=
  Program.laidByTextLater.sub seatTie1 ["loop.example/stile/impl.cmpFlips"] (by kernel_rfl) (by kernel_rfl)
theorem fnExactCmpFlip_row_tie : Rows.fnExactCmpFlipRow.laidByTextAt .later Tryd.pinned [.data] true :=
  OpenClaim.laidByTextAt_later rfl rfl tie2 noOwnUnsafe
theorem tie3 : Tryd.prog.laidByTextLater [("loop.example/stile/impl.cmpTexts", Rows.laid_loop_example_stile_impl_cmpTexts)] [.widerDeep] true :=
  Program.laidByTextLater.sub seatTie1 ["loop.example/stile/impl.cmpTexts"] (by kernel_rfl) (by kernel_rfl)
theorem fnExactCmpText_row_tie : Rows.fnExactCmpTextRow.laidByTextAt .later Tryd.pinned [.widerDeep] true :=
  OpenClaim.laidByTextAt_later rfl rfl tie3 noOwnUnsafe
theorem tie4 : Tryd.prog.laidByTextLater [("loop.example/stile/impl.cmpSwaps", Rows.laid_loop_example_stile_impl_cmpSwaps)] [.data] true :=
  Program.laidByTextLater.sub seatTie1 ["loop.example/stile/impl.cmpSwaps"] (by kernel_rfl) (by kernel_rfl)
theorem fnExactCmpSwap_row_tie : Rows.fnExactCmpSwapRow.laidByTextAt .later Tryd.pinned [.data] true :=
  OpenClaim.laidByTextAt_later rfl rfl tie4 noOwnUnsafe
theorem tie5 : Tryd.prog.laidByTextLater [("loop.example/stile/impl.devSizes", Rows.laid_loop_example_stile_impl_devSizes)] [.data] true :=
  Program.laidByTextLater.sub seatTie1 ["loop.example/stile/impl.devSizes"] (by kernel_rfl) (by kernel_rfl)
theorem fnExactDevSize_row_tie : Rows.fnExactDevSizeRow.laidByTextAt .later Tryd.pinned [.data] true :=
  OpenClaim.laidByTextAt_later rfl rfl tie5 noOwnUnsafe
theorem fnExactElemNameUpto_row_tie : Rows.fnExactElemNameUptoRow.laidByTextAt .later Tryd.pinned [.widerDeep] true :=
  OpenClaim.laidByTextAt_later rfl rfl tie noOwnUnsafe
theorem fnExactCmpFlipUpto_row_tie : Rows.fnExactCmpFlipUptoRow.laidByTextAt .later Tryd.pinned [.data] true :=
  OpenClaim.laidByTextAt_later rfl rfl tie2 noOwnUnsafe
theorem fnExactCmpTextUpto_row_tie : Rows.fnExactCmpTextUptoRow.laidByTextAt .later Tryd.pinned [.widerDeep] true :=
  OpenClaim.laidByTextAt_later rfl rfl tie3 noOwnUnsafe
theorem fnExactCmpSwapUpto_row_tie : Rows.fnExactCmpSwapUptoRow.laidByTextAt .later Tryd.pinned [.data] true :=
  OpenClaim.laidByTextAt_later rfl rfl tie4 noOwnUnsafe
theorem fnExactDevSizeUpto_row_tie : Rows.fnExactDevSizeUptoRow.laidByTextAt .later Tryd.pinned [.data] true :=
  OpenClaim.laidByTextAt_later rfl rfl tie5 noOwnUnsafe
end Go.Proofs.YtpijegkmghhbhaaDoor
