/-
  DERIVED. GIVEN WITH THE SEED: THE PROGRAM's TIES (one call each: nine closed facts by the kernel) AND EACH ROW's TIE, after the 31st guide's Derived/Test/Toyas{Tie, Card}.lean. No idea stands in it: it is a product of the set-up. Laid BY PROGRAM, IN A SANDBOX (cutbox-door.mjs). By AI agents, Wed Nov 11 2026. No macro, syntax, notation, axiom, sorry.
-/
import Derived.Test.YtdilakpipbkokaaDoorRows
import Derived.LaidByTextLater
import Derived.SevenTiedAt
import Derived.LaidSub
import Derived.LaidOnce
namespace Go.Proofs.YtdilakpipbkokaaDoor
open Go
set_option maxRecDepth 100000
theorem seatTie1 : Tryd.prog.laidByTextLater [("errors.errorType", Rows.laid_errors_errorType), ("kelpforest/api.ErrText", Rows.laid_kelpforest_api_ErrText), ("kelpforest/api.ErrBound", Rows.laid_kelpforest_api_ErrBound), ("kelpforest/api.ErrShape", Rows.laid_kelpforest_api_ErrShape), ("kelpforest/api.ErrKind", Rows.laid_kelpforest_api_ErrKind), ("kelpforest/api.ErrName", Rows.laid_kelpforest_api_ErrName), ("kelpforest/api.ErrNone", Rows.laid_kelpforest_api_ErrNone), ("kelpforest/api.ErrExist", Rows.laid_kelpforest_api_ErrExist), ("kelpforest/api.ErrFull", Rows.laid_kelpforest_api_ErrFull), ("kelpforest/api.ErrArgs", Rows.laid_kelpforest_api_ErrArgs), ("kelpforest/api.ErrDeep", Rows.laid_kelpforest_api_ErrDeep)] [.handle, .sentinel, .sentinel, .sentinel, .sentinel, .sentinel, .sentinel, .sentinel, .sentinel, .sentinel, .sentinel] true :=
  Program.laidByTextLater_by_one 206 8 2 (by kernel_rfl) (by kernel_rfl) (by kernel_rfl) (by kernel_rfl) (by kernel_rfl) (by kernel_rfl) (fun _ _ => by kernel_rfl)
theorem noOwnUnsafe : Tryd.pinned.checked.prog.headLifts.contains "ownunsafe" = false := by kernel_rfl
theorem tie : Tryd.prog.laidByTextLater [("errors.errorType", Rows.laid_errors_errorType), ("kelpforest/api.ErrText", Rows.laid_kelpforest_api_ErrText), ("kelpforest/api.ErrBound", Rows.laid_kelpforest_api_ErrBound), ("kelpforest/api.ErrShape", Rows.laid_kelpforest_api_ErrShape), ("kelpforest/api.ErrKind", Rows.laid_kelpforest_api_ErrKind), ("kelpforest/api.ErrName", Rows.laid_kelpforest_api_ErrName), ("kelpforest/api.ErrNone", Rows.laid_kelpforest_api_ErrNone), ("kelpforest/api.ErrExist", Rows.laid_kelpforest_api_ErrExist), ("kelpforest/api.ErrFull", Rows.laid_kelpforest_api_ErrFull), ("kelpforest/api.ErrArgs", Rows.laid_kelpforest_api_ErrArgs), ("kelpforest/api.ErrDeep", Rows.laid_kelpforest_api_ErrDeep)] [.handle, .sentinel, .sentinel, .sentinel, .sentinel, .sentinel, .sentinel, .sentinel, .sentinel, .sentinel, .sentinel] true :=
  Program.laidByTextLater.sub seatTie1 ["errors.errorType", "kelpforest/api.ErrText", "kelpforest/api.ErrBound", "kelpforest/api.ErrShape", "kelpforest/api.ErrKind", "kelpforest/api.ErrName", "kelpforest/api.ErrNone", "kelpforest/api.ErrExist", "kelpforest/api.ErrFull", "kelpforest/api.ErrArgs", "kelpforest/api.ErrDeep"] (by kernel_rfl) (by kernel_rfl)
theorem placeWalks_row_tie : Rows.placeWalksRow.laidByTextAt .later Tryd.pinned [.handle, .sentinel, .sentinel, .sentinel, .sentinel, .sentinel, .sentinel, .sentinel, .sentinel, .sentinel, .sentinel] true :=
  OpenClaim.laidByTextAt_later rfl rfl tie noOwnUnsafe
theorem placeWalksUpto_row_tie : Rows.placeWalksUptoRow.laidByTextAt .later Tryd.pinned [.handle, .sentinel, .sentinel, .sentinel, .sentinel, .sentinel, .sentinel, .sentinel, .sentinel, .sentinel, .sentinel] true :=
  OpenClaim.laidByTextAt_later rfl rfl tie noOwnUnsafe
end Go.Proofs.YtdilakpipbkokaaDoor
