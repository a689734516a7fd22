/-
  DERIVED. GIVEN WITH THE SEED: THE PROGRAM's TIES (one call each: nine closed facts by the kernel) AND EACH ROW's TIE, after the 31st guide's Derived/Test/Toyas{Tie, Card}.lean. No idea stands in it: it is a product of the set-up. Laid BY PROGRAM, IN A SANDBOX (cutbox-door.mjs). By AI agents, Wed Nov 11 2026. No macro, syntax, notation, axiom, sorry.
-/
import Derived.Test.YtnpdjncgilekhaaGreatDoorRows
import Derived.LaidByTextLater
import Derived.SevenTiedAt
import Derived.LaidSub
import Derived.LaidOnce
namespace Go.Proofs.YtnpdjncgilekhaaGreatDoor
open Go
set_option maxRecDepth 100000
theorem seatTie1 : Tryz.prog.laidByTextLater [("unicode/utf8.acceptRanges", Rows.laid_unicode_utf8_acceptRanges), ("errors.errorType", Rows.laid_errors_errorType), ("kelpforest/api.ErrText", Rows.laid_kelpforest_api_ErrText), ("kelpforest/api.ErrBound", Rows.laid_kelpforest_api_ErrBound), ("kelpforest/api.ErrShape", Rows.laid_kelpforest_api_ErrShape), ("kelpforest/api.ErrKind", Rows.laid_kelpforest_api_ErrKind), ("kelpforest/api.ErrName", Rows.laid_kelpforest_api_ErrName), ("kelpforest/api.ErrNone", Rows.laid_kelpforest_api_ErrNone), ("kelpforest/api.ErrExist", Rows.laid_kelpforest_api_ErrExist), ("kelpforest/api.ErrFull", Rows.laid_kelpforest_api_ErrFull), ("kelpforest/api.ErrArgs", Rows.laid_kelpforest_api_ErrArgs), ("kelpforest/api.ErrDeep", Rows.laid_kelpforest_api_ErrDeep)] [.data, .handle, .sentinel, .sentinel, .sentinel, .sentinel, .sentinel, .sentinel, .sentinel, .sentinel, .sentinel, .sentinel] true :=
  Program.laidByTextLater_by_one 216 8 33 (by kernel_rfl) (by kernel_rfl) (by kernel_rfl) (by kernel_rfl) (by kernel_rfl) (by kernel_rfl) (fun _ _ => by kernel_rfl)
theorem pin_laid_unicode_utf8_first : Tryz.pinned.checked.prog.pinnedFits "unicode/utf8.first" = true := by kernel_rfl
theorem noOwnUnsafe : Tryz.pinned.checked.prog.headLifts.contains "ownunsafe" = false := by kernel_rfl
theorem fits1 : Tryz.pinned.checked.prog.listedFits [("unicode/utf8.acceptRanges", Rows.laid_unicode_utf8_acceptRanges), ("errors.errorType", Rows.laid_errors_errorType), ("kelpforest/api.ErrText", Rows.laid_kelpforest_api_ErrText), ("kelpforest/api.ErrBound", Rows.laid_kelpforest_api_ErrBound), ("kelpforest/api.ErrShape", Rows.laid_kelpforest_api_ErrShape), ("kelpforest/api.ErrKind", Rows.laid_kelpforest_api_ErrKind), ("kelpforest/api.ErrName", Rows.laid_kelpforest_api_ErrName), ("kelpforest/api.ErrNone", Rows.laid_kelpforest_api_ErrNone), ("kelpforest/api.ErrExist", Rows.laid_kelpforest_api_ErrExist), ("kelpforest/api.ErrFull", Rows.laid_kelpforest_api_ErrFull), ("kelpforest/api.ErrArgs", Rows.laid_kelpforest_api_ErrArgs), ("kelpforest/api.ErrDeep", Rows.laid_kelpforest_api_ErrDeep), ("unicode/utf8.first", Rows.laid_unicode_utf8_first)] = true := by
  unfold Program.listedFits
  rw [noOwnUnsafe]
  kernel_rfl
theorem tie : Tryz.prog.laidByTextLater [("unicode/utf8.acceptRanges", Rows.laid_unicode_utf8_acceptRanges), ("errors.errorType", Rows.laid_errors_errorType), ("kelpforest/api.ErrText", Rows.laid_kelpforest_api_ErrText), ("kelpforest/api.ErrBound", Rows.laid_kelpforest_api_ErrBound), ("kelpforest/api.ErrShape", Rows.laid_kelpforest_api_ErrShape), ("kelpforest/api.ErrKind", Rows.laid_kelpforest_api_ErrKind), ("kelpforest/api.ErrName", Rows.laid_kelpforest_api_ErrName), ("kelpforest/api.ErrNone", Rows.laid_kelpforest_api_ErrNone), ("kelpforest/api.ErrExist", Rows.laid_kelpforest_api_ErrExist), ("kelpforest/api.ErrFull", Rows.laid_kelpforest_api_ErrFull), ("kelpforest/api.ErrArgs", Rows.laid_kelpforest_api_ErrArgs), ("kelpforest/api.ErrDeep", Rows.laid_kelpforest_api_ErrDeep)] [.data, .handle, .sentinel, .sentinel, .sentinel, .sentinel, .sentinel, .sentinel, .sentinel, .sentinel, .sentinel, .sentinel] true :=
  Program.laidByTextLater.sub seatTie1 ["unicode/utf8.acceptRanges", "errors.errorType", "kelpforest/api.ErrText", "kelpforest/api.ErrBound", "kelpforest/api.ErrShape", "kelpforest/api.ErrKind", "kelpforest/api.ErrName", "kelpforest/api.ErrNone", "kelpforest/api.ErrExist", "kelpforest/api.ErrFull", "kelpforest/api.ErrArgs", "kelpforest/api.ErrDeep"] (by kernel_rfl) (by kernel_rfl)
theorem checkTells_row_tie : Rows.checkTellsRow.laidByTextAt .later Tryz.pinned [.data, .handle, .sentinel, .sentinel, .sentinel, .sentinel, .sentinel, .sentinel, .sentinel, .sentinel, .sentinel, .sentinel, .pinned] true :=
  OpenClaim.laidByTextAt_pinned rfl rfl tie rfl rfl rfl rfl (fun y hy _e => by
    simp only [Rows.checkTellsRow, List.zip_cons_cons, List.zip_nil_right, List.mem_cons, List.mem_nil_iff, or_false] at hy
    rcases hy with rfl | rfl | rfl | rfl | rfl | rfl | rfl | rfl | rfl | rfl | rfl | rfl | rfl
    · cases _e
    · cases _e
    · cases _e
    · cases _e
    · cases _e
    · cases _e
    · cases _e
    · cases _e
    · cases _e
    · cases _e
    · cases _e
    · cases _e
    · exact ⟨pin_laid_unicode_utf8_first, by kernel_rfl⟩) fits1
theorem runDoes_row_tie : Rows.runDoesRow.laidByTextAt .later Tryz.pinned [.data, .handle, .sentinel, .sentinel, .sentinel, .sentinel, .sentinel, .sentinel, .sentinel, .sentinel, .sentinel, .sentinel, .pinned] true :=
  OpenClaim.laidByTextAt_pinned rfl rfl tie rfl rfl rfl rfl (fun y hy _e => by
    simp only [Rows.runDoesRow, List.zip_cons_cons, List.zip_nil_right, List.mem_cons, List.mem_nil_iff, or_false] at hy
    rcases hy with rfl | rfl | rfl | rfl | rfl | rfl | rfl | rfl | rfl | rfl | rfl | rfl | rfl
    · cases _e
    · cases _e
    · cases _e
    · cases _e
    · cases _e
    · cases _e
    · cases _e
    · cases _e
    · cases _e
    · cases _e
    · cases _e
    · cases _e
    · exact ⟨pin_laid_unicode_utf8_first, by kernel_rfl⟩) fits1
theorem checkTellsUpto_row_tie : Rows.checkTellsUptoRow.laidByTextAt .later Tryz.pinned [.data, .handle, .sentinel, .sentinel, .sentinel, .sentinel, .sentinel, .sentinel, .sentinel, .sentinel, .sentinel, .sentinel, .pinned] true :=
  OpenClaim.laidByTextAt_pinned rfl rfl tie rfl rfl rfl rfl (fun y hy _e => by
    simp only [Rows.checkTellsUptoRow, List.zip_cons_cons, List.zip_nil_right, List.mem_cons, List.mem_nil_iff, or_false] at hy
    rcases hy with rfl | rfl | rfl | rfl | rfl | rfl | rfl | rfl | rfl | rfl | rfl | rfl | rfl
    · cases _e
    · cases _e
    · cases _e
    · cases _e
    · cases _e
    · cases _e
    · cases _e
    · cases _e
    · cases _e
    · cases _e
    · cases _e
    · cases _e
    · exact ⟨pin_laid_unicode_utf8_first, by kernel_rfl⟩) fits1
theorem runDoesUpto_row_tie : Rows.runDoesUptoRow.laidByTextAt .later Tryz.pinned [.data, .handle, .sentinel, .sentinel, .sentinel, .sentinel, .sentinel, .sentinel, .sentinel, .sentinel, .sentinel, .sentinel, .pinned] true :=
  OpenClaim.laidByTextAt_pinned rfl rfl tie rfl rfl rfl rfl (fun y hy _e => by
    simp only [Rows.runDoesUptoRow, List.zip_cons_cons, List.zip_nil_right, List.mem_cons, List.mem_nil_iff, or_false] at hy
    rcases hy with rfl | rfl | rfl | rfl | rfl | rfl | rfl | rfl | rfl | rfl | rfl | rfl | rfl
    · cases _e
    · cases _e
    · cases _e
    · cases _e
    · cases _e
    · cases _e
    · cases _e
    · cases _e
    · cases _e
    · cases _e
    · cases _e
    · cases _e
    · exact ⟨pin_laid_unicode_utf8_first, by kernel_rfl⟩) fits1
end Go.Proofs.YtnpdjncgilekhaaGreatDoor
