/-
  DERIVED. GIVEN WITH THE SEED: THE PROGRAM's TIES (one call each: nine closed facts by the kernel) AND EACH ROW's TIE, after the 31st guide's Derived/Test/Toyas{Tie, Card}.lean. No idea stands in it: it is a product of the set-up. Laid BY PROGRAM, IN A SANDBOX (cutbox-door.mjs). By AI agents, Wed Nov 11 2026. No macro, syntax, notation, axiom, sorry.
-/
import Derived.Test.YteifmgcbafemeaaDoorRows
import Derived.LaidByTextLater
import Derived.SevenTiedAt
import Derived.LaidSub
import Derived.LaidOnce
namespace Go.Proofs.YteifmgcbafemeaaDoor
open Go
set_option maxRecDepth 100000
theorem seatTie1 : Tryd.prog.laidByTextLater [("unicode/utf8.acceptRanges", Rows.laid_unicode_utf8_acceptRanges), ("kelpforest/api.ErrBound", Rows.laid_kelpforest_api_ErrBound), ("kelpforest/api.ErrShape", Rows.laid_kelpforest_api_ErrShape), ("kelpforest/api.ErrKind", Rows.laid_kelpforest_api_ErrKind), ("kelpforest/api.ErrName", Rows.laid_kelpforest_api_ErrName), ("kelpforest/api.ErrNone", Rows.laid_kelpforest_api_ErrNone), ("kelpforest/api.ErrExist", Rows.laid_kelpforest_api_ErrExist), ("kelpforest/api.ErrFull", Rows.laid_kelpforest_api_ErrFull), ("kelpforest/api.ErrArgs", Rows.laid_kelpforest_api_ErrArgs)] [.data, .sentinel, .sentinel, .sentinel, .sentinel, .sentinel, .sentinel, .sentinel, .sentinel] true :=
  Program.laidByTextLater_by_one 171 8 33 (by kernel_rfl) (by kernel_rfl) (by kernel_rfl) (by kernel_rfl) (by kernel_rfl) (by kernel_rfl) (fun _ _ => by kernel_rfl)
theorem pin_laid_unicode_utf8_first : Tryd.pinned.checked.prog.pinnedFits "unicode/utf8.first" = true := by kernel_rfl
theorem noOwnUnsafe : Tryd.pinned.checked.prog.headLifts.contains "ownunsafe" = false := by kernel_rfl
theorem fits1 : Tryd.pinned.checked.prog.listedFits [("unicode/utf8.acceptRanges", Rows.laid_unicode_utf8_acceptRanges), ("kelpforest/api.ErrBound", Rows.laid_kelpforest_api_ErrBound), ("kelpforest/api.ErrShape", Rows.laid_kelpforest_api_ErrShape), ("kelpforest/api.ErrKind", Rows.laid_kelpforest_api_ErrKind), ("kelpforest/api.ErrName", Rows.laid_kelpforest_api_ErrName), ("kelpforest/api.ErrNone", Rows.laid_kelpforest_api_ErrNone), ("kelpforest/api.ErrExist", Rows.laid_kelpforest_api_ErrExist), ("kelpforest/api.ErrFull", Rows.laid_kelpforest_api_ErrFull), ("kelpforest/api.ErrArgs", Rows.laid_kelpforest_api_ErrArgs), ("unicode/utf8.first", Rows.laid_unicode_utf8_first)] = true := by
  unfold Program.listedFits
  rw [noOwnUnsafe]
  kernel_rfl
theorem tie : Tryd.prog.laidByTextLater [("unicode/utf8.acceptRanges", Rows.laid_unicode_utf8_acceptRanges), ("kelpforest/api.ErrBound", Rows.laid_kelpforest_api_ErrBound), ("kelpforest/api.ErrShape", Rows.laid_kelpforest_api_ErrShape), ("kelpforest/api.ErrKind", Rows.laid_kelpforest_api_ErrKind), ("kelpforest/api.ErrName", Rows.laid_kelpforest_api_ErrName), ("kelpforest/api.ErrNone", Rows.laid_kelpforest_api_ErrNone), ("kelpforest/api.ErrExist", Rows.laid_kelpforest_api_ErrExist), ("kelpforest/api.ErrFull", Rows.laid_kelpforest_api_ErrFull), ("kelpforest/api.ErrArgs", Rows.laid_kelpforest_api_ErrArgs)] [.data, .sentinel, .sentinel, .sentinel, .sentinel, .sentinel, .sentinel, .sentinel, .sentinel] true :=
  Program.laidByTextLater.sub seatTie1 ["unicode/utf8.acceptRanges", "kelpforest/api.ErrBound", "kelpforest/api.ErrShape", "kelpforest/api.ErrKind", "kelpforest/api.ErrName", "kelpforest/api.ErrNone", "kelpforest/api.ErrExist", "kelpforest/api.ErrFull", "kelpforest/api.ErrArgs"] (by kernel_rfl) (by kernel_rfl)
theorem runMore_row_tie : Rows.runMoreRow.laidByTextAt .later Tryd.pinned [.data, .sentinel, .sentinel, .sentinel, .sentinel, .sentinel, .sentinel, .sentinel, .sentinel, .pinned] true :=
  OpenClaim.laidByTextAt_pinned rfl rfl tie rfl rfl rfl rfl (fun y hy _e => by
    simp only [Rows.runMoreRow, List.zip_cons_cons, List.zip_nil_right, List.mem_cons, List.mem_nil_iff, or_false] at hy
    rcases hy with rfl | rfl | rfl | rfl | rfl | rfl | rfl | rfl | rfl | rfl
    · cases _e
    · cases _e
    · cases _e
    · cases _e
    · cases _e
    · cases _e
    · cases _e
    · cases _e
    · cases _e
    · exact ⟨pin_laid_unicode_utf8_first, by kernel_rfl⟩) fits1
theorem runAlone_row_tie : Rows.runAloneRow.laidByTextAt .later Tryd.pinned [.data, .sentinel, .sentinel, .sentinel, .sentinel, .sentinel, .sentinel, .sentinel, .sentinel, .pinned] true :=
  OpenClaim.laidByTextAt_pinned rfl rfl tie rfl rfl rfl rfl (fun y hy _e => by
    simp only [Rows.runAloneRow, List.zip_cons_cons, List.zip_nil_right, List.mem_cons, List.mem_nil_iff, or_false] at hy
    rcases hy with rfl | rfl | rfl | rfl | rfl | rfl | rfl | rfl | rfl | rfl
    · cases _e
    · cases _e
    · cases _e
    · cases _e
    · cases _e
    · cases _e
    · cases _e
    · cases _e
    · cases _e
    · exact ⟨pin_laid_unicode_utf8_first, by kernel_rfl⟩) fits1
theorem runMoreUpto_row_tie : Rows.runMoreUptoRow.laidByTextAt .later Tryd.pinned [.data, .sentinel, .sentinel, .sentinel, .sentinel, .sentinel, .sentinel, .sentinel, .sentinel, .pinned] true :=
  OpenClaim.laidByTextAt_pinned rfl rfl tie rfl rfl rfl rfl (fun y hy _e => by
    simp only [Rows.runMoreUptoRow, List.zip_cons_cons, List.zip_nil_right, List.mem_cons, List.mem_nil_iff, or_false] at hy
    rcases hy with rfl | rfl | rfl | rfl | rfl | rfl | rfl | rfl | rfl | rfl
    · cases _e
    · cases _e
    · cases _e
    · cases _e
    · cases _e
    · cases _e
    · cases _e
    · cases _e
    · cases _e
    · exact ⟨pin_laid_unicode_utf8_first, by kernel_rfl⟩) fits1
theorem runAloneUpto_row_tie : Rows.runAloneUptoRow.laidByTextAt .later Tryd.pinned [.data, .sentinel, .sentinel, .sentinel, .sentinel, .sentinel, .sentinel, .sentinel, .sentinel, .pinned] true :=
  OpenClaim.laidByTextAt_pinned rfl rfl tie rfl rfl rfl rfl (fun y hy _e => by
    simp only [Rows.runAloneUptoRow, List.zip_cons_cons, List.zip_nil_right, List.mem_cons, List.mem_nil_iff, or_false] at hy
    rcases hy with rfl | rfl | rfl | rfl | rfl | rfl | rfl | rfl | rfl | rfl
    · cases _e
    · cases _e
    · cases _e
    · cases _e
    · cases _e
    · cases _e
    · cases _e
    · cases _e
    · cases _e
    · exact ⟨pin_laid_unicode_utf8_first, by kernel_rfl⟩) fits1
end Go.Proofs.YteifmgcbafemeaaDoor
