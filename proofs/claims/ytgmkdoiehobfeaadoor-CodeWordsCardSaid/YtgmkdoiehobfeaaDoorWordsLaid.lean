import Derived.Test.YtgmkdoiehobfeaaDoorCodeLaid
import Derived.Test.YtgmkdoiehobfeaaDoorSeatErr
namespace Go.Proofs.YtgmkdoiehobfeaaDoor
open Go.ChangeShapes Go.WideShapes Go.ChangeAt Go.RowKit

theorem words_laid {W : World} (h : laidMet Tryd.prog (("internal/strconv.uint64pow10", Rows.laid_internal_strconv_uint64pow10) :: errList10.map fun x => (x.1, errD x.2.2)) W) (h2 : handlesMet Tryd.prog [("errors.errorType", Rows.laid_errors_errorType)] W) : ∃ E, Laid E W ∧ CodeLaid (E 1) (E 2) (E 3) W := by
  have htab : Lib.TabIs Tryd.prog W "internal/strconv.uint64pow10" .u64 Lib.pow10Tab := Lib.tabIs_of_head gPow gPowT Tryd.underlying112 Tryd.underlying22 (by kernel_rfl) (by kernel_rfl) (show laidMet Tryd.prog (("internal/strconv.uint64pow10", Lib.tabData .u64 Lib.pow10Tab) :: errList10.map fun x => (x.1, errD x.2.2)) W from h)
  obtain ⟨E, hE⟩ := laid_of_parts (laid_tail h) h2
  exact ⟨E, hE, hE.c1, hE.c2, hE.c3, Lib.tabBelow_of_tabIs htab⟩
end Go.Proofs.YtgmkdoiehobfeaaDoor
