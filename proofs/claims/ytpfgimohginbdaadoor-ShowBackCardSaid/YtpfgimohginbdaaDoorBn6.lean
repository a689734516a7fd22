import Derived.Test.YtpfgimohginbdaaDoorBn4
import Derived.Test.YtpfgimohginbdaaDoorBn5
set_option linter.unusedVariables false
set_option linter.unusedSimpArgs false
namespace Go.Proofs.YtpfgimohginbdaaDoor
open Go.ChangeShapes Go.WideShapes Go.ChangeAt Go.RowKit

theorem laid_both {W : World} (h : laidMet Tryd.prog (("math/bits.deBruijn32tab", Rows.laid_math_bits_deBruijn32tab) :: ("math/bits.deBruijn64tab", Rows.laid_math_bits_deBruijn64tab) :: ("internal/strconv.uint64pow10", Rows.laid_internal_strconv_uint64pow10) :: (errList4.map (fun x => (x.1, errD x.2.2)) ++ [("strconv.ErrRange", Rows.laid_strconv_ErrRange), ("strconv.ErrSyntax", Rows.laid_strconv_ErrSyntax)])) W) :
    ∃ E, Laid E W ∧ Lib.TabBelow Tryd.prog W.heap.size W "internal/strconv.uint64pow10" .u64 Lib.pow10Tab := by
  obtain ⟨E, hE⟩ := laid_tree h
  exact ⟨E, hE, tab_laid (laid_rest (laid_rest h))⟩
end Go.Proofs.YtpfgimohginbdaaDoor
