import Derived.Test.YtpfgimohginbdaaDoorShelf
import Derived.Lib.AppendIntMem
import Derived.Test.YtpfgimohginbdaaDoorBn14
set_option linter.unusedVariables false
set_option linter.unusedSimpArgs false
namespace Go.Proofs.YtpfgimohginbdaaDoor
open Go.RowKit

theorem itoa_any' (n : Int) (h0 : -9223372036854775808 ≤ n) (h1 : n ≤ 9223372036854775807) (w0 w : World) (htab : Lib.TabBelow Tryd.prog w0.heap.size w0 "internal/strconv.uint64pow10" .u64 Lib.pow10Tab) (hb : Below w0.heap.size w0 w) :
    Calls Tryd.prog 46 #[.int .i64 n] w (Ret (.string (mkB (Lib.itoa n))) w) := by
  refine (Tryd.strconv_Itoa n h0 h1 w (htab w hb)).mono ?_
  rintro e w' ⟨rfl, k, os, rfl⟩
  exact ⟨rfl, Lib.below_grow _ _ (Nat.le_refl _) k os⟩
end Go.Proofs.YtpfgimohginbdaaDoor
