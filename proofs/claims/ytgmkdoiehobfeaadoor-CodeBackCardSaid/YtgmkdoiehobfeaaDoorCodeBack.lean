import Derived.Test.YtgmkdoiehobfeaaDoorCodeBackH
import Derived.Test.YtgmkdoiehobfeaaDoorCodeBackL
namespace Go.Proofs.YtgmkdoiehobfeaaDoor
open Go.RowKit

theorem CodeBack_walk (v : Int) (h0 : 0 ≤ v) (h1 : v < 18446744073709551616) (x y : PIns) (KB KS KK : Addr) (w : World) (hL : CodeLaid KB KS KK w) :
    Calls Tryd.prog 3 #[.int .u64 v, insV x, insV y] w (Ret (.bool true) w) := by
  by_cases h : 20 < x.op.length ∨ 20 < y.op.length
  · exact back_large v x y KB KS KK w hL h
  · exact back_head v h0 h1 x y KB KS KK w hL (by omega) (by omega)
end Go.Proofs.YtgmkdoiehobfeaaDoor
