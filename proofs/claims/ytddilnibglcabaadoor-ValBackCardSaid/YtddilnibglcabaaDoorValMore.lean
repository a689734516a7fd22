import Derived.Test.YtddilnibglcabaaDoorVal
import Derived.Test.YtddilnibglcabaaDoorStrs
namespace Go.Proofs.YtddilnibglcabaaDoor
open Go.RowKit

def opsB : List (List UInt8) := [[43], [45], [42], [47], [37], [38], [124], [94], [60, 60], [62, 62], [60], [60, 61], [61, 61], [33, 61]]
def swapsB : List (List UInt8) := [[43], [42], [38], [124], [94], [61, 61], [33, 61]]
def opsL : List ByteArray := opsB.map mkB
def swapsL : List ByteArray := swapsB.map mkB
def opsO : Obj := .cells (opsL.map Value.string).toArray 9
theorem opsO_row (w : World) : Row (w.alloc opsO) (some ⟨w.heap.size, 0, none⟩) (opsL.map Value.string) := Row.new w _ _
theorem Ops_any (w : World) : Calls Tryd.prog 17 #[] w fun e w' => e = .returned (.slice (some ⟨w.heap.size, 0, none⟩) 14 14) ∧ w' = w.alloc opsO := by
  go_enter Tryd.func17, Tryd.ntmps17
  go_wp2_with fail
  go_ret
  exact ⟨rfl, rfl⟩
theorem Swaps_any (s : ByteArray) (w : World) : Calls Tryd.prog 18 #[.string s] w fun e w' => e = .returned (.bool (isIn s swapsL)) ∧ w' = w.alloc (.cells (swapsL.map Value.string).toArray 9) := by
  go_enter Tryd.func18, Tryd.ntmps18
  go_wp2_with (go_at_call 46; refine (Contains_any s _ swapsL _ _ (Row.new w _ _) (by decide)).mono ?_; rintro e w' ⟨rfl, rfl⟩)
  go_ret
  exact ⟨rfl, rfl⟩
end Go.Proofs.YtddilnibglcabaaDoor
