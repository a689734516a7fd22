import Derived.Test.YteifmgcbafemeaaGreatDoorBase
namespace Go.Proofs.YteifmgcbafemeaaGreatDoor
open Go.RowKit

/-- The call returns v; what was there is as it was. -/
def Ret (v : Value) (w : World) : Ending → World → Prop := fun e w' => e = .returned v ∧ Below w.heap.size w w'
theorem mkB_len (l : List UInt8) : (mkB l).size = l.length := rfl
end Go.Proofs.YteifmgcbafemeaaGreatDoor
