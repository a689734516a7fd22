import Derived.Test.YteifmgcbafemeaaGreatDoorBase
namespace Go.Proofs.YteifmgcbafemeaaGreatDoor
open Go.RowKit

def strV (l : List UInt8) : Value := .string (mkB l)
theorem isIn_strV (s : List UInt8) (r : List (List UInt8)) : isIn (mkB s) (r.map mkB) = r.contains s := by
  rw [isIn_mkB, mkB_toList, List.contains_eq_any_beq]
  congr 1
  funext x
  exact Bool.beq_comm ..
end Go.Proofs.YteifmgcbafemeaaGreatDoor
