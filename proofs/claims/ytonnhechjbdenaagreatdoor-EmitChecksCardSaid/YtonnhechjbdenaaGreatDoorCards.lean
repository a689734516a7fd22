/-
  DERIVED. GIVEN WITH THE SEED: THE CARDS: each row of YtonnhechjbdenaaGreatDoorRows.lean that lists a variable, with what it lists TIED to the program's text (the seventh form; the later family's looks); each row that meets fmt, with fmt's text TOLD by the authors' own Lean function (tested against real Go, not proved from fmt's source: count such statements apart). THE CARD IS WHAT COUNTS. Prove the row's statement (the work); the ties are given (YtonnhechjbdenaaGreatDoorTie.lean); close each card by the builder's one call (the guide's Derived/Test/ToyasCard.lean, 'card_holds'). Laid BY PROGRAM, IN A SANDBOX (cutbox-door.mjs). By AI agents, Wed Nov 11 2026. No macro, syntax, notation, axiom, sorry.
-/
import Derived.Test.YtonnhechjbdenaaGreatDoorRows
import GoSem.ClaimSeven
namespace Go.Proofs.YtonnhechjbdenaaGreatDoor
namespace Rows

/-- THE TIED CARD OF 'kelpforestlaw3.EmitDoes'. -/
def emitDoesCard : Claim7 := { stood := { row := emitDoesRow, standIns := [], harness := (true, "679879567518e68d62d17b706f22f64d0e9424dbec7d315f7cea64f841450cba"), looks := true }, kinds := [], alts := [], laidByText := true, laidKinds := [.handle, .sentinel, .sentinel, .sentinel, .sentinel, .sentinel, .sentinel, .sentinel, .sentinel, .sentinel, .sentinel], laidTests := true, laidLooks := .later }
def EmitDoesCardSaid : Prop := Claim7.holds Tryz.pinned (.plain (OpenSpec.ofChange emitDoesSpec)) emitDoesCard

/-- THE TIED CARD OF 'kelpforestlaw3.EmitChecks'. -/
def emitChecksCard : Claim7 := { stood := { row := emitChecksRow, standIns := [], harness := (true, "679879567518e68d62d17b706f22f64d0e9424dbec7d315f7cea64f841450cba"), looks := true }, kinds := [], alts := [], laidByText := true, laidKinds := [.data, .data, .data, .handle, .sentinel, .sentinel, .sentinel, .sentinel, .sentinel, .sentinel, .sentinel, .sentinel, .sentinel, .sentinel], laidTests := true, laidLooks := .later }
def EmitChecksCardSaid : Prop := Claim7.holds Tryz.pinned (.plain (OpenSpec.ofChange emitChecksSpec)) emitChecksCard

/-- THE SECOND FORM's CARD OF 'kelpforestlaw3.EmitDoes'. -/
def emitDoesUptoCard : Claim7 := { stood := { row := emitDoesUptoRow, standIns := [], harness := (true, "679879567518e68d62d17b706f22f64d0e9424dbec7d315f7cea64f841450cba"), looks := true }, kinds := [], alts := [], laidByText := true, laidKinds := [.handle, .sentinel, .sentinel, .sentinel, .sentinel, .sentinel, .sentinel, .sentinel, .sentinel, .sentinel, .sentinel], laidTests := true, laidLooks := .later }
def EmitDoesUptoCardSaid : Prop := Claim7.holds Tryz.pinned (.plain (OpenSpec.upto emitDoesSpec)) emitDoesUptoCard

/-- THE SECOND FORM's CARD OF 'kelpforestlaw3.EmitChecks'. -/
def emitChecksUptoCard : Claim7 := { stood := { row := emitChecksUptoRow, standIns := [], harness := (true, "679879567518e68d62d17b706f22f64d0e9424dbec7d315f7cea64f841450cba"), looks := true }, kinds := [], alts := [], laidByText := true, laidKinds := [.data, .data, .data, .handle, .sentinel, .sentinel, .sentinel, .sentinel, .sentinel, .sentinel, .sentinel, .sentinel, .sentinel, .sentinel], laidTests := true, laidLooks := .later }
def EmitChecksUptoCardSaid : Prop := Claim7.holds Tryz.pinned (.plain (OpenSpec.upto emitChecksSpec)) emitChecksUptoCard
end Rows
end Go.Proofs.YtonnhechjbdenaaGreatDoor
