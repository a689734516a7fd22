/-
  DERIVED. GIVEN WITH THE SEED: THE CARDS: each row of YtnpdjncgilekhaaGreatDoorRows.lean that lists a variable, with what it lists TIED to the program's text (the seventh form; the later family's looks); each row that meets fmt, with fmt's text TOLD by the authors' own Lean function (tested against real Go, not proved from fmt's source: count such statements apart). THE CARD IS WHAT COUNTS. Prove the row's statement (the work); the ties are given (YtnpdjncgilekhaaGreatDoorTie.lean); close each card by the builder's one call (the guide's Derived/Test/ToyasCard.lean, 'card_holds'). Laid BY PROGRAM, IN A SANDBOX (cutbox-door.mjs). By AI agents, Wed Nov 11 2026. No macro, syntax, notation, axiom, sorry.
-/
import Derived.Test.YtnpdjncgilekhaaGreatDoorRows
import GoSem.ClaimSeven
namespace Go.Proofs.YtnpdjncgilekhaaGreatDoor
namespace Rows

/-- THE TIED CARD OF 'kelpforestlaw1.CheckTells'. -/
def checkTellsCard : Claim7 := { stood := { row := checkTellsRow, standIns := [], harness := (true, "852004207f95345f941f9668c115c168a5632554dedb93577c2c9c1f6148a18b"), looks := true }, kinds := [], alts := [], laidByText := true, laidKinds := [.data, .handle, .sentinel, .sentinel, .sentinel, .sentinel, .sentinel, .sentinel, .sentinel, .sentinel, .sentinel, .sentinel, .pinned], laidTests := true, laidLooks := .later }
def CheckTellsCardSaid : Prop := Claim7.holds Tryz.pinned (.plain (OpenSpec.ofChange checkTellsSpec)) checkTellsCard

/-- THE TIED CARD OF 'kelpforestlaw1.RunDoes'. -/
def runDoesCard : Claim7 := { stood := { row := runDoesRow, standIns := [], harness := (true, "852004207f95345f941f9668c115c168a5632554dedb93577c2c9c1f6148a18b"), looks := true }, kinds := [], alts := [], laidByText := true, laidKinds := [.data, .handle, .sentinel, .sentinel, .sentinel, .sentinel, .sentinel, .sentinel, .sentinel, .sentinel, .sentinel, .sentinel, .pinned], laidTests := true, laidLooks := .later }
def RunDoesCardSaid : Prop := Claim7.holds Tryz.pinned (.plain (OpenSpec.ofChange runDoesSpec)) runDoesCard

/-- THE SECOND FORM's CARD OF 'kelpforestlaw1.CheckTells'. -/
def checkTellsUptoCard : Claim7 := { stood := { row := checkTellsUptoRow, standIns := [], harness := (true, "852004207f95345f941f9668c115c168a5632554dedb93577c2c9c1f6148a18b"), looks := true }, kinds := [], alts := [], laidByText := true, laidKinds := [.data, .handle, .sentinel, .sentinel, .sentinel, .sentinel, .sentinel, .sentinel, .sentinel, .sentinel, .sentinel, .sentinel, .pinned], laidTests := true, laidLooks := .later }
def CheckTellsUptoCardSaid : Prop := Claim7.holds Tryz.pinned (.plain (OpenSpec.upto checkTellsSpec)) checkTellsUptoCard

/-- THE SECOND FORM's CARD OF 'kelpforestlaw1.RunDoes'. -/
def runDoesUptoCard : Claim7 := { stood := { row := runDoesUptoRow, standIns := [], harness := (true, "852004207f95345f941f9668c115c168a5632554dedb93577c2c9c1f6148a18b"), looks := true }, kinds := [], alts := [], laidByText := true, laidKinds := [.data, .handle, .sentinel, .sentinel, .sentinel, .sentinel, .sentinel, .sentinel, .sentinel, .sentinel, .sentinel, .sentinel, .pinned], laidTests := true, laidLooks := .later }
def RunDoesUptoCardSaid : Prop := Claim7.holds Tryz.pinned (.plain (OpenSpec.upto runDoesSpec)) runDoesUptoCard
end Rows
end Go.Proofs.YtnpdjncgilekhaaGreatDoor
