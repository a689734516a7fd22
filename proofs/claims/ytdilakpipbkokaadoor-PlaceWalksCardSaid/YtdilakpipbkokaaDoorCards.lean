/-
  DERIVED. GIVEN WITH THE SEED: THE CARDS: each row of YtdilakpipbkokaaDoorRows.lean that lists a variable, with what it lists TIED to the program's text (the seventh form; the later family's looks); each row that meets fmt, with fmt's text TOLD by the authors' own Lean function (tested against real Go, not proved from fmt's source: count such statements apart). THE CARD IS WHAT COUNTS. Prove the row's statement (the work); the ties are given (YtdilakpipbkokaaDoorTie.lean); close each card by the builder's one call (the guide's Derived/Test/ToyasCard.lean, 'card_holds'). Laid BY PROGRAM, IN A SANDBOX (cutbox-door.mjs). By AI agents, Wed Nov 11 2026. No macro, syntax, notation, axiom, sorry.
-/
import Derived.Test.YtdilakpipbkokaaDoorRows
import GoSem.ClaimSeven
namespace Go.Proofs.YtdilakpipbkokaaDoor
namespace Rows

/-- THE TIED CARD OF 'kelpforestlaw2.PlaceWalks'. -/
def placeWalksCard : Claim7 := { stood := { row := placeWalksRow, standIns := [], harness := (true, "7c3bdc6853ffc834331ef0f6d43506ca0905f17349e5ec9ced3613681ae8aa02"), looks := true }, kinds := [], alts := [], laidByText := true, laidKinds := [.handle, .sentinel, .sentinel, .sentinel, .sentinel, .sentinel, .sentinel, .sentinel, .sentinel, .sentinel, .sentinel], laidTests := true, laidLooks := .later }
def PlaceWalksCardSaid : Prop := Claim7.holds Tryd.pinned (.plain (OpenSpec.ofChange placeWalksSpec)) placeWalksCard

/-- THE SECOND FORM's CARD OF 'kelpforestlaw2.PlaceWalks'. -/
def placeWalksUptoCard : Claim7 := { stood := { row := placeWalksUptoRow, standIns := [], harness := (true, "7c3bdc6853ffc834331ef0f6d43506ca0905f17349e5ec9ced3613681ae8aa02"), looks := true }, kinds := [], alts := [], laidByText := true, laidKinds := [.handle, .sentinel, .sentinel, .sentinel, .sentinel, .sentinel, .sentinel, .sentinel, .sentinel, .sentinel, .sentinel], laidTests := true, laidLooks := .later }
def PlaceWalksUptoCardSaid : Prop := Claim7.holds Tryd.pinned (.plain (OpenSpec.upto placeWalksSpec)) placeWalksUptoCard
end Rows
end Go.Proofs.YtdilakpipbkokaaDoor
