/-
  DERIVED. GIVEN WITH THE SEED: THE CARDS: each row of YtpmpeihcdiohmaaDoorRows.lean that lists a variable, with what it lists TIED to the program's text (the seventh form; the later family's looks); each row that meets fmt, with fmt's text TOLD by the authors' own Lean function (tested against real Go, not proved from fmt's source: count such statements apart). THE CARD IS WHAT COUNTS. Prove the row's statement (the work); the ties are given (YtpmpeihcdiohmaaDoorTie.lean); close each card by the builder's one call (the guide's Derived/Test/ToyasCard.lean, 'card_holds'). Laid BY PROGRAM, IN A SANDBOX (cutbox-door.mjs). By AI agents, Wed Nov 11 2026. No macro, syntax, notation, axiom, sorry.
-/
import Derived.Test.YtpmpeihcdiohmaaDoorRows
import GoSem.ClaimSeven
namespace Go.Proofs.YtpmpeihcdiohmaaDoor
namespace Rows

/-- THE TIED CARD OF 'kelpforestlaw3.AllocWalks'. -/
def allocWalksCard : Claim7 := { stood := { row := allocWalksRow, standIns := [], harness := (true, "55ff195aee7751920efff9bc0d959c6dc1f651e15239d5ac66ca6c9a4562616c"), looks := true }, kinds := [], alts := [], laidByText := true, laidKinds := [.handle, .sentinel, .sentinel, .sentinel, .sentinel, .sentinel, .sentinel, .sentinel, .sentinel, .sentinel, .sentinel], laidTests := true, laidLooks := .later }
def AllocWalksCardSaid : Prop := Claim7.holds Tryd.pinned (.plain (OpenSpec.ofChange allocWalksSpec)) allocWalksCard

/-- THE SECOND FORM's CARD OF 'kelpforestlaw3.AllocWalks'. -/
def allocWalksUptoCard : Claim7 := { stood := { row := allocWalksUptoRow, standIns := [], harness := (true, "55ff195aee7751920efff9bc0d959c6dc1f651e15239d5ac66ca6c9a4562616c"), looks := true }, kinds := [], alts := [], laidByText := true, laidKinds := [.handle, .sentinel, .sentinel, .sentinel, .sentinel, .sentinel, .sentinel, .sentinel, .sentinel, .sentinel, .sentinel], laidTests := true, laidLooks := .later }
def AllocWalksUptoCardSaid : Prop := Claim7.holds Tryd.pinned (.plain (OpenSpec.upto allocWalksSpec)) allocWalksUptoCard
end Rows
end Go.Proofs.YtpmpeihcdiohmaaDoor
