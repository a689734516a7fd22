/-
  DERIVED. GIVEN WITH THE SEED: THE CARDS: each row of YtgoifbkogboppaaDoorRows.lean that lists a variable, with what it lists TIED to the program's text (the seventh form; the later family's looks); each row that meets fmt, with fmt's text TOLD by the authors' own Lean function (tested against real Go, not proved from fmt's source: count such statements apart). THE CARD IS WHAT COUNTS. Prove the row's statement (the work); the ties are given (YtgoifbkogboppaaDoorTie.lean); close each card by the builder's one call (the guide's Derived/Test/ToyasCard.lean, 'card_holds'). Laid BY PROGRAM, IN A SANDBOX (cutbox-door.mjs). By AI agents, Wed Nov 11 2026. No macro, syntax, notation, axiom, sorry.
-/
import Derived.Test.YtgoifbkogboppaaDoorRows
import GoSem.ClaimSeven
namespace Go.Proofs.YtgoifbkogboppaaDoor
namespace Rows

/-- THE TIED CARD OF 'kelpforestlaw3.MachMore'. -/
def machMoreCard : Claim7 := { stood := { row := machMoreRow, standIns := [], harness := (true, "751815c5a24007af8bb7820155314517f26a70d106aec10c51785f6ac701d58e"), looks := true }, kinds := [], alts := [], laidByText := true, laidKinds := [.sentinel, .sentinel, .sentinel, .sentinel, .sentinel, .sentinel, .sentinel], laidTests := true, laidLooks := .later }
def MachMoreCardSaid : Prop := Claim7.holds Tryd.pinned (.plain (OpenSpec.ofChange machMoreSpec)) machMoreCard

/-- THE TIED CARD OF 'kelpforestlaw3.MachApart'. -/
def machApartCard : Claim7 := { stood := { row := machApartRow, standIns := [], harness := (true, "751815c5a24007af8bb7820155314517f26a70d106aec10c51785f6ac701d58e"), looks := true }, kinds := [], alts := [], laidByText := true, laidKinds := [.sentinel, .sentinel, .sentinel, .sentinel, .sentinel, .sentinel, .sentinel], laidTests := true, laidLooks := .later }
def MachApartCardSaid : Prop := Claim7.holds Tryd.pinned (.plain (OpenSpec.ofChange machApartSpec)) machApartCard

/-- THE TIED CARD OF 'kelpforestlaw3.MachRuns'. -/
def machRunsCard : Claim7 := { stood := { row := machRunsRow, standIns := [], harness := (true, "751815c5a24007af8bb7820155314517f26a70d106aec10c51785f6ac701d58e"), looks := true }, kinds := [], alts := [], laidByText := true, laidKinds := [.handle, .sentinel, .sentinel, .sentinel, .sentinel, .sentinel, .sentinel, .sentinel, .sentinel, .sentinel, .sentinel], laidTests := true, laidLooks := .later }
def MachRunsCardSaid : Prop := Claim7.holds Tryd.pinned (.plain (OpenSpec.ofChange machRunsSpec)) machRunsCard

/-- THE SECOND FORM's CARD OF 'kelpforestlaw3.MachMore'. -/
def machMoreUptoCard : Claim7 := { stood := { row := machMoreUptoRow, standIns := [], harness := (true, "751815c5a24007af8bb7820155314517f26a70d106aec10c51785f6ac701d58e"), looks := true }, kinds := [], alts := [], laidByText := true, laidKinds := [.sentinel, .sentinel, .sentinel, .sentinel, .sentinel, .sentinel, .sentinel], laidTests := true, laidLooks := .later }
def MachMoreUptoCardSaid : Prop := Claim7.holds Tryd.pinned (.plain (OpenSpec.upto machMoreSpec)) machMoreUptoCard

/-- THE SECOND FORM's CARD OF 'kelpforestlaw3.MachApart'. -/
def machApartUptoCard : Claim7 := { stood := { row := machApartUptoRow, standIns := [], harness := (true, "751815c5a24007af8bb7820155314517f26a70d106aec10c51785f6ac701d58e"), looks := true }, kinds := [], alts := [], laidByText := true, laidKinds := [.sentinel, .sentinel, .sentinel, .sentinel, .sentinel, .sentinel, .sentinel], laidTests := true, laidLooks := .later }
def MachApartUptoCardSaid : Prop := Claim7.holds Tryd.pinned (.plain (OpenSpec.upto machApartSpec)) machApartUptoCard

/-- THE SECOND FORM's CARD OF 'kelpforestlaw3.MachRuns'. -/
def machRunsUptoCard : Claim7 := { stood := { row := machRunsUptoRow, standIns := [], harness := (true, "751815c5a24007af8bb7820155314517f26a70d106aec10c51785f6ac701d58e"), looks := true }, kinds := [], alts := [], laidByText := true, laidKinds := [.handle, .sentinel, .sentinel, .sentinel, .sentinel, .sentinel, .sentinel, .sentinel, .sentinel, .sentinel, .sentinel], laidTests := true, laidLooks := .later }
def MachRunsUptoCardSaid : Prop := Claim7.holds Tryd.pinned (.plain (OpenSpec.upto machRunsSpec)) machRunsUptoCard
end Rows
end Go.Proofs.YtgoifbkogboppaaDoor
