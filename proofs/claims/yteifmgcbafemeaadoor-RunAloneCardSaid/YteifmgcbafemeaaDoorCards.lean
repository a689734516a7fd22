/-
  DERIVED. GIVEN WITH THE SEED: THE CARDS: each row of YteifmgcbafemeaaDoorRows.lean that lists a variable, with what it lists TIED to the program's text (the seventh form; the later family's looks); each row that meets fmt, with fmt's text TOLD by the authors' own Lean function (tested against real Go, not proved from fmt's source: count such statements apart). THE CARD IS WHAT COUNTS. Prove the row's statement (the work); the ties are given (YteifmgcbafemeaaDoorTie.lean); close each card by the builder's one call (the guide's Derived/Test/ToyasCard.lean, 'card_holds'). Laid BY PROGRAM, IN A SANDBOX (cutbox-door.mjs). By AI agents, Wed Nov 11 2026. No macro, syntax, notation, axiom, sorry.
-/
import Derived.Test.YteifmgcbafemeaaDoorRows
import GoSem.ClaimSeven
namespace Go.Proofs.YteifmgcbafemeaaDoor
namespace Rows

/-- THE TIED CARD OF 'kelpforestlaw1.RunMore'. -/
def runMoreCard : Claim7 := { stood := { row := runMoreRow, standIns := [], harness := (true, "f4dfbf54fa42c1c57be871125f94a39559ac8cd172bc8ae31473f833ded6d348"), looks := false }, kinds := [], alts := [], laidByText := true, laidKinds := [.data, .sentinel, .sentinel, .sentinel, .sentinel, .sentinel, .sentinel, .sentinel, .sentinel, .pinned], laidTests := true, laidLooks := .later }
def RunMoreCardSaid : Prop := Claim7.holds Tryd.pinned (.plain (OpenSpec.ofChange runMoreSpec)) runMoreCard

/-- THE TIED CARD OF 'kelpforestlaw1.RunAlone'. -/
def runAloneCard : Claim7 := { stood := { row := runAloneRow, standIns := [], harness := (true, "f4dfbf54fa42c1c57be871125f94a39559ac8cd172bc8ae31473f833ded6d348"), looks := false }, kinds := [], alts := [], laidByText := true, laidKinds := [.data, .sentinel, .sentinel, .sentinel, .sentinel, .sentinel, .sentinel, .sentinel, .sentinel, .pinned], laidTests := true, laidLooks := .later }
def RunAloneCardSaid : Prop := Claim7.holds Tryd.pinned (.plain (OpenSpec.ofChange runAloneSpec)) runAloneCard

/-- THE SECOND FORM's CARD OF 'kelpforestlaw1.RunMore'. -/
def runMoreUptoCard : Claim7 := { stood := { row := runMoreUptoRow, standIns := [], harness := (true, "f4dfbf54fa42c1c57be871125f94a39559ac8cd172bc8ae31473f833ded6d348"), looks := false }, kinds := [], alts := [], laidByText := true, laidKinds := [.data, .sentinel, .sentinel, .sentinel, .sentinel, .sentinel, .sentinel, .sentinel, .sentinel, .pinned], laidTests := true, laidLooks := .later }
def RunMoreUptoCardSaid : Prop := Claim7.holds Tryd.pinned (.plain (OpenSpec.upto runMoreSpec)) runMoreUptoCard

/-- THE SECOND FORM's CARD OF 'kelpforestlaw1.RunAlone'. -/
def runAloneUptoCard : Claim7 := { stood := { row := runAloneUptoRow, standIns := [], harness := (true, "f4dfbf54fa42c1c57be871125f94a39559ac8cd172bc8ae31473f833ded6d348"), looks := false }, kinds := [], alts := [], laidByText := true, laidKinds := [.data, .sentinel, .sentinel, .sentinel, .sentinel, .sentinel, .sentinel, .sentinel, .sentinel, .pinned], laidTests := true, laidLooks := .later }
def RunAloneUptoCardSaid : Prop := Claim7.holds Tryd.pinned (.plain (OpenSpec.upto runAloneSpec)) runAloneUptoCard
end Rows
end Go.Proofs.YteifmgcbafemeaaDoor
