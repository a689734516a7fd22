/-
  DERIVED. GIVEN WITH THE SEED: THE CARDS: each row of YtidhplpidkgkdaaDoorRows.lean that lists a variable, with what it lists TIED to the program's text (the seventh form; the later family's looks); each row that meets fmt, with fmt's text TOLD by the authors' own Lean function (tested against real Go, not proved from fmt's source: count such statements apart). THE CARD IS WHAT COUNTS. Prove the row's statement (the work); the ties are given (YtidhplpidkgkdaaDoorTie.lean); close each card by the builder's one call (the guide's Derived/Test/ToyasCard.lean, 'card_holds'). Laid BY PROGRAM, IN A SANDBOX (cutbox-door.mjs). By AI agents, Wed Nov 11 2026. No macro, syntax, notation, axiom, sorry.
-/
import Derived.Test.YtidhplpidkgkdaaDoorRows
import GoSem.ClaimSeven
namespace Go.Proofs.YtidhplpidkgkdaaDoor
namespace Rows

/-- THE TIED CARD OF 'kelpforestlaw1.ShowTexts'. -/
def showTextsCard : Claim7 := { stood := { row := showTextsRow, standIns := [], harness := (true, "db886d51c7a99f992ebf1ea97374b6c99ba0d10fee999137f33fe3b787449191"), looks := true }, kinds := [], alts := [], laidByText := true, laidKinds := [.data, .data, .data], laidTests := true, laidLooks := .later }
def ShowTextsCardSaid : Prop := Claim7.holds Tryd.pinned (.plain (OpenSpec.ofChange showTextsSpec)) showTextsCard

/-- THE TIED CARD OF 'kelpforestlaw1.CheckMore'. -/
def checkMoreCard : Claim7 := { stood := { row := checkMoreRow, standIns := [], harness := (true, "db886d51c7a99f992ebf1ea97374b6c99ba0d10fee999137f33fe3b787449191"), looks := true }, kinds := [], alts := [], laidByText := true, laidKinds := [.data, .handle, .sentinel, .sentinel, .sentinel, .sentinel, .sentinel, .sentinel, .sentinel, .sentinel, .sentinel, .sentinel, .pinned], laidTests := true, laidLooks := .later }
def CheckMoreCardSaid : Prop := Claim7.holds Tryd.pinned (.plain (OpenSpec.ofChange checkMoreSpec)) checkMoreCard

/-- THE TIED CARD OF 'kelpforestlaw1.CheckVars'. -/
def checkVarsCard : Claim7 := { stood := { row := checkVarsRow, standIns := [], harness := (true, "db886d51c7a99f992ebf1ea97374b6c99ba0d10fee999137f33fe3b787449191"), looks := true }, kinds := [], alts := [], laidByText := true, laidKinds := [.data, .handle, .sentinel, .sentinel, .sentinel, .sentinel, .sentinel, .sentinel, .sentinel, .sentinel, .sentinel, .sentinel, .pinned], laidTests := true, laidLooks := .later }
def CheckVarsCardSaid : Prop := Claim7.holds Tryd.pinned (.plain (OpenSpec.ofChange checkVarsSpec)) checkVarsCard

/-- THE SECOND FORM's CARD OF 'kelpforestlaw1.ShowTexts'. -/
def showTextsUptoCard : Claim7 := { stood := { row := showTextsUptoRow, standIns := [], harness := (true, "db886d51c7a99f992ebf1ea97374b6c99ba0d10fee999137f33fe3b787449191"), looks := true }, kinds := [], alts := [], laidByText := true, laidKinds := [.data, .data, .data], laidTests := true, laidLooks := .later }
def ShowTextsUptoCardSaid : Prop := Claim7.holds Tryd.pinned (.plain (OpenSpec.upto showTextsSpec)) showTextsUptoCard

/-- THE SECOND FORM's CARD OF 'kelpforestlaw1.CheckMore'. -/
def checkMoreUptoCard : Claim7 := { stood := { row := checkMoreUptoRow, standIns := [], harness := (true, "db886d51c7a99f992ebf1ea97374b6c99ba0d10fee999137f33fe3b787449191"), looks := true }, kinds := [], alts := [], laidByText := true, laidKinds := [.data, .handle, .sentinel, .sentinel, .sentinel, .sentinel, .sentinel, .sentinel, .sentinel, .sentinel, .sentinel, .sentinel, .pinned], laidTests := true, laidLooks := .later }
def CheckMoreUptoCardSaid : Prop := Claim7.holds Tryd.pinned (.plain (OpenSpec.upto checkMoreSpec)) checkMoreUptoCard

/-- THE SECOND FORM's CARD OF 'kelpforestlaw1.CheckVars'. -/
def checkVarsUptoCard : Claim7 := { stood := { row := checkVarsUptoRow, standIns := [], harness := (true, "db886d51c7a99f992ebf1ea97374b6c99ba0d10fee999137f33fe3b787449191"), looks := true }, kinds := [], alts := [], laidByText := true, laidKinds := [.data, .handle, .sentinel, .sentinel, .sentinel, .sentinel, .sentinel, .sentinel, .sentinel, .sentinel, .sentinel, .sentinel, .pinned], laidTests := true, laidLooks := .later }
def CheckVarsUptoCardSaid : Prop := Claim7.holds Tryd.pinned (.plain (OpenSpec.upto checkVarsSpec)) checkVarsUptoCard
end Rows
end Go.Proofs.YtidhplpidkgkdaaDoor
