/-
  NARROWER THAN 'FOR EVERY INPUT', by the rows' own cells (each row's printed sentence says how): PlaceWalks: laid.
  DERIVED. THE GIVEN ROWS OF THIS SEAT. 1 by the template 'for every input the law returns true; each argument reads behind the call as it read before'; 0 by the template 'total and deterministic' (their statements: YtdilakpipbkokaaDoorTotals.lean).
  GIVEN WITH THE SEED: the statements are not yours to turn. If you find one false, say at which input.
  Laid BY PROGRAM, IN A SANDBOX (cutbox-rows.mjs): the forced cells as the released guide's own fill.sh prints them over the translation 24f7586722d64c0c… (all of the seat's roots in one cut). By AI agents, Wed Nov 11 2026. No macro, syntax, notation, axiom, sorry.
-/
import Derived.Test.YtdilakpipbkokaaDoorChecked
import GoSem.Claim
import GoSem.ClaimJoined
import GoSem.ClaimMapViews
import Derived.JoinedTies
import Derived.KernelRfl
namespace Go.Proofs.YtdilakpipbkokaaDoor
/- THE CELL 'sum', in the pinned program and in every row, IS THE sha256 OF THE DUMP (.gsa) THAT YtdilakpipbkokaaDoorProg.lean LOADS. Nothing in Lean hashes anything: it is a label: what it is worth is what the hold of that sum in a sandbox is worth. -/
noncomputable def Tryd.pinned : Pinned := { name := "ytdilakpipbkokaadoor", sum := "24f7586722d64c0c7bb38eb61e168560b6a7afdecf3568e1b22479d6b324c36c", checked := Tryd.checked }
namespace Rows
def none {H : Type} : Left H := { results := [], args := [] }

/- WHAT THE LISTED PACKAGE-LEVEL VARIABLES READ AS WHEN THE CALL BEGINS. Each datum BY PROGRAM (the guide's laid-datum.mjs) off the statement by which the dump's own 'gosem.cut.vars' lays the variable. In a bare row this is a premise. The card (YtdilakpipbkokaaDoorCards.lean) ties it to the program's text. -/
def laid_errors_errorType {H : Type} : DataW H := .iface "internal/reflectlite.rtype" (.agg [.ptr (.lit (.string [101, 114, 114, 111, 114]))])
def laid_kelpforest_api_ErrText {H : Type} : DataW H := .iface "*errors.errorString" (.ptr (.agg [.lit (.string [107, 101, 108, 112, 102, 111, 114, 101, 115, 116, 58, 32, 116, 101, 120, 116])]))
def laid_kelpforest_api_ErrBound {H : Type} : DataW H := .iface "*errors.errorString" (.ptr (.agg [.lit (.string [107, 101, 108, 112, 102, 111, 114, 101, 115, 116, 58, 32, 98, 111, 117, 110, 100])]))
def laid_kelpforest_api_ErrShape {H : Type} : DataW H := .iface "*errors.errorString" (.ptr (.agg [.lit (.string [107, 101, 108, 112, 102, 111, 114, 101, 115, 116, 58, 32, 115, 104, 97, 112, 101])]))
def laid_kelpforest_api_ErrKind {H : Type} : DataW H := .iface "*errors.errorString" (.ptr (.agg [.lit (.string [107, 101, 108, 112, 102, 111, 114, 101, 115, 116, 58, 32, 107, 105, 110, 100])]))
def laid_kelpforest_api_ErrName {H : Type} : DataW H := .iface "*errors.errorString" (.ptr (.agg [.lit (.string [107, 101, 108, 112, 102, 111, 114, 101, 115, 116, 58, 32, 110, 97, 109, 101])]))
def laid_kelpforest_api_ErrNone {H : Type} : DataW H := .iface "*errors.errorString" (.ptr (.agg [.lit (.string [107, 101, 108, 112, 102, 111, 114, 101, 115, 116, 58, 32, 110, 111, 110, 101])]))
def laid_kelpforest_api_ErrExist {H : Type} : DataW H := .iface "*errors.errorString" (.ptr (.agg [.lit (.string [107, 101, 108, 112, 102, 111, 114, 101, 115, 116, 58, 32, 101, 120, 105, 115, 116])]))
def laid_kelpforest_api_ErrFull {H : Type} : DataW H := .iface "*errors.errorString" (.ptr (.agg [.lit (.string [107, 101, 108, 112, 102, 111, 114, 101, 115, 116, 58, 32, 102, 117, 108, 108])]))
def laid_kelpforest_api_ErrArgs {H : Type} : DataW H := .iface "*errors.errorString" (.ptr (.agg [.lit (.string [107, 101, 108, 112, 102, 111, 114, 101, 115, 116, 58, 32, 97, 114, 103, 115])]))
def laid_kelpforest_api_ErrDeep {H : Type} : DataW H := .iface "*errors.errorString" (.ptr (.agg [.lit (.string [107, 101, 108, 112, 102, 111, 114, 101, 115, 116, 58, 32, 100, 101, 101, 112])]))

/-- 'kelpforestlaw2.PlaceWalks': WHATEVER THE INPUT: true; the input reads as it did. -/
def placeWalksSpec : ChangeSpec := { name := "placeWalks", fn := fun _ => fun
  | [d1, d2, d3, d4] => { results := [.lit (.bool true)], args := [d1, d2, d3, d4] }
  | _ => none }
def placeWalksRow : OpenClaim := { program := "ytdilakpipbkokaadoor", sum := "24f7586722d64c0c7bb38eb61e168560b6a7afdecf3568e1b22479d6b324c36c", func := "kelpforest/kelpforestlaw2.PlaceWalks", spec := "placeWalks", inPlace := ["internal/reflectlite.ValueOf", "(internal/reflectlite.Value).Type", "(internal/reflectlite.Value).IsNil", "internal/reflectlite.TypeOf", "(internal/reflectlite.Value).Elem", "(internal/reflectlite.Value).Set"], unfollowed := true, recurses := true, named := ["kelpforest/api.ErrFull", "kelpforest/api.ErrShape", "kelpforest/api.ErrArgs", "kelpforest/api.ErrKind", "kelpforest/api.ErrBound", "kelpforest/api.ErrExist", "kelpforest/api.ErrText", "kelpforest/api.ErrName", "kelpforest/api.ErrNone", "kelpforest/api.ErrDeep", "errors.errorType"], apart := false, laid := [("errors.errorType", laid_errors_errorType), ("kelpforest/api.ErrText", laid_kelpforest_api_ErrText), ("kelpforest/api.ErrBound", laid_kelpforest_api_ErrBound), ("kelpforest/api.ErrShape", laid_kelpforest_api_ErrShape), ("kelpforest/api.ErrKind", laid_kelpforest_api_ErrKind), ("kelpforest/api.ErrName", laid_kelpforest_api_ErrName), ("kelpforest/api.ErrNone", laid_kelpforest_api_ErrNone), ("kelpforest/api.ErrExist", laid_kelpforest_api_ErrExist), ("kelpforest/api.ErrFull", laid_kelpforest_api_ErrFull), ("kelpforest/api.ErrArgs", laid_kelpforest_api_ErrArgs), ("kelpforest/api.ErrDeep", laid_kelpforest_api_ErrDeep)] }
def PlaceWalksSaid : Prop := placeWalksRow.holds Tryd.pinned (OpenSpec.ofChange placeWalksSpec)

/-- ITS FALSE NEIGHBOUR: 'it returns false'. Refute it at one input. -/
def placeWalksWrong : ChangeSpec := { name := "placeWalks", fn := fun _ => fun
  | [d1, d2, d3, d4] => { results := [.lit (.bool false)], args := [d1, d2, d3, d4] }
  | _ => none }
def PlaceWalksWrongFalsely : Prop := placeWalksRow.holds Tryd.pinned (OpenSpec.ofChange placeWalksWrong)

/- THE SECOND FORM. 'bulk': how many values and letters a reading holds, each counted each time it is reached (what is shared counts as often as it is met; a slice's spare places count too). A statement '..UptoSaid' is the law's where the arguments, and the package variables that the reading takes, are together of bulk at most 1048576: NARROWER than '..Said'. Prove '..Said' where nothing that the law and all that it calls make is longer than what came in: it says more and counts as full. Else prove '..UptoSaid'. A law counts once. -/
mutual
def uptoBulk {H : Type} : DataW H → Nat
  | .lit (.string bytes) => bytes.length + 1
  | .lit _ => 1
  | .nil => 1
  | .ptr d => uptoBulk d + 1
  | .slice elems spare => uptoBulkAll elems + uptoBulkAll spare + 1
  | .agg parts => uptoBulkAll parts + 1
  | .iface _ d => uptoBulk d + 1
  | .map entries => uptoBulkEntries entries + 1
  | .held _ => 1
def uptoBulkAll {H : Type} : List (DataW H) → Nat
  | [] => 0
  | d :: r => uptoBulk d + uptoBulkAll r
def uptoBulkEntries {H : Type} : List (Lit × DataW H) → Nat
  | [] => 0
  | x :: r => uptoBulkEntry x + uptoBulkEntries r
def uptoBulkEntry {H : Type} : Lit × DataW H → Nat
  | (.string bytes, d) => bytes.length + uptoBulk d + 1
  | (_, d) => uptoBulk d + 1
 end
def uptoSmall : (H : Type) → List (DataW H) → Bool := fun _ ds => decide (uptoBulkAll ds ≤ 1048576)
def OpenSpec.upto (s : _root_.Go.ChangeSpec) : _root_.Go.OpenSpec := { _root_.Go.OpenSpec.ofChange s with cond := some uptoSmall }

/-- 'kelpforestlaw2.PlaceWalks', WHERE WHAT IT READS IS OF BULK AT MOST 1048576: true; the input reads as it did. -/
def placeWalksUptoRow : OpenClaim := { program := "ytdilakpipbkokaadoor", sum := "24f7586722d64c0c7bb38eb61e168560b6a7afdecf3568e1b22479d6b324c36c", func := "kelpforest/kelpforestlaw2.PlaceWalks", spec := "placeWalks", inPlace := ["internal/reflectlite.ValueOf", "(internal/reflectlite.Value).Type", "(internal/reflectlite.Value).IsNil", "internal/reflectlite.TypeOf", "(internal/reflectlite.Value).Elem", "(internal/reflectlite.Value).Set"], unfollowed := true, recurses := true, named := ["kelpforest/api.ErrFull", "kelpforest/api.ErrShape", "kelpforest/api.ErrArgs", "kelpforest/api.ErrKind", "kelpforest/api.ErrBound", "kelpforest/api.ErrExist", "kelpforest/api.ErrText", "kelpforest/api.ErrName", "kelpforest/api.ErrNone", "kelpforest/api.ErrDeep", "errors.errorType"], apart := false, laid := [("errors.errorType", laid_errors_errorType), ("kelpforest/api.ErrText", laid_kelpforest_api_ErrText), ("kelpforest/api.ErrBound", laid_kelpforest_api_ErrBound), ("kelpforest/api.ErrShape", laid_kelpforest_api_ErrShape), ("kelpforest/api.ErrKind", laid_kelpforest_api_ErrKind), ("kelpforest/api.ErrName", laid_kelpforest_api_ErrName), ("kelpforest/api.ErrNone", laid_kelpforest_api_ErrNone), ("kelpforest/api.ErrExist", laid_kelpforest_api_ErrExist), ("kelpforest/api.ErrFull", laid_kelpforest_api_ErrFull), ("kelpforest/api.ErrArgs", laid_kelpforest_api_ErrArgs), ("kelpforest/api.ErrDeep", laid_kelpforest_api_ErrDeep)], narrowed := true }
def PlaceWalksUptoSaid : Prop := placeWalksUptoRow.holds Tryd.pinned (OpenSpec.upto placeWalksSpec)

end Rows
end Go.Proofs.YtdilakpipbkokaaDoor
