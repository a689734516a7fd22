/-
  NARROWER THAN 'FOR EVERY INPUT', by the rows' own cells (each row's printed sentence says how): CheckTells: loops, laid · RunDoes: loops, laid.
  DERIVED. THE GIVEN ROWS OF THIS SEAT. 2 by the template 'for every input the law returns true; each argument reads behind the call as it read before'; 0 by the template 'total and deterministic' (their statements: YtnpdjncgilekhaaGreatDoorTotals.lean).
  GIVEN WITH THE SEED: the statements are not yours to turn. If you find one false, say at which input.
  Laid BY PROGRAM, IN A SANDBOX (cutbox-rows.mjs): the forced cells as the released guide's own fill.sh prints them over the translation dc88b37d853020a3… (all of the seat's roots in one cut). By AI agents, Wed Nov 11 2026. No macro, syntax, notation, axiom, sorry.
-/
import Derived.Test.YtnpdjncgilekhaaGreatDoorChecked
import GoSem.PinnedTables
import GoSem.Claim
import GoSem.ClaimJoined
import GoSem.ClaimMapViews
import Derived.JoinedTies
import Derived.KernelRfl
namespace Go.Proofs.YtnpdjncgilekhaaGreatDoor
/- THE CELL 'sum', in the pinned program and in every row, IS THE sha256 OF THE DUMP (.gsa) THAT YtnpdjncgilekhaaGreatDoorProg.lean LOADS. Nothing in Lean hashes anything: it is a label: what it is worth is what the hold of that sum in a sandbox is worth. -/
noncomputable def Tryz.pinned : Pinned := { name := "ytnpdjncgilekhaagreatdoor", sum := "dc88b37d853020a322bf44b9f0be48545a793a528845181925b14a40f3041708", checked := Tryz.checked }
namespace Rows
def none {H : Type} : Left H := { results := [], args := [] }

/- WHAT THE LISTED PACKAGE-LEVEL VARIABLES READ AS WHEN THE CALL BEGINS. Each datum BY PROGRAM (the guide's laid-datum.mjs) off the statement by which the dump's own 'gosem.cut.vars' lays the variable. In a bare row this is a premise. The card (YtnpdjncgilekhaaGreatDoorCards.lean) ties it to the program's text. -/
def laid_unicode_utf8_acceptRanges {H : Type} : DataW H := .agg [.agg [.lit (.int .u8 128), .lit (.int .u8 191)], .agg [.lit (.int .u8 160), .lit (.int .u8 191)], .agg [.lit (.int .u8 128), .lit (.int .u8 159)], .agg [.lit (.int .u8 144), .lit (.int .u8 191)], .agg [.lit (.int .u8 128), .lit (.int .u8 143)], .agg [.lit (.int .u8 0), .lit (.int .u8 0)], .agg [.lit (.int .u8 0), .lit (.int .u8 0)], .agg [.lit (.int .u8 0), .lit (.int .u8 0)], .agg [.lit (.int .u8 0), .lit (.int .u8 0)], .agg [.lit (.int .u8 0), .lit (.int .u8 0)], .agg [.lit (.int .u8 0), .lit (.int .u8 0)], .agg [.lit (.int .u8 0), .lit (.int .u8 0)], .agg [.lit (.int .u8 0), .lit (.int .u8 0)], .agg [.lit (.int .u8 0), .lit (.int .u8 0)], .agg [.lit (.int .u8 0), .lit (.int .u8 0)], .agg [.lit (.int .u8 0), .lit (.int .u8 0)]]
def laid_errors_errorType {H : Type} : DataW H := .iface "internal/reflectlite.rtype" (.agg [.ptr (.lit (.string [101, 114, 114, 111, 114]))])
def laid_kelpforest_api_ErrText {H : Type} : DataW H := .iface "*errors.errorString" (.ptr (.agg [.lit (.string [107, 101, 108, 112, 102, 111, 114, 101, 115, 116, 58, 32, 116, 101, 120, 116])]))
def laid_kelpforest_api_ErrBound {H : Type} : DataW H := .iface "*errors.errorString" (.ptr (.agg [.lit (.string [107, 101, 108, 112, 102, 111, 114, 101, 115, 116, 58, 32, 98, 111, 117, 110, 100])]))
def laid_kelpforest_api_ErrShape {H : Type} : DataW H := .iface "*errors.errorString" (.ptr (.agg [.lit (.string [107, 101, 108, 112, 102, 111, 114, 101, 115, 116, 58, 32, 115, 104, 97, 112, 101])]))
def laid_kelpforest_api_ErrKind {H : Type} : DataW H := .iface "*errors.errorString" (.ptr (.agg [.lit (.string [107, 101, 108, 112, 102, 111, 114, 101, 115, 116, 58, 32, 107, 105, 110, 100])]))
def laid_kelpforest_api_ErrName {H : Type} : DataW H := .iface "*errors.errorString" (.ptr (.agg [.lit (.string [107, 101, 108, 112, 102, 111, 114, 101, 115, 116, 58, 32, 110, 97, 109, 101])]))
def laid_kelpforest_api_ErrNone {H : Type} : DataW H := .iface "*errors.errorString" (.ptr (.agg [.lit (.string [107, 101, 108, 112, 102, 111, 114, 101, 115, 116, 58, 32, 110, 111, 110, 101])]))
def laid_kelpforest_api_ErrExist {H : Type} : DataW H := .iface "*errors.errorString" (.ptr (.agg [.lit (.string [107, 101, 108, 112, 102, 111, 114, 101, 115, 116, 58, 32, 101, 120, 105, 115, 116])]))
def laid_kelpforest_api_ErrFull {H : Type} : DataW H := .iface "*errors.errorString" (.ptr (.agg [.lit (.string [107, 101, 108, 112, 102, 111, 114, 101, 115, 116, 58, 32, 102, 117, 108, 108])]))
def laid_kelpforest_api_ErrArgs {H : Type} : DataW H := .iface "*errors.errorString" (.ptr (.agg [.lit (.string [107, 101, 108, 112, 102, 111, 114, 101, 115, 116, 58, 32, 97, 114, 103, 115])]))
def laid_kelpforest_api_ErrDeep {H : Type} : DataW H := .iface "*errors.errorString" (.ptr (.agg [.lit (.string [107, 101, 108, 112, 102, 111, 114, 101, 115, 116, 58, 32, 100, 101, 101, 112])]))
/-- One of Go's own tables, pinned by name: the form's constant. -/
def laid_unicode_utf8_first : DataW Unit := Go.Pinned.utf8First

/-- 'kelpforestlaw1.CheckTells': WHATEVER THE INPUT: true; the input reads as it did. -/
def checkTellsSpec : ChangeSpec := { name := "checkTells", fn := fun _ => fun
  | [d] => { results := [.lit (.bool true)], args := [d] }
  | _ => none }
def checkTellsRow : OpenClaim := { program := "ytnpdjncgilekhaagreatdoor", sum := "dc88b37d853020a322bf44b9f0be48545a793a528845181925b14a40f3041708", func := "kelpforest/kelpforestlaw1.CheckTells", spec := "checkTells", inPlace := ["internal/bytealg.IndexByteString", "internal/bytealg.IndexString", "internal/reflectlite.ValueOf", "(internal/reflectlite.Value).Type", "(internal/reflectlite.Value).IsNil", "internal/reflectlite.TypeOf", "(internal/reflectlite.Value).Elem", "(internal/reflectlite.Value).Set"], unfollowed := true, recurses := true, named := ["kelpforest/api.ErrFull", "kelpforest/api.ErrName", "kelpforest/api.ErrExist", "kelpforest/api.ErrArgs", "unicode/utf8.first", "unicode/utf8.acceptRanges", "kelpforest/api.ErrShape", "kelpforest/api.ErrNone", "kelpforest/api.ErrKind", "kelpforest/api.ErrText", "kelpforest/api.ErrBound", "kelpforest/api.ErrDeep", "errors.errorType", "internal/bytealg.MaxLen"], loops := true, apart := false, laid := [("unicode/utf8.acceptRanges", laid_unicode_utf8_acceptRanges), ("errors.errorType", laid_errors_errorType), ("kelpforest/api.ErrText", laid_kelpforest_api_ErrText), ("kelpforest/api.ErrBound", laid_kelpforest_api_ErrBound), ("kelpforest/api.ErrShape", laid_kelpforest_api_ErrShape), ("kelpforest/api.ErrKind", laid_kelpforest_api_ErrKind), ("kelpforest/api.ErrName", laid_kelpforest_api_ErrName), ("kelpforest/api.ErrNone", laid_kelpforest_api_ErrNone), ("kelpforest/api.ErrExist", laid_kelpforest_api_ErrExist), ("kelpforest/api.ErrFull", laid_kelpforest_api_ErrFull), ("kelpforest/api.ErrArgs", laid_kelpforest_api_ErrArgs), ("kelpforest/api.ErrDeep", laid_kelpforest_api_ErrDeep), ("unicode/utf8.first", laid_unicode_utf8_first)] }
def CheckTellsSaid : Prop := checkTellsRow.holds Tryz.pinned (OpenSpec.ofChange checkTellsSpec)

/-- ITS FALSE NEIGHBOUR: 'it returns false'. Refute it at one input. -/
def checkTellsWrong : ChangeSpec := { name := "checkTells", fn := fun _ => fun
  | [d] => { results := [.lit (.bool false)], args := [d] }
  | _ => none }
def CheckTellsWrongFalsely : Prop := checkTellsRow.holds Tryz.pinned (OpenSpec.ofChange checkTellsWrong)

/-- 'kelpforestlaw1.RunDoes': WHATEVER THE INPUT: true; the input reads as it did. -/
def runDoesSpec : ChangeSpec := { name := "runDoes", fn := fun _ => fun
  | [d1, d2, d3, d4] => { results := [.lit (.bool true)], args := [d1, d2, d3, d4] }
  | _ => none }
def runDoesRow : OpenClaim := { program := "ytnpdjncgilekhaagreatdoor", sum := "dc88b37d853020a322bf44b9f0be48545a793a528845181925b14a40f3041708", func := "kelpforest/kelpforestlaw1.RunDoes", spec := "runDoes", inPlace := ["internal/bytealg.IndexByteString", "internal/bytealg.IndexString", "internal/reflectlite.ValueOf", "(internal/reflectlite.Value).Type", "(internal/reflectlite.Value).IsNil", "internal/reflectlite.TypeOf", "(internal/reflectlite.Value).Elem", "(internal/reflectlite.Value).Set"], unfollowed := true, recurses := true, named := ["kelpforest/api.ErrNone", "kelpforest/api.ErrArgs", "kelpforest/api.ErrBound", "kelpforest/api.ErrFull", "kelpforest/api.ErrName", "kelpforest/api.ErrExist", "unicode/utf8.first", "unicode/utf8.acceptRanges", "kelpforest/api.ErrShape", "kelpforest/api.ErrKind", "kelpforest/api.ErrText", "kelpforest/api.ErrDeep", "errors.errorType", "internal/bytealg.MaxLen"], loops := true, apart := false, laid := [("unicode/utf8.acceptRanges", laid_unicode_utf8_acceptRanges), ("errors.errorType", laid_errors_errorType), ("kelpforest/api.ErrText", laid_kelpforest_api_ErrText), ("kelpforest/api.ErrBound", laid_kelpforest_api_ErrBound), ("kelpforest/api.ErrShape", laid_kelpforest_api_ErrShape), ("kelpforest/api.ErrKind", laid_kelpforest_api_ErrKind), ("kelpforest/api.ErrName", laid_kelpforest_api_ErrName), ("kelpforest/api.ErrNone", laid_kelpforest_api_ErrNone), ("kelpforest/api.ErrExist", laid_kelpforest_api_ErrExist), ("kelpforest/api.ErrFull", laid_kelpforest_api_ErrFull), ("kelpforest/api.ErrArgs", laid_kelpforest_api_ErrArgs), ("kelpforest/api.ErrDeep", laid_kelpforest_api_ErrDeep), ("unicode/utf8.first", laid_unicode_utf8_first)] }
def RunDoesSaid : Prop := runDoesRow.holds Tryz.pinned (OpenSpec.ofChange runDoesSpec)

/-- ITS FALSE NEIGHBOUR: 'it returns false'. Refute it at one input. -/
def runDoesWrong : ChangeSpec := { name := "runDoes", fn := fun _ => fun
  | [d1, d2, d3, d4] => { results := [.lit (.bool false)], args := [d1, d2, d3, d4] }
  | _ => none }
def RunDoesWrongFalsely : Prop := runDoesRow.holds Tryz.pinned (OpenSpec.ofChange runDoesWrong)

/- THE SECOND FORM. 'bulk': how many values and letters a reading holds, each counted each time it is reached (what is shared counts as often as it is met; a slice's spare places count too). A statement '..UptoSaid' is the law's where the arguments, and the package variables that the reading takes, are together of bulk at most 1048576: NARROWER than '..Said'. Prove '..Said' where nothing that the law and all that it calls make is longer than what came in: it says more and counts as full. Else prove '..UptoSaid'. A law counts once. -/
mutual
def uptoBulk {H : Type} : DataW H → Nat
  | .lit (.string bytes) => bytes.length + 1
  | .lit _ => 1
  | .nil => 1
  | .ptr d => uptoBulk d + 1
  | .slice elems spare => uptoBulkAll elems + uptoBulkAll spare + 1
  | .agg parts => uptoBulkAll parts + 1
  | .iface _ d => uptoBulk d + 1
  | .map entries => uptoBulkEntries entries + 1
  | .held _ => 1
def uptoBulkAll {H : Type} : List (DataW H) → Nat
  | [] => 0
  | d :: r => uptoBulk d + uptoBulkAll r
def uptoBulkEntries {H : Type} : List (Lit × DataW H) → Nat
  | [] => 0
  | x :: r => uptoBulkEntry x + uptoBulkEntries r
def uptoBulkEntry {H : Type} : Lit × DataW H → Nat
  | (.string bytes, d) => bytes.length + uptoBulk d + 1
  | (_, d) => uptoBulk d + 1
 end
def uptoSmall : (H : Type) → List (DataW H) → Bool := fun _ ds => decide (uptoBulkAll ds ≤ 1048576)
def OpenSpec.upto (s : _root_.Go.ChangeSpec) : _root_.Go.OpenSpec := { _root_.Go.OpenSpec.ofChange s with cond := some uptoSmall }

/-- 'kelpforestlaw1.CheckTells', WHERE WHAT IT READS IS OF BULK AT MOST 1048576: true; the input reads as it did. -/
def checkTellsUptoRow : OpenClaim := { program := "ytnpdjncgilekhaagreatdoor", sum := "dc88b37d853020a322bf44b9f0be48545a793a528845181925b14a40f3041708", func := "kelpforest/kelpforestlaw1.CheckTells", spec := "checkTells", inPlace := ["internal/bytealg.IndexByteString", "internal/bytealg.IndexString", "internal/reflectlite.ValueOf", "(internal/reflectlite.Value).Type", "(internal/reflectlite.Value).IsNil", "internal/reflectlite.TypeOf", "(internal/reflectlite.Value).Elem", "(internal/reflectlite.Value).Set"], unfollowed := true, recurses := true, named := ["kelpforest/api.ErrFull", "kelpforest/api.ErrName", "kelpforest/api.ErrExist", "kelpforest/api.ErrArgs", "unicode/utf8.first", "unicode/utf8.acceptRanges", "kelpforest/api.ErrShape", "kelpforest/api.ErrNone", "kelpforest/api.ErrKind", "kelpforest/api.ErrText", "kelpforest/api.ErrBound", "kelpforest/api.ErrDeep", "errors.errorType", "internal/bytealg.MaxLen"], loops := true, apart := false, laid := [("unicode/utf8.acceptRanges", laid_unicode_utf8_acceptRanges), ("errors.errorType", laid_errors_errorType), ("kelpforest/api.ErrText", laid_kelpforest_api_ErrText), ("kelpforest/api.ErrBound", laid_kelpforest_api_ErrBound), ("kelpforest/api.ErrShape", laid_kelpforest_api_ErrShape), ("kelpforest/api.ErrKind", laid_kelpforest_api_ErrKind), ("kelpforest/api.ErrName", laid_kelpforest_api_ErrName), ("kelpforest/api.ErrNone", laid_kelpforest_api_ErrNone), ("kelpforest/api.ErrExist", laid_kelpforest_api_ErrExist), ("kelpforest/api.ErrFull", laid_kelpforest_api_ErrFull), ("kelpforest/api.ErrArgs", laid_kelpforest_api_ErrArgs), ("kelpforest/api.ErrDeep", laid_kelpforest_api_ErrDeep), ("unicode/utf8.first", laid_unicode_utf8_first)], narrowed := true }
def CheckTellsUptoSaid : Prop := checkTellsUptoRow.holds Tryz.pinned (OpenSpec.upto checkTellsSpec)

/-- 'kelpforestlaw1.RunDoes', WHERE WHAT IT READS IS OF BULK AT MOST 1048576: true; the input reads as it did. -/
def runDoesUptoRow : OpenClaim := { program := "ytnpdjncgilekhaagreatdoor", sum := "dc88b37d853020a322bf44b9f0be48545a793a528845181925b14a40f3041708", func := "kelpforest/kelpforestlaw1.RunDoes", spec := "runDoes", inPlace := ["internal/bytealg.IndexByteString", "internal/bytealg.IndexString", "internal/reflectlite.ValueOf", "(internal/reflectlite.Value).Type", "(internal/reflectlite.Value).IsNil", "internal/reflectlite.TypeOf", "(internal/reflectlite.Value).Elem", "(internal/reflectlite.Value).Set"], unfollowed := true, recurses := true, named := ["kelpforest/api.ErrNone", "kelpforest/api.ErrArgs", "kelpforest/api.ErrBound", "kelpforest/api.ErrFull", "kelpforest/api.ErrName", "kelpforest/api.ErrExist", "unicode/utf8.first", "unicode/utf8.acceptRanges", "kelpforest/api.ErrShape", "kelpforest/api.ErrKind", "kelpforest/api.ErrText", "kelpforest/api.ErrDeep", "errors.errorType", "internal/bytealg.MaxLen"], loops := true, apart := false, laid := [("unicode/utf8.acceptRanges", laid_unicode_utf8_acceptRanges), ("errors.errorType", laid_errors_errorType), ("kelpforest/api.ErrText", laid_kelpforest_api_ErrText), ("kelpforest/api.ErrBound", laid_kelpforest_api_ErrBound), ("kelpforest/api.ErrShape", laid_kelpforest_api_ErrShape), ("kelpforest/api.ErrKind", laid_kelpforest_api_ErrKind), ("kelpforest/api.ErrName", laid_kelpforest_api_ErrName), ("kelpforest/api.ErrNone", laid_kelpforest_api_ErrNone), ("kelpforest/api.ErrExist", laid_kelpforest_api_ErrExist), ("kelpforest/api.ErrFull", laid_kelpforest_api_ErrFull), ("kelpforest/api.ErrArgs", laid_kelpforest_api_ErrArgs), ("kelpforest/api.ErrDeep", laid_kelpforest_api_ErrDeep), ("unicode/utf8.first", laid_unicode_utf8_first)], narrowed := true }
def RunDoesUptoSaid : Prop := runDoesUptoRow.holds Tryz.pinned (OpenSpec.upto runDoesSpec)

end Rows
end Go.Proofs.YtnpdjncgilekhaaGreatDoor
