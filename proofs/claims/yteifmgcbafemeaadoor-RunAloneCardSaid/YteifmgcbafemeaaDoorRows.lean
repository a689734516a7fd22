/-
  NARROWER THAN 'FOR EVERY INPUT', by the rows' own cells (each row's printed sentence says how): RunMore: loops, laid · RunAlone: loops, laid.
  DERIVED. THE GIVEN ROWS OF THIS SEAT. 2 by the template 'for every input the law returns true; each argument reads behind the call as it read before'; 0 by the template 'total and deterministic' (their statements: YteifmgcbafemeaaDoorTotals.lean).
  GIVEN WITH THE SEED: the statements are not yours to turn. If you find one false, say at which input.
  Laid BY PROGRAM, IN A SANDBOX (cutbox-rows.mjs): the forced cells as the released guide's own fill.sh prints them over the translation 3f4bba9567e253db… (all of the seat's roots in one cut). By AI agents, Wed Nov 11 2026. No macro, syntax, notation, axiom, sorry.
-/
import Derived.Test.YteifmgcbafemeaaDoorChecked
import GoSem.PinnedTables
import GoSem.Claim
import GoSem.ClaimJoined
import GoSem.ClaimMapViews
import Derived.JoinedTies
import Derived.KernelRfl
namespace Go.Proofs.YteifmgcbafemeaaDoor
/- THE CELL 'sum', in the pinned program and in every row, IS THE sha256 OF THE DUMP (.gsa) THAT YteifmgcbafemeaaDoorProg.lean LOADS. Nothing in Lean hashes anything: it is a label: what it is worth is what the hold of that sum in a sandbox is worth. -/
noncomputable def Tryd.pinned : Pinned := { name := "yteifmgcbafemeaadoor", sum := "3f4bba9567e253db7d292f07613f8966da30e5aa185971c06186d47110dd36d3", checked := Tryd.checked }
namespace Rows
def none {H : Type} : Left H := { results := [], args := [] }

/- WHAT THE LISTED PACKAGE-LEVEL VARIABLES READ AS WHEN THE CALL BEGINS. Each datum BY PROGRAM (the guide's laid-datum.mjs) off the statement by which the dump's own 'gosem.cut.vars' lays the variable. In a bare row this is a premise. The card (YteifmgcbafemeaaDoorCards.lean) ties it to the program's text. -/
def laid_unicode_utf8_acceptRanges {H : Type} : DataW H := .agg [.agg [.lit (.int .u8 128), .lit (.int .u8 191)], .agg [.lit (.int .u8 160), .lit (.int .u8 191)], .agg [.lit (.int .u8 128), .lit (.int .u8 159)], .agg [.lit (.int .u8 144), .lit (.int .u8 191)], .agg [.lit (.int .u8 128), .lit (.int .u8 143)], .agg [.lit (.int .u8 0), .lit (.int .u8 0)], .agg [.lit (.int .u8 0), .lit (.int .u8 0)], .agg [.lit (.int .u8 0), .lit (.int .u8 0)], .agg [.lit (.int .u8 0), .lit (.int .u8 0)], .agg [.lit (.int .u8 0), .lit (.int .u8 0)], .agg [.lit (.int .u8 0), .lit (.int .u8 0)], .agg [.lit (.int .u8 0), .lit (.int .u8 0)], .agg [.lit (.int .u8 0), .lit (.int .u8 0)], .agg [.lit (.int .u8 0), .lit (.int .u8 0)], .agg [.lit (.int .u8 0), .lit (.int .u8 0)], .agg [.lit (.int .u8 0), .lit (.int .u8 0)]]
def laid_kelpforest_api_ErrBound {H : Type} : DataW H := .iface "*errors.errorString" (.ptr (.agg [.lit (.string [107, 101, 108, 112, 102, 111, 114, 101, 115, 116, 58, 32, 98, 111, 117, 110, 100])]))
def laid_kelpforest_api_ErrShape {H : Type} : DataW H := .iface "*errors.errorString" (.ptr (.agg [.lit (.string [107, 101, 108, 112, 102, 111, 114, 101, 115, 116, 58, 32, 115, 104, 97, 112, 101])]))
def laid_kelpforest_api_ErrKind {H : Type} : DataW H := .iface "*errors.errorString" (.ptr (.agg [.lit (.string [107, 101, 108, 112, 102, 111, 114, 101, 115, 116, 58, 32, 107, 105, 110, 100])]))
def laid_kelpforest_api_ErrName {H : Type} : DataW H := .iface "*errors.errorString" (.ptr (.agg [.lit (.string [107, 101, 108, 112, 102, 111, 114, 101, 115, 116, 58, 32, 110, 97, 109, 101])]))
def laid_kelpforest_api_ErrNone {H : Type} : DataW H := .iface "*errors.errorString" (.ptr (.agg [.lit (.string [107, 101, 108, 112, 102, 111, 114, 101, 115, 116, 58, 32, 110, 111, 110, 101])]))
def laid_kelpforest_api_ErrExist {H : Type} : DataW H := .iface "*errors.errorString" (.ptr (.agg [.lit (.string [107, 101, 108, 112, 102, 111, 114, 101, 115, 116, 58, 32, 101, 120, 105, 115, 116])]))
def laid_kelpforest_api_ErrFull {H : Type} : DataW H := .iface "*errors.errorString" (.ptr (.agg [.lit (.string [107, 101, 108, 112, 102, 111, 114, 101, 115, 116, 58, 32, 102, 117, 108, 108])]))
def laid_kelpforest_api_ErrArgs {H : Type} : DataW H := .iface "*errors.errorString" (.ptr (.agg [.lit (.string [107, 101, 108, 112, 102, 111, 114, 101, 115, 116, 58, 32, 97, 114, 103, 115])]))
/-- One of Go's own tables, pinned by name: the form's constant. -/
def laid_unicode_utf8_first : DataW Unit := Go.Pinned.utf8First

/-- 'kelpforestlaw1.RunMore': WHATEVER THE INPUT: true; the input reads as it did. -/
def runMoreSpec : ChangeSpec := { name := "runMore", fn := fun _ => fun
  | [d1, d2, d3, d4, d5] => { results := [.lit (.bool true)], args := [d1, d2, d3, d4, d5] }
  | _ => none }
def runMoreRow : OpenClaim := { program := "yteifmgcbafemeaadoor", sum := "3f4bba9567e253db7d292f07613f8966da30e5aa185971c06186d47110dd36d3", func := "kelpforest/kelpforestlaw1.RunMore", spec := "runMore", inPlace := ["internal/bytealg.IndexByteString", "internal/bytealg.IndexString"], unfollowed := true, recurses := true, named := ["kelpforest/api.ErrNone", "kelpforest/api.ErrArgs", "kelpforest/api.ErrBound", "kelpforest/api.ErrFull", "kelpforest/api.ErrName", "kelpforest/api.ErrExist", "unicode/utf8.first", "unicode/utf8.acceptRanges", "kelpforest/api.ErrShape", "kelpforest/api.ErrKind", "internal/bytealg.MaxLen"], loops := true, apart := false, laid := [("unicode/utf8.acceptRanges", laid_unicode_utf8_acceptRanges), ("kelpforest/api.ErrBound", laid_kelpforest_api_ErrBound), ("kelpforest/api.ErrShape", laid_kelpforest_api_ErrShape), ("kelpforest/api.ErrKind", laid_kelpforest_api_ErrKind), ("kelpforest/api.ErrName", laid_kelpforest_api_ErrName), ("kelpforest/api.ErrNone", laid_kelpforest_api_ErrNone), ("kelpforest/api.ErrExist", laid_kelpforest_api_ErrExist), ("kelpforest/api.ErrFull", laid_kelpforest_api_ErrFull), ("kelpforest/api.ErrArgs", laid_kelpforest_api_ErrArgs), ("unicode/utf8.first", laid_unicode_utf8_first)] }
def RunMoreSaid : Prop := runMoreRow.holds Tryd.pinned (OpenSpec.ofChange runMoreSpec)

/-- ITS FALSE NEIGHBOUR: 'it returns false'. Refute it at one input. -/
def runMoreWrong : ChangeSpec := { name := "runMore", fn := fun _ => fun
  | [d1, d2, d3, d4, d5] => { results := [.lit (.bool false)], args := [d1, d2, d3, d4, d5] }
  | _ => none }
def RunMoreWrongFalsely : Prop := runMoreRow.holds Tryd.pinned (OpenSpec.ofChange runMoreWrong)

/-- 'kelpforestlaw1.RunAlone': WHATEVER THE INPUT: true; the input reads as it did. -/
def runAloneSpec : ChangeSpec := { name := "runAlone", fn := fun _ => fun
  | [d1, d2, d3, d4] => { results := [.lit (.bool true)], args := [d1, d2, d3, d4] }
  | _ => none }
def runAloneRow : OpenClaim := { program := "yteifmgcbafemeaadoor", sum := "3f4bba9567e253db7d292f07613f8966da30e5aa185971c06186d47110dd36d3", func := "kelpforest/kelpforestlaw1.RunAlone", spec := "runAlone", inPlace := ["internal/bytealg.IndexByteString", "internal/bytealg.IndexString"], unfollowed := true, recurses := true, named := ["kelpforest/api.ErrNone", "kelpforest/api.ErrArgs", "kelpforest/api.ErrBound", "kelpforest/api.ErrFull", "kelpforest/api.ErrName", "kelpforest/api.ErrExist", "unicode/utf8.first", "unicode/utf8.acceptRanges", "kelpforest/api.ErrShape", "kelpforest/api.ErrKind", "internal/bytealg.MaxLen"], loops := true, apart := false, laid := [("unicode/utf8.acceptRanges", laid_unicode_utf8_acceptRanges), ("kelpforest/api.ErrBound", laid_kelpforest_api_ErrBound), ("kelpforest/api.ErrShape", laid_kelpforest_api_ErrShape), ("kelpforest/api.ErrKind", laid_kelpforest_api_ErrKind), ("kelpforest/api.ErrName", laid_kelpforest_api_ErrName), ("kelpforest/api.ErrNone", laid_kelpforest_api_ErrNone), ("kelpforest/api.ErrExist", laid_kelpforest_api_ErrExist), ("kelpforest/api.ErrFull", laid_kelpforest_api_ErrFull), ("kelpforest/api.ErrArgs", laid_kelpforest_api_ErrArgs), ("unicode/utf8.first", laid_unicode_utf8_first)] }
def RunAloneSaid : Prop := runAloneRow.holds Tryd.pinned (OpenSpec.ofChange runAloneSpec)

/-- ITS FALSE NEIGHBOUR: 'it returns false'. Refute it at one input. -/
def runAloneWrong : ChangeSpec := { name := "runAlone", fn := fun _ => fun
  | [d1, d2, d3, d4] => { results := [.lit (.bool false)], args := [d1, d2, d3, d4] }
  | _ => none }
def RunAloneWrongFalsely : Prop := runAloneRow.holds Tryd.pinned (OpenSpec.ofChange runAloneWrong)

/- THE SECOND FORM. 'bulk': how many values and letters a reading holds, each counted each time it is reached (what is shared counts as often as it is met; a slice's spare places count too). A statement '..UptoSaid' is the law's where the arguments, and the package variables that the reading takes, are together of bulk at most 1048576: NARROWER than '..Said'. Prove '..Said' where nothing that the law and all that it calls make is longer than what came in: it says more and counts as full. Else prove '..UptoSaid'. A law counts once. -/
mutual
def uptoBulk {H : Type} : DataW H → Nat
  | .lit (.string bytes) => bytes.length + 1
  | .lit _ => 1
  | .nil => 1
  | .ptr d => uptoBulk d + 1
  | .slice elems spare => uptoBulkAll elems + uptoBulkAll spare + 1
  | .agg parts => uptoBulkAll parts + 1
  | .iface _ d => uptoBulk d + 1
  | .map entries => uptoBulkEntries entries + 1
  | .held _ => 1
def uptoBulkAll {H : Type} : List (DataW H) → Nat
  | [] => 0
  | d :: r => uptoBulk d + uptoBulkAll r
def uptoBulkEntries {H : Type} : List (Lit × DataW H) → Nat
  | [] => 0
  | x :: r => uptoBulkEntry x + uptoBulkEntries r
def uptoBulkEntry {H : Type} : Lit × DataW H → Nat
  | (.string bytes, d) => bytes.length + uptoBulk d + 1
  | (_, d) => uptoBulk d + 1
 end
def uptoSmall : (H : Type) → List (DataW H) → Bool := fun _ ds => decide (uptoBulkAll ds ≤ 1048576)
def OpenSpec.upto (s : _root_.Go.ChangeSpec) : _root_.Go.OpenSpec := { _root_.Go.OpenSpec.ofChange s with cond := some uptoSmall }

/-- 'kelpforestlaw1.RunMore', WHERE WHAT IT READS IS OF BULK AT MOST 1048576: true; the input reads as it did. -/
def runMoreUptoRow : OpenClaim := { program := "yteifmgcbafemeaadoor", sum := "3f4bba9567e253db7d292f07613f8966da30e5aa185971c06186d47110dd36d3", func := "kelpforest/kelpforestlaw1.RunMore", spec := "runMore", inPlace := ["internal/bytealg.IndexByteString", "internal/bytealg.IndexString"], unfollowed := true, recurses := true, named := ["kelpforest/api.ErrNone", "kelpforest/api.ErrArgs", "kelpforest/api.ErrBound", "kelpforest/api.ErrFull", "kelpforest/api.ErrName", "kelpforest/api.ErrExist", "unicode/utf8.first", "unicode/utf8.acceptRanges", "kelpforest/api.ErrShape", "kelpforest/api.ErrKind", "internal/bytealg.MaxLen"], loops := true, apart := false, laid := [("unicode/utf8.acceptRanges", laid_unicode_utf8_acceptRanges), ("kelpforest/api.ErrBound", laid_kelpforest_api_ErrBound), ("kelpforest/api.ErrShape", laid_kelpforest_api_ErrShape), ("kelpforest/api.ErrKind", laid_kelpforest_api_ErrKind), ("kelpforest/api.ErrName", laid_kelpforest_api_ErrName), ("kelpforest/api.ErrNone", laid_kelpforest_api_ErrNone), ("kelpforest/api.ErrExist", laid_kelpforest_api_ErrExist), ("kelpforest/api.ErrFull", laid_kelpforest_api_ErrFull), ("kelpforest/api.ErrArgs", laid_kelpforest_api_ErrArgs), ("unicode/utf8.first", laid_unicode_utf8_first)], narrowed := true }
def RunMoreUptoSaid : Prop := runMoreUptoRow.holds Tryd.pinned (OpenSpec.upto runMoreSpec)

/-- 'kelpforestlaw1.RunAlone', WHERE WHAT IT READS IS OF BULK AT MOST 1048576: true; the input reads as it did. -/
def runAloneUptoRow : OpenClaim := { program := "yteifmgcbafemeaadoor", sum := "3f4bba9567e253db7d292f07613f8966da30e5aa185971c06186d47110dd36d3", func := "kelpforest/kelpforestlaw1.RunAlone", spec := "runAlone", inPlace := ["internal/bytealg.IndexByteString", "internal/bytealg.IndexString"], unfollowed := true, recurses := true, named := ["kelpforest/api.ErrNone", "kelpforest/api.ErrArgs", "kelpforest/api.ErrBound", "kelpforest/api.ErrFull", "kelpforest/api.ErrName", "kelpforest/api.ErrExist", "unicode/utf8.first", "unicode/utf8.acceptRanges", "kelpforest/api.ErrShape", "kelpforest/api.ErrKind", "internal/bytealg.MaxLen"], loops := true, apart := false, laid := [("unicode/utf8.acceptRanges", laid_unicode_utf8_acceptRanges), ("kelpforest/api.ErrBound", laid_kelpforest_api_ErrBound), ("kelpforest/api.ErrShape", laid_kelpforest_api_ErrShape), ("kelpforest/api.ErrKind", laid_kelpforest_api_ErrKind), ("kelpforest/api.ErrName", laid_kelpforest_api_ErrName), ("kelpforest/api.ErrNone", laid_kelpforest_api_ErrNone), ("kelpforest/api.ErrExist", laid_kelpforest_api_ErrExist), ("kelpforest/api.ErrFull", laid_kelpforest_api_ErrFull), ("kelpforest/api.ErrArgs", laid_kelpforest_api_ErrArgs), ("unicode/utf8.first", laid_unicode_utf8_first)], narrowed := true }
def RunAloneUptoSaid : Prop := runAloneUptoRow.holds Tryd.pinned (OpenSpec.upto runAloneSpec)

end Rows
end Go.Proofs.YteifmgcbafemeaaDoor
