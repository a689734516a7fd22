/-
  NARROWER THAN 'FOR EVERY INPUT', by the rows' own cells (each row's printed sentence says how): ValLaws: laid · ValBack: laid · LexJoins: laid · LexAgain: laid · Names: laid · ValDoes: laid · LexReads: laid · ShowTexts: loops, laid · TreeCuts: laid · ShowBack: laid.
  DERIVED. THE GIVEN ROWS OF THIS SEAT. 10 by the template 'for every input the law returns true; each argument reads behind the call as it read before'; 0 by the template 'total and deterministic' (their statements: YtddilnibglcabaaDoorTotals.lean).
  GIVEN WITH THE SEED: the statements are not yours to turn. If you find one false, say at which input.
  Laid BY PROGRAM, IN A SANDBOX (cutbox-rows.mjs): the forced cells as the released guide's own fill.sh prints them over the translation b68169ce1303ee6f… (all of the seat's roots in one cut). By AI agents, Wed Nov 11 2026. No macro, syntax, notation, axiom, sorry.
-/
import Derived.Test.YtddilnibglcabaaDoorChecked
import GoSem.Claim
import GoSem.ClaimJoined
import GoSem.ClaimMapViews
import Derived.JoinedTies
import Derived.KernelRfl
namespace Go.Proofs.YtddilnibglcabaaDoor
/- THE CELL 'sum', in the pinned program and in every row, IS THE sha256 OF THE DUMP (.gsa) THAT YtddilnibglcabaaDoorProg.lean LOADS. Nothing in Lean hashes anything: it is a label: what it is worth is what the hold of that sum in a sandbox is worth. -/
noncomputable def Tryd.pinned : Pinned := { name := "ytddilnibglcabaadoor", sum := "b68169ce1303ee6f029520035a36528b8fc5dd744c8583bb6ff2ca9ca79e8b28", checked := Tryd.checked }
namespace Rows
def none {H : Type} : Left H := { results := [], args := [] }

/- WHAT THE LISTED PACKAGE-LEVEL VARIABLES READ AS WHEN THE CALL BEGINS. Each datum BY PROGRAM (the guide's laid-datum.mjs) off the statement by which the dump's own 'gosem.cut.vars' lays the variable. In a bare row this is a premise. The card (YtddilnibglcabaaDoorCards.lean) ties it to the program's text. -/
def laid_kelpforest_api_ErrKind {H : Type} : DataW H := .iface "*errors.errorString" (.ptr (.agg [.lit (.string [107, 101, 108, 112, 102, 111, 114, 101, 115, 116, 58, 32, 107, 105, 110, 100])]))
def laid_kelpforest_api_ErrText {H : Type} : DataW H := .iface "*errors.errorString" (.ptr (.agg [.lit (.string [107, 101, 108, 112, 102, 111, 114, 101, 115, 116, 58, 32, 116, 101, 120, 116])]))
def laid_kelpforest_api_ErrBound {H : Type} : DataW H := .iface "*errors.errorString" (.ptr (.agg [.lit (.string [107, 101, 108, 112, 102, 111, 114, 101, 115, 116, 58, 32, 98, 111, 117, 110, 100])]))
def laid_kelpforest_api_ErrFull {H : Type} : DataW H := .iface "*errors.errorString" (.ptr (.agg [.lit (.string [107, 101, 108, 112, 102, 111, 114, 101, 115, 116, 58, 32, 102, 117, 108, 108])]))
def laid_errors_errorType {H : Type} : DataW H := .iface "internal/reflectlite.rtype" (.agg [.ptr (.lit (.string [101, 114, 114, 111, 114]))])
def laid_kelpforest_api_ErrShape {H : Type} : DataW H := .iface "*errors.errorString" (.ptr (.agg [.lit (.string [107, 101, 108, 112, 102, 111, 114, 101, 115, 116, 58, 32, 115, 104, 97, 112, 101])]))
def laid_kelpforest_api_ErrName {H : Type} : DataW H := .iface "*errors.errorString" (.ptr (.agg [.lit (.string [107, 101, 108, 112, 102, 111, 114, 101, 115, 116, 58, 32, 110, 97, 109, 101])]))
def laid_kelpforest_api_ErrNone {H : Type} : DataW H := .iface "*errors.errorString" (.ptr (.agg [.lit (.string [107, 101, 108, 112, 102, 111, 114, 101, 115, 116, 58, 32, 110, 111, 110, 101])]))
def laid_kelpforest_api_ErrExist {H : Type} : DataW H := .iface "*errors.errorString" (.ptr (.agg [.lit (.string [107, 101, 108, 112, 102, 111, 114, 101, 115, 116, 58, 32, 101, 120, 105, 115, 116])]))
def laid_kelpforest_api_ErrArgs {H : Type} : DataW H := .iface "*errors.errorString" (.ptr (.agg [.lit (.string [107, 101, 108, 112, 102, 111, 114, 101, 115, 116, 58, 32, 97, 114, 103, 115])]))
def laid_kelpforest_api_ErrDeep {H : Type} : DataW H := .iface "*errors.errorString" (.ptr (.agg [.lit (.string [107, 101, 108, 112, 102, 111, 114, 101, 115, 116, 58, 32, 100, 101, 101, 112])]))
def laid_math_bits_deBruijn32tab {H : Type} : DataW H := .agg [.lit (.int .u8 0), .lit (.int .u8 1), .lit (.int .u8 28), .lit (.int .u8 2), .lit (.int .u8 29), .lit (.int .u8 14), .lit (.int .u8 24), .lit (.int .u8 3), .lit (.int .u8 30), .lit (.int .u8 22), .lit (.int .u8 20), .lit (.int .u8 15), .lit (.int .u8 25), .lit (.int .u8 17), .lit (.int .u8 4), .lit (.int .u8 8), .lit (.int .u8 31), .lit (.int .u8 27), .lit (.int .u8 13), .lit (.int .u8 23), .lit (.int .u8 21), .lit (.int .u8 19), .lit (.int .u8 16), .lit (.int .u8 7), .lit (.int .u8 26), .lit (.int .u8 12), .lit (.int .u8 18), .lit (.int .u8 6), .lit (.int .u8 11), .lit (.int .u8 5), .lit (.int .u8 10), .lit (.int .u8 9)]
def laid_math_bits_deBruijn64tab {H : Type} : DataW H := .agg [.lit (.int .u8 0), .lit (.int .u8 1), .lit (.int .u8 56), .lit (.int .u8 2), .lit (.int .u8 57), .lit (.int .u8 49), .lit (.int .u8 28), .lit (.int .u8 3), .lit (.int .u8 61), .lit (.int .u8 58), .lit (.int .u8 42), .lit (.int .u8 50), .lit (.int .u8 38), .lit (.int .u8 29), .lit (.int .u8 17), .lit (.int .u8 4), .lit (.int .u8 62), .lit (.int .u8 47), .lit (.int .u8 59), .lit (.int .u8 36), .lit (.int .u8 45), .lit (.int .u8 43), .lit (.int .u8 51), .lit (.int .u8 22), .lit (.int .u8 53), .lit (.int .u8 39), .lit (.int .u8 33), .lit (.int .u8 30), .lit (.int .u8 24), .lit (.int .u8 18), .lit (.int .u8 12), .lit (.int .u8 5), .lit (.int .u8 63), .lit (.int .u8 55), .lit (.int .u8 48), .lit (.int .u8 27), .lit (.int .u8 60), .lit (.int .u8 41), .lit (.int .u8 37), .lit (.int .u8 16), .lit (.int .u8 46), .lit (.int .u8 35), .lit (.int .u8 44), .lit (.int .u8 21), .lit (.int .u8 52), .lit (.int .u8 32), .lit (.int .u8 23), .lit (.int .u8 11), .lit (.int .u8 54), .lit (.int .u8 26), .lit (.int .u8 40), .lit (.int .u8 15), .lit (.int .u8 34), .lit (.int .u8 20), .lit (.int .u8 31), .lit (.int .u8 10), .lit (.int .u8 25), .lit (.int .u8 14), .lit (.int .u8 19), .lit (.int .u8 9), .lit (.int .u8 13), .lit (.int .u8 8), .lit (.int .u8 7), .lit (.int .u8 6)]
def laid_internal_strconv_uint64pow10 {H : Type} : DataW H := .agg [.lit (.int .u64 1), .lit (.int .u64 10), .lit (.int .u64 100), .lit (.int .u64 1000), .lit (.int .u64 10000), .lit (.int .u64 100000), .lit (.int .u64 1000000), .lit (.int .u64 10000000), .lit (.int .u64 100000000), .lit (.int .u64 1000000000), .lit (.int .u64 10000000000), .lit (.int .u64 100000000000), .lit (.int .u64 1000000000000), .lit (.int .u64 10000000000000), .lit (.int .u64 100000000000000), .lit (.int .u64 1000000000000000), .lit (.int .u64 10000000000000000), .lit (.int .u64 100000000000000000), .lit (.int .u64 1000000000000000000), .lit (.int .u64 10000000000000000000)]
def laid_strconv_ErrRange {H : Type} : DataW H := .iface "*errors.errorString" (.ptr (.agg [.lit (.string [118, 97, 108, 117, 101, 32, 111, 117, 116, 32, 111, 102, 32, 114, 97, 110, 103, 101])]))
def laid_strconv_ErrSyntax {H : Type} : DataW H := .iface "*errors.errorString" (.ptr (.agg [.lit (.string [105, 110, 118, 97, 108, 105, 100, 32, 115, 121, 110, 116, 97, 120])]))

/-- 'kelpforestlaw1.ValLaws': WHATEVER THE INPUT: true; the input reads as it did. -/
def valLawsSpec : ChangeSpec := { name := "valLaws", fn := fun _ => fun
  | [d1, d2, d3] => { results := [.lit (.bool true)], args := [d1, d2, d3] }
  | _ => none }
def valLawsRow : OpenClaim := { program := "ytddilnibglcabaadoor", sum := "b68169ce1303ee6f029520035a36528b8fc5dd744c8583bb6ff2ca9ca79e8b28", func := "kelpforest/kelpforestlaw1.ValLaws", spec := "valLaws", named := ["kelpforest/api.ErrKind"], apart := false, laid := [("kelpforest/api.ErrKind", laid_kelpforest_api_ErrKind)] }
def ValLawsSaid : Prop := valLawsRow.holds Tryd.pinned (OpenSpec.ofChange valLawsSpec)

/-- ITS FALSE NEIGHBOUR: 'it returns false'. Refute it at one input. -/
def valLawsWrong : ChangeSpec := { name := "valLaws", fn := fun _ => fun
  | [d1, d2, d3] => { results := [.lit (.bool false)], args := [d1, d2, d3] }
  | _ => none }
def ValLawsWrongFalsely : Prop := valLawsRow.holds Tryd.pinned (OpenSpec.ofChange valLawsWrong)

/-- 'kelpforestlaw1.ValBack': WHATEVER THE INPUT: true; the input reads as it did. -/
def valBackSpec : ChangeSpec := { name := "valBack", fn := fun _ => fun
  | [d1, d2, d3] => { results := [.lit (.bool true)], args := [d1, d2, d3] }
  | _ => none }
def valBackRow : OpenClaim := { program := "ytddilnibglcabaadoor", sum := "b68169ce1303ee6f029520035a36528b8fc5dd744c8583bb6ff2ca9ca79e8b28", func := "kelpforest/kelpforestlaw1.ValBack", spec := "valBack", named := ["kelpforest/api.ErrKind"], apart := false, laid := [("kelpforest/api.ErrKind", laid_kelpforest_api_ErrKind)] }
def ValBackSaid : Prop := valBackRow.holds Tryd.pinned (OpenSpec.ofChange valBackSpec)

/-- ITS FALSE NEIGHBOUR: 'it returns false'. Refute it at one input. -/
def valBackWrong : ChangeSpec := { name := "valBack", fn := fun _ => fun
  | [d1, d2, d3] => { results := [.lit (.bool false)], args := [d1, d2, d3] }
  | _ => none }
def ValBackWrongFalsely : Prop := valBackRow.holds Tryd.pinned (OpenSpec.ofChange valBackWrong)

/-- 'kelpforestlaw1.LexJoins': WHATEVER THE INPUT: true; the input reads as it did. -/
def lexJoinsSpec : ChangeSpec := { name := "lexJoins", fn := fun _ => fun
  | [d1, d2] => { results := [.lit (.bool true)], args := [d1, d2] }
  | _ => none }
def lexJoinsRow : OpenClaim := { program := "ytddilnibglcabaadoor", sum := "b68169ce1303ee6f029520035a36528b8fc5dd744c8583bb6ff2ca9ca79e8b28", func := "kelpforest/kelpforestlaw1.LexJoins", spec := "lexJoins", inPlace := ["internal/bytealg.IndexByteString"], unfollowed := true, recurses := true, named := ["kelpforest/api.ErrBound", "kelpforest/api.ErrText", "kelpforest/api.ErrFull"], apart := false, laid := [("kelpforest/api.ErrText", laid_kelpforest_api_ErrText), ("kelpforest/api.ErrBound", laid_kelpforest_api_ErrBound), ("kelpforest/api.ErrFull", laid_kelpforest_api_ErrFull)] }
def LexJoinsSaid : Prop := lexJoinsRow.holds Tryd.pinned (OpenSpec.ofChange lexJoinsSpec)

/-- ITS FALSE NEIGHBOUR: 'it returns false'. Refute it at one input. -/
def lexJoinsWrong : ChangeSpec := { name := "lexJoins", fn := fun _ => fun
  | [d1, d2] => { results := [.lit (.bool false)], args := [d1, d2] }
  | _ => none }
def LexJoinsWrongFalsely : Prop := lexJoinsRow.holds Tryd.pinned (OpenSpec.ofChange lexJoinsWrong)

/-- 'kelpforestlaw1.LexAgain': WHATEVER THE INPUT: true; the input reads as it did. -/
def lexAgainSpec : ChangeSpec := { name := "lexAgain", fn := fun _ => fun
  | [d] => { results := [.lit (.bool true)], args := [d] }
  | _ => none }
def lexAgainRow : OpenClaim := { program := "ytddilnibglcabaadoor", sum := "b68169ce1303ee6f029520035a36528b8fc5dd744c8583bb6ff2ca9ca79e8b28", func := "kelpforest/kelpforestlaw1.LexAgain", spec := "lexAgain", inPlace := ["internal/bytealg.IndexByteString", "internal/abi.NoEscape", "internal/bytealg.MakeNoZero"], unfollowed := true, recurses := true, named := ["kelpforest/api.ErrBound", "kelpforest/api.ErrText", "kelpforest/api.ErrFull"], apart := false, laid := [("kelpforest/api.ErrText", laid_kelpforest_api_ErrText), ("kelpforest/api.ErrBound", laid_kelpforest_api_ErrBound), ("kelpforest/api.ErrFull", laid_kelpforest_api_ErrFull)] }
def LexAgainSaid : Prop := lexAgainRow.holds Tryd.pinned (OpenSpec.ofChange lexAgainSpec)

/-- ITS FALSE NEIGHBOUR: 'it returns false'. Refute it at one input. -/
def lexAgainWrong : ChangeSpec := { name := "lexAgain", fn := fun _ => fun
  | [d] => { results := [.lit (.bool false)], args := [d] }
  | _ => none }
def LexAgainWrongFalsely : Prop := lexAgainRow.holds Tryd.pinned (OpenSpec.ofChange lexAgainWrong)

/-- 'kelpforestlaw1.Names': WHATEVER THE INPUT: true; the input reads as it did. -/
def namesSpec : ChangeSpec := { name := "names", fn := fun _ => fun
  | [] => { results := [.lit (.bool true)], args := [] }
  | _ => none }
def namesRow : OpenClaim := { program := "ytddilnibglcabaadoor", sum := "b68169ce1303ee6f029520035a36528b8fc5dd744c8583bb6ff2ca9ca79e8b28", func := "kelpforest/kelpforestlaw1.Names", spec := "names", inPlace := ["internal/reflectlite.ValueOf", "(internal/reflectlite.Value).Type", "(internal/reflectlite.Value).IsNil", "internal/reflectlite.TypeOf", "(internal/reflectlite.Value).Elem", "(internal/reflectlite.Value).Set"], unfollowed := true, recurses := true, named := ["kelpforest/api.ErrText", "kelpforest/api.ErrBound", "kelpforest/api.ErrShape", "kelpforest/api.ErrKind", "kelpforest/api.ErrName", "kelpforest/api.ErrNone", "kelpforest/api.ErrExist", "kelpforest/api.ErrFull", "kelpforest/api.ErrArgs", "kelpforest/api.ErrDeep", "errors.errorType"], apart := false, laid := [("errors.errorType", laid_errors_errorType), ("kelpforest/api.ErrText", laid_kelpforest_api_ErrText), ("kelpforest/api.ErrBound", laid_kelpforest_api_ErrBound), ("kelpforest/api.ErrShape", laid_kelpforest_api_ErrShape), ("kelpforest/api.ErrKind", laid_kelpforest_api_ErrKind), ("kelpforest/api.ErrName", laid_kelpforest_api_ErrName), ("kelpforest/api.ErrNone", laid_kelpforest_api_ErrNone), ("kelpforest/api.ErrExist", laid_kelpforest_api_ErrExist), ("kelpforest/api.ErrFull", laid_kelpforest_api_ErrFull), ("kelpforest/api.ErrArgs", laid_kelpforest_api_ErrArgs), ("kelpforest/api.ErrDeep", laid_kelpforest_api_ErrDeep)] }
def NamesSaid : Prop := namesRow.holds Tryd.pinned (OpenSpec.ofChange namesSpec)

/-- ITS FALSE NEIGHBOUR: 'it returns false'. Refute it at one input. -/
def namesWrong : ChangeSpec := { name := "names", fn := fun _ => fun
  | [] => { results := [.lit (.bool false)], args := [] }
  | _ => none }
def NamesWrongFalsely : Prop := namesRow.holds Tryd.pinned (OpenSpec.ofChange namesWrong)

/-- 'kelpforestlaw1.ValDoes': WHATEVER THE INPUT: true; the input reads as it did. -/
def valDoesSpec : ChangeSpec := { name := "valDoes", fn := fun _ => fun
  | [d1, d2, d3] => { results := [.lit (.bool true)], args := [d1, d2, d3] }
  | _ => none }
def valDoesRow : OpenClaim := { program := "ytddilnibglcabaadoor", sum := "b68169ce1303ee6f029520035a36528b8fc5dd744c8583bb6ff2ca9ca79e8b28", func := "kelpforest/kelpforestlaw1.ValDoes", spec := "valDoes", inPlace := ["internal/reflectlite.ValueOf", "(internal/reflectlite.Value).Type", "(internal/reflectlite.Value).IsNil", "internal/reflectlite.TypeOf", "(internal/reflectlite.Value).Elem", "(internal/reflectlite.Value).Set"], unfollowed := true, recurses := true, named := ["kelpforest/api.ErrKind", "kelpforest/api.ErrText", "kelpforest/api.ErrBound", "kelpforest/api.ErrShape", "kelpforest/api.ErrName", "kelpforest/api.ErrNone", "kelpforest/api.ErrExist", "kelpforest/api.ErrFull", "kelpforest/api.ErrArgs", "kelpforest/api.ErrDeep", "errors.errorType"], apart := false, laid := [("errors.errorType", laid_errors_errorType), ("kelpforest/api.ErrText", laid_kelpforest_api_ErrText), ("kelpforest/api.ErrBound", laid_kelpforest_api_ErrBound), ("kelpforest/api.ErrShape", laid_kelpforest_api_ErrShape), ("kelpforest/api.ErrKind", laid_kelpforest_api_ErrKind), ("kelpforest/api.ErrName", laid_kelpforest_api_ErrName), ("kelpforest/api.ErrNone", laid_kelpforest_api_ErrNone), ("kelpforest/api.ErrExist", laid_kelpforest_api_ErrExist), ("kelpforest/api.ErrFull", laid_kelpforest_api_ErrFull), ("kelpforest/api.ErrArgs", laid_kelpforest_api_ErrArgs), ("kelpforest/api.ErrDeep", laid_kelpforest_api_ErrDeep)] }
def ValDoesSaid : Prop := valDoesRow.holds Tryd.pinned (OpenSpec.ofChange valDoesSpec)

/-- ITS FALSE NEIGHBOUR: 'it returns false'. Refute it at one input. -/
def valDoesWrong : ChangeSpec := { name := "valDoes", fn := fun _ => fun
  | [d1, d2, d3] => { results := [.lit (.bool false)], args := [d1, d2, d3] }
  | _ => none }
def ValDoesWrongFalsely : Prop := valDoesRow.holds Tryd.pinned (OpenSpec.ofChange valDoesWrong)

/-- 'kelpforestlaw1.LexReads': WHATEVER THE INPUT: true; the input reads as it did. -/
def lexReadsSpec : ChangeSpec := { name := "lexReads", fn := fun _ => fun
  | [d] => { results := [.lit (.bool true)], args := [d] }
  | _ => none }
def lexReadsRow : OpenClaim := { program := "ytddilnibglcabaadoor", sum := "b68169ce1303ee6f029520035a36528b8fc5dd744c8583bb6ff2ca9ca79e8b28", func := "kelpforest/kelpforestlaw1.LexReads", spec := "lexReads", inPlace := ["internal/bytealg.IndexByteString", "internal/reflectlite.ValueOf", "(internal/reflectlite.Value).Type", "(internal/reflectlite.Value).IsNil", "internal/reflectlite.TypeOf", "(internal/reflectlite.Value).Elem", "(internal/reflectlite.Value).Set"], unfollowed := true, recurses := true, named := ["kelpforest/api.ErrBound", "kelpforest/api.ErrText", "kelpforest/api.ErrFull", "kelpforest/api.ErrShape", "kelpforest/api.ErrKind", "kelpforest/api.ErrName", "kelpforest/api.ErrNone", "kelpforest/api.ErrExist", "kelpforest/api.ErrArgs", "kelpforest/api.ErrDeep", "errors.errorType"], apart := false, laid := [("errors.errorType", laid_errors_errorType), ("kelpforest/api.ErrText", laid_kelpforest_api_ErrText), ("kelpforest/api.ErrBound", laid_kelpforest_api_ErrBound), ("kelpforest/api.ErrShape", laid_kelpforest_api_ErrShape), ("kelpforest/api.ErrKind", laid_kelpforest_api_ErrKind), ("kelpforest/api.ErrName", laid_kelpforest_api_ErrName), ("kelpforest/api.ErrNone", laid_kelpforest_api_ErrNone), ("kelpforest/api.ErrExist", laid_kelpforest_api_ErrExist), ("kelpforest/api.ErrFull", laid_kelpforest_api_ErrFull), ("kelpforest/api.ErrArgs", laid_kelpforest_api_ErrArgs), ("kelpforest/api.ErrDeep", laid_kelpforest_api_ErrDeep)] }
def LexReadsSaid : Prop := lexReadsRow.holds Tryd.pinned (OpenSpec.ofChange lexReadsSpec)

/-- ITS FALSE NEIGHBOUR: 'it returns false'. Refute it at one input. -/
def lexReadsWrong : ChangeSpec := { name := "lexReads", fn := fun _ => fun
  | [d] => { results := [.lit (.bool false)], args := [d] }
  | _ => none }
def LexReadsWrongFalsely : Prop := lexReadsRow.holds Tryd.pinned (OpenSpec.ofChange lexReadsWrong)

/-- 'kelpforestlaw1.ShowTexts': WHATEVER THE INPUT: true; the input reads as it did. -/
def showTextsSpec : ChangeSpec := { name := "showTexts", fn := fun _ => fun
  | [d] => { results := [.lit (.bool true)], args := [d] }
  | _ => none }
def showTextsRow : OpenClaim := { program := "ytddilnibglcabaadoor", sum := "b68169ce1303ee6f029520035a36528b8fc5dd744c8583bb6ff2ca9ca79e8b28", func := "kelpforest/kelpforestlaw1.ShowTexts", spec := "showTexts", inPlace := ["internal/abi.NoEscape", "internal/bytealg.MakeNoZero"], unfollowed := true, recurses := true, named := ["internal/strconv.uint64pow10", "math/bits.deBruijn32tab", "math/bits.deBruijn64tab"], loops := true, apart := false, laid := [("math/bits.deBruijn32tab", laid_math_bits_deBruijn32tab), ("math/bits.deBruijn64tab", laid_math_bits_deBruijn64tab), ("internal/strconv.uint64pow10", laid_internal_strconv_uint64pow10)] }
def ShowTextsSaid : Prop := showTextsRow.holds Tryd.pinned (OpenSpec.ofChange showTextsSpec)

/-- ITS FALSE NEIGHBOUR: 'it returns false'. Refute it at one input. -/
def showTextsWrong : ChangeSpec := { name := "showTexts", fn := fun _ => fun
  | [d] => { results := [.lit (.bool false)], args := [d] }
  | _ => none }
def ShowTextsWrongFalsely : Prop := showTextsRow.holds Tryd.pinned (OpenSpec.ofChange showTextsWrong)

/-- 'kelpforestlaw1.TreeCuts': WHATEVER THE INPUT: true; the input reads as it did. -/
def treeCutsSpec : ChangeSpec := { name := "treeCuts", fn := fun _ => fun
  | [d1, d2] => { results := [.lit (.bool true)], args := [d1, d2] }
  | _ => none }
def treeCutsRow : OpenClaim := { program := "ytddilnibglcabaadoor", sum := "b68169ce1303ee6f029520035a36528b8fc5dd744c8583bb6ff2ca9ca79e8b28", func := "kelpforest/kelpforestlaw1.TreeCuts", spec := "treeCuts", inPlace := ["internal/bytealg.IndexByteString"], unfollowed := true, recurses := true, named := ["kelpforest/api.ErrBound", "kelpforest/api.ErrText", "kelpforest/api.ErrFull", "kelpforest/api.ErrDeep", "strconv.ErrSyntax", "strconv.ErrRange", "internal/strconv.uint64pow10", "math/bits.deBruijn32tab", "math/bits.deBruijn64tab"], apart := false, laid := [("math/bits.deBruijn32tab", laid_math_bits_deBruijn32tab), ("math/bits.deBruijn64tab", laid_math_bits_deBruijn64tab), ("internal/strconv.uint64pow10", laid_internal_strconv_uint64pow10), ("kelpforest/api.ErrText", laid_kelpforest_api_ErrText), ("kelpforest/api.ErrBound", laid_kelpforest_api_ErrBound), ("kelpforest/api.ErrFull", laid_kelpforest_api_ErrFull), ("kelpforest/api.ErrDeep", laid_kelpforest_api_ErrDeep), ("strconv.ErrRange", laid_strconv_ErrRange), ("strconv.ErrSyntax", laid_strconv_ErrSyntax)] }
def TreeCutsSaid : Prop := treeCutsRow.holds Tryd.pinned (OpenSpec.ofChange treeCutsSpec)

/-- ITS FALSE NEIGHBOUR: 'it returns false'. Refute it at one input. -/
def treeCutsWrong : ChangeSpec := { name := "treeCuts", fn := fun _ => fun
  | [d1, d2] => { results := [.lit (.bool false)], args := [d1, d2] }
  | _ => none }
def TreeCutsWrongFalsely : Prop := treeCutsRow.holds Tryd.pinned (OpenSpec.ofChange treeCutsWrong)

/-- 'kelpforestlaw1.ShowBack': WHATEVER THE INPUT: true; the input reads as it did. -/
def showBackSpec : ChangeSpec := { name := "showBack", fn := fun _ => fun
  | [d] => { results := [.lit (.bool true)], args := [d] }
  | _ => none }
def showBackRow : OpenClaim := { program := "ytddilnibglcabaadoor", sum := "b68169ce1303ee6f029520035a36528b8fc5dd744c8583bb6ff2ca9ca79e8b28", func := "kelpforest/kelpforestlaw1.ShowBack", spec := "showBack", inPlace := ["internal/abi.NoEscape", "internal/bytealg.MakeNoZero", "internal/bytealg.IndexByteString"], unfollowed := true, recurses := true, named := ["internal/strconv.uint64pow10", "math/bits.deBruijn32tab", "math/bits.deBruijn64tab", "kelpforest/api.ErrBound", "kelpforest/api.ErrText", "kelpforest/api.ErrFull", "kelpforest/api.ErrDeep", "strconv.ErrSyntax", "strconv.ErrRange"], apart := false, laid := [("math/bits.deBruijn32tab", laid_math_bits_deBruijn32tab), ("math/bits.deBruijn64tab", laid_math_bits_deBruijn64tab), ("internal/strconv.uint64pow10", laid_internal_strconv_uint64pow10), ("kelpforest/api.ErrText", laid_kelpforest_api_ErrText), ("kelpforest/api.ErrBound", laid_kelpforest_api_ErrBound), ("kelpforest/api.ErrFull", laid_kelpforest_api_ErrFull), ("kelpforest/api.ErrDeep", laid_kelpforest_api_ErrDeep), ("strconv.ErrRange", laid_strconv_ErrRange), ("strconv.ErrSyntax", laid_strconv_ErrSyntax)] }
def ShowBackSaid : Prop := showBackRow.holds Tryd.pinned (OpenSpec.ofChange showBackSpec)

/-- ITS FALSE NEIGHBOUR: 'it returns false'. Refute it at one input. -/
def showBackWrong : ChangeSpec := { name := "showBack", fn := fun _ => fun
  | [d] => { results := [.lit (.bool false)], args := [d] }
  | _ => none }
def ShowBackWrongFalsely : Prop := showBackRow.holds Tryd.pinned (OpenSpec.ofChange showBackWrong)

/- THE SECOND FORM. 'bulk': how many values and letters a reading holds, each counted each time it is reached (what is shared counts as often as it is met; a slice's spare places count too). A statement '..UptoSaid' is the law's where the arguments, and the package variables that the reading takes, are together of bulk at most 1048576: NARROWER than '..Said'. Prove '..Said' where nothing that the law and all that it calls make is longer than what came in: it says more and counts as full. Else prove '..UptoSaid'. A law counts once. -/
mutual
def uptoBulk {H : Type} : DataW H → Nat
  | .lit (.string bytes) => bytes.length + 1
  | .lit _ => 1
  | .nil => 1
  | .ptr d => uptoBulk d + 1
  | .slice elems spare => uptoBulkAll elems + uptoBulkAll spare + 1
  | .agg parts => uptoBulkAll parts + 1
  | .iface _ d => uptoBulk d + 1
  | .map entries => uptoBulkEntries entries + 1
  | .held _ => 1
def uptoBulkAll {H : Type} : List (DataW H) → Nat
  | [] => 0
  | d :: r => uptoBulk d + uptoBulkAll r
def uptoBulkEntries {H : Type} : List (Lit × DataW H) → Nat
  | [] => 0
  | x :: r => uptoBulkEntry x + uptoBulkEntries r
def uptoBulkEntry {H : Type} : Lit × DataW H → Nat
  | (.string bytes, d) => bytes.length + uptoBulk d + 1
  | (_, d) => uptoBulk d + 1
 end
def uptoSmall : (H : Type) → List (DataW H) → Bool := fun _ ds => decide (uptoBulkAll ds ≤ 1048576)
def OpenSpec.upto (s : _root_.Go.ChangeSpec) : _root_.Go.OpenSpec := { _root_.Go.OpenSpec.ofChange s with cond := some uptoSmall }

/-- 'kelpforestlaw1.ValLaws', WHERE WHAT IT READS IS OF BULK AT MOST 1048576: true; the input reads as it did. -/
def valLawsUptoRow : OpenClaim := { program := "ytddilnibglcabaadoor", sum := "b68169ce1303ee6f029520035a36528b8fc5dd744c8583bb6ff2ca9ca79e8b28", func := "kelpforest/kelpforestlaw1.ValLaws", spec := "valLaws", named := ["kelpforest/api.ErrKind"], apart := false, laid := [("kelpforest/api.ErrKind", laid_kelpforest_api_ErrKind)], narrowed := true }
def ValLawsUptoSaid : Prop := valLawsUptoRow.holds Tryd.pinned (OpenSpec.upto valLawsSpec)

/-- 'kelpforestlaw1.ValBack', WHERE WHAT IT READS IS OF BULK AT MOST 1048576: true; the input reads as it did. -/
def valBackUptoRow : OpenClaim := { program := "ytddilnibglcabaadoor", sum := "b68169ce1303ee6f029520035a36528b8fc5dd744c8583bb6ff2ca9ca79e8b28", func := "kelpforest/kelpforestlaw1.ValBack", spec := "valBack", named := ["kelpforest/api.ErrKind"], apart := false, laid := [("kelpforest/api.ErrKind", laid_kelpforest_api_ErrKind)], narrowed := true }
def ValBackUptoSaid : Prop := valBackUptoRow.holds Tryd.pinned (OpenSpec.upto valBackSpec)

/-- 'kelpforestlaw1.LexJoins', WHERE WHAT IT READS IS OF BULK AT MOST 1048576: true; the input reads as it did. -/
def lexJoinsUptoRow : OpenClaim := { program := "ytddilnibglcabaadoor", sum := "b68169ce1303ee6f029520035a36528b8fc5dd744c8583bb6ff2ca9ca79e8b28", func := "kelpforest/kelpforestlaw1.LexJoins", spec := "lexJoins", inPlace := ["internal/bytealg.IndexByteString"], unfollowed := true, recurses := true, named := ["kelpforest/api.ErrBound", "kelpforest/api.ErrText", "kelpforest/api.ErrFull"], apart := false, laid := [("kelpforest/api.ErrText", laid_kelpforest_api_ErrText), ("kelpforest/api.ErrBound", laid_kelpforest_api_ErrBound), ("kelpforest/api.ErrFull", laid_kelpforest_api_ErrFull)], narrowed := true }
def LexJoinsUptoSaid : Prop := lexJoinsUptoRow.holds Tryd.pinned (OpenSpec.upto lexJoinsSpec)

/-- 'kelpforestlaw1.LexAgain', WHERE WHAT IT READS IS OF BULK AT MOST 1048576: true; the input reads as it did. -/
def lexAgainUptoRow : OpenClaim := { program := "ytddilnibglcabaadoor", sum := "b68169ce1303ee6f029520035a36528b8fc5dd744c8583bb6ff2ca9ca79e8b28", func := "kelpforest/kelpforestlaw1.LexAgain", spec := "lexAgain", inPlace := ["internal/bytealg.IndexByteString", "internal/abi.NoEscape", "internal/bytealg.MakeNoZero"], unfollowed := true, recurses := true, named := ["kelpforest/api.ErrBound", "kelpforest/api.ErrText", "kelpforest/api.ErrFull"], apart := false, laid := [("kelpforest/api.ErrText", laid_kelpforest_api_ErrText), ("kelpforest/api.ErrBound", laid_kelpforest_api_ErrBound), ("kelpforest/api.ErrFull", laid_kelpforest_api_ErrFull)], narrowed := true }
def LexAgainUptoSaid : Prop := lexAgainUptoRow.holds Tryd.pinned (OpenSpec.upto lexAgainSpec)

/-- 'kelpforestlaw1.Names', WHERE WHAT IT READS IS OF BULK AT MOST 1048576: true; the input reads as it did. -/
def namesUptoRow : OpenClaim := { program := "ytddilnibglcabaadoor", sum := "b68169ce1303ee6f029520035a36528b8fc5dd744c8583bb6ff2ca9ca79e8b28", func := "kelpforest/kelpforestlaw1.Names", spec := "names", inPlace := ["internal/reflectlite.ValueOf", "(internal/reflectlite.Value).Type", "(internal/reflectlite.Value).IsNil", "internal/reflectlite.TypeOf", "(internal/reflectlite.Value).Elem", "(internal/reflectlite.Value).Set"], unfollowed := true, recurses := true, named := ["kelpforest/api.ErrText", "kelpforest/api.ErrBound", "kelpforest/api.ErrShape", "kelpforest/api.ErrKind", "kelpforest/api.ErrName", "kelpforest/api.ErrNone", "kelpforest/api.ErrExist", "kelpforest/api.ErrFull", "kelpforest/api.ErrArgs", "kelpforest/api.ErrDeep", "errors.errorType"], apart := false, laid := [("errors.errorType", laid_errors_errorType), ("kelpforest/api.ErrText", laid_kelpforest_api_ErrText), ("kelpforest/api.ErrBound", laid_kelpforest_api_ErrBound), ("kelpforest/api.ErrShape", laid_kelpforest_api_ErrShape), ("kelpforest/api.ErrKind", laid_kelpforest_api_ErrKind), ("kelpforest/api.ErrName", laid_kelpforest_api_ErrName), ("kelpforest/api.ErrNone", laid_kelpforest_api_ErrNone), ("kelpforest/api.ErrExist", laid_kelpforest_api_ErrExist), ("kelpforest/api.ErrFull", laid_kelpforest_api_ErrFull), ("kelpforest/api.ErrArgs", laid_kelpforest_api_ErrArgs), ("kelpforest/api.ErrDeep", laid_kelpforest_api_ErrDeep)], narrowed := true }
def NamesUptoSaid : Prop := namesUptoRow.holds Tryd.pinned (OpenSpec.upto namesSpec)

/-- 'kelpforestlaw1.ValDoes', WHERE WHAT IT READS IS OF BULK AT MOST 1048576: true; the input reads as it did. -/
def valDoesUptoRow : OpenClaim := { program := "ytddilnibglcabaadoor", sum := "b68169ce1303ee6f029520035a36528b8fc5dd744c8583bb6ff2ca9ca79e8b28", func := "kelpforest/kelpforestlaw1.ValDoes", spec := "valDoes", inPlace := ["internal/reflectlite.ValueOf", "(internal/reflectlite.Value).Type", "(internal/reflectlite.Value).IsNil", "internal/reflectlite.TypeOf", "(internal/reflectlite.Value).Elem", "(internal/reflectlite.Value).Set"], unfollowed := true, recurses := true, named := ["kelpforest/api.ErrKind", "kelpforest/api.ErrText", "kelpforest/api.ErrBound", "kelpforest/api.ErrShape", "kelpforest/api.ErrName", "kelpforest/api.ErrNone", "kelpforest/api.ErrExist", "kelpforest/api.ErrFull", "kelpforest/api.ErrArgs", "kelpforest/api.ErrDeep", "errors.errorType"], apart := false, laid := [("errors.errorType", laid_errors_errorType), ("kelpforest/api.ErrText", laid_kelpforest_api_ErrText), ("kelpforest/api.ErrBound", laid_kelpforest_api_ErrBound), ("kelpforest/api.ErrShape", laid_kelpforest_api_ErrShape), ("kelpforest/api.ErrKind", laid_kelpforest_api_ErrKind), ("kelpforest/api.ErrName", laid_kelpforest_api_ErrName), ("kelpforest/api.ErrNone", laid_kelpforest_api_ErrNone), ("kelpforest/api.ErrExist", laid_kelpforest_api_ErrExist), ("kelpforest/api.ErrFull", laid_kelpforest_api_ErrFull), ("kelpforest/api.ErrArgs", laid_kelpforest_api_ErrArgs), ("kelpforest/api.ErrDeep", laid_kelpforest_api_ErrDeep)], narrowed := true }
def ValDoesUptoSaid : Prop := valDoesUptoRow.holds Tryd.pinned (OpenSpec.upto valDoesSpec)

/-- 'kelpforestlaw1.LexReads', WHERE WHAT IT READS IS OF BULK AT MOST 1048576: true; the input reads as it did. -/
def lexReadsUptoRow : OpenClaim := { program := "ytddilnibglcabaadoor", sum := "b68169ce1303ee6f029520035a36528b8fc5dd744c8583bb6ff2ca9ca79e8b28", func := "kelpforest/kelpforestlaw1.LexReads", spec := "lexReads", inPlace := ["internal/bytealg.IndexByteString", "internal/reflectlite.ValueOf", "(internal/reflectlite.Value).Type", "(internal/reflectlite.Value).IsNil", "internal/reflectlite.TypeOf", "(internal/reflectlite.Value).Elem", "(internal/reflectlite.Value).Set"], unfollowed := true, recurses := true, named := ["kelpforest/api.ErrBound", "kelpforest/api.ErrText", "kelpforest/api.ErrFull", "kelpforest/api.ErrShape", "kelpforest/api.ErrKind", "kelpforest/api.ErrName", "kelpforest/api.ErrNone", "kelpforest/api.ErrExist", "kelpforest/api.ErrArgs", "kelpforest/api.ErrDeep", "errors.errorType"], apart := false, laid := [("errors.errorType", laid_errors_errorType), ("kelpforest/api.ErrText", laid_kelpforest_api_ErrText), ("kelpforest/api.ErrBound", laid_kelpforest_api_ErrBound), ("kelpforest/api.ErrShape", laid_kelpforest_api_ErrShape), ("kelpforest/api.ErrKind", laid_kelpforest_api_ErrKind), ("kelpforest/api.ErrName", laid_kelpforest_api_ErrName), ("kelpforest/api.ErrNone", laid_kelpforest_api_ErrNone), ("kelpforest/api.ErrExist", laid_kelpforest_api_ErrExist), ("kelpforest/api.ErrFull", laid_kelpforest_api_ErrFull), ("kelpforest/api.ErrArgs", laid_kelpforest_api_ErrArgs), ("kelpforest/api.ErrDeep", laid_kelpforest_api_ErrDeep)], narrowed := true }
def LexReadsUptoSaid : Prop := lexReadsUptoRow.holds Tryd.pinned (OpenSpec.upto lexReadsSpec)

/-- 'kelpforestlaw1.ShowTexts', WHERE WHAT IT READS IS OF BULK AT MOST 1048576: true; the input reads as it did. -/
def showTextsUptoRow : OpenClaim := { program := "ytddilnibglcabaadoor", sum := "b68169ce1303ee6f029520035a36528b8fc5dd744c8583bb6ff2ca9ca79e8b28", func := "kelpforest/kelpforestlaw1.ShowTexts", spec := "showTexts", inPlace := ["internal/abi.NoEscape", "internal/bytealg.MakeNoZero"], unfollowed := true, recurses := true, named := ["internal/strconv.uint64pow10", "math/bits.deBruijn32tab", "math/bits.deBruijn64tab"], loops := true, apart := false, laid := [("math/bits.deBruijn32tab", laid_math_bits_deBruijn32tab), ("math/bits.deBruijn64tab", laid_math_bits_deBruijn64tab), ("internal/strconv.uint64pow10", laid_internal_strconv_uint64pow10)], narrowed := true }
def ShowTextsUptoSaid : Prop := showTextsUptoRow.holds Tryd.pinned (OpenSpec.upto showTextsSpec)

/-- 'kelpforestlaw1.TreeCuts', WHERE WHAT IT READS IS OF BULK AT MOST 1048576: true; the input reads as it did. -/
def treeCutsUptoRow : OpenClaim := { program := "ytddilnibglcabaadoor", sum := "b68169ce1303ee6f029520035a36528b8fc5dd744c8583bb6ff2ca9ca79e8b28", func := "kelpforest/kelpforestlaw1.TreeCuts", spec := "treeCuts", inPlace := ["internal/bytealg.IndexByteString"], unfollowed := true, recurses := true, named := ["kelpforest/api.ErrBound", "kelpforest/api.ErrText", "kelpforest/api.ErrFull", "kelpforest/api.ErrDeep", "strconv.ErrSyntax", "strconv.ErrRange", "internal/strconv.uint64pow10", "math/bits.deBruijn32tab", "math/bits.deBruijn64tab"], apart := false, laid := [("math/bits.deBruijn32tab", laid_math_bits_deBruijn32tab), ("math/bits.deBruijn64tab", laid_math_bits_deBruijn64tab), ("internal/strconv.uint64pow10", laid_internal_strconv_uint64pow10), ("kelpforest/api.ErrText", laid_kelpforest_api_ErrText), ("kelpforest/api.ErrBound", laid_kelpforest_api_ErrBound), ("kelpforest/api.ErrFull", laid_kelpforest_api_ErrFull), ("kelpforest/api.ErrDeep", laid_kelpforest_api_ErrDeep), ("strconv.ErrRange", laid_strconv_ErrRange), ("strconv.ErrSyntax", laid_strconv_ErrSyntax)], narrowed := true }
def TreeCutsUptoSaid : Prop := treeCutsUptoRow.holds Tryd.pinned (OpenSpec.upto treeCutsSpec)

/-- 'kelpforestlaw1.ShowBack', WHERE WHAT IT READS IS OF BULK AT MOST 1048576: true; the input reads as it did. -/
def showBackUptoRow : OpenClaim := { program := "ytddilnibglcabaadoor", sum := "b68169ce1303ee6f029520035a36528b8fc5dd744c8583bb6ff2ca9ca79e8b28", func := "kelpforest/kelpforestlaw1.ShowBack", spec := "showBack", inPlace := ["internal/abi.NoEscape", "internal/bytealg.MakeNoZero", "internal/bytealg.IndexByteString"], unfollowed := true, recurses := true, named := ["internal/strconv.uint64pow10", "math/bits.deBruijn32tab", "math/bits.deBruijn64tab", "kelpforest/api.ErrBound", "kelpforest/api.ErrText", "kelpforest/api.ErrFull", "kelpforest/api.ErrDeep", "strconv.ErrSyntax", "strconv.ErrRange"], apart := false, laid := [("math/bits.deBruijn32tab", laid_math_bits_deBruijn32tab), ("math/bits.deBruijn64tab", laid_math_bits_deBruijn64tab), ("internal/strconv.uint64pow10", laid_internal_strconv_uint64pow10), ("kelpforest/api.ErrText", laid_kelpforest_api_ErrText), ("kelpforest/api.ErrBound", laid_kelpforest_api_ErrBound), ("kelpforest/api.ErrFull", laid_kelpforest_api_ErrFull), ("kelpforest/api.ErrDeep", laid_kelpforest_api_ErrDeep), ("strconv.ErrRange", laid_strconv_ErrRange), ("strconv.ErrSyntax", laid_strconv_ErrSyntax)], narrowed := true }
def ShowBackUptoSaid : Prop := showBackUptoRow.holds Tryd.pinned (OpenSpec.upto showBackSpec)

end Rows
end Go.Proofs.YtddilnibglcabaaDoor
