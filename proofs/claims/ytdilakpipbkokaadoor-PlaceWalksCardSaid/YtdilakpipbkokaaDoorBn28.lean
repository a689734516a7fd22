import Derived.Test.YtdilakpipbkokaaDoorBn4
set_option linter.unusedVariables false
set_option linter.unusedSimpArgs false
namespace Go.Proofs.YtdilakpipbkokaaDoor
open Go.RowKit

theorem coded2_any (E : Nat → Addr) (w : World) (h : Laid E w) (v : Value) (c a code : Int) (hv : ErrIs E w v c a) :
    Calls Tryd.prog 15 #[v, .int .i64 code] w (Ret (.bool ((c == code) && (a == -1))) w) := by
  have HV := Lib.hid hv
  have HL := Lib.hid h
  clear hv h
  go_enter Tryd.func15, Tryd.ntmps15
  cases hc : (c == code) <;> cases ha : (a == -1)
  all_goals
    go_wp2_with (go_at_call 20; refine (Code_any E _ HL.out _ _ _ HV.out).mono ?_; rintro e w' ⟨rfl, hb⟩)
    go_ret
    exact ⟨rfl, by assumption⟩
end Go.Proofs.YtdilakpipbkokaaDoor
