import Derived.Test.YtdilakpipbkokaaDoorBn28
set_option linter.unusedVariables false
set_option linter.unusedSimpArgs false
namespace Go.Proofs.YtdilakpipbkokaaDoor
open Go.RowKit

theorem faulted2_any (E : Nat → Addr) (w : World) (h : Laid E w) (v : Value) (c a fc fa : Int) (hv : ErrIs E w v c a) :
    Calls Tryd.prog 9 #[v, .agg #[.int .i64 fc, .int .i64 fa]] w (Ret (.bool ((c == fc) && ((c == 0) || (a == fa)))) w) := by
  have hB : Below w.heap.size w (w.alloc (.cells #[.int .i64 fc, .int .i64 fa] 34)) := (Below.refl _ _).alloc (Nat.le_refl _) _
  have HV := Lib.hid (hv.keep (Keeps.of_below hB))
  have HL := Lib.hid (h.keep hB)
  have HB := Lib.hid hB
  clear hv h hB
  have hcl : (w.alloc (.cells #[.int .i64 fc, .int .i64 fa] 34)).cell? ⟨w.heap.size, 0, none⟩ = some (.int .i64 fc) := by simp
  have hcm : (w.alloc (.cells #[.int .i64 fc, .int .i64 fa] 34)).cell? ⟨w.heap.size, 1, none⟩ = some (.int .i64 fa) := by simp
  have H0 := Lib.hid hcl
  have H1 := Lib.hid hcm
  clear hcl hcm
  go_enter Tryd.func9, Tryd.ntmps9
  cases hc : (c == fc) <;> cases h0 : (c == 0) <;> cases ha : (a == fa)
  all_goals
    go_wp2_with (go_at_call 20; refine (Code_any E _ HL.out _ _ _ HV.out).mono ?_; rintro e w' ⟨rfl, hb⟩; have k0 := Keeps.of_below hb _ _ H0.out; have k1 := Keeps.of_below hb _ _ H1.out)
    go_ret
    refine ⟨rfl, HB.out.trans (hb.mono (by simp))⟩
end Go.Proofs.YtdilakpipbkokaaDoor
