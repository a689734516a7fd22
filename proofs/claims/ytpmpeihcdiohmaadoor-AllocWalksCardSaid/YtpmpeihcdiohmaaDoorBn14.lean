import Derived.Test.YtpmpeihcdiohmaaDoorBn4
set_option linter.unusedVariables false
set_option linter.unusedSimpArgs false
namespace Go.Proofs.YtpmpeihcdiohmaaDoor
open Go.RowKit

theorem coded3_any (E : Nat → Addr) (w : World) (h : Laid E w) (v : Value) (c a code : Int) (hv : ErrIs E w v c a) :
    Calls Tryd.prog 15 #[v, .int .i64 code] w (Ret (.bool ((c == code) && (a == -1))) w) := by
  have HV := Lib.hid hv
  have HL := Lib.hid h
  clear hv h
  go_enter Tryd.func15, Tryd.ntmps15
  cases hc : (c == code) <;> cases ha : (a == -1)
  all_goals
    go_wp2_with (go_at_call 20; refine (Code_any E _ HL.out _ _ _ HV.out).mono ?_; rintro e w' ⟨rfl, hb⟩)
    go_ret
    exact ⟨rfl, by assumption⟩
end Go.Proofs.YtpmpeihcdiohmaaDoor

namespace Go.Proofs.YtpmpeihcdiohmaaDoor
open Go.RowKit

theorem faulted3_any (E : Nat → Addr) (w : World) (h : Laid E w) (v : Value) (c a fc fa : Int) (hv : ErrIs E w v c a) :
    Calls Tryd.prog 9 #[v, .agg #[.int .i64 fc, .int .i64 fa]] w (Ret (.bool ((c == fc) && ((c == 0) || (a == fa)))) w) := by
  have hB : Below w.heap.size w (w.alloc (.cells #[.int .i64 fc, .int .i64 fa] 34)) := (Below.refl _ _).alloc (Nat.le_refl _) _
  have HV := Lib.hid (hv.keep (Keeps.of_below hB))
  have HL := Lib.hid (h.keep hB)
  have HB := Lib.hid hB
  clear hv h hB
  have hcl : (w.alloc (.cells #[.int .i64 fc, .int .i64 fa] 34)).cell? ⟨w.heap.size, 0, none⟩ = some (.int .i64 fc) := by simp
  have hcm : (w.alloc (.cells #[.int .i64 fc, .int .i64 fa] 34)).cell? ⟨w.heap.size, 1, none⟩ = some (.int .i64 fa) := by simp
  have H0 := Lib.hid hcl
  have H1 := Lib.hid hcm
  clear hcl hcm
  go_enter Tryd.func9, Tryd.ntmps9
  cases hc : (c == fc) <;> cases h0 : (c == 0) <;> cases ha : (a == fa)
  all_goals
    go_wp2_with (go_at_call 20; refine (Code_any E _ HL.out _ _ _ HV.out).mono ?_; rintro e w' ⟨rfl, hb⟩; have k0 := Keeps.of_below hb _ _ H0.out; have k1 := Keeps.of_below hb _ _ H1.out)
    go_ret
    refine ⟨rfl, HB.out.trans (hb.mono (by simp))⟩
def faultV3 (c a : Int) : Value := .agg #[.int .i64 c, .int .i64 a]
theorem faulted3_same (E : Nat → Addr) (w : World) (h : Laid E w) (v : Value) (c a : Int) (hv : ErrIs E w v c a) :
    Calls Tryd.prog 9 #[v, faultV3 c a] w (Ret (.bool true) w) := by
  have := faulted3_any E w h v c a c a hv
  simpa [faultV3] using this
theorem bare3 (c : Int) (w : World) : Calls Tryd.prog 16 #[.int .i64 c] w (Ret (faultV3 c (-1)) w) := by
  unfold faultV3
  go_enter Tryd.func16, Tryd.ntmps16
  go_wp2_with fail
  go_returns
  exact ⟨rfl, (Below.refl _ _).alloc (Nat.le_refl _) _⟩
theorem fine3 (w : World) : Calls Tryd.prog 19 #[] w (Ret (faultV3 0 (-1)) w) := by
  unfold faultV3
  go_enter Tryd.func19, Tryd.ntmps19
  go_wp2_with fail
  go_returns
  exact ⟨rfl, (Below.refl _ _).alloc (Nat.le_refl _) _⟩
end Go.Proofs.YtpmpeihcdiohmaaDoor
