import Derived.Test.YtgmkdoiehobfeaaDoorInsOpen
import Derived.Test.YtgmkdoiehobfeaaDoorCodeC
import Derived.Lib.LaidTab
namespace Go.Proofs.YtgmkdoiehobfeaaDoor
open Go.ChangeShapes Go.WideShapes Go.ChangeAt Go.RowKit

theorem laid_tail {P : Program} {x : String × DataW Unit} {l : List (String × DataW Unit)} {W : World} (h : laidMet P (x :: l) W) : laidMet P l W := by
  obtain ⟨ps, ⟨g, t, cs, fuel, p, q, _, _, _, _, hq, rfl⟩, hnd, hrows⟩ := h
  exact ⟨q, hq, hnd.sublist (List.sublist_append_right _ _), fun b off hp => hrows b off (List.mem_append_right _ hp)⟩
def codeErrs : List (String × Nat × List UInt8) := [("kelpforest/api.ErrBound", 1, [107, 101, 108, 112, 102, 111, 114, 101, 115, 116, 58, 32, 98, 111, 117, 110, 100]), ("kelpforest/api.ErrShape", 2, [107, 101, 108, 112, 102, 111, 114, 101, 115, 116, 58, 32, 115, 104, 97, 112, 101]), ("kelpforest/api.ErrKind", 0, [107, 101, 108, 112, 102, 111, 114, 101, 115, 116, 58, 32, 107, 105, 110, 100])]
theorem gPow : Tryd.prog.globalNamed "internal/strconv.uint64pow10" = some 12 := by kernel_rfl
theorem gPowT : (Tryd.prog.globals[(12 : Nat)]?).map (·.type) = some 112 := by kernel_rfl
/-- What the package code finds laid. -/
theorem code_laid {W : World} (h : laidMet Tryd.prog (("internal/strconv.uint64pow10", Rows.laid_internal_strconv_uint64pow10) :: codeErrs.map fun x => (x.1, errD x.2.2)) W) : ∃ KB KS KK, CodeLaid KB KS KK W := by
  have htab : Lib.TabIs Tryd.prog W "internal/strconv.uint64pow10" .u64 Lib.pow10Tab := Lib.tabIs_of_head gPow gPowT Tryd.underlying112 Tryd.underlying22 (by kernel_rfl) (by kernel_rfl) (show laidMet Tryd.prog (("internal/strconv.uint64pow10", Lib.tabData .u64 Lib.pow10Tab) :: codeErrs.map fun x => (x.1, errD x.2.2)) W from h)
  obtain ⟨L, hL1, hL2, hL3⟩ := errs_at codeErrs (by
    intro x hx
    simp only [codeErrs, List.mem_cons, List.not_mem_nil, or_false] at hx
    rcases hx with rfl | rfl | rfl
    all_goals exact ⟨by kernel_rfl, by kernel_rfl⟩) (laid_tail h)
  match L, hL1 with
  | [k0, k1, k2], _ => exact ⟨k0, k1, k2, (hL3 0 _ k0 rfl rfl).1, (hL3 1 _ k1 rfl rfl).1, (hL3 2 _ k2 rfl rfl).1, Lib.tabBelow_of_tabIs htab⟩
end Go.Proofs.YtgmkdoiehobfeaaDoor
