import Derived.Test.YtpfgimohginbdaaGreatDoorBn2
import Derived.Test.YtpfgimohginbdaaGreatDoorBn4
set_option linter.unusedVariables false
set_option linter.unusedSimpArgs false
namespace Go.Proofs.YtpfgimohginbdaaGreatDoor
open Go.ChangeShapes Go.WideShapes Go.ChangeAt Go.RowKit

theorem gErrType : Tryz.prog.globalNamed "errors.errorType" = some 10 := by kernel_rfl
theorem rtNumber : (Tryz.prog.cutTypes.find? (·.1 == "internal/reflectlite.rtype")).map (·.2) = some 121 := by kernel_rfl
theorem oneRow : ((List.range 207).filter fun t => Tryz.prog.rowNamed t [101, 114, 114, 111, 114]) = [30] := by kernel_rfl
theorem typesSize : Tryz.prog.types.size = 207 := by kernel_rfl
theorem handle_of {W : World} (h : handlesMet Tryz.prog [("errors.errorType", Rows.laid_errors_errorType)] W) : W.cell? ⟨10, 0, none⟩ = some (rtV 30) := by
  obtain ⟨name, u, ty, e1, e2, e3, e4, e5⟩ := h _ (List.mem_singleton.2 rfl)
  have en : name = [101, 114, 114, 111, 114] := (Option.some.inj e1).symm
  subst en
  obtain rfl := Option.some.inj (rtNumber.symm.trans e2)
  have hm : ty ∈ (List.range 207).filter fun t => Tryz.prog.rowNamed t [101, 114, 114, 111, 114] := List.mem_filter.2 ⟨List.mem_range.2 (by rw [← typesSize]; exact e3), e4⟩
  rw [oneRow] at hm
  obtain rfl := List.mem_singleton.1 hm
  have hh : typeHandle Tryz.prog 30 = hdl 30 := by kernel_rfl
  rw [hh] at e5
  simpa using World.var?_cell gErrType e5 0
def errList10 : List (String × Nat × List UInt8) := [("kelpforest/api.ErrText", 1, [107, 101, 108, 112, 102, 111, 114, 101, 115, 116, 58, 32, 116, 101, 120, 116]),
  ("kelpforest/api.ErrBound", 0, [107, 101, 108, 112, 102, 111, 114, 101, 115, 116, 58, 32, 98, 111, 117, 110, 100]),
  ("kelpforest/api.ErrShape", 3, [107, 101, 108, 112, 102, 111, 114, 101, 115, 116, 58, 32, 115, 104, 97, 112, 101]),
  ("kelpforest/api.ErrKind", 4, [107, 101, 108, 112, 102, 111, 114, 101, 115, 116, 58, 32, 107, 105, 110, 100]),
  ("kelpforest/api.ErrName", 5, [107, 101, 108, 112, 102, 111, 114, 101, 115, 116, 58, 32, 110, 97, 109, 101]),
  ("kelpforest/api.ErrNone", 6, [107, 101, 108, 112, 102, 111, 114, 101, 115, 116, 58, 32, 110, 111, 110, 101]),
  ("kelpforest/api.ErrExist", 7, [107, 101, 108, 112, 102, 111, 114, 101, 115, 116, 58, 32, 101, 120, 105, 115, 116]),
  ("kelpforest/api.ErrFull", 2, [107, 101, 108, 112, 102, 111, 114, 101, 115, 116, 58, 32, 102, 117, 108, 108]),
  ("kelpforest/api.ErrArgs", 8, [107, 101, 108, 112, 102, 111, 114, 101, 115, 116, 58, 32, 97, 114, 103, 115]),
  ("kelpforest/api.ErrDeep", 9, [107, 101, 108, 112, 102, 111, 114, 101, 115, 116, 58, 32, 100, 101, 101, 112])]
theorem laid_of_parts {W : World} (h : laidMet Tryz.prog (errList10.map fun x => (x.1, errD x.2.2)) W) (hh : handlesMet Tryz.prog [("errors.errorType", Rows.laid_errors_errorType)] W) : ∃ E, Laid E W := by
  obtain ⟨L, h1, h2, h3⟩ := errs_at errList10 (by
    intro x hx
    simp only [errList10, List.mem_cons, List.not_mem_nil, or_false] at hx
    rcases hx with rfl | rfl | rfl | rfl | rfl | rfl | rfl | rfl | rfl | rfl
    all_goals exact ⟨by kernel_rfl, by kernel_rfl⟩) h
  have h10 : L.length = 10 := h1
  have hg : ∀ i, i < 10 → L[i]? = some (L.getD i default) := fun i hi => by
    rw [List.getElem?_eq_getElem (by omega), List.getD_eq_getElem?_getD, List.getElem?_eq_getElem (by omega)]; rfl
  refine ⟨fun i => L.getD i default, (h3 0 _ _ rfl (hg 0 (by decide))).1, (h3 1 _ _ rfl (hg 1 (by decide))).1, (h3 2 _ _ rfl (hg 2 (by decide))).1, (h3 3 _ _ rfl (hg 3 (by decide))).1, (h3 4 _ _ rfl (hg 4 (by decide))).1, (h3 5 _ _ rfl (hg 5 (by decide))).1, (h3 6 _ _ rfl (hg 6 (by decide))).1, (h3 7 _ _ rfl (hg 7 (by decide))).1, (h3 8 _ _ rfl (hg 8 (by decide))).1, (h3 9 _ _ rfl (hg 9 (by decide))).1, handle_of hh, ?_, ?_⟩
  · intro i j hi hj hij e
    have hi' := hg i hi
    have hj' := hg j hj
    have e' : L.getD i default = L.getD j default := e
    rw [e', ← hj'] at hi'
    exact hij ((List.getElem?_inj (by omega) h2).1 hi')
  · intro i hi
    obtain ⟨g, hgi⟩ : ∃ g, (errList10.map (·.2.1))[i]? = some g := ⟨_, List.getElem?_eq_getElem (by simp [errList10]; omega)⟩
    exact (h3 i g _ hgi (hg i hi)).2.1
end Go.Proofs.YtpfgimohginbdaaGreatDoor
