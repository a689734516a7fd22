import Derived.Lay
import Derived.Test.YtpfgimohginbdaaDoorBn2
import Derived.Test.YtpfgimohginbdaaDoorBn3
set_option linter.unusedVariables false
set_option linter.unusedSimpArgs false
namespace Go.Proofs.YtpfgimohginbdaaDoor
open Go.ChangeShapes Go.WideShapes Go.ChangeAt Go.RowKit

theorem vars_init {P : Program} {W : World} : ∀ (l m : List (String × DataW Unit)) (ps : List MemPlace), DataW.LaidVars P W (l ++ m) ps → ∃ q r, ps = q ++ r ∧ DataW.LaidVars P W l q := by
  intro l
  induction l with
  | nil => intro m ps _; exact ⟨[], ps, rfl, rfl⟩
  | cons x l ih =>
    intro m ps h
    obtain ⟨n, d⟩ := x
    obtain ⟨g, t, cs, fuel, p, q, h1, h2, h3, h4, hq, rfl⟩ := h
    obtain ⟨q1, r, rfl, hq1⟩ := ih m q hq
    exact ⟨MemPlace.row ⟨g, 0, none⟩ cs.size ++ p ++ q1, r, by simp [List.append_assoc], g, t, cs, fuel, p, q1, h1, h2, h3, h4, hq1, rfl⟩
theorem laid_init {P : Program} {W : World} {l m : List (String × DataW Unit)} (h : laidMet P (l ++ m) W) : laidMet P l W := by
  obtain ⟨ps, hv, hnd, hrows⟩ := h
  obtain ⟨q, r, rfl, hq⟩ := vars_init l m ps hv
  exact ⟨q, hq, hnd.sublist (List.sublist_append_left _ _), fun b off hp => hrows b off (List.mem_append_left _ hp)⟩
theorem laid_rest {P : Program} {x : String × DataW Unit} {l : List (String × DataW Unit)} {W : World} (h : laidMet P (x :: l) W) : laidMet P l W := by
  obtain ⟨ps, ⟨g, t, cs, fuel, p, q, _, _, _, _, hq, rfl⟩, hnd, hrows⟩ := h
  exact ⟨q, hq, hnd.sublist (List.sublist_append_right _ _), fun b off hp => hrows b off (List.mem_append_right _ hp)⟩
theorem mem_heap (w : World) (args : Array Value) : ((w.forCall (fun _ _ => 0) ⟨#[], args, []⟩).memory).heap = w.heap := rfl
theorem laidMet_over {P : Program} {w0 w' : World} {laid : List (String × DataW Unit)} (hh : w'.heap = (w0.layVars P laid).heap) (hf : w0.layFits P laid [] = true) (hi : w0.layIfaces P laid w' = true) : laidMet P laid w' := by
  have e1 : (laid.filter fun x => (laid.map (·.1)).contains x.1) = laid := List.filter_eq_self.2 fun x hx => List.contains_iff_mem.2 (List.mem_map.2 ⟨x, hx, rfl⟩)
  have e2 : (laid.filter fun x => !(laid.map (·.1)).contains x.1) = [] := List.filter_eq_nil_iff.2 fun x hx => by rw [List.contains_iff_mem.2 (List.mem_map.2 ⟨x, hx, rfl⟩)]; simp
  exact laidMet_layVars (w0 := w0) (laid.map (·.1)) [] (by rw [e1]; exact hh) (by rw [e1]; exact hf) (by rw [e1]; exact hi) (by rw [e2]; exact LaidIn.none)
def errList4 : List (String × Nat × List UInt8) := [("kelpforest/api.ErrText", 1, [107, 101, 108, 112, 102, 111, 114, 101, 115, 116, 58, 32, 116, 101, 120, 116]),
  ("kelpforest/api.ErrBound", 0, [107, 101, 108, 112, 102, 111, 114, 101, 115, 116, 58, 32, 98, 111, 117, 110, 100]),
  ("kelpforest/api.ErrFull", 2, [107, 101, 108, 112, 102, 111, 114, 101, 115, 116, 58, 32, 102, 117, 108, 108]),
  ("kelpforest/api.ErrDeep", 3, [107, 101, 108, 112, 102, 111, 114, 101, 115, 116, 58, 32, 100, 101, 101, 112])]
theorem laid_of_parts {W : World} (h : laidMet Tryd.prog (errList4.map fun x => (x.1, errD x.2.2)) W) : ∃ E, Laid E W := by
  obtain ⟨L, h1, h2, h3⟩ := errs_at errList4 (by
    intro x hx
    simp only [errList4, List.mem_cons, List.not_mem_nil, or_false] at hx
    rcases hx with rfl | rfl | rfl | rfl
    all_goals exact ⟨by kernel_rfl, by kernel_rfl⟩) h
  have h4 : L.length = 4 := h1
  have hg : ∀ i, i < 4 → L[i]? = some (L.getD i default) := fun i hi => by
    rw [List.getElem?_eq_getElem (by omega), List.getD_eq_getElem?_getD, List.getElem?_eq_getElem (by omega)]; rfl
  exact ⟨fun i => L.getD (if i = 0 then 0 else if i = 1 then 1 else if i = 7 then 2 else 3) default, (h3 0 _ _ rfl (hg 0 (by decide))).1, (h3 1 _ _ rfl (hg 1 (by decide))).1, (h3 2 _ _ rfl (hg 2 (by decide))).1, (h3 3 _ _ rfl (hg 3 (by decide))).1⟩
theorem laid_tree {W : World} (h : laidMet Tryd.prog (("math/bits.deBruijn32tab", Rows.laid_math_bits_deBruijn32tab) :: ("math/bits.deBruijn64tab", Rows.laid_math_bits_deBruijn64tab) :: ("internal/strconv.uint64pow10", Rows.laid_internal_strconv_uint64pow10) :: (errList4.map (fun x => (x.1, errD x.2.2)) ++ [("strconv.ErrRange", Rows.laid_strconv_ErrRange), ("strconv.ErrSyntax", Rows.laid_strconv_ErrSyntax)])) W) : ∃ E, Laid E W :=
  laid_of_parts (laid_init (laid_rest (laid_rest (laid_rest h))))
end Go.Proofs.YtpfgimohginbdaaDoor
