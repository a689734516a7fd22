import Derived.Lay
import Derived.Test.YtpfgimohginbdaaGreatDoorBn5
set_option linter.unusedVariables false
set_option linter.unusedSimpArgs false
namespace Go.Proofs.YtpfgimohginbdaaGreatDoor
open Go.ChangeShapes Go.WideShapes Go.ChangeAt Go.RowKit

theorem vars_init {P : Program} {W : World} : ∀ (l m : List (String × DataW Unit)) (ps : List MemPlace), DataW.LaidVars P W (l ++ m) ps → ∃ q r, ps = q ++ r ∧ DataW.LaidVars P W l q := by
  intro l
  induction l with
  | nil => intro m ps _; exact ⟨[], ps, rfl, rfl⟩
  | cons x l ih =>
    intro m ps h
    obtain ⟨n, d⟩ := x
    obtain ⟨g, t, cs, fuel, p, q, h1, h2, h3, h4, hq, rfl⟩ := h
    obtain ⟨q1, r, rfl, hq1⟩ := ih m q hq
    exact ⟨MemPlace.row ⟨g, 0, none⟩ cs.size ++ p ++ q1, r, by simp [List.append_assoc], g, t, cs, fuel, p, q1, h1, h2, h3, h4, hq1, rfl⟩
theorem laid_init {P : Program} {W : World} {l m : List (String × DataW Unit)} (h : laidMet P (l ++ m) W) : laidMet P l W := by
  obtain ⟨ps, hv, hnd, hrows⟩ := h
  obtain ⟨q, r, rfl, hq⟩ := vars_init l m ps hv
  exact ⟨q, hq, hnd.sublist (List.sublist_append_left _ _), fun b off hp => hrows b off (List.mem_append_left _ hp)⟩
theorem laid_rest {P : Program} {x : String × DataW Unit} {l : List (String × DataW Unit)} {W : World} (h : laidMet P (x :: l) W) : laidMet P l W := by
  obtain ⟨ps, ⟨g, t, cs, fuel, p, q, _, _, _, _, hq, rfl⟩, hnd, hrows⟩ := h
  exact ⟨q, hq, hnd.sublist (List.sublist_append_right _ _), fun b off hp => hrows b off (List.mem_append_right _ hp)⟩
theorem mem_heap (w : World) (args : Array Value) : ((w.forCall (fun _ _ => 0) ⟨#[], args, []⟩).memory).heap = w.heap := rfl
theorem laidMet_over {P : Program} {w0 w' : World} {laid : List (String × DataW Unit)} (hh : w'.heap = (w0.layVars P laid).heap) (hf : w0.layFits P laid [] = true) (hi : w0.layIfaces P laid w' = true) : laidMet P laid w' := by
  have e1 : (laid.filter fun x => (laid.map (·.1)).contains x.1) = laid := List.filter_eq_self.2 fun x hx => List.contains_iff_mem.2 (List.mem_map.2 ⟨x, hx, rfl⟩)
  have e2 : (laid.filter fun x => !(laid.map (·.1)).contains x.1) = [] := List.filter_eq_nil_iff.2 fun x hx => by rw [List.contains_iff_mem.2 (List.mem_map.2 ⟨x, hx, rfl⟩)]; simp
  exact laidMet_layVars (w0 := w0) (laid.map (·.1)) [] (by rw [e1]; exact hh) (by rw [e1]; exact hf) (by rw [e1]; exact hi) (by rw [e2]; exact LaidIn.none)
end Go.Proofs.YtpfgimohginbdaaGreatDoor
