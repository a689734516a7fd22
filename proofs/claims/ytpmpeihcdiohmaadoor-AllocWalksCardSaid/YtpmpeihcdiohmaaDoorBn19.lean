import Derived.Test.YtpmpeihcdiohmaaDoorShelf
import Derived.Test.YtpmpeihcdiohmaaDoorBn18
set_option linter.unusedVariables false
set_option linter.unusedSimpArgs false
namespace Go.Proofs.YtpmpeihcdiohmaaDoor
open Go.RowKit

/-! slices.Clone of numbers (the shelf's) -/
theorem clone_any (ys : List Int) (hl : ys.length ≤ 1000) (b off c : Nat) (w : World) (hr : Row w (some ⟨b, off, none⟩) (intVs ys)) :
    Calls Tryd.prog 59 #[.slice (some ⟨b, off, none⟩) ys.length c] w (fun e w' => ∃ v', e = .returned v' ∧ w'.ownsRow w.heap.size 3 1 v' ys.length (intVs ys) ∧ Below w.heap.size w w') := by
  refine (Tryd.slices_Clone_int b off ys.length c ys w (Nat.le_refl _) (by omega) (fun j hj => ?_)).mono ?_
  · obtain ⟨b', off', e, hc⟩ := hr j _ (intVs_get hj)
    injection e with e
    injection e with e1 e2 _
    subst e1; subst e2
    rw [hc, List.getD_eq_getElem?_getD, List.getElem?_eq_getElem hj]
    rfl
  · rintro e w' ⟨v', rfl, h1, -, h2⟩
    rw [List.take_length] at h1
    exact ⟨v', rfl, h1, h2⟩
end Go.Proofs.YtpmpeihcdiohmaaDoor
