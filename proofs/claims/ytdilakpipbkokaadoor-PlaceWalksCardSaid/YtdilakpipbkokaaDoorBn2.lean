import Derived.Test.YtdilakpipbkokaaDoorRows
import Derived.Test.YtdilakpipbkokaaDoorTie
import Derived.Test.YtdilakpipbkokaaDoorCards
import Derived.ProofKit
import Derived.LaidMore
import Derived.LaidOnce
import Derived.OpenShut
import Derived.ShutString
import Derived.Stop.Joined
import Derived.SevenTiedAt
import Derived.Test.YtdilakpipbkokaaDoorBn1
set_option linter.unusedVariables false
set_option linter.unusedSimpArgs false
namespace Go.Proofs.YtdilakpipbkokaaDoor
open Go.ChangeShapes Go.WideShapes Go.ChangeAt Go.RowKit

theorem own : ownKnob Tryd.prog.godebug = none := by kernel_rfl
theorem laidOut : laidOutB Tryd.prog = true := by kernel_rfl
theorem star : "*" ++ "errors.errorString" = "*errors.errorString" := by decide
theorem rowErr (u : TypeId) (h : Tryd.prog.typeName? 3 u = some "*errors.errorString") : u = 148 :=
  typeName_ptr_named (nm := "errors.errorString") (by rw [star]; kernel_rfl) (by kernel_rfl) (by decide) u (by rw [star]; exact h)
theorem cellsErr : Tryd.prog.cellsOf 169 = 1 := by kernel_rfl
theorem cellsStr : Tryd.prog.cellsOf 9 = 1 := by kernel_rfl
/-- A list of sentinels that reads as laid: what each variable's cell holds. -/
theorem errs_at {W : World} (l : List (String × Nat × List UInt8)) (hl : ∀ x ∈ l, Tryd.prog.globalNamed x.1 = some x.2.1 ∧ (Tryd.prog.globals[x.2.1]?).map (·.type) = some 38)
    (h : laidMet Tryd.prog (l.map fun x => (x.1, errD x.2.2)) W) :
    ∃ L : List Addr, L.length = l.length ∧ L.Nodup ∧
        ∀ (i g : Nat) (a : Addr), (l.map (·.2.1))[i]? = some g → L[i]? = some a → W.cell? ⟨g, 0, none⟩ = some (.iface 148 (.pointer (some a))) ∧ (∃ c t, W.heap[a.block]? = some (.cells c t (0, 0))) ∧ ∃ s, W.cell? a = some (.string s) :=
  errs_of_laid Tryd.underlying38 rowErr Tryd.underlying148 Tryd.underlying169 rfl rfl Tryd.underlying9 cellsErr cellsStr l hl h
end Go.Proofs.YtdilakpipbkokaaDoor
