import Derived.Test.YtpfgimohginbdaaGreatDoorRows
import Derived.Test.YtpfgimohginbdaaGreatDoorTie
import Derived.Test.YtpfgimohginbdaaGreatDoorCards
import Derived.ProofKit
import Derived.LaidMore
import Derived.LaidOnce
import Derived.OpenShut
import Derived.ShutString
import Derived.Stop.Joined
import Derived.SevenTiedAt
import Derived.Test.YtpfgimohginbdaaGreatDoorBn1
set_option linter.unusedVariables false
set_option linter.unusedSimpArgs false
namespace Go.Proofs.YtpfgimohginbdaaGreatDoor
open Go.ChangeShapes Go.WideShapes Go.ChangeAt Go.RowKit

theorem own : ownKnob Tryz.prog.godebug = none := by kernel_rfl
theorem laidOut : laidOutB Tryz.prog = true := by kernel_rfl
theorem star : "*" ++ "errors.errorString" = "*errors.errorString" := by decide
theorem rowErr (u : TypeId) (h : Tryz.prog.typeName? 3 u = some "*errors.errorString") : u = 161 :=
  typeName_ptr_named (nm := "errors.errorString") (by rw [star]; kernel_rfl) (by kernel_rfl) (by decide) u (by rw [star]; exact h)
theorem cellsErr : Tryz.prog.cellsOf 163 = 1 := by kernel_rfl
theorem cellsStr : Tryz.prog.cellsOf 9 = 1 := by kernel_rfl
/-- A list of sentinels that reads as laid: what each variable's cell holds. -/
theorem errs_at {W : World} (l : List (String × Nat × List UInt8)) (hl : ∀ x ∈ l, Tryz.prog.globalNamed x.1 = some x.2.1 ∧ (Tryz.prog.globals[x.2.1]?).map (·.type) = some 30)
    (h : laidMet Tryz.prog (l.map fun x => (x.1, errD x.2.2)) W) :
    ∃ L : List Addr, L.length = l.length ∧ L.Nodup ∧
        ∀ (i g : Nat) (a : Addr), (l.map (·.2.1))[i]? = some g → L[i]? = some a → W.cell? ⟨g, 0, none⟩ = some (.iface 161 (.pointer (some a))) ∧ (∃ c t, W.heap[a.block]? = some (.cells c t (0, 0))) ∧ ∃ s, W.cell? a = some (.string s) :=
  errs_of_laid Tryz.underlying30 rowErr Tryz.underlying161 Tryz.underlying163 rfl rfl Tryz.underlying9 cellsErr cellsStr l hl h
end Go.Proofs.YtpfgimohginbdaaGreatDoor
