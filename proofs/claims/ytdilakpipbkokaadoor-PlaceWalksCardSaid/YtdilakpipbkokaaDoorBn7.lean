import Derived.Test.YtdilakpipbkokaaDoorBn3
set_option linter.unusedVariables false
set_option linter.unusedSimpArgs false
namespace Go.Proofs.YtdilakpipbkokaaDoor
open Go.RowKit

/-! rows of numbers -/
def intVs (l : List Int) : List Value := l.map fun n => .int .i64 n
theorem intVs_get {l : List Int} {k : Nat} (h : k < l.length) : (intVs l)[k]? = some (.int .i64 l[k]) := by unfold intVs; simp [h]
theorem intVs_len (l : List Int) : (intVs l).length = l.length := by unfold intVs; simp
theorem intVs_snoc (l : List Int) (n : Int) : intVs (l ++ [n]) = intVs l ++ [.int .i64 n] := by unfold intVs; simp
theorem intVs_set (l : List Int) (k : Nat) (n : Int) : intVs (l.set k n) = (intVs l).set k (.int .i64 n) := by unfold intVs; rw [List.map_set]
theorem intVs_one (l : List Int) : ∀ v ∈ intVs l, v.oneCell' = true := fun v hv => by
  unfold intVs at hv
  simp only [List.mem_map] at hv
  obtain ⟨n, _, rfl⟩ := hv
  rfl
theorem intInfo : (Tryd.prog.info? 3).map (fun i => (i.zero, i.size, i.bytes)) = some (some (.int .i64 0), 1, 8) := by kernel_rfl
end Go.Proofs.YtdilakpipbkokaaDoor
