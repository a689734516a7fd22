import Derived.Deep.DeepCutAuto
import Derived.Test.YtdilakpipbkokaaDoorBn4
import Derived.Test.YtdilakpipbkokaaDoorBn6
set_option linter.unusedVariables false
set_option linter.unusedSimpArgs false
namespace Go.Proofs.YtdilakpipbkokaaDoor
open Go.RowKit

def bit01 (b : Bool) : Int := if b then 1 else 0
def manyN (n m : Nat) (t : Int) : Bool := decide (8 < n) || decide (30 < m) || decide (t < 0) || decide (60 < t)
set_option maxRecDepth 100000 in
theorem Many_any (n m cx cy : Nat) (t : Int) (X Y : Option Addr) (w : World) :
    Calls Tryd.prog 6 #[.slice X n cx, .slice Y m cy, .int .i64 t] w (Ret (.int .i64 (bit01 (manyN n m t))) w) := by
  have HM : Hid (manyN n m t = (decide (8 < n) || decide (30 < m) || decide (t < 0) || decide (60 < t))) := show _ = _ from rfl
  rcases Classical.em ((8 : Int) < (n : Int)) with g1 | g1
  · have HR : Hid (manyN n m t = true) := show _ = _ by rw [HM.out]; simp; omega
    go_enter Tryd.func6, Tryd.ntmps6
    go_wp2_with fail
    go_ret
    exact ⟨by rw [HR.out]; rfl, grow_refl _⟩
  · rcases Classical.em ((30 : Int) < (m : Int)) with g2 | g2
    · have HR : Hid (manyN n m t = true) := show _ = _ by rw [HM.out]; simp; omega
      go_enter Tryd.func6, Tryd.ntmps6
      go_wp2_with fail
      go_ret
      exact ⟨by rw [HR.out]; rfl, grow_refl _⟩
    · rcases Classical.em (t < 0) with g3 | g3
      · have HR : Hid (manyN n m t = true) := show _ = _ by rw [HM.out]; simp; omega
        go_enter Tryd.func6, Tryd.ntmps6
        go_wp2_with fail
        go_ret
        exact ⟨by rw [HR.out]; rfl, grow_refl _⟩
      · rcases Classical.em (60 < t) with g4 | g4
        · have HR : Hid (manyN n m t = true) := show _ = _ by rw [HM.out]; simp; omega
          go_enter Tryd.func6, Tryd.ntmps6
          go_wp2_with fail
          go_ret
          exact ⟨by rw [HR.out]; rfl, grow_refl _⟩
        · have HR : Hid (manyN n m t = false) := show _ = _ by rw [HM.out]; simp; omega
          go_enter Tryd.func6, Tryd.ntmps6
          go_wp2_with fail
          go_ret
          exact ⟨by rw [HR.out]; rfl, grow_refl _⟩
end Go.Proofs.YtdilakpipbkokaaDoor
