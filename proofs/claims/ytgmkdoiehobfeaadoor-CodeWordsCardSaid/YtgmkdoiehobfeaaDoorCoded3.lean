import Derived.Test.YtgmkdoiehobfeaaDoorCoded
import Derived.Test.YtgmkdoiehobfeaaDoorCodeC
namespace Go.Proofs.YtgmkdoiehobfeaaDoor
open Go.RowKit

theorem coded3_any (E : Nat → Addr) (w : World) (h : Laid E w) (v : Value) (c a code : Int) (hv : ErrIs E w v c a) :
    Calls Tryd.prog 10 #[v, .int .i64 code] w (Ret (.bool ((c == code) && (a == -1))) w) := by
  have HV := Lib.hid hv
  have HL := Lib.hid h
  clear hv h
  go_enter Tryd.func10, Tryd.ntmps10
  cases hc : (c == code) <;> cases ha : (a == -1)
  all_goals
    go_wp2_with (go_at_call 23; refine (Code_any E _ HL.out _ _ _ HV.out).mono ?_; rintro e w' ⟨rfl, hb⟩)
    go_ret
    exact ⟨rfl, by assumption⟩
theorem errV_is {E : Nat → Addr} {w : World} (n : Nat) (h : n = 0 ∨ n = 2 ∨ n = 3 ∨ n = 4) : ErrIs E w (errV (E 1) (E 2) (E 3) n) n (-1) := by
  rcases h with rfl | rfl | rfl | rfl
  · exact .nil_
  · exact .es (i := 1) (by omega)
  · exact .es (i := 2) (by omega)
  · exact .es (i := 3) (by omega)
theorem errI_cases (i : PIns) : errI i = 0 ∨ errI i = 2 ∨ errI i = 3 ∨ errI i = 4 := by
  unfold errI
  split
  · omega
  · rcases errP_cases (hasOf (findL i.op - 1)) i with h | h | h <;> omega
theorem errW_cases (v : Int) : errW v = 0 ∨ errW v = 2 ∨ errW v = 3 ∨ errW v = 4 := by
  unfold errW
  split
  · omega
  · rcases errP_cases (hasOf ((v / 72057594037927936).toNat - 1)) (insP v) with h | h | h <;> omega
end Go.Proofs.YtgmkdoiehobfeaaDoor
