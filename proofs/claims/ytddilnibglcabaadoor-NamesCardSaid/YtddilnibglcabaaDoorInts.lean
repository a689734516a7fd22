import Derived.Test.YtddilnibglcabaaDoorBase
namespace Go.Proofs.YtddilnibglcabaaDoor
open Go.RowKit

theorem ints_get {xs : List Int} {k : Nat} (h : k < xs.length) : (xs.map (Value.int .i64))[k]? = some (.int .i64 xs[k]) := by simp [h]
def sameI (xs ys : List Int) : Bool := xs == ys
theorem sameI_len {xs ys : List Int} (h : xs.length ≠ ys.length) : sameI xs ys = false := by
  unfold sameI; rw [beq_eq_false_iff_ne]; intro e; exact h (by rw [e])
theorem sameI_step {xs ys : List Int} {k : Nat} (h : k < xs.length) (h' : k < ys.length) : sameI (xs.drop k) (ys.drop k) = (xs[k] == ys[k] && sameI (xs.drop (k + 1)) (ys.drop (k + 1))) := by
  unfold sameI; rw [List.drop_eq_getElem_cons h, List.drop_eq_getElem_cons h']; rfl
theorem SameInts_any (A B : Option Addr) (xs ys : List Int) (c d : Nat) (w : World) (hr : Row w A (xs.map (.int .i64))) (hs : Row w B (ys.map (.int .i64))) (hn : xs.length ≤ 1000000) :
    Calls Tryd.prog 22 #[.slice A xs.length c, .slice B ys.length d] w (Quiet (.bool (sameI xs ys)) w) := by
  by_cases hl : xs.length = ys.length
  · have hl' : ((xs.length : Int) != (ys.length : Int)) = false := by simp [hl]
    have HL := Lib.hid hl
    clear hl
    go_enter Tryd.func22, Tryd.ntmps22
    go_wp2_with fail
    go_loopw [5] (fun i wr => ∃ k m : Nat, k ≤ xs.length ∧ i = .int .i64 k ∧ wr = w.drewN m ∧ sameI xs ys = sameI (xs.drop k) (ys.drop k)) (fun i _ => xs.length - (intOf i).toNat)
    case atStart => exact ⟨0, 0, Nat.zero_le _, rfl, rfl, by simp⟩
    case round =>
      obtain ⟨k, m, hk, rfl, rfl, hI⟩ := hrel
      have HI := Lib.hid hI
      clear hI
      by_cases hlt : k < xs.length
      · have hlt' : k < ys.length := by have := HL.out; omega
        obtain ⟨b, off, rfl, hc⟩ := hr k _ (ints_get hlt)
        obtain ⟨b', off', rfl, hc'⟩ := hs k _ (ints_get hlt')
        have HD := Lib.hid (sameI_step hlt hlt')
        cases he : (xs[k] == ys[k])
        · have he' : (xs[k] != ys[k]) = true := by rw [bne, he]; rfl
          have HE := Lib.hid he
          go_wp2_with fail
          go_quiet (fail)
          go_wp2_with fail
          go_ret
          rw [World.drewN_drewN]
          exact Quiet.drew_of _ (by rw [HI.out, HD.out, HE.out]; rfl)
        · have he' : (xs[k] != ys[k]) = false := by rw [bne, he]; rfl
          have HE := Lib.hid he
          go_wp2_with fail
          go_quiet (fail)
          go_wp2_with fail
          go_roundw
          case rel => exact ⟨k + 1, _, by omega, by go_num, rfl, by rw [HI.out, HD.out, HE.out]; rfl⟩
          case measure => simp [intOf]; omega
      · have hk' : k = xs.length := by omega
        subst hk'
        go_wp2_with fail
        go_ret
        exact Quiet.drew_of _ (by rw [HI.out]; have := HL.out; simp [sameI, this])
  · have hl' : ((xs.length : Int) != (ys.length : Int)) = true := by simp; omega
    have HS := Lib.hid (sameI_len hl)
    clear hl
    go_enter Tryd.func22, Tryd.ntmps22
    go_wp2_with fail
    go_ret
    exact Quiet.same_of (by rw [HS.out]; rfl)
end Go.Proofs.YtddilnibglcabaaDoor
