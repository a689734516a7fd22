import Derived.Test.YteifmgcbafemeaaGreatDoorBase
namespace Go.Proofs.YteifmgcbafemeaaGreatDoor
open Go.RowKit

theorem IsIn_any (s : ByteArray) (A : Option Addr) (xs : List ByteArray) (c : Nat) (w : World) (hr : Row w A (xs.map .string)) (hn : xs.length ≤ 1000000) :
    Calls Tryz.prog 38 #[.string s, .slice A xs.length c] w fun e w' => e = .returned (.bool (isIn s xs)) ∧ w' = w := by
  go_enter Tryz.func38, Tryz.ntmps38
  go_wp2_with fail
  go_loop [5] (fun i => ∃ k : Nat, k ≤ xs.length ∧ i = .int .i64 k ∧ isIn s xs = isIn s (xs.drop k)) (fun i => xs.length - (intOf i).toNat)
  case atStart => exact ⟨0, Nat.zero_le _, rfl, by simp⟩
  case round =>
    obtain ⟨k, hk, rfl, hI⟩ := hrel
    have HI := Lib.hid hI
    clear hI
    by_cases hlt : k < xs.length
    · obtain ⟨b, off, rfl, hc⟩ := hr k _ (strs_get hlt)
      have HD := Lib.hid (isIn_drop (s := s) hlt)
      by_cases he : (xs[k].toList == s.toList) = true
      · go_wp2_with fail
        go_ret
        exact ⟨by rw [HI.out, HD.out, he]; rfl, rfl⟩
      · have he' : (xs[k].toList == s.toList) = false := by simpa using he
        clear he
        go_wp2_with fail
        go_round
        case rel => exact ⟨k + 1, by omega, by go_num, by rw [HI.out, HD.out, he']; rfl⟩
        case measure => simp [intOf]; omega
    · have hk' : k = xs.length := by omega
      subst hk'
      go_wp2_with fail
      go_ret
      exact ⟨by rw [HI.out]; simp [isIn], rfl⟩

theorem Index_any (s : ByteArray) (A : Option Addr) (xs : List ByteArray) (c : Nat) (w : World) (hr : Row w A (xs.map .string)) (hn : xs.length ≤ 1000000) :
    Calls Tryz.prog 57 #[.slice A xs.length c, .string s] w fun e w' => e = .returned (.int .i64 (idxV s xs 0)) ∧ w' = w := by
  go_enter Tryz.func57, Tryz.ntmps57
  go_wp2_with fail
  go_loop [8] (fun i => ∃ k : Nat, k ≤ xs.length ∧ i = .int .i64 k ∧ idxV s xs 0 = idxV s (xs.drop k) k) (fun i => xs.length - (intOf i).toNat)
  case atStart => exact ⟨0, Nat.zero_le _, rfl, by simp⟩
  case round =>
    obtain ⟨k, hk, rfl, hI⟩ := hrel
    have HI := Lib.hid hI
    clear hI
    by_cases hlt : k < xs.length
    · obtain ⟨b, off, rfl, hc⟩ := hr k _ (strs_get hlt)
      have HD := Lib.hid (idxV_drop (s := s) hlt)
      by_cases he : (s.toList == xs[k].toList) = true
      · go_wp2_with fail
        go_ret
        exact ⟨by rw [HI.out, HD.out, if_pos he]; rfl, rfl⟩
      · have he' : (s.toList == xs[k].toList) = false := by simpa using he
        have HE := Lib.hid he
        clear he
        go_wp2_with fail
        go_round
        case rel => exact ⟨k + 1, by omega, by go_num, by rw [HI.out, HD.out, if_neg HE.out]⟩
        case measure => simp [intOf]; omega
    · have hk' : k = xs.length := by omega
      subst hk'
      go_wp2_with fail
      go_ret
      exact ⟨by rw [HI.out]; simp [idxV], rfl⟩
theorem Contains_any (s : ByteArray) (A : Option Addr) (xs : List ByteArray) (c : Nat) (w : World) (hr : Row w A (xs.map .string)) (hn : xs.length ≤ 1000000) :
    Calls Tryz.prog 36 #[.slice A xs.length c, .string s] w fun e w' => e = .returned (.bool (isIn s xs)) ∧ w' = w := by
  have HB := Lib.hid (idxV_isIn s xs 0)
  go_enter Tryz.func36, Tryz.ntmps36
  go_wp2_with (go_at_call 57; refine (Index_any _ _ _ _ _ hr hn).mono ?_; rintro e w' ⟨rfl, rfl⟩)
  go_ret
  exact ⟨by rw [← HB.out]; rfl, rfl⟩
theorem sameS_len {xs ys : List ByteArray} (h : xs.length ≠ ys.length) : sameS xs ys = false := by
  unfold sameS; rw [beq_eq_false_iff_ne]; intro e; exact h (by simpa using congrArg List.length e)
theorem sameS_step {xs ys : List ByteArray} {k : Nat} (h : k < xs.length) (h' : k < ys.length) : sameS (xs.drop k) (ys.drop k) = (xs[k].toList == ys[k].toList && sameS (xs.drop (k + 1)) (ys.drop (k + 1))) := by
  unfold sameS; rw [List.drop_eq_getElem_cons h, List.drop_eq_getElem_cons h']; rfl
theorem SameTexts_any (A B : Option Addr) (xs ys : List ByteArray) (c d : Nat) (w : World) (hr : Row w A (xs.map .string)) (hs : Row w B (ys.map .string)) (hn : xs.length ≤ 1000000) (_hm : ys.length ≤ 1000000) :
    Calls Tryz.prog 11 #[.slice A xs.length c, .slice B ys.length d] w (Quiet (.bool (sameS xs ys)) w) := by
  by_cases hl : xs.length = ys.length
  · have hl' : ((xs.length : Int) != (ys.length : Int)) = false := by simp [hl]
    have HL := Lib.hid hl
    clear hl
    go_enter Tryz.func11, Tryz.ntmps11
    go_wp2_with fail
    go_loopw [5] (fun i wr => ∃ k m : Nat, k ≤ xs.length ∧ i = .int .i64 k ∧ wr = w.drewN m ∧ sameS xs ys = sameS (xs.drop k) (ys.drop k)) (fun i _ => xs.length - (intOf i).toNat)
    case atStart => exact ⟨0, 0, Nat.zero_le _, rfl, rfl, by simp⟩
    case round =>
      obtain ⟨k, m, hk, rfl, rfl, hI⟩ := hrel
      have HI := Lib.hid hI
      clear hI
      by_cases hlt : k < xs.length
      · have hlt' : k < ys.length := by have := HL.out; omega
        obtain ⟨b, off, rfl, hc⟩ := hr k _ (strs_get hlt)
        obtain ⟨b', off', rfl, hc'⟩ := hs k _ (strs_get hlt')
        have HD := Lib.hid (sameS_step hlt hlt')
        by_cases he : (xs[k].toList == ys[k].toList) = true
        · have HE := Lib.hid he
          go_wp2_with fail
          go_quiet (fail)
          go_wp2_with fail
          go_roundw
          case rel => exact ⟨k + 1, _, by omega, by go_num, rfl, by rw [HI.out, HD.out, HE.out]; rfl⟩
          case measure => simp [intOf]; omega
        · have he' : (xs[k].toList == ys[k].toList) = false := by simpa using he
          have HE := Lib.hid he'
          clear he
          go_wp2_with fail
          go_quiet (fail)
          go_wp2_with fail
          go_ret
          rw [World.drewN_drewN]
          exact Quiet.drew_of _ (by rw [HI.out, HD.out, HE.out]; rfl)
      · have hk' : k = xs.length := by omega
        subst hk'
        go_wp2_with fail
        go_ret
        exact Quiet.drew_of _ (by rw [HI.out]; have := HL.out; simp [sameS, this])
  · have hl' : ((xs.length : Int) != (ys.length : Int)) = true := by simp; omega
    have HS := Lib.hid (sameS_len hl)
    clear hl
    go_enter Tryz.func11, Tryz.ntmps11
    go_wp2_with fail
    go_ret
    exact Quiet.same_of (by rw [HS.out]; rfl)
end Go.Proofs.YteifmgcbafemeaaGreatDoor
