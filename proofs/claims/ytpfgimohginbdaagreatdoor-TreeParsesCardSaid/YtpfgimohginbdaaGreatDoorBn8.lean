import Derived.Test.YtpfgimohginbdaaGreatDoorBn3
import Derived.Test.YtpfgimohginbdaaGreatDoorBn7
set_option linter.unusedVariables false
set_option linter.unusedSimpArgs false
namespace Go.Proofs.YtpfgimohginbdaaGreatDoor
open Go.RowKit

theorem IsIn_any (s : ByteArray) (A : Option Addr) (xs : List ByteArray) (c : Nat) (w : World) (hr : Row w A (xs.map .string)) (hn : xs.length ≤ 1000000) :
    Calls Tryz.prog 16 #[.string s, .slice A xs.length c] w fun e w' => e = .returned (.bool (isIn s xs)) ∧ w' = w := by
  go_enter Tryz.func16, Tryz.ntmps16
  go_wp2_with fail
  go_loop [5] (fun i => ∃ k : Nat, k ≤ xs.length ∧ i = .int .i64 k ∧ isIn s xs = isIn s (xs.drop k)) (fun i => xs.length - (intOf i).toNat)
  case atStart => exact ⟨0, Nat.zero_le _, rfl, by simp⟩
  case round =>
    obtain ⟨k, hk, rfl, hI⟩ := hrel
    have HI := Lib.hid hI
    clear hI
    by_cases hlt : k < xs.length
    · obtain ⟨b, off, rfl, hc⟩ := hr k _ (strs_get hlt)
      have HD := Lib.hid (isIn_drop (s := s) hlt)
      by_cases he : (xs[k].toList == s.toList) = true
      · go_wp2_with fail
        go_ret
        exact ⟨by rw [HI.out, HD.out, he]; rfl, rfl⟩
      · have he' : (xs[k].toList == s.toList) = false := by simpa using he
        clear he
        go_wp2_with fail
        go_round
        case rel => exact ⟨k + 1, by omega, by go_num, by rw [HI.out, HD.out, he']; rfl⟩
        case measure => simp [intOf]; omega
    · have hk' : k = xs.length := by omega
      subst hk'
      go_wp2_with fail
      go_ret
      exact ⟨by rw [HI.out]; simp [isIn], rfl⟩

theorem Index_any (s : ByteArray) (A : Option Addr) (xs : List ByteArray) (c : Nat) (w : World) (hr : Row w A (xs.map .string)) (hn : xs.length ≤ 1000000) :
    Calls Tryz.prog 74 #[.slice A xs.length c, .string s] w fun e w' => e = .returned (.int .i64 (idxV s xs 0)) ∧ w' = w := by
  go_enter Tryz.func74, Tryz.ntmps74
  go_wp2_with fail
  go_loop [8] (fun i => ∃ k : Nat, k ≤ xs.length ∧ i = .int .i64 k ∧ idxV s xs 0 = idxV s (xs.drop k) k) (fun i => xs.length - (intOf i).toNat)
  case atStart => exact ⟨0, Nat.zero_le _, rfl, by simp⟩
  case round =>
    obtain ⟨k, hk, rfl, hI⟩ := hrel
    have HI := Lib.hid hI
    clear hI
    by_cases hlt : k < xs.length
    · obtain ⟨b, off, rfl, hc⟩ := hr k _ (strs_get hlt)
      have HD := Lib.hid (idxV_drop (s := s) hlt)
      by_cases he : (s.toList == xs[k].toList) = true
      · go_wp2_with fail
        go_ret
        exact ⟨by rw [HI.out, HD.out, if_pos he]; rfl, rfl⟩
      · have he' : (s.toList == xs[k].toList) = false := by simpa using he
        have HE := Lib.hid he
        clear he
        go_wp2_with fail
        go_round
        case rel => exact ⟨k + 1, by omega, by go_num, by rw [HI.out, HD.out, if_neg HE.out]⟩
        case measure => simp [intOf]; omega
    · have hk' : k = xs.length := by omega
      subst hk'
      go_wp2_with fail
      go_ret
      exact ⟨by rw [HI.out]; simp [idxV], rfl⟩
theorem Contains_any (s : ByteArray) (A : Option Addr) (xs : List ByteArray) (c : Nat) (w : World) (hr : Row w A (xs.map .string)) (hn : xs.length ≤ 1000000) :
    Calls Tryz.prog 68 #[.slice A xs.length c, .string s] w fun e w' => e = .returned (.bool (isIn s xs)) ∧ w' = w := by
  have HB := Lib.hid (idxV_isIn s xs 0)
  go_enter Tryz.func68, Tryz.ntmps68
  go_wp2_with (go_at_call 74; refine (Index_any _ _ _ _ _ hr hn).mono ?_; rintro e w' ⟨rfl, rfl⟩)
  go_ret
  exact ⟨by rw [← HB.out]; rfl, rfl⟩
theorem sameS_len {xs ys : List ByteArray} (h : xs.length ≠ ys.length) : sameS xs ys = false := by
  unfold sameS; rw [beq_eq_false_iff_ne]; intro e; exact h (by simpa using congrArg List.length e)
theorem sameS_step {xs ys : List ByteArray} {k : Nat} (h : k < xs.length) (h' : k < ys.length) : sameS (xs.drop k) (ys.drop k) = (xs[k].toList == ys[k].toList && sameS (xs.drop (k + 1)) (ys.drop (k + 1))) := by
  unfold sameS; rw [List.drop_eq_getElem_cons h, List.drop_eq_getElem_cons h']; rfl
theorem SameTexts_any (A B : Option Addr) (xs ys : List ByteArray) (c d : Nat) (w : World) (hr : Row w A (xs.map .string)) (hs : Row w B (ys.map .string)) (hn : xs.length ≤ 1000000) (_hm : ys.length ≤ 1000000) :
    Calls Tryz.prog 25 #[.slice A xs.length c, .slice B ys.length d] w (Quiet (.bool (sameS xs ys)) w) := by
  by_cases hl : xs.length = ys.length
  · have hl' : ((xs.length : Int) != (ys.length : Int)) = false := by simp [hl]
    have HL := Lib.hid hl
    clear hl
    go_enter Tryz.func25, Tryz.ntmps25
    go_wp2_with fail
    go_loopw [5] (fun i wr => ∃ k m : Nat, k ≤ xs.length ∧ i = .int .i64 k ∧ wr = w.drewN m ∧ sameS xs ys = sameS (xs.drop k) (ys.drop k)) (fun i _ => xs.length - (intOf i).toNat)
    case atStart => exact ⟨0, 0, Nat.zero_le _, rfl, rfl, by simp⟩
    case round =>
      obtain ⟨k, m, hk, rfl, rfl, hI⟩ := hrel
      have HI := Lib.hid hI
      clear hI
      by_cases hlt : k < xs.length
      · have hlt' : k < ys.length := by have := HL.out; omega
        obtain ⟨b, off, rfl, hc⟩ := hr k _ (strs_get hlt)
        obtain ⟨b', off', rfl, hc'⟩ := hs k _ (strs_get hlt')
        have HD := Lib.hid (sameS_step hlt hlt')
        by_cases he : (xs[k].toList == ys[k].toList) = true
        · have HE := Lib.hid he
          go_wp2_with fail
          go_quiet (fail)
          go_wp2_with fail
          go_roundw
          case rel => exact ⟨k + 1, _, by omega, by go_num, rfl, by rw [HI.out, HD.out, HE.out]; rfl⟩
          case measure => simp [intOf]; omega
        · have he' : (xs[k].toList == ys[k].toList) = false := by simpa using he
          have HE := Lib.hid he'
          clear he
          go_wp2_with fail
          go_quiet (fail)
          go_wp2_with fail
          go_ret
          rw [World.drewN_drewN]
          exact Quiet.drew_of _ (by rw [HI.out, HD.out, HE.out]; rfl)
      · have hk' : k = xs.length := by omega
        subst hk'
        go_wp2_with fail
        go_ret
        exact Quiet.drew_of _ (by rw [HI.out]; have := HL.out; simp [sameS, this])
  · have hl' : ((xs.length : Int) != (ys.length : Int)) = true := by simp; omega
    have HS := Lib.hid (sameS_len hl)
    clear hl
    go_enter Tryz.func25, Tryz.ntmps25
    go_wp2_with fail
    go_ret
    exact Quiet.same_of (by rw [HS.out]; rfl)
end Go.Proofs.YtpfgimohginbdaaGreatDoor

namespace Go.Proofs.YtpfgimohginbdaaGreatDoor
open Go.RowKit

theorem letter_any (c : UInt8) (w : World) : Calls Tryz.prog 41 #[.int .u8 (c.toNat : Int)] w fun e w' => e = .returned (.bool (isLetter c)) ∧ w' = w := by
  by_cases h1 : (97 : Int) ≤ c.toNat <;> by_cases h2 : (c.toNat : Int) ≤ 122
  all_goals
    have H := Lib.hid (And.intro h1 h2)
    go_enter Tryz.func41, Tryz.ntmps41
    go_wp2_with fail
    go_ret
    exact ⟨by obtain ⟨h1, h2⟩ := H.out; unfold isLetter; simp [h1, h2], rfl⟩
theorem digit_any (c : UInt8) (w : World) : Calls Tryz.prog 43 #[.int .u8 (c.toNat : Int)] w fun e w' => e = .returned (.bool (isDigit c)) ∧ w' = w := by
  by_cases h1 : (48 : Int) ≤ c.toNat <;> by_cases h2 : (c.toNat : Int) ≤ 57
  all_goals
    have H := Lib.hid (And.intro h1 h2)
    go_enter Tryz.func43, Tryz.ntmps43
    go_wp2_with fail
    go_ret
    exact ⟨by obtain ⟨h1, h2⟩ := H.out; unfold isDigit; simp [h1, h2], rfl⟩
theorem blank_any (c : UInt8) (w : World) : Calls Tryz.prog 27 #[.int .u8 (c.toNat : Int)] w fun e w' => e = .returned (.bool (isBlank c)) ∧ w' = w := by
  cases h1 : ((c.toNat : Int) == 32) <;> cases h2 : ((c.toNat : Int) == 9) <;> cases h3 : ((c.toNat : Int) == 10)
  all_goals
    have H : Hid (isBlank c = _) := show isBlank c = _ by unfold isBlank; rw [h1, h2, h3]
    go_enter Tryz.func27, Tryz.ntmps27
    go_wp2_with fail
    go_ret
    exact ⟨by rw [H.out]; rfl, rfl⟩
theorem alnum_any (c : UInt8) (w : World) : Calls Tryz.prog 57 #[.int .u8 (c.toNat : Int)] w fun e w' => e = .returned (.bool (alnum c)) ∧ w' = w := by
  cases h1 : isLetter c <;> cases h2 : isDigit c
  all_goals
    have H : Hid (alnum c = _) := show alnum c = _ by unfold alnum; rw [h1, h2]
    go_enter Tryz.func57, Tryz.ntmps57
    go_wp2_with (first
      | (go_at_call 41; refine (letter_any _ _).mono ?_; rintro e w' ⟨rfl, rfl⟩)
      | (go_at_call 43; refine (digit_any _ _).mono ?_; rintro e w' ⟨rfl, rfl⟩))
    go_ret
    exact ⟨by rw [H.out]; rfl, rfl⟩
theorem spanL_drop (p : UInt8 → Bool) (l : List UInt8) (k : Nat) (h : k < l.length) : spanL p (l.drop k) = if p l[k] then spanL p (l.drop (k + 1)) + 1 else 0 := by
  rw [List.drop_eq_getElem_cons h]; rfl
def bytesL (s : ByteArray) : List UInt8 := s.data.toList
theorem bytesL_len (s : ByteArray) : (bytesL s).length = s.size := by unfold bytesL; rw [Array.length_toList]; rfl
theorem bytesL_get (s : ByteArray) (k : Nat) (h : k < s.size) : (bytesL s)[k]'(by rw [bytesL_len]; exact h) = s[k] := rfl
/-- Where a span that begins at k ends. -/
def spanE (p : UInt8 → Bool) (s : ByteArray) (k : Nat) : Nat := k + spanL p ((bytesL s).drop k)
theorem spanE_yes {p : UInt8 → Bool} {s : ByteArray} {k : Nat} (h : k < s.size) (hp : p s[k] = true) : spanE p s k = spanE p s (k + 1) := by
  unfold spanE
  rw [spanL_drop p (bytesL s) k (by rw [bytesL_len]; exact h), bytesL_get s k h, hp, if_pos rfl]; omega
theorem spanE_no {p : UInt8 → Bool} {s : ByteArray} {k : Nat} (h : k < s.size) (hp : p s[k] = false) : spanE p s k = k := by
  unfold spanE
  rw [spanL_drop p (bytesL s) k (by rw [bytesL_len]; exact h), bytesL_get s k h, hp]; rfl
theorem spanE_end (p : UInt8 → Bool) (s : ByteArray) : spanE p s s.size = s.size := by
  unfold spanE
  rw [List.drop_eq_nil_of_le (by rw [bytesL_len]; omega)]; rfl
theorem spanE_ge (p : UInt8 → Bool) (s : ByteArray) (k : Nat) : k ≤ spanE p s k := by unfold spanE; omega
theorem spanE_le (p : UInt8 → Bool) (s : ByteArray) (k : Nat) (h : k ≤ s.size) : spanE p s k ≤ s.size := by
  unfold spanE
  have := spanL_le p ((bytesL s).drop k)
  rw [List.length_drop, bytesL_len] at this
  omega
end Go.Proofs.YtpfgimohginbdaaGreatDoor

namespace Go.Proofs.YtpfgimohginbdaaGreatDoor
open Go.RowKit

theorem span_alnum (s : ByteArray) (hs : s.size ≤ 1000000000) (k : Nat) (hk : k ≤ s.size) (w : World) :
    Calls Tryz.prog 26 #[.string s, .int .i64 k, .func (.func 57) #[] #[]] w fun e w' => e = .returned (.int .i64 (spanE alnum s k : Nat)) ∧ w' = w := by
  go_enter Tryz.func26, Tryz.ntmps26
  go_wp2_with fail
  go_loop [1] (fun i => ∃ j : Nat, k ≤ j ∧ j ≤ s.size ∧ i = .int .i64 j ∧ spanE alnum s k = spanE alnum s j) (fun i => s.size - (intOf i).toNat)
  case atStart => exact ⟨k, Nat.le_refl _, hk, rfl, rfl⟩
  case round =>
    obtain ⟨j, hj1, hj2, rfl, hj3⟩ := hrel
    have HJ := Lib.hid hj3
    clear hj3
    by_cases hlt : j < s.size
    · cases hp : alnum s[j]
      · have HP := Lib.hid (spanE_no hlt hp)
        go_wp2_with (go_at_call 57; refine (alnum_any _ _).mono ?_; rintro e w' ⟨rfl, rfl⟩)
        go_ret
        exact ⟨by rw [HJ.out, HP.out]; rfl, rfl⟩
      · have HP := Lib.hid (spanE_yes hlt hp)
        go_wp2_with (go_at_call 57; refine (alnum_any _ _).mono ?_; rintro e w' ⟨rfl, rfl⟩)
        go_round
        case rel => exact ⟨j + 1, by omega, by omega, by go_num, by rw [HJ.out, HP.out]⟩
        case measure => simp [intOf]; omega
    · have hj' : j = s.size := by omega
      subst hj'
      go_wp2_with fail
      go_ret
      exact ⟨by rw [HJ.out, spanE_end]; rfl, rfl⟩
theorem span_digit (s : ByteArray) (hs : s.size ≤ 1000000000) (k : Nat) (hk : k ≤ s.size) (w : World) :
    Calls Tryz.prog 26 #[.string s, .int .i64 k, .func (.func 43) #[] #[]] w fun e w' => e = .returned (.int .i64 (spanE isDigit s k : Nat)) ∧ w' = w := by
  go_enter Tryz.func26, Tryz.ntmps26
  go_wp2_with fail
  go_loop [1] (fun i => ∃ j : Nat, k ≤ j ∧ j ≤ s.size ∧ i = .int .i64 j ∧ spanE isDigit s k = spanE isDigit s j) (fun i => s.size - (intOf i).toNat)
  case atStart => exact ⟨k, Nat.le_refl _, hk, rfl, rfl⟩
  case round =>
    obtain ⟨j, hj1, hj2, rfl, hj3⟩ := hrel
    have HJ := Lib.hid hj3
    clear hj3
    by_cases hlt : j < s.size
    · cases hp : isDigit s[j]
      · have HP := Lib.hid (spanE_no hlt hp)
        go_wp2_with (go_at_call 43; refine (digit_any _ _).mono ?_; rintro e w' ⟨rfl, rfl⟩)
        go_ret
        exact ⟨by rw [HJ.out, HP.out]; rfl, rfl⟩
      · have HP := Lib.hid (spanE_yes hlt hp)
        go_wp2_with (go_at_call 43; refine (digit_any _ _).mono ?_; rintro e w' ⟨rfl, rfl⟩)
        go_round
        case rel => exact ⟨j + 1, by omega, by omega, by go_num, by rw [HJ.out, HP.out]⟩
        case measure => simp [intOf]; omega
    · have hj' : j = s.size := by omega
      subst hj'
      go_wp2_with fail
      go_ret
      exact ⟨by rw [HJ.out, spanE_end]; rfl, rfl⟩
theorem span_blank (s : ByteArray) (hs : s.size ≤ 1000000000) (k : Nat) (hk : k ≤ s.size) (w : World) :
    Calls Tryz.prog 26 #[.string s, .int .i64 k, .func (.func 27) #[] #[]] w fun e w' => e = .returned (.int .i64 (spanE isBlank s k : Nat)) ∧ w' = w := by
  go_enter Tryz.func26, Tryz.ntmps26
  go_wp2_with fail
  go_loop [1] (fun i => ∃ j : Nat, k ≤ j ∧ j ≤ s.size ∧ i = .int .i64 j ∧ spanE isBlank s k = spanE isBlank s j) (fun i => s.size - (intOf i).toNat)
  case atStart => exact ⟨k, Nat.le_refl _, hk, rfl, rfl⟩
  case round =>
    obtain ⟨j, hj1, hj2, rfl, hj3⟩ := hrel
    have HJ := Lib.hid hj3
    clear hj3
    by_cases hlt : j < s.size
    · cases hp : isBlank s[j]
      · have HP := Lib.hid (spanE_no hlt hp)
        go_wp2_with (go_at_call 27; refine (blank_any _ _).mono ?_; rintro e w' ⟨rfl, rfl⟩)
        go_ret
        exact ⟨by rw [HJ.out, HP.out]; rfl, rfl⟩
      · have HP := Lib.hid (spanE_yes hlt hp)
        go_wp2_with (go_at_call 27; refine (blank_any _ _).mono ?_; rintro e w' ⟨rfl, rfl⟩)
        go_round
        case rel => exact ⟨j + 1, by omega, by omega, by go_num, by rw [HJ.out, HP.out]⟩
        case measure => simp [intOf]; omega
    · have hj' : j = s.size := by omega
      subst hj'
      go_wp2_with fail
      go_ret
      exact ⟨by rw [HJ.out, spanE_end]; rfl, rfl⟩
end Go.Proofs.YtpfgimohginbdaaGreatDoor
