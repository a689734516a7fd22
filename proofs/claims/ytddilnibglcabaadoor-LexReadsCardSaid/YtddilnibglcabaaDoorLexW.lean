import Derived.Test.YtddilnibglcabaaDoorLexM
import Derived.Test.YtddilnibglcabaaDoorStrs
namespace Go.Proofs.YtddilnibglcabaaDoor
open Go.RowKit

theorem letter_any (c : UInt8) (w : World) : Calls Tryd.prog 70 #[.int .u8 (c.toNat : Int)] w fun e w' => e = .returned (.bool (isLetter c)) ∧ w' = w := by
  by_cases h1 : (97 : Int) ≤ c.toNat <;> by_cases h2 : (c.toNat : Int) ≤ 122
  all_goals
    have H := Lib.hid (And.intro h1 h2)
    go_enter Tryd.func70, Tryd.ntmps70
    go_wp2_with fail
    go_ret
    exact ⟨by obtain ⟨h1, h2⟩ := H.out; unfold isLetter; simp [h1, h2], rfl⟩
theorem digit_any (c : UInt8) (w : World) : Calls Tryd.prog 72 #[.int .u8 (c.toNat : Int)] w fun e w' => e = .returned (.bool (isDigit c)) ∧ w' = w := by
  by_cases h1 : (48 : Int) ≤ c.toNat <;> by_cases h2 : (c.toNat : Int) ≤ 57
  all_goals
    have H := Lib.hid (And.intro h1 h2)
    go_enter Tryd.func72, Tryd.ntmps72
    go_wp2_with fail
    go_ret
    exact ⟨by obtain ⟨h1, h2⟩ := H.out; unfold isDigit; simp [h1, h2], rfl⟩
theorem blank_any (c : UInt8) (w : World) : Calls Tryd.prog 48 #[.int .u8 (c.toNat : Int)] w fun e w' => e = .returned (.bool (isBlank c)) ∧ w' = w := by
  cases h1 : ((c.toNat : Int) == 32) <;> cases h2 : ((c.toNat : Int) == 9) <;> cases h3 : ((c.toNat : Int) == 10)
  all_goals
    have H : Hid (isBlank c = _) := show isBlank c = _ by unfold isBlank; rw [h1, h2, h3]
    go_enter Tryd.func48, Tryd.ntmps48
    go_wp2_with fail
    go_ret
    exact ⟨by rw [H.out]; rfl, rfl⟩
theorem alnum_any (c : UInt8) (w : World) : Calls Tryd.prog 99 #[.int .u8 (c.toNat : Int)] w fun e w' => e = .returned (.bool (alnum c)) ∧ w' = w := by
  cases h1 : isLetter c <;> cases h2 : isDigit c
  all_goals
    have H : Hid (alnum c = _) := show alnum c = _ by unfold alnum; rw [h1, h2]
    go_enter Tryd.func99, Tryd.ntmps99
    go_wp2_with (first
      | (go_at_call 70; refine (letter_any _ _).mono ?_; rintro e w' ⟨rfl, rfl⟩)
      | (go_at_call 72; refine (digit_any _ _).mono ?_; rintro e w' ⟨rfl, rfl⟩))
    go_ret
    exact ⟨by rw [H.out]; rfl, rfl⟩
theorem spanL_drop (p : UInt8 → Bool) (l : List UInt8) (k : Nat) (h : k < l.length) : spanL p (l.drop k) = if p l[k] then spanL p (l.drop (k + 1)) + 1 else 0 := by
  rw [List.drop_eq_getElem_cons h]; rfl
def bytesL (s : ByteArray) : List UInt8 := s.data.toList
theorem bytesL_len (s : ByteArray) : (bytesL s).length = s.size := by unfold bytesL; rw [Array.length_toList]; rfl
theorem bytesL_get (s : ByteArray) (k : Nat) (h : k < s.size) : (bytesL s)[k]'(by rw [bytesL_len]; exact h) = s[k] := rfl
/-- Where a span that begins at k ends. -/
def spanE (p : UInt8 → Bool) (s : ByteArray) (k : Nat) : Nat := k + spanL p ((bytesL s).drop k)
theorem spanE_yes {p : UInt8 → Bool} {s : ByteArray} {k : Nat} (h : k < s.size) (hp : p s[k] = true) : spanE p s k = spanE p s (k + 1) := by
  unfold spanE
  rw [spanL_drop p (bytesL s) k (by rw [bytesL_len]; exact h), bytesL_get s k h, hp, if_pos rfl]; omega
theorem spanE_no {p : UInt8 → Bool} {s : ByteArray} {k : Nat} (h : k < s.size) (hp : p s[k] = false) : spanE p s k = k := by
  unfold spanE
  rw [spanL_drop p (bytesL s) k (by rw [bytesL_len]; exact h), bytesL_get s k h, hp]; rfl
theorem spanE_end (p : UInt8 → Bool) (s : ByteArray) : spanE p s s.size = s.size := by
  unfold spanE
  rw [List.drop_eq_nil_of_le (by rw [bytesL_len]; omega)]; rfl
theorem spanE_ge (p : UInt8 → Bool) (s : ByteArray) (k : Nat) : k ≤ spanE p s k := by unfold spanE; omega
theorem spanE_le (p : UInt8 → Bool) (s : ByteArray) (k : Nat) (h : k ≤ s.size) : spanE p s k ≤ s.size := by
  unfold spanE
  have := spanL_le p ((bytesL s).drop k)
  rw [List.length_drop, bytesL_len] at this
  omega
end Go.Proofs.YtddilnibglcabaaDoor
