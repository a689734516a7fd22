import Derived.Test.YtddilnibglcabaaDoorLexW
namespace Go.Proofs.YtddilnibglcabaaDoor
open Go.RowKit

theorem span_alnum (s : ByteArray) (hs : s.size ≤ 1000000000) (k : Nat) (hk : k ≤ s.size) (w : World) :
    Calls Tryd.prog 47 #[.string s, .int .i64 k, .func (.func 99) #[] #[]] w fun e w' => e = .returned (.int .i64 (spanE alnum s k : Nat)) ∧ w' = w := by
  go_enter Tryd.func47, Tryd.ntmps47
  go_wp2_with fail
  go_loop [1] (fun i => ∃ j : Nat, k ≤ j ∧ j ≤ s.size ∧ i = .int .i64 j ∧ spanE alnum s k = spanE alnum s j) (fun i => s.size - (intOf i).toNat)
  case atStart => exact ⟨k, Nat.le_refl _, hk, rfl, rfl⟩
  case round =>
    obtain ⟨j, hj1, hj2, rfl, hj3⟩ := hrel
    have HJ := Lib.hid hj3
    clear hj3
    by_cases hlt : j < s.size
    · cases hp : alnum s[j]
      · have HP := Lib.hid (spanE_no hlt hp)
        go_wp2_with (go_at_call 99; refine (alnum_any _ _).mono ?_; rintro e w' ⟨rfl, rfl⟩)
        go_ret
        exact ⟨by rw [HJ.out, HP.out]; rfl, rfl⟩
      · have HP := Lib.hid (spanE_yes hlt hp)
        go_wp2_with (go_at_call 99; refine (alnum_any _ _).mono ?_; rintro e w' ⟨rfl, rfl⟩)
        go_round
        case rel => exact ⟨j + 1, by omega, by omega, by go_num, by rw [HJ.out, HP.out]⟩
        case measure => simp [intOf]; omega
    · have hj' : j = s.size := by omega
      subst hj'
      go_wp2_with fail
      go_ret
      exact ⟨by rw [HJ.out, spanE_end]; rfl, rfl⟩
theorem span_digit (s : ByteArray) (hs : s.size ≤ 1000000000) (k : Nat) (hk : k ≤ s.size) (w : World) :
    Calls Tryd.prog 47 #[.string s, .int .i64 k, .func (.func 72) #[] #[]] w fun e w' => e = .returned (.int .i64 (spanE isDigit s k : Nat)) ∧ w' = w := by
  go_enter Tryd.func47, Tryd.ntmps47
  go_wp2_with fail
  go_loop [1] (fun i => ∃ j : Nat, k ≤ j ∧ j ≤ s.size ∧ i = .int .i64 j ∧ spanE isDigit s k = spanE isDigit s j) (fun i => s.size - (intOf i).toNat)
  case atStart => exact ⟨k, Nat.le_refl _, hk, rfl, rfl⟩
  case round =>
    obtain ⟨j, hj1, hj2, rfl, hj3⟩ := hrel
    have HJ := Lib.hid hj3
    clear hj3
    by_cases hlt : j < s.size
    · cases hp : isDigit s[j]
      · have HP := Lib.hid (spanE_no hlt hp)
        go_wp2_with (go_at_call 72; refine (digit_any _ _).mono ?_; rintro e w' ⟨rfl, rfl⟩)
        go_ret
        exact ⟨by rw [HJ.out, HP.out]; rfl, rfl⟩
      · have HP := Lib.hid (spanE_yes hlt hp)
        go_wp2_with (go_at_call 72; refine (digit_any _ _).mono ?_; rintro e w' ⟨rfl, rfl⟩)
        go_round
        case rel => exact ⟨j + 1, by omega, by omega, by go_num, by rw [HJ.out, HP.out]⟩
        case measure => simp [intOf]; omega
    · have hj' : j = s.size := by omega
      subst hj'
      go_wp2_with fail
      go_ret
      exact ⟨by rw [HJ.out, spanE_end]; rfl, rfl⟩
theorem span_blank (s : ByteArray) (hs : s.size ≤ 1000000000) (k : Nat) (hk : k ≤ s.size) (w : World) :
    Calls Tryd.prog 47 #[.string s, .int .i64 k, .func (.func 48) #[] #[]] w fun e w' => e = .returned (.int .i64 (spanE isBlank s k : Nat)) ∧ w' = w := by
  go_enter Tryd.func47, Tryd.ntmps47
  go_wp2_with fail
  go_loop [1] (fun i => ∃ j : Nat, k ≤ j ∧ j ≤ s.size ∧ i = .int .i64 j ∧ spanE isBlank s k = spanE isBlank s j) (fun i => s.size - (intOf i).toNat)
  case atStart => exact ⟨k, Nat.le_refl _, hk, rfl, rfl⟩
  case round =>
    obtain ⟨j, hj1, hj2, rfl, hj3⟩ := hrel
    have HJ := Lib.hid hj3
    clear hj3
    by_cases hlt : j < s.size
    · cases hp : isBlank s[j]
      · have HP := Lib.hid (spanE_no hlt hp)
        go_wp2_with (go_at_call 48; refine (blank_any _ _).mono ?_; rintro e w' ⟨rfl, rfl⟩)
        go_ret
        exact ⟨by rw [HJ.out, HP.out]; rfl, rfl⟩
      · have HP := Lib.hid (spanE_yes hlt hp)
        go_wp2_with (go_at_call 48; refine (blank_any _ _).mono ?_; rintro e w' ⟨rfl, rfl⟩)
        go_round
        case rel => exact ⟨j + 1, by omega, by omega, by go_num, by rw [HJ.out, HP.out]⟩
        case measure => simp [intOf]; omega
    · have hj' : j = s.size := by omega
      subst hj'
      go_wp2_with fail
      go_ret
      exact ⟨by rw [HJ.out, spanE_end]; rfl, rfl⟩
end Go.Proofs.YtddilnibglcabaaDoor
