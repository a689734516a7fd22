import Derived.Test.YtddilnibglcabaaDoorVal
namespace Go.Proofs.YtddilnibglcabaaDoor
open Go.RowKit

theorem op_any (s : ByteArray) (a b : Int) (K : Value) (w : World) (hK : w.cell? ⟨3, 0, none⟩ = some K) :
    Calls Tryd.prog 14 #[.string s, .int .i64 a, .int .i64 b] w (Quiet (.int .i64 (valOf (doV s.toList a b))) w) := by
  go_enter Tryd.func14, Tryd.ntmps14
  go_wp2_with (go_at_call 16; refine (Do_any _ _ _ K _ hK).mono ?_; rintro e w' ⟨rfl, n, rfl⟩)
  go_ret
  exact Quiet.drew n
theorem done_true (K : Value) (w : World) (hK : w.cell? ⟨3, 0, none⟩ = some K) :
    Calls Tryd.prog 13 #[] w (Quiet (.bool true) w) := by
  have h5 : wrap64 5 = 5 := by unfold wrap64; rfl
  go_enter Tryd.func13, Tryd.ntmps13
  go_wp2_with (first
    | (go_at_call 16; refine (Do_any _ _ _ K _ (by exact hK)).mono ?_; rintro e w' ⟨rfl, n, rfl⟩)
    | (go_at_call 15; refine (One_any _ _ K _ (by exact hK)).mono ?_; rintro e w' ⟨rfl, m, rfl⟩))
  go_ret
  exact Quiet.drew_of _ rfl
theorem ValLaws_walk (a b c : Int) (ha : I64 a) (K : Value) (w : World) (hK : w.cell? ⟨3, 0, none⟩ = some K) :
    Calls Tryd.prog 3 #[.int .i64 a, .int .i64 b, .int .i64 c] w fun e w' => e = .returned (.bool true) ∧ Below w.heap.size w w' := by
  go_enter Tryd.func3, Tryd.ntmps3
  go_wp2_with (first
    | (go_at_call 13; refine (done_true K _ (by exact hK)).mono ?_; rintro e w' ⟨rfl, n, rfl⟩))
  go_loopw [9] (fun i wr => ∃ k m : Nat, k ≤ 5 ∧ i = .int .i64 k ∧ wr = (w.alloc (.cells #[.string ⟨#[43]⟩, .string ⟨#[42]⟩, .string ⟨#[38]⟩, .string ⟨#[124]⟩, .string ⟨#[94]⟩] 9)).drewN m) (fun i _ => 5 - (intOf i).toNat)
  case atStart => exact ⟨0, n, by omega, rfl, rfl⟩
  case round =>
    obtain ⟨k, m, hk, rfl, rfl⟩ := hrel
    have hA := add_assoc64 a b c
    have hM := mul_assoc64 a b c
    have hN := and_assoc64 a b c
    have hO := or_assoc64 a b c
    have hX := xor_assoc64 a b c
    have hK1 : ∀ n : Nat, ((w.alloc (.cells #[.string ⟨#[43]⟩, .string ⟨#[42]⟩, .string ⟨#[38]⟩, .string ⟨#[124]⟩, .string ⟨#[94]⟩] 9)).drewN n).cell? ⟨3, 0, none⟩ = some K := by
      intro n
      have := World.block_lt_of_cell? w _ hK
      simp [World.cell?_alloc_lt _ _ ⟨3, 0, none⟩ this, hK]
    match k, hk with
    | 0, _ =>
      go_wp2_with fail
      go_quiet ((go_at_call 14; exact quiet_add (op_any _ _ _ K _ (by exact hK1 _))))
      go_wp2_with fail
      go_roundw
      case rel => exact ⟨1, _, by omega, rfl, rfl⟩
      case measure => simp [intOf]
    | 1, _ =>
      go_wp2_with fail
      go_quiet ((go_at_call 14; exact quiet_add (op_any _ _ _ K _ (by exact hK1 _))))
      go_wp2_with fail
      go_roundw
      case rel => exact ⟨2, _, by omega, rfl, rfl⟩
      case measure => simp [intOf]
    | 2, _ =>
      go_wp2_with fail
      go_quiet ((go_at_call 14; exact quiet_add (op_any _ _ _ K _ (by exact hK1 _))))
      go_wp2_with fail
      go_roundw
      case rel => exact ⟨3, _, by omega, rfl, rfl⟩
      case measure => simp [intOf]
    | 3, _ =>
      go_wp2_with fail
      go_quiet ((go_at_call 14; exact quiet_add (op_any _ _ _ K _ (by exact hK1 _))))
      go_wp2_with fail
      go_roundw
      case rel => exact ⟨4, _, by omega, rfl, rfl⟩
      case measure => simp [intOf]
    | 4, _ =>
      go_wp2_with fail
      go_quiet ((go_at_call 14; exact quiet_add (op_any _ _ _ K _ (by exact hK1 _))))
      go_wp2_with fail
      go_roundw
      case rel => exact ⟨5, _, by omega, rfl, rfl⟩
      case measure => simp [intOf]
    | 5, _ =>
      clear hA hM hN hO hX
      have h1 := mul_add64 a b c
      have h2 := deMorgan64 a b
      have h3 : wrap64 (a * 2) = wrap64 (a + a) := by congr 1; omega
      have h4 : wrap64 (wrap64 (-a) + a) = 0 := by unfold wrap64; omega
      have h5 := xor_xor64 a b ha
      go_wp2_with (first
        | (go_at_call 14; refine (op_any _ _ _ K _ (by exact hK1 _)).mono ?_; rintro e w' ⟨rfl, n, rfl⟩)
        | (go_at_call 15; refine (One_any _ _ K _ (by exact hK1 _)).mono ?_; rintro e w' ⟨rfl, n, rfl⟩))
      go_ret
      exact ⟨by simp, below_drewN ((Below.refl _ _).alloc (Nat.le_refl _) _) _⟩
end Go.Proofs.YtddilnibglcabaaDoor
