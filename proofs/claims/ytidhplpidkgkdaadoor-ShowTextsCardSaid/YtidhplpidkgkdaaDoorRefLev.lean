import Derived.Test.YtidhplpidkgkdaaDoorTextP
import Derived.Test.YtidhplpidkgkdaaDoorDec1
import Derived.Deep.RegionWith
import Derived.Deep.RegionHeld3
namespace Go.Proofs.YtidhplpidkgkdaaDoor
open Go.RowKit

theorem levelof_0 (w : World) : Calls Tryd.prog 71 #[.string ⟨#[61, 61]⟩] w fun e w' => e = .returned (.int .i64 0) ∧ w = w' := by
  go_enter Tryd.func71, Tryd.ntmps71
  go_wp2
  go_ret
  exact ⟨rfl, rfl⟩
theorem levelof_1 (w : World) : Calls Tryd.prog 71 #[.string ⟨#[33, 61]⟩] w fun e w' => e = .returned (.int .i64 0) ∧ w = w' := by
  go_enter Tryd.func71, Tryd.ntmps71
  go_wp2
  go_ret
  exact ⟨rfl, rfl⟩
theorem levelof_2 (w : World) : Calls Tryd.prog 71 #[.string ⟨#[60]⟩] w fun e w' => e = .returned (.int .i64 1) ∧ w = w' := by
  go_enter Tryd.func71, Tryd.ntmps71
  go_wp2
  go_ret
  exact ⟨rfl, rfl⟩
theorem levelof_3 (w : World) : Calls Tryd.prog 71 #[.string ⟨#[60, 61]⟩] w fun e w' => e = .returned (.int .i64 1) ∧ w = w' := by
  go_enter Tryd.func71, Tryd.ntmps71
  go_wp2
  go_ret
  exact ⟨rfl, rfl⟩
theorem levelof_4 (w : World) : Calls Tryd.prog 71 #[.string ⟨#[124]⟩] w fun e w' => e = .returned (.int .i64 2) ∧ w = w' := by
  go_enter Tryd.func71, Tryd.ntmps71
  go_wp2
  go_ret
  exact ⟨rfl, rfl⟩
theorem levelof_5 (w : World) : Calls Tryd.prog 71 #[.string ⟨#[94]⟩] w fun e w' => e = .returned (.int .i64 3) ∧ w = w' := by
  go_enter Tryd.func71, Tryd.ntmps71
  go_wp2
  go_ret
  exact ⟨rfl, rfl⟩
theorem levelof_6 (w : World) : Calls Tryd.prog 71 #[.string ⟨#[38]⟩] w fun e w' => e = .returned (.int .i64 4) ∧ w = w' := by
  go_enter Tryd.func71, Tryd.ntmps71
  go_wp2
  go_ret
  exact ⟨rfl, rfl⟩
theorem levelof_7 (w : World) : Calls Tryd.prog 71 #[.string ⟨#[60, 60]⟩] w fun e w' => e = .returned (.int .i64 5) ∧ w = w' := by
  go_enter Tryd.func71, Tryd.ntmps71
  go_wp2
  go_ret
  exact ⟨rfl, rfl⟩
theorem levelof_8 (w : World) : Calls Tryd.prog 71 #[.string ⟨#[62, 62]⟩] w fun e w' => e = .returned (.int .i64 5) ∧ w = w' := by
  go_enter Tryd.func71, Tryd.ntmps71
  go_wp2
  go_ret
  exact ⟨rfl, rfl⟩
theorem levelof_9 (w : World) : Calls Tryd.prog 71 #[.string ⟨#[43]⟩] w fun e w' => e = .returned (.int .i64 6) ∧ w = w' := by
  go_enter Tryd.func71, Tryd.ntmps71
  go_wp2
  go_ret
  exact ⟨rfl, rfl⟩
theorem levelof_10 (w : World) : Calls Tryd.prog 71 #[.string ⟨#[45]⟩] w fun e w' => e = .returned (.int .i64 6) ∧ w = w' := by
  go_enter Tryd.func71, Tryd.ntmps71
  go_wp2
  go_ret
  exact ⟨rfl, rfl⟩
theorem levelof_11 (w : World) : Calls Tryd.prog 71 #[.string ⟨#[42]⟩] w fun e w' => e = .returned (.int .i64 7) ∧ w = w' := by
  go_enter Tryd.func71, Tryd.ntmps71
  go_wp2
  go_ret
  exact ⟨rfl, rfl⟩
theorem levelof_12 (w : World) : Calls Tryd.prog 71 #[.string ⟨#[47]⟩] w fun e w' => e = .returned (.int .i64 7) ∧ w = w' := by
  go_enter Tryd.func71, Tryd.ntmps71
  go_wp2
  go_ret
  exact ⟨rfl, rfl⟩
theorem levelof_13 (w : World) : Calls Tryd.prog 71 #[.string ⟨#[37]⟩] w fun e w' => e = .returned (.int .i64 7) ∧ w = w' := by
  go_enter Tryd.func71, Tryd.ntmps71
  go_wp2
  go_ret
  exact ⟨rfl, rfl⟩
theorem levelof_none (s : List UInt8) (w : World) (h0 : s ≠ [61, 61]) (h1 : s ≠ [33, 61]) (h2 : s ≠ [60]) (h3 : s ≠ [60, 61]) (h4 : s ≠ [124]) (h5 : s ≠ [94]) (h6 : s ≠ [38]) (h7 : s ≠ [60, 60]) (h8 : s ≠ [62, 62]) (h9 : s ≠ [43]) (h10 : s ≠ [45]) (h11 : s ≠ [42]) (h12 : s ≠ [47]) (h13 : s ≠ [37]) : Calls Tryd.prog 71 #[.string (mkB s)] w fun e w' => e = .returned (.int .i64 (-1)) ∧ w = w' := by
  have g0 : ((mkB s).toList == [61, 61]) = false := by rw [mkB_toList]; simpa using h0
  have g1 : ((mkB s).toList == [33, 61]) = false := by rw [mkB_toList]; simpa using h1
  have g2 : ((mkB s).toList == [60]) = false := by rw [mkB_toList]; simpa using h2
  have g3 : ((mkB s).toList == [60, 61]) = false := by rw [mkB_toList]; simpa using h3
  have g4 : ((mkB s).toList == [124]) = false := by rw [mkB_toList]; simpa using h4
  have g5 : ((mkB s).toList == [94]) = false := by rw [mkB_toList]; simpa using h5
  have g6 : ((mkB s).toList == [38]) = false := by rw [mkB_toList]; simpa using h6
  have g7 : ((mkB s).toList == [60, 60]) = false := by rw [mkB_toList]; simpa using h7
  have g8 : ((mkB s).toList == [62, 62]) = false := by rw [mkB_toList]; simpa using h8
  have g9 : ((mkB s).toList == [43]) = false := by rw [mkB_toList]; simpa using h9
  have g10 : ((mkB s).toList == [45]) = false := by rw [mkB_toList]; simpa using h10
  have g11 : ((mkB s).toList == [42]) = false := by rw [mkB_toList]; simpa using h11
  have g12 : ((mkB s).toList == [47]) = false := by rw [mkB_toList]; simpa using h12
  have g13 : ((mkB s).toList == [37]) = false := by rw [mkB_toList]; simpa using h13
  clear h0 h1 h2 h3 h4 h5 h6 h7 h8 h9 h10 h11 h12 h13
  go_enter Tryd.func71, Tryd.ntmps71
  go_wp2_with fail
  go_ret
  exact ⟨rfl, rfl⟩
theorem levelP_none (s : List UInt8) (h0 : s ≠ [61, 61]) (h1 : s ≠ [33, 61]) (h2 : s ≠ [60]) (h3 : s ≠ [60, 61]) (h4 : s ≠ [124]) (h5 : s ≠ [94]) (h6 : s ≠ [38]) (h7 : s ≠ [60, 60]) (h8 : s ≠ [62, 62]) (h9 : s ≠ [43]) (h10 : s ≠ [45]) (h11 : s ≠ [42]) (h12 : s ≠ [47]) (h13 : s ≠ [37]) : levelP s = -1 := by
  simp [levelP, levFrom, opsRows, h0, h1, h2, h3, h4, h5, h6, h7, h8, h9, h10, h11, h12, h13]
theorem LevelOf_any (s : List UInt8) (w : World) : Calls Tryd.prog 71 #[.string (mkB s)] w fun e w' => e = .returned (.int .i64 (levelP s)) ∧ w = w' := by
  by_cases h0 : s = [61, 61]
  · subst h0; exact levelof_0 w
  by_cases h1 : s = [33, 61]
  · subst h1; exact levelof_1 w
  by_cases h2 : s = [60]
  · subst h2; exact levelof_2 w
  by_cases h3 : s = [60, 61]
  · subst h3; exact levelof_3 w
  by_cases h4 : s = [124]
  · subst h4; exact levelof_4 w
  by_cases h5 : s = [94]
  · subst h5; exact levelof_5 w
  by_cases h6 : s = [38]
  · subst h6; exact levelof_6 w
  by_cases h7 : s = [60, 60]
  · subst h7; exact levelof_7 w
  by_cases h8 : s = [62, 62]
  · subst h8; exact levelof_8 w
  by_cases h9 : s = [43]
  · subst h9; exact levelof_9 w
  by_cases h10 : s = [45]
  · subst h10; exact levelof_10 w
  by_cases h11 : s = [42]
  · subst h11; exact levelof_11 w
  by_cases h12 : s = [47]
  · subst h12; exact levelof_12 w
  by_cases h13 : s = [37]
  · subst h13; exact levelof_13 w
  rw [levelP_none s h0 h1 h2 h3 h4 h5 h6 h7 h8 h9 h10 h11 h12 h13]
  exact levelof_none s w h0 h1 h2 h3 h4 h5 h6 h7 h8 h9 h10 h11 h12 h13
end Go.Proofs.YtidhplpidkgkdaaDoor
