import Derived.Deep.RegionHeld3
import Derived.Test.YtonnhechjbdenaaGreatDoorBn29
import Derived.Test.YtonnhechjbdenaaGreatDoorBn17
set_option linter.unusedVariables false
set_option linter.unusedSimpArgs false
namespace Go.Proofs.YtonnhechjbdenaaGreatDoor
open Go.RowKit

def insR (v : Int) : Value := .tuple #[if errW v = 0 then insV (insP v) else noIns, .int .i64 (errW v)]
theorem insOf_none (v : Int) (h0 : 0 ≤ v) (h1 : v < 18446744073709551616) (w : World) (h : v / 72057594037927936 < 1 ∨ 29 < v / 72057594037927936) : Calls Tryz.prog 20 #[.int .u64 v] w (Ret (insR v) w) := by
  have HE : Hid (errW v = 4) := show errW v = 4 by unfold errW; rw [if_pos h]
  have hz := heap_alloc_new w (.cells #[.string ⟨#[]⟩, .int .i64 0, .int .i64 0, .int .i64 0, .int .i64 0] 65)
  have hz2 := (grow_alloc (grow_refl (w.alloc (.cells #[.string ⟨#[]⟩, .int .i64 0, .int .i64 0, .int .i64 0, .int .i64 0] 65))) (.cells (namesL.map Value.string).toArray 9)).block w.heap.size (by simp)
  have hz3 := hz2.trans hz
  have z0 := cell_of_row _ _ 0 _ _ _ hz3
  have z1 := cell_of_row _ _ 1 _ _ _ hz3
  have z2 := cell_of_row _ _ 2 _ _ _ hz3
  have z3 := cell_of_row _ _ 3 _ _ _ hz3
  have z4 := cell_of_row _ _ 4 _ _ _ hz3
  clear hz hz2 hz3
  have e : v / 4294967296 / 16777216 = v / 72057594037927936 := by omega
  have h2 : v / 4294967296 / 16777216 < 1 ∨ (¬ v / 4294967296 / 16777216 < 1 ∧ 29 < v / 4294967296 / 16777216) := by omega
  clear e h
  rcases h2 with h | ⟨h, h'⟩
  all_goals
    go_enter Tryz.func20, Tryz.ntmps20
    go_wp2_with (go_at_call 40; refine (mops_any _).mono ?_; rintro x w' ⟨rfl, rfl⟩)
    refine bodyPost_ret (by simp [results, Tryz.results20, go_sem, z0, z1, z2, z3, z4]; try rfl) rfl ?_
    exact ⟨by unfold insR; rw [HE.out]; rfl, grow_alloc (grow_alloc (grow_refl _) _) _⟩
set_option maxHeartbeats 8000000 in
set_option maxRecDepth 100000 in
theorem insOf_some (v : Int) (h0 : 0 ≤ v) (h1 : v < 18446744073709551616) (w : World) (k : Nat) (hk29 : k < 29) (h : v / 72057594037927936 = (k : Int) + 1) : Calls Tryz.prog 20 #[.int .u64 v] w (Ret (insR v) w) := by
  have HE : Hid (errW v = errP (hasOf k) (insP v)) := show errW v = _ by unfold errW; rw [if_neg (by omega), h, show ((k : Int) + 1).toNat - 1 = k by omega]
  obtain ⟨D, hD⟩ : ∃ D, v / 281474976710656 % 256 = D := ⟨_, rfl⟩
  obtain ⟨A, hA⟩ : ∃ D, v / 1099511627776 % 256 = D := ⟨_, rfl⟩
  obtain ⟨B, hB⟩ : ∃ D, v / 4294967296 % 256 = D := ⟨_, rfl⟩
  obtain ⟨M, hM⟩ : ∃ D, (if v % 4294967296 ≥ 2147483648 then v % 4294967296 - 4294967296 else v % 4294967296) = D := ⟨_, rfl⟩
  have hI : insP v = ⟨nameOf k, D, A, B, M⟩ := by
    unfold insP
    rw [h, hD, hA, hB, hM, show ((k : Int) + 1).toNat = k + 1 by omega]
    rfl
  have d0 : 0 ≤ D := by omega
  have d1 : D ≤ 255 := by omega
  have a0 : 0 ≤ A := by omega
  have a1 : A ≤ 255 := by omega
  have b0 : 0 ≤ B := by omega
  have b1 : B ≤ 255 := by omega
  have m0 : -2147483648 ≤ M := by rw [← hM]; split <;> omega
  have m1 : M ≤ 2147483647 := by rw [← hM]; split <;> omega
  have hm2 : (2147483648 ≤ v % 4294967296 ∧ v % 4294967296 - 4294967296 = M) ∨ (¬ 2147483648 ≤ v % 4294967296 ∧ v % 4294967296 = M) := by
    by_cases hc : v % 4294967296 ≥ 2147483648
    · left; rw [if_pos hc] at hM; exact ⟨hc, hM⟩
    · right; rw [if_neg hc] at hM; exact ⟨hc, hM⟩
  have gk : v / 4294967296 / 16777216 = (k : Int) + 1 := by omega
  have gD : v / 4294967296 / 65536 % 256 = D := by omega
  have gA : v / 4294967296 / 256 % 256 = A := by omega
  have gB : v / 4294967296 % 256 = B := by omega
  have he : errI ⟨nameOf k, D, A, B, M⟩ = errP (hasOf k) ⟨nameOf k, D, A, B, M⟩ := by
    unfold errI
    rw [findL_name k hk29, if_neg (by omega), Nat.add_sub_cancel]
  have HR : Hid (insR v = .tuple #[if errP (hasOf k) ⟨nameOf k, D, A, B, M⟩ = 0 then insV ⟨nameOf k, D, A, B, M⟩ else noIns, .int .i64 (errP (hasOf k) ⟨nameOf k, D, A, B, M⟩)]) := by
    show insR v = _
    unfold insR
    rw [HE.out, hI]
  have HC := Lib.hid (fun w' => InsError_any ⟨nameOf k, D, A, B, M⟩ w')
  rw [he] at HC
  unfold insV at HC
  obtain ⟨w3, hw3⟩ : ∃ w3, w3 = ((w.alloc (.cells #[.string ⟨#[]⟩, .int .i64 0, .int .i64 0, .int .i64 0, .int .i64 0] 65)).alloc (.cells (namesL.map Value.string).toArray 9)).alloc (.cells #[.string (mkB (nameOf k)), .int .i64 D, .int .i64 A, .int .i64 B, .int .i64 M] 65) := ⟨_, rfl⟩
  have hb3 : Below w.heap.size w w3 := by rw [hw3]; exact grow_alloc (grow_alloc (grow_alloc (grow_refl _) _) _) _
  have hz3 : w3.heap[w.heap.size]? = some (.cells #[.string ⟨#[]⟩, .int .i64 0, .int .i64 0, .int .i64 0, .int .i64 0] 65) := by
    rw [hw3]
    exact ((grow_alloc (grow_alloc (grow_refl (w.alloc (.cells #[.string ⟨#[]⟩, .int .i64 0, .int .i64 0, .int .i64 0, .int .i64 0] 65))) (.cells (namesL.map Value.string).toArray 9)) (.cells #[.string (mkB (nameOf k)), .int .i64 D, .int .i64 A, .int .i64 B, .int .i64 M] 65)).block w.heap.size (by simp)).trans (heap_alloc_new w _)
  have hi3 : w3.heap[w.heap.size + 1 + 1]? = some (.cells #[.string (mkB (nameOf k)), .int .i64 D, .int .i64 A, .int .i64 B, .int .i64 M] 65) := by
    have := heap_alloc_new ((w.alloc (.cells #[.string ⟨#[]⟩, .int .i64 0, .int .i64 0, .int .i64 0, .int .i64 0] 65)).alloc (.cells (namesL.map Value.string).toArray 9)) (.cells #[.string (mkB (nameOf k)), .int .i64 D, .int .i64 A, .int .i64 B, .int .i64 M] 65)
    rw [hw3]
    rwa [show ((w.alloc (.cells #[.string ⟨#[]⟩, .int .i64 0, .int .i64 0, .int .i64 0, .int .i64 0] 65)).alloc (.cells (namesL.map Value.string).toArray 9)).heap.size = w.heap.size + 1 + 1 by simp] at this
  have hnc := names_cell (w.alloc (.cells #[.string ⟨#[]⟩, .int .i64 0, .int .i64 0, .int .i64 0, .int .i64 0] 65)) k hk29
  rw [show (w.alloc (.cells #[.string ⟨#[]⟩, .int .i64 0, .int .i64 0, .int .i64 0, .int .i64 0] 65)).heap.size = w.heap.size + 1 by simp] at hnc
  have HW3 := Lib.hid hw3
  have HB3 := Lib.hid hb3
  have HZ3 := Lib.hid hz3
  have HI3 := Lib.hid hi3
  have i0 := cell_of_row w3 _ 0 _ _ _ hi3
  have i1 := cell_of_row w3 _ 1 _ _ _ hi3
  have i2 := cell_of_row w3 _ 2 _ _ _ hi3
  have i3 := cell_of_row w3 _ 3 _ _ _ hi3
  have i4 := cell_of_row w3 _ 4 _ _ _ hi3
  have s2 : (0 : Int) ≤ k := by omega
  have s3 : (k : Int) < 29 := by omega
  have s5 : ((k : Int)).toNat = k := by omega
  have s6 : decide ((k : Int) + 1 < 1) = false := decide_eq_false (by omega)
  have s7 : decide ((29 : Int) < (k : Int) + 1) = false := decide_eq_false (by omega)
  clear hb3 hz3 hi3 hw3 hD hA hB hM hI h he
  rcases hm2 with ⟨hm2, gM⟩ | ⟨hm2, gM⟩
  all_goals
    go_enter Tryz.func20, Tryz.ntmps20
    go_upto_region 10 with (go_at_call 40; refine (mops_any _).mono ?_; rintro x w' ⟨rfl, rfl⟩)
    rw [← HW3.out]
    clear hnc gk gD gA gB gM hm2 s6 s7
    rcases errP_cases (hasOf k) ⟨nameOf k, D, A, B, M⟩ with h1 | h1 | h1
    all_goals
      have HH := Lib.hid h1
      have HC2 := Lib.hid (HC.out w3)
      rw [h1] at HC2
      clear h1
      go_wp2_with (go_at_call 41; (with_reducible refine HC2.out.mono ?_); rintro x wx ⟨rfl, hbx⟩; have hzx := (hbx.block w.heap.size (Array.getElem?_eq_some_iff.1 HZ3.out).1).trans HZ3.out; have hix := (hbx.block (w.heap.size + 1 + 1) (Array.getElem?_eq_some_iff.1 HI3.out).1).trans HI3.out; have HBX := Lib.hid (grow_trans HB3.out hbx); have z0 := cell_of_row _ _ 0 _ _ _ hzx; have z1 := cell_of_row _ _ 1 _ _ _ hzx; have z2 := cell_of_row _ _ 2 _ _ _ hzx; have z3 := cell_of_row _ _ 3 _ _ _ hzx; have z4 := cell_of_row _ _ 4 _ _ _ hzx; have zf := fun j => frozen_of_row _ _ j _ _ hzx; have y0 := cell_of_row _ _ 0 _ _ _ hix; have y1 := cell_of_row _ _ 1 _ _ _ hix; have y2 := cell_of_row _ _ 2 _ _ _ hix; have y3 := cell_of_row _ _ 3 _ _ _ hix; have y4 := cell_of_row _ _ 4 _ _ _ hix; clear hbx hzx hix)
      refine bodyPost_ret (by simp [results, Tryz.results20, go_sem, z0, z1, z2, z3, z4]; try rfl) rfl ?_
      exact ⟨by rw [HR.out, HH.out]; rfl, ((((HBX.out.setCell (Nat.le_refl _) _).setCell (Nat.le_refl _) _).setCell (Nat.le_refl _) _).setCell (Nat.le_refl _) _).setCell (Nat.le_refl _) _⟩
theorem InsOf_any (v : Int) (h0 : 0 ≤ v) (h1 : v < 18446744073709551616) (w : World) : Calls Tryz.prog 20 #[.int .u64 v] w (Ret (insR v) w) := by
  by_cases h : v / 72057594037927936 < 1 ∨ 29 < v / 72057594037927936
  · exact insOf_none v h0 h1 w h
  · exact insOf_some v h0 h1 w (v / 72057594037927936 - 1).toNat (by omega) (by omega)
end Go.Proofs.YtonnhechjbdenaaGreatDoor
