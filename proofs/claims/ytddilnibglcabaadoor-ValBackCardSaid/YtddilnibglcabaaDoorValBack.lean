import Derived.Test.YtddilnibglcabaaDoorValMore
import Derived.Test.YtddilnibglcabaaDoorValLaws
namespace Go.Proofs.YtddilnibglcabaaDoor
open Go.RowKit

theorem div_rem (a b : Int) (ha : I64 a) : wrap64 (wrap64 (divV a b * b) + remV a b) = a := by
  unfold divV remV
  by_cases hb : b = 0
  · subst hb
    simp only [if_pos]
    unfold I64 at ha
    unfold wrap64
    omega
  · rw [if_neg hb, if_neg hb]
    have e : wrap64 (wrap64 (wrap64 (a.tdiv b) * b) + a.tmod b) = wrap64 (a.tdiv b * b + a.tmod b) := by
      simp only [w64_toInt, BitVec.ofInt_mul, BitVec.ofInt_add, BitVec.ofInt_toInt]
    rw [e, Int.mul_comm, Int.mul_tdiv_add_tmod]
    exact IntWalk.wrap64_in a ha
theorem add_sub64 (a b : Int) (ha : I64 a) : wrap64 (wrap64 (a + b) - b) = a := by
  unfold I64 at ha; unfold wrap64; omega
theorem shl_again (n : Int) : wrap64 (n + 64) % 64 = n % 64 := by unfold wrap64; omega
theorem beq_swap (a b : Int) : (a == b) = (b == a) := by
  by_cases h : a = b
  · subst h; rfl
  · have h' : ¬ b = a := fun e => h e.symm
    rw [beq_eq_false_iff_ne.2 h, beq_eq_false_iff_ne.2 h']
theorem swaps_lawB (a b : Int) : ∀ l ∈ opsB, ∃ x y, doV l a b = some x ∧ doV l b a = some y ∧ (swapsB.any (fun x => x == l) = true → x = y) := by
  intro s hs
  simp only [opsB, List.mem_cons, List.not_mem_nil, or_false] at hs
  rcases hs with rfl | rfl | rfl | rfl | rfl | rfl | rfl | rfl | rfl | rfl | rfl | rfl | rfl | rfl
  · exact ⟨_, _, rfl, rfl, fun _ => add_comm64 a b⟩
  · exact ⟨_, _, rfl, rfl, fun h => absurd h (by decide)⟩
  · exact ⟨_, _, rfl, rfl, fun _ => by rw [Int.mul_comm]⟩
  · exact ⟨_, _, rfl, rfl, fun h => absurd h (by decide)⟩
  · exact ⟨_, _, rfl, rfl, fun h => absurd h (by decide)⟩
  · exact ⟨_, _, rfl, rfl, fun _ => and_comm64 a b⟩
  · exact ⟨_, _, rfl, rfl, fun _ => or_comm64 a b⟩
  · exact ⟨_, _, rfl, rfl, fun _ => xor_comm64 a b⟩
  · exact ⟨_, _, rfl, rfl, fun h => absurd h (by decide)⟩
  · exact ⟨_, _, rfl, rfl, fun h => absurd h (by decide)⟩
  · exact ⟨_, _, rfl, rfl, fun h => absurd h (by decide)⟩
  · exact ⟨_, _, rfl, rfl, fun h => absurd h (by decide)⟩
  · exact ⟨_, _, rfl, rfl, fun _ => by rw [beq_swap]⟩
  · exact ⟨_, _, rfl, rfl, fun _ => by rw [bne, beq_swap, ← bne]⟩
theorem swaps_law (a b : Int) (s : ByteArray) (hs : s ∈ opsL) : ∃ x y, doV s.toList a b = some x ∧ doV s.toList b a = some y ∧ (isIn s swapsL = true → x = y) := by
  obtain ⟨l, hl, rfl⟩ := List.mem_map.1 hs
  obtain ⟨x, y, h1, h2, h3⟩ := swaps_lawB a b l hl
  exact ⟨x, y, by rw [mkB_toList]; exact h1, by rw [mkB_toList]; exact h2, fun h => h3 (by rw [swapsL, isIn_mkB, mkB_toList] at h; exact h)⟩
theorem opsL_len : opsL.length = 14 := rfl
theorem opsL_get (k : Nat) (h : k < 14) : ∃ s ∈ opsL, (opsL.map Value.string)[k]? = some (.string s) := ⟨opsL[k], List.getElem_mem _, strs_get h⟩
set_option maxRecDepth 100000 in
set_option maxHeartbeats 1000000 in
theorem ValBack_walk (a b n : Int) (ha : I64 a) (K : Value) (w : World) (hK : w.cell? ⟨3, 0, none⟩ = some K) :
    Calls Tryd.prog 4 #[.int .i64 a, .int .i64 b, .int .i64 n] w fun e w' => e = .returned (.bool true) ∧ Below w.heap.size w w' := by
  have hlt := World.block_lt_of_cell? w _ hK
  have hq := div_rem a b ha
  have hu := add_sub64 a b ha
  go_enter Tryd.func4, Tryd.ntmps4
  go_wp2_with (first
    | (go_at_call 13; refine (done_true K _ (by exact hK)).mono ?_; rintro e w' ⟨rfl, n1, rfl⟩)
    | (go_at_call 16; refine (Do_any _ _ _ K _ (by exact hK)).mono ?_; rintro e w' ⟨rfl, n1, rfl⟩)
    | (go_at_call 17; refine (Ops_any _).mono ?_; rintro e w' ⟨rfl, rfl⟩))
  clear hq hu
  go_loopw [21] (fun i wr => ∃ k : Nat, k ≤ 14 ∧ i = .int .i64 k ∧ Row wr (some ⟨w.heap.size, 0, none⟩) (opsL.map Value.string) ∧ Below w.heap.size w wr ∧ w.heap.size < wr.heap.size) (fun i _ => 14 - (intOf i).toNat)
  case atStart => exact ⟨0, by omega, rfl, (opsO_row _).keep (Keeps.drewN _ _), below_drewN ((Below.refl _ _).alloc (Nat.le_refl _) _) _, by simp⟩
  case round =>
    obtain ⟨k, hk, rfl, hR, hB, hz⟩ := hrel
    have hK1 : wr.cell? ⟨3, 0, none⟩ = some K := (hB.cell hlt).trans hK
    by_cases hk14 : k < 14
    · obtain ⟨s, hs, hg⟩ := opsL_get k hk14
      obtain ⟨x, y, hx, hy, hxy⟩ := swaps_law a b s hs
      obtain ⟨b0, off, hA, hc0⟩ := hR k _ hg
      have hc : wr.cell? ⟨w.heap.size, k, none⟩ = some (.string s) := by
        simp only [Option.some.injEq, Addr.mk.injEq, and_true] at hA
        obtain ⟨rfl, rfl⟩ := hA
        simpa using hc0
      clear hA hc0 hg
      have HX := Lib.hid hxy
      clear hxy
      by_cases hsw : isIn s swapsL = true
      · have he : x = y := HX.out hsw
        subst he
        go_wp2_with (first
          | (go_at_call 16; refine (Do_any _ _ _ K _ (by exact hK1)).mono ?_; rintro e w' ⟨rfl, n1, rfl⟩)
          | (go_at_call 18; refine (Swaps_any _ _).mono ?_; rintro e w' ⟨rfl, rfl⟩))
        go_roundw
        case rel => exact ⟨k + 1, by omega, by go_num, hR.keep ((Keeps.alloc _ _).trans (Keeps.drewN _ _)), below_drewN (hB.alloc hB.size _) _, by simp; omega⟩
        case measure => simp [intOf]; omega
      · have hsw' : isIn s swapsL = false := by simpa using hsw
        clear hsw
        go_wp2_with (first
          | (go_at_call 16; refine (Do_any _ _ _ K _ (by exact hK1)).mono ?_; rintro e w' ⟨rfl, n1, rfl⟩)
          | (go_at_call 18; refine (Swaps_any _ _).mono ?_; rintro e w' ⟨rfl, rfl⟩))
        go_roundw
        case rel => exact ⟨k + 1, by omega, by go_num, hR.keep ((Keeps.alloc _ _).trans (Keeps.drewN _ _)), below_drewN (hB.alloc hB.size _) _, by simp; omega⟩
        case measure => simp [intOf]; omega
    · have hk' : k = 14 := by omega
      subst hk'
      have e1 : wrap64 1 = 1 := by unfold wrap64; rfl
      have e0 : wrap64 0 = 0 := by unfold wrap64; rfl
      have hsh := shl_again n
      rcases Int.lt_trichotomy a b with h | h | h
      · have h1 : decide (a < b) = true := by simpa using h
        have h2 : decide (b < a) = false := by simp; omega
        have h3 : (a == b) = false := by simp; omega
        have h4 : decide (a ≤ b) = true := by simp; omega
        clear h
        go_wp2_with (first
          | (go_at_call 16; refine (Do_any _ _ _ K _ (by exact hK1)).mono ?_; rintro e w' ⟨rfl, n1, rfl⟩))
        go_ret
        exact ⟨by simp, below_drewN hB _⟩
      · subst h
        have h1 : decide (a < a) = false := by simp
        have h3 : (a == a) = true := by simp
        have h4 : decide (a ≤ a) = true := by simp
        go_wp2_with (first
          | (go_at_call 16; refine (Do_any _ _ _ K _ (by exact hK1)).mono ?_; rintro e w' ⟨rfl, n1, rfl⟩))
        go_ret
        exact ⟨by simp, below_drewN hB _⟩
      · have h1 : decide (a < b) = false := by simp; omega
        have h2 : decide (b < a) = true := by simpa using h
        have h3 : (a == b) = false := by simp; omega
        have h4 : decide (a ≤ b) = false := by simp; omega
        clear h
        go_wp2_with (first
          | (go_at_call 16; refine (Do_any _ _ _ K _ (by exact hK1)).mono ?_; rintro e w' ⟨rfl, n1, rfl⟩))
        go_ret
        exact ⟨by simp, below_drewN hB _⟩
end Go.Proofs.YtddilnibglcabaaDoor
