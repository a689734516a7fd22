import Derived.Test.YtddilnibglcabaaDoorValMore
namespace Go.Proofs.YtddilnibglcabaaDoor
open Go.RowKit

theorem two_pow_step (k : Nat) : wrap64 (wrap64 (2 ^ k) + wrap64 (2 ^ k)) = wrap64 (2 ^ (k + 1)) := by
  rw [Int.pow_succ]
  generalize (2 : Int) ^ k = x
  unfold wrap64; omega
theorem mul_wrap (a x : Int) : wrap64 (a * wrap64 x) = wrap64 (a * x) := by
  simp only [w64_toInt, BitVec.ofInt_mul, BitVec.ofInt_toInt]
theorem powerOf_any (n : Int) (h0 : 0 ≤ n) (h1 : n ≤ 63) (w : World) :
    Calls Tryd.prog 53 #[.int .i64 n] w fun e w' => e = .returned (.int .i64 (wrap64 (2 ^ n.toNat))) ∧ w' = w := by
  obtain ⟨m, rfl⟩ := Int.eq_ofNat_of_zero_le h0
  simp only [Int.toNat_natCast]
  go_enter Tryd.func53, Tryd.ntmps53
  go_wp2_with fail
  go_loop [3, 4] (fun p i => ∃ k : Nat, k ≤ m ∧ i = .int .i64 k ∧ p = .int .i64 (wrap64 (2 ^ k))) (fun _ i => m - (intOf i).toNat)
  case atStart => exact ⟨0, Nat.zero_le _, rfl, by unfold wrap64; rfl⟩
  case round =>
    obtain ⟨k, hk, rfl, rfl⟩ := hrel
    by_cases hlt : k < m
    · have HS := Lib.hid (two_pow_step k)
      go_wp2_with fail
      go_round
      case rel => exact ⟨k + 1, by omega, by go_num, by rw [HS.out]⟩
      case measure => simp [intOf]; omega
    · have hk' : k = m := by omega
      subst hk'
      go_wp2_with fail
      go_ret
      exact ⟨rfl, rfl⟩
theorem lowSix_any (n : Int) (w : World) :
    Calls Tryd.prog 54 #[.int .i64 n] w fun e w' => e = .returned (.int .i64 (n % 64)) ∧ w' = w := by
  by_cases h : n.tmod 64 < 0
  · have hq := Int.mul_tdiv_add_tmod n 64
    have b1 : -64 < n.tmod 64 := by have := Int.lt_tmod_of_pos n (show (0:Int) < 64 by decide); omega
    have e : n.tmod 64 + 64 = n % 64 := by omega
    clear hq
    have HE := Lib.hid e
    clear e
    go_enter Tryd.func54, Tryd.ntmps54
    go_wp2_with fail
    go_ret
    exact ⟨by rw [← HE.out]; rfl, rfl⟩
  · have hq := Int.mul_tdiv_add_tmod n 64
    have b1 : n.tmod 64 < 64 := Int.tmod_lt_of_pos n (by decide)
    have e : n.tmod 64 = n % 64 := by omega
    clear hq b1
    have hn : ¬ n % 64 < 0 := by omega
    clear h
    go_enter Tryd.func54, Tryd.ntmps54
    go_wp2_with fail
    go_ret
    exact ⟨rfl, rfl⟩
theorem Bit_any (b : Bool) (w : World) : Calls Tryd.prog 55 #[.bool b] w fun e w' => e = .returned (.int .i64 (bitV b)) ∧ w' = w := by
  cases b
  · go_enter Tryd.func55, Tryd.ntmps55
    go_wp2
    go_ret
    exact ⟨rfl, rfl⟩
  · go_enter Tryd.func55, Tryd.ntmps55
    go_wp2
    go_ret
    exact ⟨rfl, rfl⟩
theorem tmod2 (v : Int) : (v % 2 = 0 → v.tmod 2 = 0) ∧ (v % 2 = 1 → v < 0 → v.tmod 2 = -1) := by
  have hq := Int.mul_tdiv_add_tmod v 2
  have h1 := Int.tmod_lt_of_pos v (show (0:Int) < 2 by decide)
  have h2 := Int.lt_tmod_of_pos v (show (0:Int) < 2 by decide)
  have h3 : v < 0 → v.tmod 2 ≤ 0 := fun h => by
    have := Int.neg_tmod (-v) 2
    rw [Int.neg_neg] at this
    have h4 := Int.tmod_nonneg (a := -v) 2 (by omega)
    omega
  constructor
  · intro h; omega
  · intro h hv; have := h3 hv; omega
theorem tdiv2 (u : Int) (h : u % 2 = 0) : u.tdiv 2 = u / 2 := by
  have hq := Int.mul_tdiv_add_tmod u 2
  have := (tmod2 u).1 h
  omega
theorem shr_I64 (a : Int) (ha : I64 a) (k : Nat) : I64 (a / 2 ^ k) := by
  have hp : (0 : Int) < 2 ^ k := Int.pow_pos (by decide)
  generalize (2 : Int) ^ k = x at *
  unfold I64 at *
  constructor
  · refine Int.le_ediv_of_mul_le hp ?_
    omega
  · refine Int.le_of_lt_add_one (Int.ediv_lt_of_lt_mul hp ?_)
    omega
theorem DoOf_shr (s : ByteArray) (hl : s.toList = [62, 62]) (a b : Int) (ha : I64 a) (w : World) :
    Calls Tryd.prog 27 #[.string s, .int .i64 a, .int .i64 b] w fun e w' => e = .returned (.int .i64 (a / 2 ^ (b % 64).toNat)) ∧ w' = w := by
  obtain ⟨N, hN⟩ : ∃ N : Nat, b % 64 = (N : Int) := ⟨(b % 64).toNat, by omega⟩
  have hN63 : N ≤ 63 := by omega
  have HA := Lib.hid ha
  clear ha
  rw [hN, Int.toNat_natCast]
  go_enter Tryd.func27, Tryd.ntmps27
  go_wp2_with (first
    | (go_at_call 54; refine (lowSix_any _ _).mono ?_; rintro e w' ⟨rfl, rfl⟩))
  clear hl
  go_loop [8, 9] (fun p i => ∃ k : Nat, k ≤ N ∧ i = .int .i64 k ∧ p = .int .i64 (a / 2 ^ k)) (fun _ i => N - (intOf i).toNat)
  case atStart => exact ⟨0, Nat.zero_le _, rfl, by simp⟩
  case round =>
    obtain ⟨k, hk, rfl, rfl⟩ := hrel
    by_cases hlt : k < N
    · obtain ⟨v, hv⟩ : ∃ v, a / 2 ^ k = v := ⟨_, rfl⟩
      have hI := shr_I64 a HA.out k
      have hs : a / 2 ^ (k + 1) = v / 2 := by rw [← hv, Int.pow_succ, Int.ediv_ediv_of_nonneg (Int.le_of_lt (Int.pow_pos (by decide)))]
      rw [hv] at hI ⊢
      have HS := Lib.hid hs
      clear hs hv
      have HI := Lib.hid hI
      have hlo : -9223372036854775808 ≤ v := hI.1
      have hhi : v ≤ 9223372036854775807 := hI.2
      clear hI
      have ht := tmod2 v
      by_cases hp : v % 2 = 0
      · by_cases hv0 : 0 ≤ v
        · clear ht
          go_wp2_with fail
          go_round
          case rel => exact ⟨k + 1, by omega, by go_num, by rw [HS.out]⟩
          case measure => simp [intOf]; omega
        · have h1 := ht.1 hp
          have h2 := Lib.hid (tdiv2 v hp)
          clear ht hp
          go_wp2_with fail
          go_round
          case rel => exact ⟨k + 1, by omega, by go_num, by rw [HS.out, ← h2.out]⟩
          case measure => simp [intOf]; omega
      · have hp1 : v % 2 = 1 := by omega
        clear hp
        by_cases hv0 : 0 ≤ v
        · have h3 := Lib.hid (show (v - 1) / 2 = v / 2 by omega)
          clear ht
          go_wp2_with fail
          go_round
          case rel => exact ⟨k + 1, by omega, by go_num, by rw [HS.out, h3.out]⟩
          case measure => simp [intOf]; omega
        · have h1 := ht.2 hp1 (by omega)
          have hlo' : -9223372036854775807 ≤ v := by omega
          have h2 := Lib.hid (tdiv2 (v - 1) (by omega))
          have h3 := Lib.hid (show (v - 1) / 2 = v / 2 by omega)
          clear ht hp1
          go_wp2_with fail
          go_round
          case rel => exact ⟨k + 1, by omega, by go_num, by rw [HS.out, ← h3.out, ← h2.out]⟩
          case measure => simp [intOf]; omega
    · have hk' : k = N := by omega
      subst hk'
      go_wp2_with fail
      go_ret
      exact ⟨rfl, rfl⟩
end Go.Proofs.YtddilnibglcabaaDoor
