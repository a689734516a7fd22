import Derived.Test.YtidhplpidkgkdaaDoorDec
import Derived.Laws.IdiomStrings
namespace Go.Proofs.YtidhplpidkgkdaaDoor
open Go.RowKit

def dgB (n : Nat) : ByteArray := mkB [UInt8.ofNat n]
set_option maxRecDepth 100000 in
theorem byte_any (n : Nat) (h1 : n < 256) (w : World) : Calls Tryd.prog 104 #[.int .i64 (n : Int)] w (Ret (.string (dgB n)) w) := by
  have hn : (UInt8.ofNat n).toNat = n := by rw [UInt8.toNat_ofNat']; omega
  have hcv := run_convert_bytes_back (P := Tryd.prog) (w.alloc (.cells #[.int .u8 (n : Int)] 5)) 51 9 5 ⟨w.heap.size, 0, none⟩ 1 [UInt8.ofNat n] Tryd.underlying51 Tryd.underlying5 Tryd.underlying9 (by
    intro j hj
    have hj0 : j = 0 := by simpa using hj
    subst hj0
    rw [show ([UInt8.ofNat n][0]'(by simp)) = UInt8.ofNat n from rfl, hn]
    exact cell_of_row _ _ 0 _ _ _ (heap_alloc_new w _))
  have hcv2 : (convert 51 9 (.slice (some ⟨w.heap.size, 0, none⟩) 1 1)).run Tryd.prog (w.alloc (.cells #[.int .u8 (n : Int)] 5)) = .ok (.string (dgB n)) (w.alloc (.cells #[.int .u8 (n : Int)] 5)) := hcv
  clear hcv hn
  go_enter Tryd.func104, Tryd.ntmps104
  go_wp2_with fail
  go_ret
  exact ⟨rfl, grow_alloc (grow_refl _) _⟩
theorem below_any : ∀ (u : Nat), u ≤ 9223372036854775808 → ∀ w, Calls Tryd.prog 86 #[.int .i64 (-(u : Int))] w (Ret (.string (mkB (Lib.decDigits u))) w) := by
  intro u
  induction u using Nat.strongRecOn with
  | _ u ih =>
    intro hu w
    by_cases h : u < 10
    · obtain ⟨S, hS⟩ : ∃ S, dgB (48 + u) = S := ⟨_, rfl⟩
      have hd : Hid (mkB (Lib.decDigits u) = S) := show mkB _ = S by rw [dd_small h]; exact hS
      have hb := fun w => byte_any (48 + u) (by omega) w
      rw [hS, show ((48 + u : Nat) : Int) = 48 + (u : Int) by omega] at hb
      have HB := Lib.hid hb
      clear hb hS
      have h1 : (-10 : Int) < -(u : Int) := by omega
      have e1 : (48 : Int) - -(u : Int) = 48 + (u : Int) := by omega
      go_enter Tryd.func86, Tryd.ntmps86
      go_wp2_with (go_at_call 104; (with_reducible refine (HB.out _).mono ?_); rintro x w1 ⟨rfl, hb1⟩)
      go_ret
      exact ⟨by rw [hd.out]; rfl, hb1⟩
    · obtain ⟨S, hS⟩ : ∃ S, dgB (48 + u % 10) = S := ⟨_, rfl⟩
      have hd : Hid (mkB (Lib.decDigits u) = mkB (Lib.decDigits (u / 10)) ++ S) := show mkB _ = _ by rw [dd_big h, ← hS]; exact (mkB_app _ _).symm
      have hb := fun w => byte_any (48 + u % 10) (by omega) w
      rw [hS, show ((48 + u % 10 : Nat) : Int) = 48 + ((u % 10 : Nat) : Int) by omega] at hb
      have HB := Lib.hid hb
      have hlen1 : S.size = 1 := by rw [← hS]; rfl
      have hi := ih (u / 10) (by omega) (by omega)
      obtain ⟨q, hq⟩ : ∃ q, u / 10 = q := ⟨_, rfl⟩
      obtain ⟨r, hr⟩ : ∃ r, u % 10 = r := ⟨_, rfl⟩
      rw [hq] at hi hd
      rw [hr] at HB
      have HI := Lib.hid hi
      have h1 : ¬ (-10 : Int) < -(u : Int) := by omega
      have e1 : (-(u : Int)).tdiv 10 = -(q : Int) := by rw [Int.neg_tdiv, ← hq]; rfl
      have e2 : (-(u : Int)).tmod 10 = -(r : Int) := by rw [Int.neg_tmod, ← hr]; rfl
      have e3 : (48 : Int) - -(r : Int) = 48 + (r : Int) := by omega
      have hr9 : r ≤ 9 := by omega
      have hq9 : q ≤ 922337203685477580 := by omega
      have e4 : wrap64 (-(q : Int)) = -(q : Int) := by unfold wrap64; omega
      have e5 : wrap64 (-(r : Int)) = -(r : Int) := by unfold wrap64; omega
      have hlen : (mkB (Lib.decDigits q)).size ≤ 20 := by
        rw [mkB_len, Lib.decDigits_length]
        exact nDigits_le 19 q (Nat.lt_of_le_of_lt (show q ≤ 9223372036854775808 by omega) (by decide))
      clear hb hi hq hr hS
      go_enter Tryd.func86, Tryd.ntmps86
      go_wp2_with (first
        | (go_at_call 86; (with_reducible refine (HI.out _).mono ?_); rintro x w1 ⟨rfl, hb1⟩)
        | (go_at_call 104; (with_reducible refine (HB.out _).mono ?_); rintro x w2 ⟨rfl, hb2⟩))
      go_ret
      exact ⟨by rw [hd.out]; rfl, grow_trans hb1 hb2⟩
theorem decimal_any (n : Int) (h0 : -9223372036854775808 ≤ n) (h1 : n ≤ 9223372036854775807) (w : World) : Calls Tryd.prog 69 #[.int .i64 n] w (Ret (.string (mkB (Lib.itoa n))) w) := by
  by_cases h : n < 0
  · have hb := below_any n.natAbs (by omega)
    rw [show -((n.natAbs : Nat) : Int) = n by omega] at hb
    have HB := Lib.hid hb
    have hd : Hid (mkB (Lib.itoa n) = ⟨#[45]⟩ ++ mkB (Lib.decDigits n.natAbs)) := by
      show mkB (Lib.itoa n) = _
      unfold Lib.itoa
      rw [if_pos h]
      exact (mkB_app [45] _).symm
    have hlen : (mkB (Lib.decDigits n.natAbs)).size ≤ 20 := by
      rw [mkB_len, Lib.decDigits_length]
      exact nDigits_le 19 _ (Nat.lt_of_le_of_lt (show n.natAbs ≤ 9223372036854775808 by omega) (by decide))
    clear hb
    go_enter Tryd.func69, Tryd.ntmps69
    go_wp2_with (go_at_call 86; (with_reducible refine (HB.out _).mono ?_); rintro x w1 ⟨rfl, hb1⟩)
    go_ret
    exact ⟨by rw [hd.out]; rfl, hb1⟩
  · have hb := below_any n.toNat (by omega)
    rw [show -((n.toNat : Nat) : Int) = -n by omega] at hb
    have HB := Lib.hid hb
    have hd : Hid (mkB (Lib.itoa n) = mkB (Lib.decDigits n.toNat)) := by
      show mkB (Lib.itoa n) = _
      unfold Lib.itoa
      rw [if_neg h]
    clear hb
    go_enter Tryd.func69, Tryd.ntmps69
    go_wp2_with (go_at_call 86; (with_reducible refine (HB.out _).mono ?_); rintro x w1 ⟨rfl, hb1⟩)
    go_ret
    exact ⟨by rw [hd.out]; rfl, hb1⟩
end Go.Proofs.YtidhplpidkgkdaaDoor
