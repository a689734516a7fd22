import Derived.WalkKit
import Derived.Laws.BitsAllLaws
namespace Go.Proofs.YteifmgcbafemeaaGreatDoor
open Go.RowKit

theorem wrap_toInt (n : Int) : IntKind.i64.wrap n = (BitVec.ofInt 64 n).toInt := by
  rw [IntKind.wrap_i64, BitVec.toInt_ofInt, Int.bmod_def]
  simp only [Nat.reducePow]
  split <;> omega
theorem w64_toInt (n : Int) : wrap64 n = (BitVec.ofInt 64 n).toInt := by
  rw [← wrap_toInt, IntWalk.i64_left]
theorem ofInt_w64 (n : Int) : BitVec.ofInt 64 (wrap64 n) = BitVec.ofInt 64 n := by
  rw [w64_toInt, BitVec.ofInt_toInt]
theorem toInt_ofInt_in (n : Int) (h : -9223372036854775808 ≤ n ∧ n ≤ 9223372036854775807) : (BitVec.ofInt 64 n).toInt = n := by
  rw [← w64_toInt, IntWalk.wrap64_in n h]
theorem ofInt_toNat_i (x : BitVec 64) : BitVec.ofInt 64 (x.toNat : Int) = x := by
  rw [BitVec.ofInt_natCast, BitVec.ofNat_toNat]; simp
theorem and_toInt (a b : Int) : bits .and .i64 a b = (BitVec.ofInt 64 a &&& BitVec.ofInt 64 b).toInt := by
  show IntKind.i64.wrap ((BitVec.ofInt 64 a &&& BitVec.ofInt 64 b).toNat : Int) = _
  rw [wrap_toInt, ofInt_toNat_i]
theorem or_toInt (a b : Int) : bits .or .i64 a b = (BitVec.ofInt 64 a ||| BitVec.ofInt 64 b).toInt := by
  show IntKind.i64.wrap ((BitVec.ofInt 64 a ||| BitVec.ofInt 64 b).toNat : Int) = _
  rw [wrap_toInt, ofInt_toNat_i]
theorem xor_toInt (a b : Int) : bits .xor .i64 a b = (BitVec.ofInt 64 a ^^^ BitVec.ofInt 64 b).toInt := by
  show IntKind.i64.wrap ((BitVec.ofInt 64 a ^^^ BitVec.ofInt 64 b).toNat : Int) = _
  rw [wrap_toInt, ofInt_toNat_i]
theorem i64_and63 (n : Int) : bits .and .i64 n 63 = n % 64 := by
  have h127 : (BitVec.ofInt 64 63).toNat = 2 ^ 6 - 1 := by decide
  have key : (BitVec.ofInt 64 n &&& BitVec.ofInt 64 63).toNat = (n % ((2 ^ 64 : Nat) : Int)).toNat % 2 ^ 6 := by
    rw [BitVec.toNat_and, BitVec.toNat_ofInt, h127, Nat.and_two_pow_sub_one_eq_mod]
  show IntKind.i64.wrap ((BitVec.ofInt 64 n &&& BitVec.ofInt 64 63).toNat : Nat) = n % 64
  rw [key, IntKind.wrap_i64]
  omega
def I64 (n : Int) : Prop := -9223372036854775808 ≤ n ∧ n ≤ 9223372036854775807
theorem toInt_I64 (x : BitVec 64) : I64 x.toInt := by
  have := BitVec.le_toInt x; have := BitVec.toInt_lt (x := x); unfold I64; simp at *; omega
theorem wrap64_I64 (n : Int) : I64 (wrap64 n) := by unfold I64 wrap64; omega
theorem bits_I64 (op : BinOp) (a b : Int) : I64 (bits op .i64 a b) := by
  unfold bits; rw [wrap_toInt]; exact toInt_I64 _
theorem add_assoc64 (a b c : Int) : wrap64 (wrap64 (a + b) + c) = wrap64 (a + wrap64 (b + c)) := by unfold wrap64; omega
theorem mul_assoc64 (a b c : Int) : wrap64 (wrap64 (a * b) * c) = wrap64 (a * wrap64 (b * c)) := by
  simp only [w64_toInt, BitVec.ofInt_mul, BitVec.ofInt_toInt, BitVec.mul_assoc]
theorem mul_add64 (a b c : Int) : wrap64 (a * wrap64 (b + c)) = wrap64 (wrap64 (a * b) + wrap64 (a * c)) := by
  simp only [w64_toInt, BitVec.ofInt_mul, BitVec.ofInt_add, BitVec.ofInt_toInt, BitVec.mul_add]
theorem and_assoc64 (a b c : Int) : bits .and .i64 (bits .and .i64 a b) c = bits .and .i64 a (bits .and .i64 b c) := by
  simp only [and_toInt, BitVec.ofInt_toInt, BitVec.and_assoc]
theorem or_assoc64 (a b c : Int) : bits .or .i64 (bits .or .i64 a b) c = bits .or .i64 a (bits .or .i64 b c) := by
  simp only [or_toInt, BitVec.ofInt_toInt, BitVec.or_assoc]
theorem xor_assoc64 (a b c : Int) : bits .xor .i64 (bits .xor .i64 a b) c = bits .xor .i64 a (bits .xor .i64 b c) := by
  simp only [xor_toInt, BitVec.ofInt_toInt, BitVec.xor_assoc]
theorem ofInt_neg_one : BitVec.ofInt 64 (-1) = BitVec.allOnes 64 := by decide
theorem deMorgan64 (a b : Int) : bits .xor .i64 (bits .and .i64 a b) (-1) = bits .or .i64 (bits .xor .i64 a (-1)) (bits .xor .i64 b (-1)) := by
  simp only [xor_toInt, or_toInt, and_toInt, BitVec.ofInt_toInt, ofInt_neg_one, BitVec.xor_allOnes, BitVec.not_and]
theorem xor_xor64 (a b : Int) (ha : I64 a) : bits .xor .i64 (bits .xor .i64 a b) b = a := by
  simp only [xor_toInt, BitVec.ofInt_toInt, BitVec.xor_assoc, BitVec.xor_self, BitVec.xor_zero]
  exact toInt_ofInt_in a ha
theorem add_comm64 (a b : Int) : wrap64 (a + b) = wrap64 (b + a) := by rw [Int.add_comm]
theorem and_comm64 (a b : Int) : bits .and .i64 a b = bits .and .i64 b a := by simp only [and_toInt, BitVec.and_comm]
theorem or_comm64 (a b : Int) : bits .or .i64 a b = bits .or .i64 b a := by simp only [or_toInt, BitVec.or_comm]
theorem xor_comm64 (a b : Int) : bits .xor .i64 a b = bits .xor .i64 b a := by simp only [xor_toInt, BitVec.xor_comm]
end Go.Proofs.YteifmgcbafemeaaGreatDoor
