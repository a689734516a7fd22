import Derived.WalkKit
import Derived.Laws.BitsAllLaws
import Derived.Test.YtdilakpipbkokaaDoorBn2
import Derived.Test.YtdilakpipbkokaaDoorBn4
import Derived.Test.YtdilakpipbkokaaDoorBn3
set_option linter.unusedVariables false
set_option linter.unusedSimpArgs false
namespace Go.Proofs.YtdilakpipbkokaaDoor
open Go.ChangeShapes Go.WideShapes Go.ChangeAt Go.RowKit

theorem gErrType : Tryd.prog.globalNamed "errors.errorType" = some 10 := by kernel_rfl
theorem rtNumber : (Tryd.prog.cutTypes.find? (·.1 == "internal/reflectlite.rtype")).map (·.2) = some 128 := by kernel_rfl
theorem oneRow : ((List.range 181).filter fun t => Tryd.prog.rowNamed t [101, 114, 114, 111, 114]) = [38] := by kernel_rfl
theorem typesSize : Tryd.prog.types.size = 181 := by kernel_rfl
theorem handle_of {W : World} (h : handlesMet Tryd.prog [("errors.errorType", Rows.laid_errors_errorType)] W) : W.cell? ⟨10, 0, none⟩ = some (rtV 38) := by
  obtain ⟨name, u, ty, e1, e2, e3, e4, e5⟩ := h _ (List.mem_singleton.2 rfl)
  have en : name = [101, 114, 114, 111, 114] := (Option.some.inj e1).symm
  subst en
  obtain rfl := Option.some.inj (rtNumber.symm.trans e2)
  have hm : ty ∈ (List.range 181).filter fun t => Tryd.prog.rowNamed t [101, 114, 114, 111, 114] := List.mem_filter.2 ⟨List.mem_range.2 (by rw [← typesSize]; exact e3), e4⟩
  rw [oneRow] at hm
  obtain rfl := List.mem_singleton.1 hm
  have hh : typeHandle Tryd.prog 38 = hdl 38 := by kernel_rfl
  rw [hh] at e5
  simpa using World.var?_cell gErrType e5 0
def errList10 : List (String × Nat × List UInt8) := [("kelpforest/api.ErrText", 3, [107, 101, 108, 112, 102, 111, 114, 101, 115, 116, 58, 32, 116, 101, 120, 116]),
  ("kelpforest/api.ErrBound", 4, [107, 101, 108, 112, 102, 111, 114, 101, 115, 116, 58, 32, 98, 111, 117, 110, 100]),
  ("kelpforest/api.ErrShape", 1, [107, 101, 108, 112, 102, 111, 114, 101, 115, 116, 58, 32, 115, 104, 97, 112, 101]),
  ("kelpforest/api.ErrKind", 5, [107, 101, 108, 112, 102, 111, 114, 101, 115, 116, 58, 32, 107, 105, 110, 100]),
  ("kelpforest/api.ErrName", 6, [107, 101, 108, 112, 102, 111, 114, 101, 115, 116, 58, 32, 110, 97, 109, 101]),
  ("kelpforest/api.ErrNone", 7, [107, 101, 108, 112, 102, 111, 114, 101, 115, 116, 58, 32, 110, 111, 110, 101]),
  ("kelpforest/api.ErrExist", 8, [107, 101, 108, 112, 102, 111, 114, 101, 115, 116, 58, 32, 101, 120, 105, 115, 116]),
  ("kelpforest/api.ErrFull", 0, [107, 101, 108, 112, 102, 111, 114, 101, 115, 116, 58, 32, 102, 117, 108, 108]),
  ("kelpforest/api.ErrArgs", 2, [107, 101, 108, 112, 102, 111, 114, 101, 115, 116, 58, 32, 97, 114, 103, 115]),
  ("kelpforest/api.ErrDeep", 9, [107, 101, 108, 112, 102, 111, 114, 101, 115, 116, 58, 32, 100, 101, 101, 112])]
theorem laid_of_parts {W : World} (h : laidMet Tryd.prog (errList10.map fun x => (x.1, errD x.2.2)) W) (hh : handlesMet Tryd.prog [("errors.errorType", Rows.laid_errors_errorType)] W) : ∃ E, Laid E W := by
  obtain ⟨L, h1, h2, h3⟩ := errs_at errList10 (by
    intro x hx
    simp only [errList10, List.mem_cons, List.not_mem_nil, or_false] at hx
    rcases hx with rfl | rfl | rfl | rfl | rfl | rfl | rfl | rfl | rfl | rfl
    all_goals exact ⟨by kernel_rfl, by kernel_rfl⟩) h
  have h10 : L.length = 10 := h1
  have hg : ∀ i, i < 10 → L[i]? = some (L.getD i default) := fun i hi => by
    rw [List.getElem?_eq_getElem (by omega), List.getD_eq_getElem?_getD, List.getElem?_eq_getElem (by omega)]; rfl
  refine ⟨fun i => L.getD i default, (h3 0 _ _ rfl (hg 0 (by decide))).1, (h3 1 _ _ rfl (hg 1 (by decide))).1, (h3 2 _ _ rfl (hg 2 (by decide))).1, (h3 3 _ _ rfl (hg 3 (by decide))).1, (h3 4 _ _ rfl (hg 4 (by decide))).1, (h3 5 _ _ rfl (hg 5 (by decide))).1, (h3 6 _ _ rfl (hg 6 (by decide))).1, (h3 7 _ _ rfl (hg 7 (by decide))).1, (h3 8 _ _ rfl (hg 8 (by decide))).1, (h3 9 _ _ rfl (hg 9 (by decide))).1, handle_of hh, ?_, ?_⟩
  · intro i j hi hj hij e
    have hi' := hg i hi
    have hj' := hg j hj
    have e' : L.getD i default = L.getD j default := e
    rw [e', ← hj'] at hi'
    exact hij ((List.getElem?_inj (by omega) h2).1 hi')
  · intro i hi
    obtain ⟨g, hgi⟩ : ∃ g, (errList10.map (·.2.1))[i]? = some g := ⟨_, List.getElem?_eq_getElem (by simp [errList10]; omega)⟩
    exact (h3 i g _ hgi (hg i hi)).2.1
end Go.Proofs.YtdilakpipbkokaaDoor

namespace Go.Proofs.YtdilakpipbkokaaDoor
open Go.RowKit

theorem wrap_toInt (n : Int) : IntKind.i64.wrap n = (BitVec.ofInt 64 n).toInt := by
  rw [IntKind.wrap_i64, BitVec.toInt_ofInt, Int.bmod_def]
  simp only [Nat.reducePow]
  split <;> omega
theorem w64_toInt (n : Int) : wrap64 n = (BitVec.ofInt 64 n).toInt := by
  rw [← wrap_toInt, IntWalk.i64_left]
theorem ofInt_w64 (n : Int) : BitVec.ofInt 64 (wrap64 n) = BitVec.ofInt 64 n := by
  rw [w64_toInt, BitVec.ofInt_toInt]
theorem toInt_ofInt_in (n : Int) (h : -9223372036854775808 ≤ n ∧ n ≤ 9223372036854775807) : (BitVec.ofInt 64 n).toInt = n := by
  rw [← w64_toInt, IntWalk.wrap64_in n h]
theorem ofInt_toNat_i (x : BitVec 64) : BitVec.ofInt 64 (x.toNat : Int) = x := by
  rw [BitVec.ofInt_natCast, BitVec.ofNat_toNat]; simp
theorem and_toInt (a b : Int) : bits .and .i64 a b = (BitVec.ofInt 64 a &&& BitVec.ofInt 64 b).toInt := by
  show IntKind.i64.wrap ((BitVec.ofInt 64 a &&& BitVec.ofInt 64 b).toNat : Int) = _
  rw [wrap_toInt, ofInt_toNat_i]
theorem or_toInt (a b : Int) : bits .or .i64 a b = (BitVec.ofInt 64 a ||| BitVec.ofInt 64 b).toInt := by
  show IntKind.i64.wrap ((BitVec.ofInt 64 a ||| BitVec.ofInt 64 b).toNat : Int) = _
  rw [wrap_toInt, ofInt_toNat_i]
theorem xor_toInt (a b : Int) : bits .xor .i64 a b = (BitVec.ofInt 64 a ^^^ BitVec.ofInt 64 b).toInt := by
  show IntKind.i64.wrap ((BitVec.ofInt 64 a ^^^ BitVec.ofInt 64 b).toNat : Int) = _
  rw [wrap_toInt, ofInt_toNat_i]
theorem i64_and63 (n : Int) : bits .and .i64 n 63 = n % 64 := by
  have h127 : (BitVec.ofInt 64 63).toNat = 2 ^ 6 - 1 := by decide
  have key : (BitVec.ofInt 64 n &&& BitVec.ofInt 64 63).toNat = (n % ((2 ^ 64 : Nat) : Int)).toNat % 2 ^ 6 := by
    rw [BitVec.toNat_and, BitVec.toNat_ofInt, h127, Nat.and_two_pow_sub_one_eq_mod]
  show IntKind.i64.wrap ((BitVec.ofInt 64 n &&& BitVec.ofInt 64 63).toNat : Nat) = n % 64
  rw [key, IntKind.wrap_i64]
  omega
def I64 (n : Int) : Prop := -9223372036854775808 ≤ n ∧ n ≤ 9223372036854775807
theorem toInt_I64 (x : BitVec 64) : I64 x.toInt := by
  have := BitVec.le_toInt x; have := BitVec.toInt_lt (x := x); unfold I64; simp at *; omega
theorem wrap64_I64 (n : Int) : I64 (wrap64 n) := by unfold I64 wrap64; omega
theorem bits_I64 (op : BinOp) (a b : Int) : I64 (bits op .i64 a b) := by
  unfold bits; rw [wrap_toInt]; exact toInt_I64 _
theorem add_assoc64 (a b c : Int) : wrap64 (wrap64 (a + b) + c) = wrap64 (a + wrap64 (b + c)) := by unfold wrap64; omega
theorem mul_assoc64 (a b c : Int) : wrap64 (wrap64 (a * b) * c) = wrap64 (a * wrap64 (b * c)) := by
  simp only [w64_toInt, BitVec.ofInt_mul, BitVec.ofInt_toInt, BitVec.mul_assoc]
theorem mul_add64 (a b c : Int) : wrap64 (a * wrap64 (b + c)) = wrap64 (wrap64 (a * b) + wrap64 (a * c)) := by
  simp only [w64_toInt, BitVec.ofInt_mul, BitVec.ofInt_add, BitVec.ofInt_toInt, BitVec.mul_add]
theorem and_assoc64 (a b c : Int) : bits .and .i64 (bits .and .i64 a b) c = bits .and .i64 a (bits .and .i64 b c) := by
  simp only [and_toInt, BitVec.ofInt_toInt, BitVec.and_assoc]
theorem or_assoc64 (a b c : Int) : bits .or .i64 (bits .or .i64 a b) c = bits .or .i64 a (bits .or .i64 b c) := by
  simp only [or_toInt, BitVec.ofInt_toInt, BitVec.or_assoc]
theorem xor_assoc64 (a b c : Int) : bits .xor .i64 (bits .xor .i64 a b) c = bits .xor .i64 a (bits .xor .i64 b c) := by
  simp only [xor_toInt, BitVec.ofInt_toInt, BitVec.xor_assoc]
theorem ofInt_neg_one : BitVec.ofInt 64 (-1) = BitVec.allOnes 64 := by decide
theorem deMorgan64 (a b : Int) : bits .xor .i64 (bits .and .i64 a b) (-1) = bits .or .i64 (bits .xor .i64 a (-1)) (bits .xor .i64 b (-1)) := by
  simp only [xor_toInt, or_toInt, and_toInt, BitVec.ofInt_toInt, ofInt_neg_one, BitVec.xor_allOnes, BitVec.not_and]
theorem xor_xor64 (a b : Int) (ha : I64 a) : bits .xor .i64 (bits .xor .i64 a b) b = a := by
  simp only [xor_toInt, BitVec.ofInt_toInt, BitVec.xor_assoc, BitVec.xor_self, BitVec.xor_zero]
  exact toInt_ofInt_in a ha
theorem add_comm64 (a b : Int) : wrap64 (a + b) = wrap64 (b + a) := by rw [Int.add_comm]
theorem and_comm64 (a b : Int) : bits .and .i64 a b = bits .and .i64 b a := by simp only [and_toInt, BitVec.and_comm]
theorem or_comm64 (a b : Int) : bits .or .i64 a b = bits .or .i64 b a := by simp only [or_toInt, BitVec.or_comm]
theorem xor_comm64 (a b : Int) : bits .xor .i64 a b = bits .xor .i64 b a := by simp only [xor_toInt, BitVec.xor_comm]
end Go.Proofs.YtdilakpipbkokaaDoor

namespace Go.Proofs.YtdilakpipbkokaaDoor
open Go.RowKit

def bitV (b : Bool) : Int := if b then 1 else 0
theorem bit_any (b : Bool) (w : World) : Calls Tryd.prog 73 #[.bool b] w fun e w' => e = .returned (.int .i64 (bitV b)) ∧ w' = w := by
  cases b
  · go_enter Tryd.func73, Tryd.ntmps73
    go_wp2
    go_ret
    exact ⟨rfl, rfl⟩
  · go_enter Tryd.func73, Tryd.ntmps73
    go_wp2
    go_ret
    exact ⟨rfl, rfl⟩

def orderV (l : List UInt8) (a b : Int) : Option Int :=
  if (l == [60]) = true then some (bitV (decide (a < b)))
  else if (l == [60, 61]) = true then some (bitV (decide (a ≤ b)))
  else if (l == [61, 61]) = true then some (bitV (a == b))
  else if (l == [33, 61]) = true then some (bitV (a != b))
  else none
def errOf (o : Option Int) (K : Value) : Value := match o with
  | some _ => .nilIface
  | none => K
def valOf (o : Option Int) : Int := o.getD 0

theorem order_any (s : ByteArray) (a b : Int) (K : Value) (w : World) (hK : w.cell? ⟨5, 0, none⟩ = some K) : Calls Tryd.prog 75 #[.string s, .int .i64 a, .int .i64 b] w (Quiet (.tuple #[.int .i64 (valOf (orderV s.toList a b)), errOf (orderV s.toList a b) K]) w) := by
  go_enter Tryd.func75, Tryd.ntmps75
  go_wp2_with (go_at_call 73; refine (bit_any _ _).mono ?_; rintro e w' ⟨rfl, rfl⟩)
  · go_ret2; refine Quiet.same_of ?_; simp [*, orderV, errOf, valOf]
  · go_ret2; refine Quiet.same_of ?_; simp [*, orderV, errOf, valOf]
  · go_ret2; refine Quiet.same_of ?_; simp [*, orderV, errOf, valOf]
  · go_ret2; refine Quiet.same_of ?_; simp [*, orderV, errOf, valOf]
  · go_quiet (fail)
    go_wp2
    go_ret2
    refine Quiet.drew_of _ ?_; simp [*, orderV, errOf, valOf]

def divV (a b : Int) : Int := if b = 0 then 0 else wrap64 (a.tdiv b)
def remV (a b : Int) : Int := if b = 0 then a else a.tmod b
theorem divV_min : divV (-9223372036854775808) (-1) = -9223372036854775808 := by decide +kernel
theorem remV_min : remV (-9223372036854775808) (-1) = 0 := by decide +kernel
theorem min_forms (b : Int) : Value.tuple #[.int .i64 (wrap64 ((-9223372036854775808).tdiv b)), .int .i64 ((-9223372036854775808).tmod b)] = Value.tuple #[.int .i64 (wrap64 (-Int.tdiv 9223372036854775808 b)), .int .i64 (-(9223372036854775808 % b))] := by
  rw [Int.neg_tdiv, Int.neg_tmod, Int.tmod_eq_emod_of_nonneg (by omega)]
theorem div_any (a b : Int) (w : World) : Calls Tryd.prog 74 #[.int .i64 a, .int .i64 b] w (Quiet (.tuple #[.int .i64 (divV a b), .int .i64 (remV a b)]) w) := by
  by_cases hb : b = 0
  · subst hb
    go_enter Tryd.func74, Tryd.ntmps74
    go_wp2_with fail
    go_ret2; exact Quiet.same_of (by simp [divV, remV])
  · have hb0 : (b == 0) = false := by simp [hb]
    by_cases hm : a = -9223372036854775808 ∧ b = -1
    · obtain ⟨rfl, rfl⟩ := hm
      go_enter Tryd.func74, Tryd.ntmps74
      go_wp2_with fail
      go_ret2; exact Quiet.same_of (by rw [divV_min, remV_min]; rfl)
    · have e1 : divV a b = wrap64 (a.tdiv b) := by unfold divV; rw [if_neg hb]
      have e2 : remV a b = a.tmod b := by unfold remV; rw [if_neg hb]
      rw [e1, e2]
      clear e1 e2
      by_cases ha : a = -9223372036854775808
      · subst ha
        have hb1 : (b == -1) = false := by simpa using hm
        clear hm
        go_enter Tryd.func74, Tryd.ntmps74
        go_wp2_with fail
        go_quiet (fail)
        go_wp2_with fail
        go_ret2; exact Quiet.drew_of _ (min_forms b)
      · have ha1 : (a == -9223372036854775808) = false := by simp [ha]
        clear hm
        go_enter Tryd.func74, Tryd.ntmps74
        go_wp2_with fail
        go_quiet (fail)
        go_wp2_with fail
        go_ret2; exact Quiet.drew_of _ rfl

def doV (l : List UInt8) (a b : Int) : Option Int :=
  if (l == [43]) = true then some (wrap64 (a + b))
  else if (l == [45]) = true then some (wrap64 (a - b))
  else if (l == [42]) = true then some (wrap64 (a * b))
  else if (l == [47]) = true then some (divV a b)
  else if (l == [37]) = true then some (remV a b)
  else if (l == [38]) = true then some (bits .and .i64 a b)
  else if (l == [124]) = true then some (bits .or .i64 a b)
  else if (l == [94]) = true then some (bits .xor .i64 a b)
  else if (l == [60, 60]) = true then some (wrap64 (a * 2 ^ (b % 64).toNat))
  else if (l == [62, 62]) = true then some (a / 2 ^ (b % 64).toNat)
  else orderV l a b
def oneV (l : List UInt8) (a : Int) : Option Int :=
  if (l == [45]) = true then some (wrap64 (-a))
  else if (l == [33]) = true then some (bitV (a == 0))
  else none
theorem Do_any (s : ByteArray) (a b : Int) (K : Value) (w : World) (hK : w.cell? ⟨5, 0, none⟩ = some K) :
    Calls Tryd.prog 71 #[.string s, .int .i64 a, .int .i64 b] w (Quiet (.tuple #[.int .i64 (valOf (doV s.toList a b)), errOf (doV s.toList a b) K]) w) := by
  have h63 := i64_and63 b
  go_enter Tryd.func71, Tryd.ntmps71
  go_wp2_with (first
    | (go_at_call 74; refine (div_any _ _ _).mono ?_; rintro e w' ⟨rfl, n, rfl⟩)
    | (go_at_call 75; refine (order_any _ _ _ K _ hK).mono ?_; rintro e w' ⟨rfl, n, rfl⟩))
  all_goals (go_ret2; first | refine Quiet.drew_of _ ?_ | refine Quiet.same_of ?_)
  all_goals simp [*, doV, errOf, valOf]
theorem One_any (s : ByteArray) (a : Int) (K : Value) (w : World) (hK : w.cell? ⟨5, 0, none⟩ = some K) :
    Calls Tryd.prog 70 #[.string s, .int .i64 a] w (Quiet (.tuple #[.int .i64 (valOf (oneV s.toList a)), errOf (oneV s.toList a) K]) w) := by
  go_enter Tryd.func70, Tryd.ntmps70
  go_wp2_with (first
    | (go_at_call 73; refine (bit_any _ _).mono ?_; rintro e w' ⟨rfl, rfl⟩))
  · go_ret2; refine Quiet.same_of ?_; simp [*, oneV, errOf, valOf]
  · go_ret2; refine Quiet.same_of ?_; simp [*, oneV, errOf, valOf]
  · go_quiet (fail)
    go_wp2_with fail
    go_ret2; refine Quiet.drew_of _ ?_; simp [*, oneV, errOf, valOf]
@[go_sem] theorem errOf_some (v : Int) (K : Value) : errOf (some v) K = .nilIface := rfl
@[go_sem] theorem errOf_none (K : Value) : errOf none K = K := rfl
@[go_sem] theorem valOf_some (v : Int) : valOf (some v) = v := rfl
@[go_sem] theorem valOf_none : valOf none = 0 := rfl
@[go_sem] theorem doV_add (a b : Int) : doV [43] a b = some (wrap64 (a + b)) := rfl
@[go_sem] theorem doV_sub (a b : Int) : doV [45] a b = some (wrap64 (a - b)) := rfl
@[go_sem] theorem doV_mul (a b : Int) : doV [42] a b = some (wrap64 (a * b)) := rfl
@[go_sem] theorem doV_div (a b : Int) : doV [47] a b = some (divV a b) := rfl
@[go_sem] theorem doV_rem (a b : Int) : doV [37] a b = some (remV a b) := rfl
@[go_sem] theorem doV_and (a b : Int) : doV [38] a b = some (bits .and .i64 a b) := rfl
@[go_sem] theorem doV_or (a b : Int) : doV [124] a b = some (bits .or .i64 a b) := rfl
@[go_sem] theorem doV_xor (a b : Int) : doV [94] a b = some (bits .xor .i64 a b) := rfl
@[go_sem] theorem doV_shl (a b : Int) : doV [60, 60] a b = some (wrap64 (a * 2 ^ (b % 64).toNat)) := rfl
@[go_sem] theorem doV_shr (a b : Int) : doV [62, 62] a b = some (a / 2 ^ (b % 64).toNat) := rfl
@[go_sem] theorem doV_lss (a b : Int) : doV [60] a b = some (bitV (decide (a < b))) := rfl
@[go_sem] theorem doV_leq (a b : Int) : doV [60, 61] a b = some (bitV (decide (a ≤ b))) := rfl
@[go_sem] theorem doV_eql (a b : Int) : doV [61, 61] a b = some (bitV (a == b)) := rfl
@[go_sem] theorem doV_neq (a b : Int) : doV [33, 61] a b = some (bitV (a != b)) := rfl
@[go_sem] theorem oneV_neg (a : Int) : oneV [45] a = some (wrap64 (-a)) := rfl
@[go_sem] theorem oneV_not (a : Int) : oneV [33] a = some (bitV (a == 0)) := rfl
@[go_sem] theorem bitV_true : bitV true = 1 := rfl
@[go_sem] theorem bitV_false : bitV false = 0 := rfl
end Go.Proofs.YtdilakpipbkokaaDoor

namespace Go.Proofs.YtdilakpipbkokaaDoor
open Go.RowKit

theorem IsIn_any (s : ByteArray) (A : Option Addr) (xs : List ByteArray) (c : Nat) (w : World) (hr : Row w A (xs.map .string)) (hn : xs.length ≤ 1000000) :
    Calls Tryd.prog 65 #[.string s, .slice A xs.length c] w fun e w' => e = .returned (.bool (isIn s xs)) ∧ w' = w := by
  go_enter Tryd.func65, Tryd.ntmps65
  go_wp2_with fail
  go_loop [5] (fun i => ∃ k : Nat, k ≤ xs.length ∧ i = .int .i64 k ∧ isIn s xs = isIn s (xs.drop k)) (fun i => xs.length - (intOf i).toNat)
  case atStart => exact ⟨0, Nat.zero_le _, rfl, by simp⟩
  case round =>
    obtain ⟨k, hk, rfl, hI⟩ := hrel
    have HI := Lib.hid hI
    clear hI
    by_cases hlt : k < xs.length
    · obtain ⟨b, off, rfl, hc⟩ := hr k _ (strs_get hlt)
      have HD := Lib.hid (isIn_drop (s := s) hlt)
      by_cases he : (xs[k].toList == s.toList) = true
      · go_wp2_with fail
        go_ret
        exact ⟨by rw [HI.out, HD.out, he]; rfl, rfl⟩
      · have he' : (xs[k].toList == s.toList) = false := by simpa using he
        clear he
        go_wp2_with fail
        go_round
        case rel => exact ⟨k + 1, by omega, by go_num, by rw [HI.out, HD.out, he']; rfl⟩
        case measure => simp [intOf]; omega
    · have hk' : k = xs.length := by omega
      subst hk'
      go_wp2_with fail
      go_ret
      exact ⟨by rw [HI.out]; simp [isIn], rfl⟩

end Go.Proofs.YtdilakpipbkokaaDoor

namespace Go.Proofs.YtdilakpipbkokaaDoor
open Go.RowKit

def opsB : List (List UInt8) := [[43], [45], [42], [47], [37], [38], [124], [94], [60, 60], [62, 62], [60], [60, 61], [61, 61], [33, 61]]
def swapsB : List (List UInt8) := [[43], [42], [38], [124], [94], [61, 61], [33, 61]]
def opsL : List ByteArray := opsB.map mkB
def swapsL : List ByteArray := swapsB.map mkB
def opsO : Obj := .cells (opsL.map Value.string).toArray 9
theorem opsO_row (w : World) : Row (w.alloc opsO) (some ⟨w.heap.size, 0, none⟩) (opsL.map Value.string) := Row.new w _ _
end Go.Proofs.YtdilakpipbkokaaDoor

namespace Go.Proofs.YtdilakpipbkokaaDoor
open Go.RowKit

theorem two_pow_step (k : Nat) : wrap64 (wrap64 (2 ^ k) + wrap64 (2 ^ k)) = wrap64 (2 ^ (k + 1)) := by
  rw [Int.pow_succ]
  generalize (2 : Int) ^ k = x
  unfold wrap64; omega
theorem mul_wrap (a x : Int) : wrap64 (a * wrap64 x) = wrap64 (a * x) := by
  simp only [w64_toInt, BitVec.ofInt_mul, BitVec.ofInt_toInt]
theorem powerOf_any (n : Int) (h0 : 0 ≤ n) (h1 : n ≤ 63) (w : World) :
    Calls Tryd.prog 37 #[.int .i64 n] w fun e w' => e = .returned (.int .i64 (wrap64 (2 ^ n.toNat))) ∧ w' = w := by
  obtain ⟨m, rfl⟩ := Int.eq_ofNat_of_zero_le h0
  simp only [Int.toNat_natCast]
  go_enter Tryd.func37, Tryd.ntmps37
  go_wp2_with fail
  go_loop [3, 4] (fun p i => ∃ k : Nat, k ≤ m ∧ i = .int .i64 k ∧ p = .int .i64 (wrap64 (2 ^ k))) (fun _ i => m - (intOf i).toNat)
  case atStart => exact ⟨0, Nat.zero_le _, rfl, by unfold wrap64; rfl⟩
  case round =>
    obtain ⟨k, hk, rfl, rfl⟩ := hrel
    by_cases hlt : k < m
    · have HS := Lib.hid (two_pow_step k)
      go_wp2_with fail
      go_round
      case rel => exact ⟨k + 1, by omega, by go_num, by rw [HS.out]⟩
      case measure => simp [intOf]; omega
    · have hk' : k = m := by omega
      subst hk'
      go_wp2_with fail
      go_ret
      exact ⟨rfl, rfl⟩
theorem lowSix_any (n : Int) (w : World) :
    Calls Tryd.prog 38 #[.int .i64 n] w fun e w' => e = .returned (.int .i64 (n % 64)) ∧ w' = w := by
  by_cases h : n.tmod 64 < 0
  · have hq := Int.mul_tdiv_add_tmod n 64
    have b1 : -64 < n.tmod 64 := by have := Int.lt_tmod_of_pos n (show (0:Int) < 64 by decide); omega
    have e : n.tmod 64 + 64 = n % 64 := by omega
    clear hq
    have HE := Lib.hid e
    clear e
    go_enter Tryd.func38, Tryd.ntmps38
    go_wp2_with fail
    go_ret
    exact ⟨by rw [← HE.out]; rfl, rfl⟩
  · have hq := Int.mul_tdiv_add_tmod n 64
    have b1 : n.tmod 64 < 64 := Int.tmod_lt_of_pos n (by decide)
    have e : n.tmod 64 = n % 64 := by omega
    clear hq b1
    have hn : ¬ n % 64 < 0 := by omega
    clear h
    go_enter Tryd.func38, Tryd.ntmps38
    go_wp2_with fail
    go_ret
    exact ⟨rfl, rfl⟩
theorem Bit_any (b : Bool) (w : World) : Calls Tryd.prog 36 #[.bool b] w fun e w' => e = .returned (.int .i64 (bitV b)) ∧ w' = w := by
  cases b
  · go_enter Tryd.func36, Tryd.ntmps36
    go_wp2
    go_ret
    exact ⟨rfl, rfl⟩
  · go_enter Tryd.func36, Tryd.ntmps36
    go_wp2
    go_ret
    exact ⟨rfl, rfl⟩
theorem tmod2 (v : Int) : (v % 2 = 0 → v.tmod 2 = 0) ∧ (v % 2 = 1 → v < 0 → v.tmod 2 = -1) := by
  have hq := Int.mul_tdiv_add_tmod v 2
  have h1 := Int.tmod_lt_of_pos v (show (0:Int) < 2 by decide)
  have h2 := Int.lt_tmod_of_pos v (show (0:Int) < 2 by decide)
  have h3 : v < 0 → v.tmod 2 ≤ 0 := fun h => by
    have := Int.neg_tmod (-v) 2
    rw [Int.neg_neg] at this
    have h4 := Int.tmod_nonneg (a := -v) 2 (by omega)
    omega
  constructor
  · intro h; omega
  · intro h hv; have := h3 hv; omega
theorem tdiv2 (u : Int) (h : u % 2 = 0) : u.tdiv 2 = u / 2 := by
  have hq := Int.mul_tdiv_add_tmod u 2
  have := (tmod2 u).1 h
  omega
theorem shr_I64 (a : Int) (ha : I64 a) (k : Nat) : I64 (a / 2 ^ k) := by
  have hp : (0 : Int) < 2 ^ k := Int.pow_pos (by decide)
  generalize (2 : Int) ^ k = x at *
  unfold I64 at *
  constructor
  · refine Int.le_ediv_of_mul_le hp ?_
    omega
  · refine Int.le_of_lt_add_one (Int.ediv_lt_of_lt_mul hp ?_)
    omega
theorem DoOf_shr (s : ByteArray) (hl : s.toList = [62, 62]) (a b : Int) (ha : I64 a) (w : World) :
    Calls Tryd.prog 24 #[.string s, .int .i64 a, .int .i64 b] w fun e w' => e = .returned (.int .i64 (a / 2 ^ (b % 64).toNat)) ∧ w' = w := by
  obtain ⟨N, hN⟩ : ∃ N : Nat, b % 64 = (N : Int) := ⟨(b % 64).toNat, by omega⟩
  have hN63 : N ≤ 63 := by omega
  have HA := Lib.hid ha
  clear ha
  rw [hN, Int.toNat_natCast]
  go_enter Tryd.func24, Tryd.ntmps24
  go_wp2_with (first
    | (go_at_call 38; refine (lowSix_any _ _).mono ?_; rintro e w' ⟨rfl, rfl⟩))
  clear hl
  go_loop [8, 9] (fun p i => ∃ k : Nat, k ≤ N ∧ i = .int .i64 k ∧ p = .int .i64 (a / 2 ^ k)) (fun _ i => N - (intOf i).toNat)
  case atStart => exact ⟨0, Nat.zero_le _, rfl, by simp⟩
  case round =>
    obtain ⟨k, hk, rfl, rfl⟩ := hrel
    by_cases hlt : k < N
    · obtain ⟨v, hv⟩ : ∃ v, a / 2 ^ k = v := ⟨_, rfl⟩
      have hI := shr_I64 a HA.out k
      have hs : a / 2 ^ (k + 1) = v / 2 := by rw [← hv, Int.pow_succ, Int.ediv_ediv_of_nonneg (Int.le_of_lt (Int.pow_pos (by decide)))]
      rw [hv] at hI ⊢
      have HS := Lib.hid hs
      clear hs hv
      have HI := Lib.hid hI
      have hlo : -9223372036854775808 ≤ v := hI.1
      have hhi : v ≤ 9223372036854775807 := hI.2
      clear hI
      have ht := tmod2 v
      by_cases hp : v % 2 = 0
      · by_cases hv0 : 0 ≤ v
        · clear ht
          go_wp2_with fail
          go_round
          case rel => exact ⟨k + 1, by omega, by go_num, by rw [HS.out]⟩
          case measure => simp [intOf]; omega
        · have h1 := ht.1 hp
          have h2 := Lib.hid (tdiv2 v hp)
          clear ht hp
          go_wp2_with fail
          go_round
          case rel => exact ⟨k + 1, by omega, by go_num, by rw [HS.out, ← h2.out]⟩
          case measure => simp [intOf]; omega
      · have hp1 : v % 2 = 1 := by omega
        clear hp
        by_cases hv0 : 0 ≤ v
        · have h3 := Lib.hid (show (v - 1) / 2 = v / 2 by omega)
          clear ht
          go_wp2_with fail
          go_round
          case rel => exact ⟨k + 1, by omega, by go_num, by rw [HS.out, h3.out]⟩
          case measure => simp [intOf]; omega
        · have h1 := ht.2 hp1 (by omega)
          have hlo' : -9223372036854775807 ≤ v := by omega
          have h2 := Lib.hid (tdiv2 (v - 1) (by omega))
          have h3 := Lib.hid (show (v - 1) / 2 = v / 2 by omega)
          clear ht hp1
          go_wp2_with fail
          go_round
          case rel => exact ⟨k + 1, by omega, by go_num, by rw [HS.out, ← h3.out, ← h2.out]⟩
          case measure => simp [intOf]; omega
    · have hk' : k = N := by omega
      subst hk'
      go_wp2_with fail
      go_ret
      exact ⟨rfl, rfl⟩
end Go.Proofs.YtdilakpipbkokaaDoor
