import Derived.WalkKit
import Derived.Laws.BitsAllLaws
import Derived.Test.YtonnhechjbdenaaGreatDoorBn1
import Derived.Test.YtonnhechjbdenaaGreatDoorBn2
set_option linter.unusedVariables false
set_option linter.unusedSimpArgs false
namespace Go.Proofs.YtonnhechjbdenaaGreatDoor
open Go.ChangeShapes Go.WideShapes Go.ChangeAt Go.RowKit

theorem gErrType : Tryz.prog.globalNamed "errors.errorType" = some 10 := by kernel_rfl
theorem rtNumber : (Tryz.prog.cutTypes.find? (·.1 == "internal/reflectlite.rtype")).map (·.2) = some 180 := by kernel_rfl
theorem oneRow : ((List.range 253).filter fun t => Tryz.prog.rowNamed t [101, 114, 114, 111, 114]) = [39] := by kernel_rfl
theorem typesSize : Tryz.prog.types.size = 253 := by kernel_rfl
theorem handle_of {W : World} (h : handlesMet Tryz.prog [("errors.errorType", Rows.laid_errors_errorType)] W) : W.cell? ⟨10, 0, none⟩ = some (rtV 39) := by
  obtain ⟨name, u, ty, e1, e2, e3, e4, e5⟩ := h _ (List.mem_singleton.2 rfl)
  have en : name = [101, 114, 114, 111, 114] := (Option.some.inj e1).symm
  subst en
  obtain rfl := Option.some.inj (rtNumber.symm.trans e2)
  have hm : ty ∈ (List.range 253).filter fun t => Tryz.prog.rowNamed t [101, 114, 114, 111, 114] := List.mem_filter.2 ⟨List.mem_range.2 (by rw [← typesSize]; exact e3), e4⟩
  rw [oneRow] at hm
  obtain rfl := List.mem_singleton.1 hm
  have hh : typeHandle Tryz.prog 39 = hdl 39 := by kernel_rfl
  rw [hh] at e5
  simpa using World.var?_cell gErrType e5 0
def errList10 : List (String × Nat × List UInt8) := [("kelpforest/api.ErrText", 6, [107, 101, 108, 112, 102, 111, 114, 101, 115, 116, 58, 32, 116, 101, 120, 116]),
  ("kelpforest/api.ErrBound", 7, [107, 101, 108, 112, 102, 111, 114, 101, 115, 116, 58, 32, 98, 111, 117, 110, 100]),
  ("kelpforest/api.ErrShape", 8, [107, 101, 108, 112, 102, 111, 114, 101, 115, 116, 58, 32, 115, 104, 97, 112, 101]),
  ("kelpforest/api.ErrKind", 5, [107, 101, 108, 112, 102, 111, 114, 101, 115, 116, 58, 32, 107, 105, 110, 100]),
  ("kelpforest/api.ErrName", 2, [107, 101, 108, 112, 102, 111, 114, 101, 115, 116, 58, 32, 110, 97, 109, 101]),
  ("kelpforest/api.ErrNone", 3, [107, 101, 108, 112, 102, 111, 114, 101, 115, 116, 58, 32, 110, 111, 110, 101]),
  ("kelpforest/api.ErrExist", 1, [107, 101, 108, 112, 102, 111, 114, 101, 115, 116, 58, 32, 101, 120, 105, 115, 116]),
  ("kelpforest/api.ErrFull", 0, [107, 101, 108, 112, 102, 111, 114, 101, 115, 116, 58, 32, 102, 117, 108, 108]),
  ("kelpforest/api.ErrArgs", 4, [107, 101, 108, 112, 102, 111, 114, 101, 115, 116, 58, 32, 97, 114, 103, 115]),
  ("kelpforest/api.ErrDeep", 9, [107, 101, 108, 112, 102, 111, 114, 101, 115, 116, 58, 32, 100, 101, 101, 112])]
theorem laid_of_parts {W : World} (h : laidMet Tryz.prog (errList10.map fun x => (x.1, errD x.2.2)) W) (hh : handlesMet Tryz.prog [("errors.errorType", Rows.laid_errors_errorType)] W) : ∃ E, Laid E W := by
  obtain ⟨L, h1, h2, h3⟩ := errs_at errList10 (by
    intro x hx
    simp only [errList10, List.mem_cons, List.not_mem_nil, or_false] at hx
    rcases hx with rfl | rfl | rfl | rfl | rfl | rfl | rfl | rfl | rfl | rfl
    all_goals exact ⟨by kernel_rfl, by kernel_rfl⟩) h
  have h10 : L.length = 10 := h1
  have hg : ∀ i, i < 10 → L[i]? = some (L.getD i default) := fun i hi => by
    rw [List.getElem?_eq_getElem (by omega), List.getD_eq_getElem?_getD, List.getElem?_eq_getElem (by omega)]; rfl
  refine ⟨fun i => L.getD i default, (h3 0 _ _ rfl (hg 0 (by decide))).1, (h3 1 _ _ rfl (hg 1 (by decide))).1, (h3 2 _ _ rfl (hg 2 (by decide))).1, (h3 3 _ _ rfl (hg 3 (by decide))).1, (h3 4 _ _ rfl (hg 4 (by decide))).1, (h3 5 _ _ rfl (hg 5 (by decide))).1, (h3 6 _ _ rfl (hg 6 (by decide))).1, (h3 7 _ _ rfl (hg 7 (by decide))).1, (h3 8 _ _ rfl (hg 8 (by decide))).1, (h3 9 _ _ rfl (hg 9 (by decide))).1, handle_of hh, ?_, ?_⟩
  · intro i j hi hj hij e
    have hi' := hg i hi
    have hj' := hg j hj
    have e' : L.getD i default = L.getD j default := e
    rw [e', ← hj'] at hi'
    exact hij ((List.getElem?_inj (by omega) h2).1 hi')
  · intro i hi
    obtain ⟨g, hgi⟩ : ∃ g, (errList10.map (·.2.1))[i]? = some g := ⟨_, List.getElem?_eq_getElem (by simp [errList10]; omega)⟩
    exact (h3 i g _ hgi (hg i hi)).2.1
end Go.Proofs.YtonnhechjbdenaaGreatDoor

namespace Go.Proofs.YtonnhechjbdenaaGreatDoor
open Go.RowKit

theorem wrap_toInt (n : Int) : IntKind.i64.wrap n = (BitVec.ofInt 64 n).toInt := by
  rw [IntKind.wrap_i64, BitVec.toInt_ofInt, Int.bmod_def]
  simp only [Nat.reducePow]
  split <;> omega
theorem w64_toInt (n : Int) : wrap64 n = (BitVec.ofInt 64 n).toInt := by
  rw [← wrap_toInt, IntWalk.i64_left]
theorem i64_and63 (n : Int) : bits .and .i64 n 63 = n % 64 := by
  have h127 : (BitVec.ofInt 64 63).toNat = 2 ^ 6 - 1 := by decide
  have key : (BitVec.ofInt 64 n &&& BitVec.ofInt 64 63).toNat = (n % ((2 ^ 64 : Nat) : Int)).toNat % 2 ^ 6 := by
    rw [BitVec.toNat_and, BitVec.toNat_ofInt, h127, Nat.and_two_pow_sub_one_eq_mod]
  show IntKind.i64.wrap ((BitVec.ofInt 64 n &&& BitVec.ofInt 64 63).toNat : Nat) = n % 64
  rw [key, IntKind.wrap_i64]
  omega
def I64 (n : Int) : Prop := -9223372036854775808 ≤ n ∧ n ≤ 9223372036854775807
theorem toInt_I64 (x : BitVec 64) : I64 x.toInt := by
  have := BitVec.le_toInt x; have := BitVec.toInt_lt (x := x); unfold I64; simp at *; omega
theorem wrap64_I64 (n : Int) : I64 (wrap64 n) := by unfold I64 wrap64; omega
theorem bits_I64 (op : BinOp) (a b : Int) : I64 (bits op .i64 a b) := by
  unfold bits; rw [wrap_toInt]; exact toInt_I64 _
end Go.Proofs.YtonnhechjbdenaaGreatDoor

namespace Go.Proofs.YtonnhechjbdenaaGreatDoor
open Go.RowKit

def bitV (b : Bool) : Int := if b then 1 else 0
theorem bit_any (b : Bool) (w : World) : Calls Tryz.prog 119 #[.bool b] w fun e w' => e = .returned (.int .i64 (bitV b)) ∧ w' = w := by
  cases b
  · go_enter Tryz.func119, Tryz.ntmps119
    go_wp2
    go_ret
    exact ⟨rfl, rfl⟩
  · go_enter Tryz.func119, Tryz.ntmps119
    go_wp2
    go_ret
    exact ⟨rfl, rfl⟩

def orderV (l : List UInt8) (a b : Int) : Option Int :=
  if (l == [60]) = true then some (bitV (decide (a < b)))
  else if (l == [60, 61]) = true then some (bitV (decide (a ≤ b)))
  else if (l == [61, 61]) = true then some (bitV (a == b))
  else if (l == [33, 61]) = true then some (bitV (a != b))
  else none
def errOf (o : Option Int) (K : Value) : Value := match o with
  | some _ => .nilIface
  | none => K
def valOf (o : Option Int) : Int := o.getD 0

theorem order_any (s : ByteArray) (a b : Int) (K : Value) (w : World) (hK : w.cell? ⟨5, 0, none⟩ = some K) : Calls Tryz.prog 121 #[.string s, .int .i64 a, .int .i64 b] w (Quiet (.tuple #[.int .i64 (valOf (orderV s.toList a b)), errOf (orderV s.toList a b) K]) w) := by
  go_enter Tryz.func121, Tryz.ntmps121
  go_wp2_with (go_at_call 119; refine (bit_any _ _).mono ?_; rintro e w' ⟨rfl, rfl⟩)
  · go_ret2; refine Quiet.same_of ?_; simp [*, orderV, errOf, valOf]
  · go_ret2; refine Quiet.same_of ?_; simp [*, orderV, errOf, valOf]
  · go_ret2; refine Quiet.same_of ?_; simp [*, orderV, errOf, valOf]
  · go_ret2; refine Quiet.same_of ?_; simp [*, orderV, errOf, valOf]
  · go_quiet (fail)
    go_wp2
    go_ret2
    refine Quiet.drew_of _ ?_; simp [*, orderV, errOf, valOf]

def divV (a b : Int) : Int := if b = 0 then 0 else wrap64 (a.tdiv b)
def remV (a b : Int) : Int := if b = 0 then a else a.tmod b
theorem divV_min : divV (-9223372036854775808) (-1) = -9223372036854775808 := by decide +kernel
theorem remV_min : remV (-9223372036854775808) (-1) = 0 := by decide +kernel
theorem min_forms (b : Int) : Value.tuple #[.int .i64 (wrap64 ((-9223372036854775808).tdiv b)), .int .i64 ((-9223372036854775808).tmod b)] = Value.tuple #[.int .i64 (wrap64 (-Int.tdiv 9223372036854775808 b)), .int .i64 (-(9223372036854775808 % b))] := by
  rw [Int.neg_tdiv, Int.neg_tmod, Int.tmod_eq_emod_of_nonneg (by omega)]
theorem div_any (a b : Int) (w : World) : Calls Tryz.prog 120 #[.int .i64 a, .int .i64 b] w (Quiet (.tuple #[.int .i64 (divV a b), .int .i64 (remV a b)]) w) := by
  by_cases hb : b = 0
  · subst hb
    go_enter Tryz.func120, Tryz.ntmps120
    go_wp2_with fail
    go_ret2; exact Quiet.same_of (by simp [divV, remV])
  · have hb0 : (b == 0) = false := by simp [hb]
    by_cases hm : a = -9223372036854775808 ∧ b = -1
    · obtain ⟨rfl, rfl⟩ := hm
      go_enter Tryz.func120, Tryz.ntmps120
      go_wp2_with fail
      go_ret2; exact Quiet.same_of (by rw [divV_min, remV_min]; rfl)
    · have e1 : divV a b = wrap64 (a.tdiv b) := by unfold divV; rw [if_neg hb]
      have e2 : remV a b = a.tmod b := by unfold remV; rw [if_neg hb]
      rw [e1, e2]
      clear e1 e2
      by_cases ha : a = -9223372036854775808
      · subst ha
        have hb1 : (b == -1) = false := by simpa using hm
        clear hm
        go_enter Tryz.func120, Tryz.ntmps120
        go_wp2_with fail
        go_quiet (fail)
        go_wp2_with fail
        go_ret2; exact Quiet.drew_of _ (min_forms b)
      · have ha1 : (a == -9223372036854775808) = false := by simp [ha]
        clear hm
        go_enter Tryz.func120, Tryz.ntmps120
        go_wp2_with fail
        go_quiet (fail)
        go_wp2_with fail
        go_ret2; exact Quiet.drew_of _ rfl

def doV (l : List UInt8) (a b : Int) : Option Int :=
  if (l == [43]) = true then some (wrap64 (a + b))
  else if (l == [45]) = true then some (wrap64 (a - b))
  else if (l == [42]) = true then some (wrap64 (a * b))
  else if (l == [47]) = true then some (divV a b)
  else if (l == [37]) = true then some (remV a b)
  else if (l == [38]) = true then some (bits .and .i64 a b)
  else if (l == [124]) = true then some (bits .or .i64 a b)
  else if (l == [94]) = true then some (bits .xor .i64 a b)
  else if (l == [60, 60]) = true then some (wrap64 (a * 2 ^ (b % 64).toNat))
  else if (l == [62, 62]) = true then some (a / 2 ^ (b % 64).toNat)
  else orderV l a b
def oneV (l : List UInt8) (a : Int) : Option Int :=
  if (l == [45]) = true then some (wrap64 (-a))
  else if (l == [33]) = true then some (bitV (a == 0))
  else none
theorem Do_any (s : ByteArray) (a b : Int) (K : Value) (w : World) (hK : w.cell? ⟨5, 0, none⟩ = some K) :
    Calls Tryz.prog 107 #[.string s, .int .i64 a, .int .i64 b] w (Quiet (.tuple #[.int .i64 (valOf (doV s.toList a b)), errOf (doV s.toList a b) K]) w) := by
  have h63 := i64_and63 b
  go_enter Tryz.func107, Tryz.ntmps107
  go_wp2_with (first
    | (go_at_call 120; refine (div_any _ _ _).mono ?_; rintro e w' ⟨rfl, n, rfl⟩)
    | (go_at_call 121; refine (order_any _ _ _ K _ hK).mono ?_; rintro e w' ⟨rfl, n, rfl⟩))
  all_goals (go_ret2; first | refine Quiet.drew_of _ ?_ | refine Quiet.same_of ?_)
  all_goals simp [*, doV, errOf, valOf]
theorem One_any (s : ByteArray) (a : Int) (K : Value) (w : World) (hK : w.cell? ⟨5, 0, none⟩ = some K) :
    Calls Tryz.prog 106 #[.string s, .int .i64 a] w (Quiet (.tuple #[.int .i64 (valOf (oneV s.toList a)), errOf (oneV s.toList a) K]) w) := by
  go_enter Tryz.func106, Tryz.ntmps106
  go_wp2_with (first
    | (go_at_call 119; refine (bit_any _ _).mono ?_; rintro e w' ⟨rfl, rfl⟩))
  · go_ret2; refine Quiet.same_of ?_; simp [*, oneV, errOf, valOf]
  · go_ret2; refine Quiet.same_of ?_; simp [*, oneV, errOf, valOf]
  · go_quiet (fail)
    go_wp2_with fail
    go_ret2; refine Quiet.drew_of _ ?_; simp [*, oneV, errOf, valOf]
@[go_sem] theorem errOf_some (v : Int) (K : Value) : errOf (some v) K = .nilIface := rfl
@[go_sem] theorem errOf_none (K : Value) : errOf none K = K := rfl
@[go_sem] theorem valOf_some (v : Int) : valOf (some v) = v := rfl
@[go_sem] theorem valOf_none : valOf none = 0 := rfl
@[go_sem] theorem doV_add (a b : Int) : doV [43] a b = some (wrap64 (a + b)) := rfl
@[go_sem] theorem doV_sub (a b : Int) : doV [45] a b = some (wrap64 (a - b)) := rfl
@[go_sem] theorem doV_mul (a b : Int) : doV [42] a b = some (wrap64 (a * b)) := rfl
@[go_sem] theorem doV_div (a b : Int) : doV [47] a b = some (divV a b) := rfl
@[go_sem] theorem doV_rem (a b : Int) : doV [37] a b = some (remV a b) := rfl
@[go_sem] theorem doV_and (a b : Int) : doV [38] a b = some (bits .and .i64 a b) := rfl
@[go_sem] theorem doV_or (a b : Int) : doV [124] a b = some (bits .or .i64 a b) := rfl
@[go_sem] theorem doV_xor (a b : Int) : doV [94] a b = some (bits .xor .i64 a b) := rfl
@[go_sem] theorem doV_shl (a b : Int) : doV [60, 60] a b = some (wrap64 (a * 2 ^ (b % 64).toNat)) := rfl
@[go_sem] theorem doV_shr (a b : Int) : doV [62, 62] a b = some (a / 2 ^ (b % 64).toNat) := rfl
@[go_sem] theorem doV_lss (a b : Int) : doV [60] a b = some (bitV (decide (a < b))) := rfl
@[go_sem] theorem doV_leq (a b : Int) : doV [60, 61] a b = some (bitV (decide (a ≤ b))) := rfl
@[go_sem] theorem doV_eql (a b : Int) : doV [61, 61] a b = some (bitV (a == b)) := rfl
@[go_sem] theorem doV_neq (a b : Int) : doV [33, 61] a b = some (bitV (a != b)) := rfl
@[go_sem] theorem oneV_neg (a : Int) : oneV [45] a = some (wrap64 (-a)) := rfl
@[go_sem] theorem oneV_not (a : Int) : oneV [33] a = some (bitV (a == 0)) := rfl
@[go_sem] theorem bitV_true : bitV true = 1 := rfl
@[go_sem] theorem bitV_false : bitV false = 0 := rfl
end Go.Proofs.YtonnhechjbdenaaGreatDoor

namespace Go.Proofs.YtonnhechjbdenaaGreatDoor
open Go.RowKit

theorem Index_any (s : ByteArray) (A : Option Addr) (xs : List ByteArray) (c : Nat) (w : World) (hr : Row w A (xs.map .string)) (hn : xs.length ≤ 1000000) :
    Calls Tryz.prog 96 #[.slice A xs.length c, .string s] w fun e w' => e = .returned (.int .i64 (idxV s xs 0)) ∧ w' = w := by
  go_enter Tryz.func96, Tryz.ntmps96
  go_wp2_with fail
  go_loop [8] (fun i => ∃ k : Nat, k ≤ xs.length ∧ i = .int .i64 k ∧ idxV s xs 0 = idxV s (xs.drop k) k) (fun i => xs.length - (intOf i).toNat)
  case atStart => exact ⟨0, Nat.zero_le _, rfl, by simp⟩
  case round =>
    obtain ⟨k, hk, rfl, hI⟩ := hrel
    have HI := Lib.hid hI
    clear hI
    by_cases hlt : k < xs.length
    · obtain ⟨b, off, rfl, hc⟩ := hr k _ (strs_get hlt)
      have HD := Lib.hid (idxV_drop (s := s) hlt)
      by_cases he : (s.toList == xs[k].toList) = true
      · go_wp2_with fail
        go_ret
        exact ⟨by rw [HI.out, HD.out, if_pos he]; rfl, rfl⟩
      · have he' : (s.toList == xs[k].toList) = false := by simpa using he
        have HE := Lib.hid he
        clear he
        go_wp2_with fail
        go_round
        case rel => exact ⟨k + 1, by omega, by go_num, by rw [HI.out, HD.out, if_neg HE.out]⟩
        case measure => simp [intOf]; omega
    · have hk' : k = xs.length := by omega
      subst hk'
      go_wp2_with fail
      go_ret
      exact ⟨by rw [HI.out]; simp [idxV], rfl⟩
end Go.Proofs.YtonnhechjbdenaaGreatDoor

namespace Go.Proofs.YtonnhechjbdenaaGreatDoor
open Go.RowKit

def opsB : List (List UInt8) := [[43], [45], [42], [47], [37], [38], [124], [94], [60, 60], [62, 62], [60], [60, 61], [61, 61], [33, 61]]
def opsL : List ByteArray := opsB.map mkB
def opsO : Obj := .cells (opsL.map Value.string).toArray 9
end Go.Proofs.YtonnhechjbdenaaGreatDoor

namespace Go.Proofs.YtonnhechjbdenaaGreatDoor
open Go.RowKit

theorem two_pow_step (k : Nat) : wrap64 (wrap64 (2 ^ k) + wrap64 (2 ^ k)) = wrap64 (2 ^ (k + 1)) := by
  rw [Int.pow_succ]
  generalize (2 : Int) ^ k = x
  unfold wrap64; omega
theorem mul_wrap (a x : Int) : wrap64 (a * wrap64 x) = wrap64 (a * x) := by
  simp only [w64_toInt, BitVec.ofInt_mul, BitVec.ofInt_toInt]
theorem powerOf_any (n : Int) (h0 : 0 ≤ n) (h1 : n ≤ 63) (w : World) :
    Calls Tryz.prog 59 #[.int .i64 n] w fun e w' => e = .returned (.int .i64 (wrap64 (2 ^ n.toNat))) ∧ w' = w := by
  obtain ⟨m, rfl⟩ := Int.eq_ofNat_of_zero_le h0
  simp only [Int.toNat_natCast]
  go_enter Tryz.func59, Tryz.ntmps59
  go_wp2_with fail
  go_loop [3, 4] (fun p i => ∃ k : Nat, k ≤ m ∧ i = .int .i64 k ∧ p = .int .i64 (wrap64 (2 ^ k))) (fun _ i => m - (intOf i).toNat)
  case atStart => exact ⟨0, Nat.zero_le _, rfl, by unfold wrap64; rfl⟩
  case round =>
    obtain ⟨k, hk, rfl, rfl⟩ := hrel
    by_cases hlt : k < m
    · have HS := Lib.hid (two_pow_step k)
      go_wp2_with fail
      go_round
      case rel => exact ⟨k + 1, by omega, by go_num, by rw [HS.out]⟩
      case measure => simp [intOf]; omega
    · have hk' : k = m := by omega
      subst hk'
      go_wp2_with fail
      go_ret
      exact ⟨rfl, rfl⟩
theorem lowSix_any (n : Int) (w : World) :
    Calls Tryz.prog 60 #[.int .i64 n] w fun e w' => e = .returned (.int .i64 (n % 64)) ∧ w' = w := by
  by_cases h : n.tmod 64 < 0
  · have hq := Int.mul_tdiv_add_tmod n 64
    have b1 : -64 < n.tmod 64 := by have := Int.lt_tmod_of_pos n (show (0:Int) < 64 by decide); omega
    have e : n.tmod 64 + 64 = n % 64 := by omega
    clear hq
    have HE := Lib.hid e
    clear e
    go_enter Tryz.func60, Tryz.ntmps60
    go_wp2_with fail
    go_ret
    exact ⟨by rw [← HE.out]; rfl, rfl⟩
  · have hq := Int.mul_tdiv_add_tmod n 64
    have b1 : n.tmod 64 < 64 := Int.tmod_lt_of_pos n (by decide)
    have e : n.tmod 64 = n % 64 := by omega
    clear hq b1
    have hn : ¬ n % 64 < 0 := by omega
    clear h
    go_enter Tryz.func60, Tryz.ntmps60
    go_wp2_with fail
    go_ret
    exact ⟨rfl, rfl⟩
theorem Bit_any (b : Bool) (w : World) : Calls Tryz.prog 58 #[.bool b] w fun e w' => e = .returned (.int .i64 (bitV b)) ∧ w' = w := by
  cases b
  · go_enter Tryz.func58, Tryz.ntmps58
    go_wp2
    go_ret
    exact ⟨rfl, rfl⟩
  · go_enter Tryz.func58, Tryz.ntmps58
    go_wp2
    go_ret
    exact ⟨rfl, rfl⟩
theorem tmod2 (v : Int) : (v % 2 = 0 → v.tmod 2 = 0) ∧ (v % 2 = 1 → v < 0 → v.tmod 2 = -1) := by
  have hq := Int.mul_tdiv_add_tmod v 2
  have h1 := Int.tmod_lt_of_pos v (show (0:Int) < 2 by decide)
  have h2 := Int.lt_tmod_of_pos v (show (0:Int) < 2 by decide)
  have h3 : v < 0 → v.tmod 2 ≤ 0 := fun h => by
    have := Int.neg_tmod (-v) 2
    rw [Int.neg_neg] at this
    have h4 := Int.tmod_nonneg (a := -v) 2 (by omega)
    omega
  constructor
  · intro h; omega
  · intro h hv; have := h3 hv; omega
theorem tdiv2 (u : Int) (h : u % 2 = 0) : u.tdiv 2 = u / 2 := by
  have hq := Int.mul_tdiv_add_tmod u 2
  have := (tmod2 u).1 h
  omega
theorem shr_I64 (a : Int) (ha : I64 a) (k : Nat) : I64 (a / 2 ^ k) := by
  have hp : (0 : Int) < 2 ^ k := Int.pow_pos (by decide)
  generalize (2 : Int) ^ k = x at *
  unfold I64 at *
  constructor
  · refine Int.le_ediv_of_mul_le hp ?_
    omega
  · refine Int.le_of_lt_add_one (Int.ediv_lt_of_lt_mul hp ?_)
    omega
theorem DoOf_shr (s : ByteArray) (hl : s.toList = [62, 62]) (a b : Int) (ha : I64 a) (w : World) :
    Calls Tryz.prog 34 #[.string s, .int .i64 a, .int .i64 b] w fun e w' => e = .returned (.int .i64 (a / 2 ^ (b % 64).toNat)) ∧ w' = w := by
  obtain ⟨N, hN⟩ : ∃ N : Nat, b % 64 = (N : Int) := ⟨(b % 64).toNat, by omega⟩
  have hN63 : N ≤ 63 := by omega
  have HA := Lib.hid ha
  clear ha
  rw [hN, Int.toNat_natCast]
  go_enter Tryz.func34, Tryz.ntmps34
  go_wp2_with (first
    | (go_at_call 60; refine (lowSix_any _ _).mono ?_; rintro e w' ⟨rfl, rfl⟩))
  clear hl
  go_loop [8, 9] (fun p i => ∃ k : Nat, k ≤ N ∧ i = .int .i64 k ∧ p = .int .i64 (a / 2 ^ k)) (fun _ i => N - (intOf i).toNat)
  case atStart => exact ⟨0, Nat.zero_le _, rfl, by simp⟩
  case round =>
    obtain ⟨k, hk, rfl, rfl⟩ := hrel
    by_cases hlt : k < N
    · obtain ⟨v, hv⟩ : ∃ v, a / 2 ^ k = v := ⟨_, rfl⟩
      have hI := shr_I64 a HA.out k
      have hs : a / 2 ^ (k + 1) = v / 2 := by rw [← hv, Int.pow_succ, Int.ediv_ediv_of_nonneg (Int.le_of_lt (Int.pow_pos (by decide)))]
      rw [hv] at hI ⊢
      have HS := Lib.hid hs
      clear hs hv
      have HI := Lib.hid hI
      have hlo : -9223372036854775808 ≤ v := hI.1
      have hhi : v ≤ 9223372036854775807 := hI.2
      clear hI
      have ht := tmod2 v
      by_cases hp : v % 2 = 0
      · by_cases hv0 : 0 ≤ v
        · clear ht
          go_wp2_with fail
          go_round
          case rel => exact ⟨k + 1, by omega, by go_num, by rw [HS.out]⟩
          case measure => simp [intOf]; omega
        · have h1 := ht.1 hp
          have h2 := Lib.hid (tdiv2 v hp)
          clear ht hp
          go_wp2_with fail
          go_round
          case rel => exact ⟨k + 1, by omega, by go_num, by rw [HS.out, ← h2.out]⟩
          case measure => simp [intOf]; omega
      · have hp1 : v % 2 = 1 := by omega
        clear hp
        by_cases hv0 : 0 ≤ v
        · have h3 := Lib.hid (show (v - 1) / 2 = v / 2 by omega)
          clear ht
          go_wp2_with fail
          go_round
          case rel => exact ⟨k + 1, by omega, by go_num, by rw [HS.out, h3.out]⟩
          case measure => simp [intOf]; omega
        · have h1 := ht.2 hp1 (by omega)
          have hlo' : -9223372036854775807 ≤ v := by omega
          have h2 := Lib.hid (tdiv2 (v - 1) (by omega))
          have h3 := Lib.hid (show (v - 1) / 2 = v / 2 by omega)
          clear ht hp1
          go_wp2_with fail
          go_round
          case rel => exact ⟨k + 1, by omega, by go_num, by rw [HS.out, ← h3.out, ← h2.out]⟩
          case measure => simp [intOf]; omega
    · have hk' : k = N := by omega
      subst hk'
      go_wp2_with fail
      go_ret
      exact ⟨rfl, rfl⟩
end Go.Proofs.YtonnhechjbdenaaGreatDoor

namespace Go.Proofs.YtonnhechjbdenaaGreatDoor
open Go.RowKit

/-- DoOf's own answer. -/
def dofV (l : List UInt8) (a b : Int) : Int :=
  if (l == [43]) = true then wrap64 (a + b)
  else if (l == [45]) = true then wrap64 (a - b)
  else if (l == [42]) = true then wrap64 (a * b)
  else if (l == [47]) = true then divV a b
  else if (l == [37]) = true then remV a b
  else if (l == [38]) = true then bits .and .i64 a b
  else if (l == [124]) = true then bits .or .i64 a b
  else if (l == [94]) = true then bits .xor .i64 a b
  else if (l == [60, 60]) = true then wrap64 (a * 2 ^ (b % 64).toNat)
  else if (l == [62, 62]) = true then a / 2 ^ (b % 64).toNat
  else if (l == [60]) = true then bitV (decide (a < b))
  else if (l == [60, 61]) = true then bitV (decide (a ≤ b))
  else if (l == [61, 61]) = true then bitV (a == b)
  else bitV (a != b)
set_option maxHeartbeats 1000000 in
theorem DoOf_any (s : ByteArray) (a b : Int) (ha : I64 a) (w : World) :
    Calls Tryz.prog 34 #[.string s, .int .i64 a, .int .i64 b] w fun e w' => e = .returned (.int .i64 (dofV s.toList a b)) ∧ w' = w := by
  by_cases hl : s.toList = [62, 62]
  · refine (DoOf_shr s hl a b ha w).mono ?_
    rintro e w' ⟨rfl, rfl⟩
    exact ⟨by rw [hl]; rfl, rfl⟩
  · have hl' : (s.toList == [62, 62]) = false := by simpa using hl
    clear hl
    have hpos : 0 ≤ b % 64 := by omega
    have hle : b % 64 ≤ 63 := by omega
    have hw := mul_wrap a (2 ^ (b % 64).toNat)
    have HW := Lib.hid hw
    clear hw ha
    by_cases h0 : b = 0
    · subst h0
      go_enter Tryz.func34, Tryz.ntmps34
      go_wp2_with (first
        | (go_at_call 60; refine (lowSix_any _ _).mono ?_; rintro e w' ⟨rfl, rfl⟩)
        | (go_at_call 59; refine (powerOf_any _ (by omega) (by omega) _).mono ?_; rintro e w' ⟨rfl, rfl⟩)
        | (go_at_call 58; refine (Bit_any _ _).mono ?_; rintro e w' ⟨rfl, rfl⟩))
      all_goals (go_ret; refine ⟨?_, rfl⟩; simp [*, dofV, divV, remV])
      all_goals (first | (have := HW.out; simpa using this; done) | (unfold wrap64; rfl))
    · by_cases h1 : b = -1
      · subst h1
        go_enter Tryz.func34, Tryz.ntmps34
        go_wp2_with (first
          | (go_at_call 60; refine (lowSix_any _ _).mono ?_; rintro e w' ⟨rfl, rfl⟩)
          | (go_at_call 59; refine (powerOf_any _ (by omega) (by omega) _).mono ?_; rintro e w' ⟨rfl, rfl⟩)
          | (go_at_call 58; refine (Bit_any _ _).mono ?_; rintro e w' ⟨rfl, rfl⟩))
        all_goals (go_ret; refine ⟨?_, rfl⟩; simp [*, dofV, divV, remV])
        all_goals (first | (have := HW.out; simpa using this; done) | (unfold wrap64; rfl))
      · have b0 : (b == 0) = false := by simpa using h0
        have b1 : (b == -1) = false := by simpa using h1
        clear h1
        go_enter Tryz.func34, Tryz.ntmps34
        go_wp2_with (first
          | (go_at_call 60; refine (lowSix_any _ _).mono ?_; rintro e w' ⟨rfl, rfl⟩)
          | (go_at_call 59; refine (powerOf_any _ (by omega) (by omega) _).mono ?_; rintro e w' ⟨rfl, rfl⟩)
          | (go_at_call 58; refine (Bit_any _ _).mono ?_; rintro e w' ⟨rfl, rfl⟩))
        all_goals (go_ret; refine ⟨?_, rfl⟩; simp [*, dofV, divV, remV])
        all_goals (first | (have := HW.out; simpa using this; done) | (unfold wrap64; rfl))
theorem OneOf_any (s : ByteArray) (a v : Int) (hv : oneV s.toList a = some v) (w : World) : Calls Tryz.prog 33 #[.string s, .int .i64 a] w fun e w' => e = .returned (.int .i64 v) ∧ w' = w := by
  have HV := Lib.hid hv
  clear hv
  cases h1 : (s.toList == [45])
  all_goals
    go_enter Tryz.func33, Tryz.ntmps33
    go_wp2_with (go_at_call 58; refine (Bit_any _ _).mono ?_; rintro e w' ⟨rfl, rfl⟩)
    go_ret
    have e := HV.out
    unfold oneV at e
    rw [h1] at e
    simp at e
  · exact ⟨by rw [← e.2]; rfl, rfl⟩
  · exact ⟨by rw [← e]; simp, rfl⟩
theorem doV_ops (l : List UInt8) (a b : Int) : (doV l a b).isSome = opsB.any (fun x => x == l) := by
  by_cases hm : l ∈ opsB
  · have h1 : opsB.any (fun x => x == l) = true := List.any_eq_true.2 ⟨l, hm, by simp⟩
    rw [h1]
    simp only [opsB, List.mem_cons, List.not_mem_nil, or_false] at hm
    rcases hm with rfl | rfl | rfl | rfl | rfl | rfl | rfl | rfl | rfl | rfl | rfl | rfl | rfl | rfl <;> rfl
  · have h1 : opsB.any (fun x => x == l) = false := by
      rw [List.any_eq_false]
      intro x hx e
      exact hm (by have := eq_of_beq e; exact this ▸ hx)
    rw [h1]
    simp only [opsB, List.mem_cons, List.not_mem_nil, or_false, not_or] at hm
    simp [doV, orderV, hm]
theorem doV_dofV (l : List UInt8) (a b v : Int) (h : doV l a b = some v) : dofV l a b = v := by
  have hs : opsB.any (fun x => x == l) = true := by rw [← doV_ops l a b, h]; rfl
  obtain ⟨x, hm, e⟩ := List.any_eq_true.1 hs
  obtain rfl := eq_of_beq e
  simp only [opsB, List.mem_cons, List.not_mem_nil, or_false] at hm
  rcases hm with rfl | rfl | rfl | rfl | rfl | rfl | rfl | rfl | rfl | rfl | rfl | rfl | rfl | rfl <;> exact Option.some.inj h
theorem bitV_I64 (b : Bool) : I64 (bitV b) := by cases b <;> (unfold I64 bitV; decide)
theorem tmod_I64 {a : Int} (ha : I64 a) (b : Int) : I64 (a.tmod b) := by
  have h1 : (a.tmod b).natAbs ≤ a.natAbs := by rw [Int.natAbs_tmod]; exact Nat.mod_le _ _
  unfold I64 at *
  by_cases h : 0 ≤ a
  · omega
  · have h2 : 0 ≤ (-a).tmod b := Int.tmod_nonneg b (by omega)
    rw [Int.neg_tmod] at h2
    omega
theorem divV_I64 (a b : Int) : I64 (divV a b) := by
  unfold divV
  split
  · unfold I64; omega
  · exact wrap64_I64 _
theorem remV_I64 {a : Int} (ha : I64 a) (b : Int) : I64 (remV a b) := by
  unfold remV
  split
  · exact ha
  · exact tmod_I64 ha b
theorem ite_I64 {c : Prop} [Decidable c] {a b : Int} (h1 : I64 a) (h2 : I64 b) : I64 (if c then a else b) := by split <;> assumption
theorem dofV_I64 (l : List UInt8) {a : Int} (ha : I64 a) (b : Int) : I64 (dofV l a b) := by
  unfold dofV
  repeat' (with_reducible refine ite_I64 ?_ ?_)
  all_goals first
    | exact wrap64_I64 _
    | exact divV_I64 _ _
    | exact remV_I64 ha _
    | exact bits_I64 _ _ _
    | exact shr_I64 _ ha _
    | exact bitV_I64 _
end Go.Proofs.YtonnhechjbdenaaGreatDoor

namespace Go.Proofs.YtonnhechjbdenaaGreatDoor
open Go.RowKit

/-! codes of registers, in plain Lean -/
structure PLow where
  kind : List UInt8
  d : Int
  a : Int
  b : Int
  num : Int
  name : List UInt8
structure PBlk where
  ins : List PLow
  fin : List UInt8
  a : Int
  nx : List Int
structure PCd where
  name : List UInt8
  params : Int
  slots : Int
  blocks : List PBlk
def kParam : List UInt8 := [112, 97, 114, 97, 109]
def kConst : List UInt8 := [99, 111, 110, 115, 116]
def kLoad : List UInt8 := [108, 111, 97, 100]
def kOne : List UInt8 := [111, 110, 101]
def kTwo : List UInt8 := [116, 119, 111]
def kMove : List UInt8 := [109, 111, 118, 101]
def kStore : List UInt8 := [115, 116, 111, 114, 101]
def kArg : List UInt8 := [97, 114, 103]
def kCall : List UInt8 := [99, 97, 108, 108]
def kTick : List UInt8 := [116, 105, 99, 107]
def kPrint : List UInt8 := [112, 114, 105, 110, 116]
def eJump : List UInt8 := [106, 117, 109, 112]
def eIf : List UInt8 := [105, 102]
def eReturn : List UInt8 := [114, 101, 116, 117, 114, 110]
/-- A kind's number: 0 for one that there is not. -/
def kindN (k : List UInt8) : Nat :=
  if (k == kParam) = true then 1 else if (k == kConst) = true then 2 else if (k == kLoad) = true then 3 else if (k == kOne) = true then 4
  else if (k == kTwo) = true then 5 else if (k == kMove) = true then 6 else if (k == kStore) = true then 7 else if (k == kArg) = true then 8
  else if (k == kCall) = true then 9 else if (k == kTick) = true then 10 else if (k == kPrint) = true then 11 else 0
def kHas : Nat → List UInt8
  | 1 => [100, 110]
  | 2 => [100, 110]
  | 3 => [100, 110]
  | 4 => [100, 97, 115]
  | 5 => [100, 97, 98, 115]
  | 6 => [100, 97]
  | 7 => [97, 110]
  | 8 => [97, 110]
  | 9 => [100, 110, 115]
  | 11 => [97]
  | _ => []
def regA (n : Int) : Bool := decide (0 ≤ n) && decide (n < 8)
/-- Is a kind one, and its op? -/
def lowKnown (x : PLow) : Bool :=
  if kindN x.kind = 4 then (oneV x.name 0).isSome else if kindN x.kind = 5 then (doV x.name 0 0).isSome else kindN x.kind != 0
def lowNumber (c : PCd) (x : PLow) : Bool :=
  match kindN x.kind with
  | 1 => decide (0 ≤ x.num) && decide (x.num < c.params)
  | 3 => decide (0 ≤ x.num) && decide (x.num < c.slots)
  | 7 => decide (0 ≤ x.num) && decide (x.num < c.slots)
  | 8 => decide (0 ≤ x.num) && decide (x.num < 4)
  | 9 => decide (0 ≤ x.num) && decide (x.num ≤ 4)
  | _ => true
def lowHas (x : PLow) (l : UInt8) : Bool := (kHas (kindN x.kind)).contains l
def lowWithin (c : PCd) (x : PLow) : Bool :=
  lowNumber c x && (!lowHas x 100 || regA x.d) && (!lowHas x 97 || regA x.a) && (!lowHas x 98 || regA x.b)
def lowBare (x : PLow) : Bool :=
  (lowHas x 100 || x.d == 0) && (lowHas x 97 || x.a == 0) && (lowHas x 98 || x.b == 0) && (lowHas x 110 || x.num == 0) && (lowHas x 115 || x.name.isEmpty)
/-- How many blocks come behind an end (-1: there is no such end). -/
def endN (e : List UInt8) : Int := if (e == eJump) = true then 1 else if (e == eIf) = true then 2 else if (e == eReturn) = true then 0 else -1
def farTo (n : Nat) (l : List Int) : Bool := l.any fun k => decide (k < 0) || decide ((n : Int) ≤ k)
def blkKind (b : PBlk) : Bool := decide (endN b.fin < 0) || !b.ins.all lowKnown
def blkBound (c : PCd) (b : PBlk) : Bool := farTo c.blocks.length b.nx || (b.fin != eJump && !regA b.a) || !b.ins.all (lowWithin c)
def blkShape (b : PBlk) : Bool := ((b.nx.length : Int) != endN b.fin) || (b.fin == eJump && b.a != 0) || !b.ins.all lowBare
def blkC (c : PCd) (b : PBlk) : Nat := if blkKind b then 4 else if blkBound c b then 2 else if blkShape b then 3 else 0
def blksC (c : PCd) : List PBlk → Nat → Nat × Int
  | [], _ => (0, -1)
  | b :: l, k => if blkC c b ≠ 0 then (blkC c b, (k : Int)) else blksC c l (k + 1)
def lowC (c : PCd) : Nat × Int :=
  if 3000 < c.blocks.length then (8, -1) else if c.blocks.length = 0 then (3, -1) else if c.params < 0 ∨ 4 < c.params then (9, -1)
  else if c.slots < 0 ∨ 1000 < c.slots then (2, -1) else blksC c c.blocks 0

/-! a walk -/
structure ASt where
  r : List Int
  slots : List Int
  next : List Int
  out : List Int
  calls : List (List UInt8 × List Int)
  ticks : Int
def putR (s : ASt) (x : PLow) (v : Int) : ASt := { s with r := s.r.set x.d.toNat v }
/-! what a right code is -/
structure LowOk (c : PCd) (x : PLow) : Prop where
  known : lowKnown x = true
  within : lowWithin c x = true
  bare : lowBare x = true
structure BlkOk (c : PCd) (b : PBlk) : Prop where
  fin : 0 ≤ endN b.fin
  nx : (b.nx.length : Int) = endN b.fin
  far : ∀ k ∈ b.nx, 0 ≤ k ∧ k < c.blocks.length
  reg : b.fin ≠ eJump → 0 ≤ b.a ∧ b.a < 8
  ins : ∀ x ∈ b.ins, LowOk c x
structure GoodA (c : PCd) : Prop where
  some : 0 < c.blocks.length
  most : c.blocks.length ≤ 3000
  params : 0 ≤ c.params ∧ c.params ≤ 4
  slots : 0 ≤ c.slots ∧ c.slots ≤ 1000
  blocks : ∀ b ∈ c.blocks, BlkOk c b
theorem blksC_zero {c : PCd} : ∀ {l : List PBlk} {k : Nat}, (blksC c l k).1 = 0 ↔ ∀ b ∈ l, blkC c b = 0 := by
  intro l
  induction l with
  | nil => intro k; exact ⟨fun _ b h => (by cases h), fun _ => rfl⟩
  | cons b l ih =>
    intro k
    unfold blksC
    by_cases h : blkC c b = 0
    · rw [if_neg (by simpa using h), ih]
      exact ⟨fun g x hx => by rcases List.mem_cons.1 hx with rfl | hx; exact h; exact g x hx, fun g x hx => g x (List.mem_cons_of_mem _ hx)⟩
    · rw [if_pos h]
      exact ⟨fun g => absurd g h, fun g => absurd (g b List.mem_cons_self) h⟩
theorem blk_ok {c : PCd} {b : PBlk} (h : blkC c b = 0) : BlkOk c b := by
  unfold blkC at h
  split at h
  · exact absurd h (by decide)
  · rename_i h1
    split at h
    · exact absurd h (by decide)
    · rename_i h2
      split at h
      · exact absurd h (by decide)
      · rename_i h3
        have k1 : ¬ endN b.fin < 0 ∧ b.ins.all lowKnown = true := by
          unfold blkKind at h1
          cases hk : b.ins.all lowKnown
          · rw [hk] at h1; simp at h1
          · rw [hk] at h1; exact ⟨by simpa using h1, rfl⟩
        have k2 : farTo c.blocks.length b.nx = false ∧ (b.fin ≠ eJump → regA b.a = true) ∧ b.ins.all (lowWithin c) = true := by
          unfold blkBound at h2
          cases hf : farTo c.blocks.length b.nx
          · cases hk : b.ins.all (lowWithin c)
            · rw [hk] at h2; simp at h2
            · refine ⟨rfl, fun he => ?_, rfl⟩
              cases hr : regA b.a
              · rw [hr] at h2; simp [he] at h2
              · rfl
          · rw [hf] at h2; simp at h2
        have k3 : (b.nx.length : Int) = endN b.fin ∧ b.ins.all lowBare = true := by
          unfold blkShape at h3
          cases hk : b.ins.all lowBare
          · rw [hk] at h3; simp at h3
          · refine ⟨?_, rfl⟩
            by_cases he : (b.nx.length : Int) = endN b.fin
            · exact he
            · simp [he] at h3
        refine ⟨by omega, k3.1, fun k hk => ?_, fun hf => ?_, fun x hx => ⟨List.all_eq_true.1 k1.2 x hx, List.all_eq_true.1 k2.2.2 x hx, List.all_eq_true.1 k3.2 x hx⟩⟩
        · have h9 := k2.1
          unfold farTo at h9
          rw [List.any_eq_false] at h9
          have := h9 k hk
          simp only [Bool.or_eq_true, decide_eq_true_eq, not_or] at this
          omega
        · have h9 := k2.2.1 hf
          unfold regA at h9
          simp only [Bool.and_eq_true, decide_eq_true_eq] at h9
          exact h9
theorem lowC_good {c : PCd} (h : (lowC c).1 = 0) : GoodA c := by
  unfold lowC at h
  split at h
  · exact absurd h (by decide)
  · split at h
    · exact absurd h (by decide)
    · split at h
      · exact absurd h (by decide)
      · split at h
        · exact absurd h (by decide)
        · rename_i h1 h2 h3 h4
          exact ⟨by omega, by omega, by omega, by omega, fun b hb => blk_ok (blksC_zero.1 h b hb)⟩
end Go.Proofs.YtonnhechjbdenaaGreatDoor
