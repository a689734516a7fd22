import Derived.Test.YteifmgcbafemeaaGreatDoorBase
import Derived.Test.YteifmgcbafemeaaGreatDoorValP
namespace Go.Proofs.YteifmgcbafemeaaGreatDoor
open Go.RowKit

def bitV (b : Bool) : Int := if b then 1 else 0
theorem bit_any (b : Bool) (w : World) : Calls Tryz.prog 116 #[.bool b] w fun e w' => e = .returned (.int .i64 (bitV b)) ∧ w' = w := by
  cases b
  · go_enter Tryz.func116, Tryz.ntmps116
    go_wp2
    go_ret
    exact ⟨rfl, rfl⟩
  · go_enter Tryz.func116, Tryz.ntmps116
    go_wp2
    go_ret
    exact ⟨rfl, rfl⟩

def orderV (l : List UInt8) (a b : Int) : Option Int :=
  if (l == [60]) = true then some (bitV (decide (a < b)))
  else if (l == [60, 61]) = true then some (bitV (decide (a ≤ b)))
  else if (l == [61, 61]) = true then some (bitV (a == b))
  else if (l == [33, 61]) = true then some (bitV (a != b))
  else none
def errOf (o : Option Int) (K : Value) : Value := match o with
  | some _ => .nilIface
  | none => K
def valOf (o : Option Int) : Int := o.getD 0

theorem order_any (s : ByteArray) (a b : Int) (K : Value) (w : World) (hK : w.cell? ⟨6, 0, none⟩ = some K) : Calls Tryz.prog 118 #[.string s, .int .i64 a, .int .i64 b] w (Quiet (.tuple #[.int .i64 (valOf (orderV s.toList a b)), errOf (orderV s.toList a b) K]) w) := by
  go_enter Tryz.func118, Tryz.ntmps118
  go_wp2_with (go_at_call 116; refine (bit_any _ _).mono ?_; rintro e w' ⟨rfl, rfl⟩)
  · go_ret2; refine Quiet.same_of ?_; simp [*, orderV, errOf, valOf]
  · go_ret2; refine Quiet.same_of ?_; simp [*, orderV, errOf, valOf]
  · go_ret2; refine Quiet.same_of ?_; simp [*, orderV, errOf, valOf]
  · go_ret2; refine Quiet.same_of ?_; simp [*, orderV, errOf, valOf]
  · go_quiet (fail)
    go_wp2
    go_ret2
    refine Quiet.drew_of _ ?_; simp [*, orderV, errOf, valOf]

def divV (a b : Int) : Int := if b = 0 then 0 else wrap64 (a.tdiv b)
def remV (a b : Int) : Int := if b = 0 then a else a.tmod b
theorem divV_min : divV (-9223372036854775808) (-1) = -9223372036854775808 := by decide +kernel
theorem remV_min : remV (-9223372036854775808) (-1) = 0 := by decide +kernel
theorem min_forms (b : Int) : Value.tuple #[.int .i64 (wrap64 ((-9223372036854775808).tdiv b)), .int .i64 ((-9223372036854775808).tmod b)] = Value.tuple #[.int .i64 (wrap64 (-Int.tdiv 9223372036854775808 b)), .int .i64 (-(9223372036854775808 % b))] := by
  rw [Int.neg_tdiv, Int.neg_tmod, Int.tmod_eq_emod_of_nonneg (by omega)]
theorem div_any (a b : Int) (w : World) : Calls Tryz.prog 117 #[.int .i64 a, .int .i64 b] w (Quiet (.tuple #[.int .i64 (divV a b), .int .i64 (remV a b)]) w) := by
  by_cases hb : b = 0
  · subst hb
    go_enter Tryz.func117, Tryz.ntmps117
    go_wp2_with fail
    go_ret2; exact Quiet.same_of (by simp [divV, remV])
  · have hb0 : (b == 0) = false := by simp [hb]
    by_cases hm : a = -9223372036854775808 ∧ b = -1
    · obtain ⟨rfl, rfl⟩ := hm
      go_enter Tryz.func117, Tryz.ntmps117
      go_wp2_with fail
      go_ret2; exact Quiet.same_of (by rw [divV_min, remV_min]; rfl)
    · have e1 : divV a b = wrap64 (a.tdiv b) := by unfold divV; rw [if_neg hb]
      have e2 : remV a b = a.tmod b := by unfold remV; rw [if_neg hb]
      rw [e1, e2]
      clear e1 e2
      by_cases ha : a = -9223372036854775808
      · subst ha
        have hb1 : (b == -1) = false := by simpa using hm
        clear hm
        go_enter Tryz.func117, Tryz.ntmps117
        go_wp2_with fail
        go_quiet (fail)
        go_wp2_with fail
        go_ret2; exact Quiet.drew_of _ (min_forms b)
      · have ha1 : (a == -9223372036854775808) = false := by simp [ha]
        clear hm
        go_enter Tryz.func117, Tryz.ntmps117
        go_wp2_with fail
        go_quiet (fail)
        go_wp2_with fail
        go_ret2; exact Quiet.drew_of _ rfl

def doV (l : List UInt8) (a b : Int) : Option Int :=
  if (l == [43]) = true then some (wrap64 (a + b))
  else if (l == [45]) = true then some (wrap64 (a - b))
  else if (l == [42]) = true then some (wrap64 (a * b))
  else if (l == [47]) = true then some (divV a b)
  else if (l == [37]) = true then some (remV a b)
  else if (l == [38]) = true then some (bits .and .i64 a b)
  else if (l == [124]) = true then some (bits .or .i64 a b)
  else if (l == [94]) = true then some (bits .xor .i64 a b)
  else if (l == [60, 60]) = true then some (wrap64 (a * 2 ^ (b % 64).toNat))
  else if (l == [62, 62]) = true then some (a / 2 ^ (b % 64).toNat)
  else orderV l a b
def oneV (l : List UInt8) (a : Int) : Option Int :=
  if (l == [45]) = true then some (wrap64 (-a))
  else if (l == [33]) = true then some (bitV (a == 0))
  else none
theorem Do_any (s : ByteArray) (a b : Int) (K : Value) (w : World) (hK : w.cell? ⟨6, 0, none⟩ = some K) :
    Calls Tryz.prog 109 #[.string s, .int .i64 a, .int .i64 b] w (Quiet (.tuple #[.int .i64 (valOf (doV s.toList a b)), errOf (doV s.toList a b) K]) w) := by
  have h63 := i64_and63 b
  go_enter Tryz.func109, Tryz.ntmps109
  go_wp2_with (first
    | (go_at_call 117; refine (div_any _ _ _).mono ?_; rintro e w' ⟨rfl, n, rfl⟩)
    | (go_at_call 118; refine (order_any _ _ _ K _ hK).mono ?_; rintro e w' ⟨rfl, n, rfl⟩))
  all_goals (go_ret2; first | refine Quiet.drew_of _ ?_ | refine Quiet.same_of ?_)
  all_goals simp [*, doV, errOf, valOf]
theorem One_any (s : ByteArray) (a : Int) (K : Value) (w : World) (hK : w.cell? ⟨6, 0, none⟩ = some K) :
    Calls Tryz.prog 108 #[.string s, .int .i64 a] w (Quiet (.tuple #[.int .i64 (valOf (oneV s.toList a)), errOf (oneV s.toList a) K]) w) := by
  go_enter Tryz.func108, Tryz.ntmps108
  go_wp2_with (first
    | (go_at_call 116; refine (bit_any _ _).mono ?_; rintro e w' ⟨rfl, rfl⟩))
  · go_ret2; refine Quiet.same_of ?_; simp [*, oneV, errOf, valOf]
  · go_ret2; refine Quiet.same_of ?_; simp [*, oneV, errOf, valOf]
  · go_quiet (fail)
    go_wp2_with fail
    go_ret2; refine Quiet.drew_of _ ?_; simp [*, oneV, errOf, valOf]
@[go_sem] theorem errOf_some (v : Int) (K : Value) : errOf (some v) K = .nilIface := rfl
@[go_sem] theorem errOf_none (K : Value) : errOf none K = K := rfl
@[go_sem] theorem valOf_some (v : Int) : valOf (some v) = v := rfl
@[go_sem] theorem valOf_none : valOf none = 0 := rfl
@[go_sem] theorem doV_add (a b : Int) : doV [43] a b = some (wrap64 (a + b)) := rfl
@[go_sem] theorem doV_sub (a b : Int) : doV [45] a b = some (wrap64 (a - b)) := rfl
@[go_sem] theorem doV_mul (a b : Int) : doV [42] a b = some (wrap64 (a * b)) := rfl
@[go_sem] theorem doV_div (a b : Int) : doV [47] a b = some (divV a b) := rfl
@[go_sem] theorem doV_rem (a b : Int) : doV [37] a b = some (remV a b) := rfl
@[go_sem] theorem doV_and (a b : Int) : doV [38] a b = some (bits .and .i64 a b) := rfl
@[go_sem] theorem doV_or (a b : Int) : doV [124] a b = some (bits .or .i64 a b) := rfl
@[go_sem] theorem doV_xor (a b : Int) : doV [94] a b = some (bits .xor .i64 a b) := rfl
@[go_sem] theorem doV_shl (a b : Int) : doV [60, 60] a b = some (wrap64 (a * 2 ^ (b % 64).toNat)) := rfl
@[go_sem] theorem doV_shr (a b : Int) : doV [62, 62] a b = some (a / 2 ^ (b % 64).toNat) := rfl
@[go_sem] theorem doV_lss (a b : Int) : doV [60] a b = some (bitV (decide (a < b))) := rfl
@[go_sem] theorem doV_leq (a b : Int) : doV [60, 61] a b = some (bitV (decide (a ≤ b))) := rfl
@[go_sem] theorem doV_eql (a b : Int) : doV [61, 61] a b = some (bitV (a == b)) := rfl
@[go_sem] theorem doV_neq (a b : Int) : doV [33, 61] a b = some (bitV (a != b)) := rfl
@[go_sem] theorem oneV_neg (a : Int) : oneV [45] a = some (wrap64 (-a)) := rfl
@[go_sem] theorem oneV_not (a : Int) : oneV [33] a = some (bitV (a == 0)) := rfl
@[go_sem] theorem bitV_true : bitV true = 1 := rfl
@[go_sem] theorem bitV_false : bitV false = 0 := rfl
end Go.Proofs.YteifmgcbafemeaaGreatDoor
