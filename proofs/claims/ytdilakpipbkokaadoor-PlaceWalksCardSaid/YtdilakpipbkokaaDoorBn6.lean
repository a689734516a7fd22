import Derived.Test.YtdilakpipbkokaaDoorBn5
import Derived.Test.YtdilakpipbkokaaDoorBn3
import Derived.Test.YtdilakpipbkokaaDoorBn4
set_option linter.unusedVariables false
set_option linter.unusedSimpArgs false
namespace Go.Proofs.YtdilakpipbkokaaDoor
open Go.RowKit

/-- DoOf's own answer. -/
def dofV (l : List UInt8) (a b : Int) : Int :=
  if (l == [43]) = true then wrap64 (a + b)
  else if (l == [45]) = true then wrap64 (a - b)
  else if (l == [42]) = true then wrap64 (a * b)
  else if (l == [47]) = true then divV a b
  else if (l == [37]) = true then remV a b
  else if (l == [38]) = true then bits .and .i64 a b
  else if (l == [124]) = true then bits .or .i64 a b
  else if (l == [94]) = true then bits .xor .i64 a b
  else if (l == [60, 60]) = true then wrap64 (a * 2 ^ (b % 64).toNat)
  else if (l == [62, 62]) = true then a / 2 ^ (b % 64).toNat
  else if (l == [60]) = true then bitV (decide (a < b))
  else if (l == [60, 61]) = true then bitV (decide (a ≤ b))
  else if (l == [61, 61]) = true then bitV (a == b)
  else bitV (a != b)
theorem divV_neg (a : Int) : divV a (-1) = wrap64 (-a) := by unfold divV; simp
theorem remV_neg (a : Int) : remV a (-1) = 0 := by unfold remV; simp
theorem divV_other (a b : Int) (h0 : (b == 0) = false) : divV a b = wrap64 (a.tdiv b) := by unfold divV; rw [if_neg (by simpa using h0)]
theorem remV_other (a b : Int) (h0 : (b == 0) = false) : remV a b = a.tmod b := by unfold remV; rw [if_neg (by simpa using h0)]
set_option maxHeartbeats 1000000 in
theorem DoOf_any (s : ByteArray) (a b : Int) (ha : I64 a) (w : World) :
    Calls Tryd.prog 24 #[.string s, .int .i64 a, .int .i64 b] w fun e w' => e = .returned (.int .i64 (dofV s.toList a b)) ∧ w' = w := by
  by_cases hl : s.toList = [62, 62]
  · refine (DoOf_shr s hl a b ha w).mono ?_
    rintro e w' ⟨rfl, rfl⟩
    exact ⟨by rw [hl]; rfl, rfl⟩
  · have hl' : (s.toList == [62, 62]) = false := by simpa using hl
    clear hl
    have hpos : 0 ≤ b % 64 := by omega
    have hle : b % 64 ≤ 63 := by omega
    have hw := mul_wrap a (2 ^ (b % 64).toNat)
    have HW := Lib.hid hw
    clear hw ha
    by_cases h0 : b = 0
    · subst h0
      go_enter Tryd.func24, Tryd.ntmps24
      go_wp2_with (first
        | (go_at_call 38; refine (lowSix_any _ _).mono ?_; rintro e w' ⟨rfl, rfl⟩)
        | (go_at_call 37; refine (powerOf_any _ (by omega) (by omega) _).mono ?_; rintro e w' ⟨rfl, rfl⟩)
        | (go_at_call 36; refine (Bit_any _ _).mono ?_; rintro e w' ⟨rfl, rfl⟩))
      all_goals (go_ret; refine ⟨?_, rfl⟩; simp [*, dofV, divV, remV])
      all_goals (first | (have := HW.out; simpa using this; done) | (unfold wrap64; rfl))
    · by_cases h1 : b = -1
      · subst h1
        go_enter Tryd.func24, Tryd.ntmps24
        go_wp2_with (first
          | (go_at_call 38; refine (lowSix_any _ _).mono ?_; rintro e w' ⟨rfl, rfl⟩)
          | (go_at_call 37; refine (powerOf_any _ (by omega) (by omega) _).mono ?_; rintro e w' ⟨rfl, rfl⟩)
          | (go_at_call 36; refine (Bit_any _ _).mono ?_; rintro e w' ⟨rfl, rfl⟩))
        all_goals (go_ret; refine ⟨?_, rfl⟩; simp [*, dofV, divV, remV])
        all_goals (first | (have := HW.out; simpa using this; done) | (unfold wrap64; rfl))
      · have b0 : (b == 0) = false := by simpa using h0
        have b1 : (b == -1) = false := by simpa using h1
        clear h1
        go_enter Tryd.func24, Tryd.ntmps24
        go_wp2_with (first
          | (go_at_call 38; refine (lowSix_any _ _).mono ?_; rintro e w' ⟨rfl, rfl⟩)
          | (go_at_call 37; refine (powerOf_any _ (by omega) (by omega) _).mono ?_; rintro e w' ⟨rfl, rfl⟩)
          | (go_at_call 36; refine (Bit_any _ _).mono ?_; rintro e w' ⟨rfl, rfl⟩))
        all_goals (go_ret; refine ⟨?_, rfl⟩; simp [*, dofV, divV, remV])
        all_goals (first | (have := HW.out; simpa using this; done) | (unfold wrap64; rfl))
theorem OneOf_any (s : ByteArray) (a v : Int) (hv : oneV s.toList a = some v) (w : World) : Calls Tryd.prog 23 #[.string s, .int .i64 a] w fun e w' => e = .returned (.int .i64 v) ∧ w' = w := by
  have HV := Lib.hid hv
  clear hv
  cases h1 : (s.toList == [45])
  all_goals
    go_enter Tryd.func23, Tryd.ntmps23
    go_wp2_with (go_at_call 36; refine (Bit_any _ _).mono ?_; rintro e w' ⟨rfl, rfl⟩)
    go_ret
    have e := HV.out
    unfold oneV at e
    rw [h1] at e
    simp at e
  · exact ⟨by rw [← e.2]; rfl, rfl⟩
  · exact ⟨by rw [← e]; simp, rfl⟩
theorem doV_ops (l : List UInt8) (a b : Int) : (doV l a b).isSome = opsB.any (fun x => x == l) := by
  by_cases hm : l ∈ opsB
  · have h1 : opsB.any (fun x => x == l) = true := List.any_eq_true.2 ⟨l, hm, by simp⟩
    rw [h1]
    simp only [opsB, List.mem_cons, List.not_mem_nil, or_false] at hm
    rcases hm with rfl | rfl | rfl | rfl | rfl | rfl | rfl | rfl | rfl | rfl | rfl | rfl | rfl | rfl <;> rfl
  · have h1 : opsB.any (fun x => x == l) = false := by
      rw [List.any_eq_false]
      intro x hx e
      exact hm (by have := eq_of_beq e; exact this ▸ hx)
    rw [h1]
    simp only [opsB, List.mem_cons, List.not_mem_nil, or_false, not_or] at hm
    simp [doV, orderV, hm]
theorem doV_dofV (l : List UInt8) (a b v : Int) (h : doV l a b = some v) : dofV l a b = v := by
  have hs : opsB.any (fun x => x == l) = true := by rw [← doV_ops l a b, h]; rfl
  obtain ⟨x, hm, e⟩ := List.any_eq_true.1 hs
  obtain rfl := eq_of_beq e
  simp only [opsB, List.mem_cons, List.not_mem_nil, or_false] at hm
  rcases hm with rfl | rfl | rfl | rfl | rfl | rfl | rfl | rfl | rfl | rfl | rfl | rfl | rfl | rfl <;> exact Option.some.inj h
theorem bitV_I64 (b : Bool) : I64 (bitV b) := by cases b <;> (unfold I64 bitV; decide)
theorem tmod_I64 {a : Int} (ha : I64 a) (b : Int) : I64 (a.tmod b) := by
  have h1 : (a.tmod b).natAbs ≤ a.natAbs := by rw [Int.natAbs_tmod]; exact Nat.mod_le _ _
  unfold I64 at *
  by_cases h : 0 ≤ a
  · omega
  · have h2 : 0 ≤ (-a).tmod b := Int.tmod_nonneg b (by omega)
    rw [Int.neg_tmod] at h2
    omega
theorem divV_I64 (a b : Int) : I64 (divV a b) := by
  unfold divV
  split
  · unfold I64; omega
  · exact wrap64_I64 _
theorem remV_I64 {a : Int} (ha : I64 a) (b : Int) : I64 (remV a b) := by
  unfold remV
  split
  · exact ha
  · exact tmod_I64 ha b
theorem ite_I64 {c : Prop} [Decidable c] {a b : Int} (h1 : I64 a) (h2 : I64 b) : I64 (if c then a else b) := by split <;> assumption
theorem dofV_I64 (l : List UInt8) {a : Int} (ha : I64 a) (b : Int) : I64 (dofV l a b) := by
  unfold dofV
  repeat' (with_reducible refine ite_I64 ?_ ?_)
  all_goals first
    | exact wrap64_I64 _
    | exact divV_I64 _ _
    | exact remV_I64 ha _
    | exact bits_I64 _ _ _
    | exact shr_I64 _ ha _
    | exact bitV_I64 _
theorem oneV_I64 {l : List UInt8} {a v : Int} (h : oneV l a = some v) : I64 v := by
  unfold oneV at h
  split at h
  · injection h with h; subst h; exact wrap64_I64 _
  · split at h
    · injection h with h; subst h; exact bitV_I64 _
    · cases h
end Go.Proofs.YtdilakpipbkokaaDoor

namespace Go.Proofs.YtdilakpipbkokaaDoor
open Go.RowKit

/-! codes of registers, in plain Lean -/
structure PLow where
  kind : List UInt8
  d : Int
  a : Int
  b : Int
  num : Int
  name : List UInt8
structure PBlk where
  ins : List PLow
  fin : List UInt8
  a : Int
  nx : List Int
structure PCd where
  name : List UInt8
  params : Int
  slots : Int
  blocks : List PBlk
def kParam : List UInt8 := [112, 97, 114, 97, 109]
def kConst : List UInt8 := [99, 111, 110, 115, 116]
def kLoad : List UInt8 := [108, 111, 97, 100]
def kOne : List UInt8 := [111, 110, 101]
def kTwo : List UInt8 := [116, 119, 111]
def kMove : List UInt8 := [109, 111, 118, 101]
def kStore : List UInt8 := [115, 116, 111, 114, 101]
def kArg : List UInt8 := [97, 114, 103]
def kCall : List UInt8 := [99, 97, 108, 108]
def kTick : List UInt8 := [116, 105, 99, 107]
def kPrint : List UInt8 := [112, 114, 105, 110, 116]
def eJump : List UInt8 := [106, 117, 109, 112]
def eIf : List UInt8 := [105, 102]
def eReturn : List UInt8 := [114, 101, 116, 117, 114, 110]
def hOver : List UInt8 := [111, 118, 101, 114]
def hDone : List UInt8 := [100, 111, 110, 101]
def hStuck : List UInt8 := [115, 116, 117, 99, 107]
def hLong : List UInt8 := [108, 111, 110, 103]
/-- A kind's number: 0 for one that there is not. -/
def kindN (k : List UInt8) : Nat :=
  if (k == kParam) = true then 1 else if (k == kConst) = true then 2 else if (k == kLoad) = true then 3 else if (k == kOne) = true then 4
  else if (k == kTwo) = true then 5 else if (k == kMove) = true then 6 else if (k == kStore) = true then 7 else if (k == kArg) = true then 8
  else if (k == kCall) = true then 9 else if (k == kTick) = true then 10 else if (k == kPrint) = true then 11 else 0
def kHas : Nat → List UInt8
  | 1 => [100, 110]
  | 2 => [100, 110]
  | 3 => [100, 110]
  | 4 => [100, 97, 115]
  | 5 => [100, 97, 98, 115]
  | 6 => [100, 97]
  | 7 => [97, 110]
  | 8 => [97, 110]
  | 9 => [100, 110, 115]
  | 11 => [97]
  | _ => []
def regA (n : Int) : Bool := decide (0 ≤ n) && decide (n < 8)
/-- Is a kind one, and its op? -/
def lowKnown (x : PLow) : Bool :=
  if kindN x.kind = 4 then (oneV x.name 0).isSome else if kindN x.kind = 5 then (doV x.name 0 0).isSome else kindN x.kind != 0
def lowNumber (c : PCd) (x : PLow) : Bool :=
  match kindN x.kind with
  | 1 => decide (0 ≤ x.num) && decide (x.num < c.params)
  | 3 => decide (0 ≤ x.num) && decide (x.num < c.slots)
  | 7 => decide (0 ≤ x.num) && decide (x.num < c.slots)
  | 8 => decide (0 ≤ x.num) && decide (x.num < 4)
  | 9 => decide (0 ≤ x.num) && decide (x.num ≤ 4)
  | _ => true
def lowHas (x : PLow) (l : UInt8) : Bool := (kHas (kindN x.kind)).contains l
def lowWithin (c : PCd) (x : PLow) : Bool :=
  lowNumber c x && (!lowHas x 100 || regA x.d) && (!lowHas x 97 || regA x.a) && (!lowHas x 98 || regA x.b)
def lowBare (x : PLow) : Bool :=
  (lowHas x 100 || x.d == 0) && (lowHas x 97 || x.a == 0) && (lowHas x 98 || x.b == 0) && (lowHas x 110 || x.num == 0) && (lowHas x 115 || x.name.isEmpty)
/-- How many blocks come behind an end (-1: there is no such end). -/
def endN (e : List UInt8) : Int := if (e == eJump) = true then 1 else if (e == eIf) = true then 2 else if (e == eReturn) = true then 0 else -1
def farTo (n : Nat) (l : List Int) : Bool := l.any fun k => decide (k < 0) || decide ((n : Int) ≤ k)
def blkKind (b : PBlk) : Bool := decide (endN b.fin < 0) || !b.ins.all lowKnown
def blkBound (c : PCd) (b : PBlk) : Bool := farTo c.blocks.length b.nx || (b.fin != eJump && !regA b.a) || !b.ins.all (lowWithin c)
def blkShape (b : PBlk) : Bool := ((b.nx.length : Int) != endN b.fin) || (b.fin == eJump && b.a != 0) || !b.ins.all lowBare
def blkC (c : PCd) (b : PBlk) : Nat := if blkKind b then 4 else if blkBound c b then 2 else if blkShape b then 3 else 0
def blksC (c : PCd) : List PBlk → Nat → Nat × Int
  | [], _ => (0, -1)
  | b :: l, k => if blkC c b ≠ 0 then (blkC c b, (k : Int)) else blksC c l (k + 1)
def lowC (c : PCd) : Nat × Int :=
  if 3000 < c.blocks.length then (8, -1) else if c.blocks.length = 0 then (3, -1) else if c.params < 0 ∨ 4 < c.params then (9, -1)
  else if c.slots < 0 ∨ 1000 < c.slots then (2, -1) else blksC c c.blocks 0

/-! a walk -/
structure ASt where
  r : List Int
  slots : List Int
  next : List Int
  out : List Int
  calls : List (List UInt8 × List Int)
  ticks : Int
def next0 : List Int := [0, 0, 0, 0]
def ASt0 (c : PCd) : ASt := ⟨[0, 0, 0, 0, 0, 0, 0, 0], List.replicate c.slots.toNat 0, next0, [], [], 0⟩
def rOf (s : ASt) (n : Int) : Int := s.r.getD n.toNat 0
def putR (s : ASt) (x : PLow) (v : Int) : ASt := { s with r := s.r.set x.d.toNat v }
/-- An instruction (none: it is over). -/
def insA (T : Int) (args ans : List Int) (x : PLow) (s : ASt) : Option ASt :=
  match kindN x.kind with
  | 1 => some (putR s x (args.getD x.num.toNat 0))
  | 3 => some (putR s x (s.slots.getD x.num.toNat 0))
  | 4 => some (putR s x ((oneV x.name (rOf s x.a)).getD 0))
  | 5 => some (putR s x ((doV x.name (rOf s x.a) (rOf s x.b)).getD 0))
  | 6 => some (putR s x (rOf s x.a))
  | 7 => some { s with slots := s.slots.set x.num.toNat (rOf s x.a) }
  | 8 => some { s with next := s.next.set x.num.toNat (rOf s x.a) }
  | 9 => if ans.length ≤ s.calls.length then none
         else some { putR s x (ans.getD s.calls.length 0) with calls := s.calls ++ [(x.name, s.next.take x.num.toNat)], next := next0 }
  | 10 => if T ≤ s.ticks then none else some { s with ticks := s.ticks + 1 }
  | 11 => if 1000 ≤ s.out.length then none else some { s with out := s.out ++ [rOf s x.a] }
  | _ => some (putR s x x.num)
/-- Instructions: is it over, and the state. -/
def inssA (T : Int) (args ans : List Int) : List PLow → ASt → Bool × ASt
  | [], s => (false, s)
  | x :: l, s => match insA T args ans x s with
    | none => (true, s)
    | some s' => inssA T args ans l s'
/-- The block behind one. -/
def nextA (b : PBlk) (s : ASt) : Nat := if (b.fin == eIf) = true ∧ rOf s b.a = 0 then (b.nx.getD 1 0).toNat else (b.nx.getD 0 0).toNat
/-- How a walk ended: how, the value, the state (none: too long). -/
def runA (c : PCd) (T : Int) (args ans : List Int) : Nat → Nat → ASt → Option (List UInt8 × Int × ASt)
  | 0, _, _ => none
  | n + 1, k, s => match c.blocks[k]? with
    | none => none
    | some b => match inssA T args ans b.ins s with
      | (true, s') => some (hOver, 0, s')
      | (false, s') => if (b.fin == eReturn) = true then some (hDone, rOf s' b.a, s') else runA c T args ans n (nextA b s') s'
theorem runA_more {c : PCd} {T : Int} {args ans : List Int} : ∀ {n m k : Nat} {s : ASt} {x : List UInt8 × Int × ASt}, n ≤ m → runA c T args ans n k s = some x → runA c T args ans m k s = some x := by
  intro n
  induction n with
  | zero => intro m k s x _ h; cases h
  | succ n ih =>
    intro m k s x hm h
    obtain ⟨m, rfl⟩ : ∃ j, m = j + 1 := ⟨m - 1, by omega⟩
    unfold runA at h ⊢
    cases hb : c.blocks[k]? with
    | none => rw [hb] at h; cases h
    | some b =>
      rw [hb] at h
      dsimp only at h ⊢
      cases hi : inssA T args ans b.ins s with
      | mk o s' =>
        rw [hi] at h
        cases o with
        | true => exact h
        | false =>
          dsimp only at h ⊢
          by_cases hf : (b.fin == eReturn) = true
          · rw [if_pos hf] at h ⊢; exact h
          · rw [if_neg hf] at h ⊢; exact ih (by omega) h

/-! what a right code is -/
structure LowOk (c : PCd) (x : PLow) : Prop where
  known : lowKnown x = true
  within : lowWithin c x = true
  bare : lowBare x = true
structure BlkOk (c : PCd) (b : PBlk) : Prop where
  fin : 0 ≤ endN b.fin
  nx : (b.nx.length : Int) = endN b.fin
  far : ∀ k ∈ b.nx, 0 ≤ k ∧ k < c.blocks.length
  reg : b.fin ≠ eJump → 0 ≤ b.a ∧ b.a < 8
  ins : ∀ x ∈ b.ins, LowOk c x
structure GoodA (c : PCd) : Prop where
  some : 0 < c.blocks.length
  most : c.blocks.length ≤ 3000
  params : 0 ≤ c.params ∧ c.params ≤ 4
  slots : 0 ≤ c.slots ∧ c.slots ≤ 1000
  blocks : ∀ b ∈ c.blocks, BlkOk c b
theorem blksC_zero {c : PCd} : ∀ {l : List PBlk} {k : Nat}, (blksC c l k).1 = 0 ↔ ∀ b ∈ l, blkC c b = 0 := by
  intro l
  induction l with
  | nil => intro k; exact ⟨fun _ b h => (by cases h), fun _ => rfl⟩
  | cons b l ih =>
    intro k
    unfold blksC
    by_cases h : blkC c b = 0
    · rw [if_neg (by simpa using h), ih]
      exact ⟨fun g x hx => by rcases List.mem_cons.1 hx with rfl | hx; exact h; exact g x hx, fun g x hx => g x (List.mem_cons_of_mem _ hx)⟩
    · rw [if_pos h]
      exact ⟨fun g => absurd g h, fun g => absurd (g b List.mem_cons_self) h⟩
theorem blk_ok {c : PCd} {b : PBlk} (h : blkC c b = 0) : BlkOk c b := by
  unfold blkC at h
  split at h
  · exact absurd h (by decide)
  · rename_i h1
    split at h
    · exact absurd h (by decide)
    · rename_i h2
      split at h
      · exact absurd h (by decide)
      · rename_i h3
        have k1 : ¬ endN b.fin < 0 ∧ b.ins.all lowKnown = true := by
          unfold blkKind at h1
          cases hk : b.ins.all lowKnown
          · rw [hk] at h1; simp at h1
          · rw [hk] at h1; exact ⟨by simpa using h1, rfl⟩
        have k2 : farTo c.blocks.length b.nx = false ∧ (b.fin ≠ eJump → regA b.a = true) ∧ b.ins.all (lowWithin c) = true := by
          unfold blkBound at h2
          cases hf : farTo c.blocks.length b.nx
          · cases hk : b.ins.all (lowWithin c)
            · rw [hk] at h2; simp at h2
            · refine ⟨rfl, fun he => ?_, rfl⟩
              cases hr : regA b.a
              · rw [hr] at h2; simp [he] at h2
              · rfl
          · rw [hf] at h2; simp at h2
        have k3 : (b.nx.length : Int) = endN b.fin ∧ b.ins.all lowBare = true := by
          unfold blkShape at h3
          cases hk : b.ins.all lowBare
          · rw [hk] at h3; simp at h3
          · refine ⟨?_, rfl⟩
            by_cases he : (b.nx.length : Int) = endN b.fin
            · exact he
            · simp [he] at h3
        refine ⟨by omega, k3.1, fun k hk => ?_, fun hf => ?_, fun x hx => ⟨List.all_eq_true.1 k1.2 x hx, List.all_eq_true.1 k2.2.2 x hx, List.all_eq_true.1 k3.2 x hx⟩⟩
        · have h9 := k2.1
          unfold farTo at h9
          rw [List.any_eq_false] at h9
          have := h9 k hk
          simp only [Bool.or_eq_true, decide_eq_true_eq, not_or] at this
          omega
        · have h9 := k2.2.1 hf
          unfold regA at h9
          simp only [Bool.and_eq_true, decide_eq_true_eq] at h9
          exact h9
theorem lowC_good {c : PCd} (h : (lowC c).1 = 0) : GoodA c := by
  unfold lowC at h
  split at h
  · exact absurd h (by decide)
  · split at h
    · exact absurd h (by decide)
    · split at h
      · exact absurd h (by decide)
      · split at h
        · exact absurd h (by decide)
        · rename_i h1 h2 h3 h4
          exact ⟨by omega, by omega, by omega, by omega, fun b hb => blk_ok (blksC_zero.1 h b hb)⟩
theorem blksC_at {c : PCd} : ∀ {l : List PBlk} {k : Nat}, (blksC c l k).1 = 0 → (blksC c l k).2 = -1 := by
  intro l
  induction l with
  | nil => intro k _; rfl
  | cons b l ih =>
    intro k h
    unfold blksC at h ⊢
    by_cases h5 : blkC c b ≠ 0
    · rw [if_pos h5] at h; exact absurd h h5
    · rw [if_neg h5] at h ⊢; exact ih h
theorem lowC_at {c : PCd} (h : (lowC c).1 = 0) : (lowC c).2 = -1 := by
  unfold lowC at h ⊢
  split at h
  · exact absurd h (by decide)
  · rename_i h1
    rw [if_neg h1]
    split at h
    · exact absurd h (by decide)
    · rename_i h2
      rw [if_neg h2]
      split at h
      · exact absurd h (by decide)
      · rename_i h3
        rw [if_neg h3]
        split at h
        · exact absurd h (by decide)
        · rename_i h4
          rw [if_neg h4]
          exact blksC_at h
end Go.Proofs.YtdilakpipbkokaaDoor

namespace Go.Proofs.YtdilakpipbkokaaDoor
open Go.RowKit

/-! a walk stays well -/
theorem kind_lt (k : List UInt8) : kindN k ≤ 11 := by
  unfold kindN
  repeat' split
  all_goals omega
theorem oneV_some (l : List UInt8) (a b : Int) : (oneV l a).isSome = (oneV l b).isSome := by
  unfold oneV
  split
  · rfl
  · split <;> rfl
theorem doV_some (l : List UInt8) (a b c d : Int) : (doV l a b).isSome = (doV l c d).isSome := by rw [doV_ops, doV_ops]
/-- What a right instruction has. -/
structure LowF (c : PCd) (x : PLow) : Prop where
  kind : kindN x.kind ≠ 0
  d : kindN x.kind ∈ [1, 2, 3, 4, 5, 6, 9] → 0 ≤ x.d ∧ x.d < 8
  a : kindN x.kind ∈ [4, 5, 6, 7, 8, 11] → 0 ≤ x.a ∧ x.a < 8
  b : kindN x.kind = 5 → 0 ≤ x.b ∧ x.b < 8
  param : kindN x.kind = 1 → 0 ≤ x.num ∧ x.num < c.params
  slot : kindN x.kind ∈ [3, 7] → 0 ≤ x.num ∧ x.num < c.slots
  arg : kindN x.kind = 8 → 0 ≤ x.num ∧ x.num < 4
  call : kindN x.kind = 9 → 0 ≤ x.num ∧ x.num ≤ 4
  one : kindN x.kind = 4 → ∀ a, (oneV x.name a).isSome = true
  two : kindN x.kind = 5 → ∀ a b, (doV x.name a b).isSome = true
theorem regA_le {n : Int} (h : regA n = true) : 0 ≤ n ∧ n < 8 := by
  unfold regA at h
  simpa using h
theorem low_within {c : PCd} {x : PLow} (h : lowWithin c x = true) : lowNumber c x = true ∧ (lowHas x 100 = true → regA x.d = true) ∧ (lowHas x 97 = true → regA x.a = true) ∧ (lowHas x 98 = true → regA x.b = true) := by
  unfold lowWithin at h
  simp only [Bool.and_eq_true, Bool.or_eq_true, Bool.not_eq_true'] at h
  obtain ⟨⟨⟨h0, h1⟩, h2⟩, h3⟩ := h
  exact ⟨h0, fun e => h1.resolve_left (by simp [e]), fun e => h2.resolve_left (by simp [e]), fun e => h3.resolve_left (by simp [e])⟩
theorem low_facts {c : PCd} {x : PLow} (h : LowOk c x) : LowF c x := by
  obtain ⟨w0, w1, w2, w3⟩ := low_within h.within
  have h1 := h.known
  have hN : ∀ n, kindN x.kind = n → lowNumber c x = (match n with
      | 1 => decide (0 ≤ x.num) && decide (x.num < c.params)
      | 3 => decide (0 ≤ x.num) && decide (x.num < c.slots)
      | 7 => decide (0 ≤ x.num) && decide (x.num < c.slots)
      | 8 => decide (0 ≤ x.num) && decide (x.num < 4)
      | 9 => decide (0 ≤ x.num) && decide (x.num ≤ 4)
      | _ => true) := fun n hn => by unfold lowNumber; rw [hn] <;> rfl
  refine ⟨fun e => ?_, fun hm => regA_le (w1 ?_), fun hm => regA_le (w2 ?_), fun hm => regA_le (w3 ?_), fun e => ?_, fun hm => ?_, fun e => ?_, fun e => ?_, fun e a => ?_, fun e a b => ?_⟩
  · unfold lowKnown at h1
    rw [e] at h1
    simp at h1
  · simp only [List.mem_cons, List.not_mem_nil, or_false] at hm
    rcases hm with e | e | e | e | e | e | e <;> (unfold lowHas; rw [e]; rfl)
  · simp only [List.mem_cons, List.not_mem_nil, or_false] at hm
    rcases hm with e | e | e | e | e | e <;> (unfold lowHas; rw [e]; rfl)
  · unfold lowHas; rw [hm]; rfl
  · rw [hN _ e] at w0; simpa using w0
  · simp only [List.mem_cons, List.not_mem_nil, or_false] at hm
    rcases hm with e | e <;> (rw [hN _ e] at w0; simpa using w0)
  · rw [hN _ e] at w0; simpa using w0
  · rw [hN _ e] at w0; simpa using w0
  · unfold lowKnown at h1
    rw [if_pos e] at h1
    rw [oneV_some _ a 0]; exact h1
  · unfold lowKnown at h1
    rw [if_neg (by rw [e]; decide), if_pos e] at h1
    rw [doV_some _ a b 0 0]; exact h1

structure AOk (c : PCd) (T : Int) (ans : List Int) (s : ASt) : Prop where
  r8 : s.r.length = 8
  r6 : ∀ n ∈ s.r, I64 n
  sl : s.slots.length = c.slots.toNat
  s6 : ∀ n ∈ s.slots, I64 n
  n4 : s.next.length = 4
  n6 : ∀ n ∈ s.next, I64 n
  out : s.out.length ≤ 1000
  o6 : ∀ n ∈ s.out, I64 n
  calls : s.calls.length ≤ ans.length
  c6 : ∀ p ∈ s.calls, p.2.length ≤ 4
  ticks : 0 ≤ s.ticks ∧ s.ticks ≤ T
theorem i64_zero : I64 0 := ⟨by decide, by decide⟩
theorem getDA_I64 {l : List Int} (h : ∀ n ∈ l, I64 n) (k : Nat) : I64 (l.getD k 0) := by
  rw [List.getD_eq_getElem?_getD]
  cases hk : l[k]? with
  | none => exact i64_zero
  | some v => exact h v (List.mem_of_getElem? hk)
theorem setA_I64 {l : List Int} (h : ∀ n ∈ l, I64 n) (k : Nat) {v : Int} (hv : I64 v) : ∀ n ∈ l.set k v, I64 n := fun n hn => by
  rcases List.mem_or_eq_of_mem_set hn with hn | rfl
  · exact h n hn
  · exact hv
theorem aok_start {c : PCd} {T : Int} {ans : List Int} (hT : 0 ≤ T) : AOk c T ans (ASt0 c) where
  r8 := rfl
  r6 := fun n hn => by simp only [ASt0, List.mem_cons, List.not_mem_nil, or_false] at hn; rcases hn with rfl | rfl | rfl | rfl | rfl | rfl | rfl | rfl <;> exact i64_zero
  sl := by simp [ASt0]
  s6 := fun n hn => by rw [(List.mem_replicate.1 hn).2]; exact i64_zero
  n4 := rfl
  n6 := fun n hn => by simp only [ASt0, next0, List.mem_cons, List.not_mem_nil, or_false] at hn; rcases hn with rfl | rfl | rfl | rfl <;> exact i64_zero
  out := Nat.zero_le _
  o6 := fun n hn => by cases hn
  calls := Nat.zero_le _
  c6 := fun p hp => by cases hp
  ticks := ⟨Int.le_refl _, hT⟩
theorem AOk.put {c : PCd} {T : Int} {ans : List Int} {s : ASt} (h : AOk c T ans s) (x : PLow) {v : Int} (hv : I64 v) : AOk c T ans (putR s x v) :=
  { h with r8 := by simp [putR, h.r8], r6 := setA_I64 h.r6 _ hv }
theorem doV_I64 {l : List UInt8} {a b v : Int} (ha : I64 a) (h : doV l a b = some v) : I64 v := by
  rw [← doV_dofV l a b v h]; exact dofV_I64 l ha b
theorem aok_ins {c : PCd} {T : Int} {args ans : List Int} (ha6 : ∀ n ∈ args, I64 n) (hn6 : ∀ n ∈ ans, I64 n) {x : PLow} (hx : I64 x.num) {s s' : ASt} (h : AOk c T ans s) (hs : insA T args ans x s = some s') : AOk c T ans s' := by
  unfold insA at hs
  split at hs
  · cases hs; exact h.put x (getDA_I64 ha6 _)
  · cases hs; exact h.put x (getDA_I64 h.s6 _)
  · cases hs
    refine h.put x ?_
    cases ho : oneV x.name (rOf s x.a) with
    | none => exact i64_zero
    | some v => exact oneV_I64 ho
  · cases hs
    refine h.put x ?_
    cases ho : doV x.name (rOf s x.a) (rOf s x.b) with
    | none => exact i64_zero
    | some v => exact doV_I64 (getDA_I64 h.r6 _) ho
  · cases hs; exact h.put x (getDA_I64 h.r6 _)
  · cases hs; exact { h with sl := by simp [h.sl], s6 := setA_I64 h.s6 _ (getDA_I64 h.r6 _) }
  · cases hs; exact { h with n4 := by simp [h.n4], n6 := setA_I64 h.n6 _ (getDA_I64 h.r6 _) }
  · split at hs
    · cases hs
    · rename_i hc
      cases hs
      have hp := h.put x (getDA_I64 hn6 s.calls.length)
      exact { hp with
        n4 := rfl
        n6 := fun n hn => by simp only [next0, List.mem_cons, List.not_mem_nil, or_false] at hn; rcases hn with rfl | rfl | rfl | rfl <;> exact i64_zero
        calls := by simp; omega
        c6 := fun p hp => by
          rcases List.mem_append.1 hp with hp | hp
          · exact h.c6 p hp
          · rw [List.mem_singleton.1 hp]; have := h.n4; simp only [List.length_take]; omega }
  · split at hs
    · cases hs
    · rename_i hc
      cases hs
      exact { h with ticks := ⟨by have := h.ticks; show 0 ≤ s.ticks + 1; omega, by show s.ticks + 1 ≤ T; omega⟩ }
  · split at hs
    · cases hs
    · rename_i hc
      cases hs
      exact { h with
        out := by show (s.out ++ [rOf s x.a]).length ≤ 1000; simp; omega
        o6 := fun n hn => by
          rcases List.mem_append.1 hn with hn | hn
          · exact h.o6 n hn
          · rw [List.mem_singleton.1 hn]; exact getDA_I64 h.r6 _ }
  · cases hs; exact h.put x hx
theorem aok_inss {c : PCd} {T : Int} {args ans : List Int} (ha6 : ∀ n ∈ args, I64 n) (hn6 : ∀ n ∈ ans, I64 n) : ∀ {l : List PLow}, (∀ x ∈ l, I64 x.num) → ∀ {s : ASt}, AOk c T ans s → AOk c T ans (inssA T args ans l s).2 := by
  intro l
  induction l with
  | nil => intro _ s h; exact h
  | cons x l ih =>
    intro hl s h
    unfold inssA
    cases hi : insA T args ans x s with
    | none => exact h
    | some s' => exact ih (fun y hy => hl y (List.mem_cons_of_mem _ hy)) (aok_ins ha6 hn6 (hl x List.mem_cons_self) h hi)
end Go.Proofs.YtdilakpipbkokaaDoor

namespace Go.Proofs.YtdilakpipbkokaaDoor
open Go.RowKit

/-! codes of values, in plain Lean -/
structure PIn where
  kind : List UInt8
  d : Int
  args : List Int
  num : Int
  name : List UInt8
structure PBk where
  params : List Int
  ins : List PIn
  fin : List UInt8
  v : Int
  nx : List Int
  wth : List (List Int)
structure PCo where
  name : List UInt8
  params : Int
  values : Int
  blocks : List PBk
/-- A kind's number: 0 for one that there is not. -/
def kindW (k : List UInt8) : Nat :=
  if (k == kParam) = true then 1 else if (k == kConst) = true then 2 else if (k == kOne) = true then 3 else if (k == kTwo) = true then 4
  else if (k == kCall) = true then 5 else if (k == kTick) = true then 6 else if (k == kPrint) = true then 7 else 0
/-- How many args (below 0: any number). -/
def manyW : Nat → Int
  | 3 => 1
  | 7 => 1
  | 4 => 2
  | 5 => -1
  | _ => 0
def madeW (k : List UInt8) : Bool := (k != kTick) && (k != kPrint)
def opW (x : PIn) : Bool := if kindW x.kind = 3 then (oneV x.name 0).isSome else if kindW x.kind = 4 then (doV x.name 0 0).isSome else true
def inKnown (x : PIn) : Bool := (kindW x.kind != 0) && opW x
def okV (c : PCo) (v : Int) : Bool := decide (0 ≤ v) && decide (v < c.values)
def okVs (c : PCo) (l : List Int) : Bool := l.all (okV c)
def inBound (c : PCo) (x : PIn) : Bool := okVs c x.args && (!madeW x.kind || okV c x.d) && (!(x.kind == kParam) || (decide (0 ≤ x.num) && decide (x.num < c.params)))
def inShape (x : PIn) : Bool :=
  (decide (manyW (kindW x.kind) < 0) || ((x.args.length : Int) == manyW (kindW x.kind))) && (madeW x.kind || x.d == 0) && ((x.kind == kParam || x.kind == kConst) || x.num == 0) && ((x.kind == kOne || x.kind == kTwo || x.kind == kCall) || x.name.isEmpty)
def bkKinds (b : PBk) : Bool := b.ins.all inKnown && decide (0 ≤ endN b.fin)
def bkBounds (c : PCo) (b : PBk) : Bool := b.ins.all (inBound c) && b.wth.all (okVs c) && okVs c b.params && ((b.fin == eJump) || okV c b.v) && !farTo c.blocks.length b.nx
/-- Has place k of With as many as the block there has Params? -/
def withFit (c : PCo) (b : PBk) (k : Nat) : Bool := (b.wth.getD k []).length == ((c.blocks[(b.nx.getD k 0).toNat]?).map fun q => q.params.length).getD 0
def bkShapes (c : PCo) (b : PBk) : Bool := b.ins.all inShape && ((b.nx.length : Int) == endN b.fin) && ((b.wth.length : Int) == endN b.fin) && (!(b.fin == eJump) || b.v == 0) && (List.range b.nx.length).all (withFit c b)
def makesW (b : PBk) : List Int := b.params ++ (b.ins.filter fun x => madeW x.kind).map (·.d)
/-- Is one made twice? The ones that were made. -/
def onceW : List Int → List Int → Bool × List Int
  | m, [] => (true, m)
  | m, v :: l => if m.contains v then (false, m) else onceW (v :: m) l
def bkC (c : PCo) (m : List Int) (b : PBk) : Nat := if !bkKinds b then 4 else if !bkBounds c b then 2 else if !bkShapes c b then 3 else if (onceW m (makesW b)).1 then 0 else 7
def bksC (c : PCo) : List Int → List PBk → Nat → Nat × Int
  | _, [], _ => (0, -1)
  | m, b :: l, k => if bkC c m b ≠ 0 then (bkC c m b, (k : Int)) else bksC c (onceW m (makesW b)).2 l (k + 1)
def coC (c : PCo) : Nat × Int :=
  if 1000 < c.blocks.length ∨ 1000 < c.values then (8, -1)
  else if c.blocks.length = 0 ∨ 0 < ((c.blocks[0]?).map fun q => q.params.length).getD 0 ∨ c.values < 0 then (3, -1)
  else if c.params < 0 ∨ 4 < c.params then (9, -1) else bksC c [] c.blocks 0

/-! a walk -/
structure WSt where
  got : List Int
  has : List Bool
  out : List Int
  calls : List (List UInt8 × List Int)
  ticks : Int
def WSt0 (c : PCo) : WSt := ⟨List.replicate c.values.toNat 0, List.replicate c.values.toNat false, [], [], 0⟩
def gotW (s : WSt) (v : Int) : Int := s.got.getD v.toNat 0
def hasW (s : WSt) (v : Int) : Bool := s.has.getD v.toNat false
/-- Values that were made (none: one was not). -/
def pickW (s : WSt) : List Int → Option (List Int)
  | [] => some []
  | v :: l => if hasW s v = true then (pickW s l).map (gotW s v :: ·) else none
def putW (s : WSt) (d v : Int) : WSt := { s with got := s.got.set d.toNat v, has := s.has.set d.toNat true }
/-- What a pure one makes. -/
def pureW (args : List Int) (x : PIn) (l : List Int) : Int :=
  match kindW x.kind with
  | 1 => args.getD x.num.toNat 0
  | 3 => (oneV x.name (l.getD 0 0)).getD 0
  | 4 => (doV x.name (l.getD 0 0) (l.getD 1 0)).getD 0
  | _ => x.num
/-- An Ins: 0: it goes on; 1: over; 2: stuck. -/
def insW (T : Int) (args ans : List Int) (x : PIn) (s : WSt) : Nat × WSt :=
  match pickW s x.args with
  | none => (2, s)
  | some l =>
    match kindW x.kind with
    | 6 => if T ≤ s.ticks then (1, s) else (0, { s with ticks := s.ticks + 1 })
    | 7 => if 1000 ≤ s.out.length then (1, s) else (0, { s with out := s.out ++ [l.getD 0 0] })
    | 5 => if ans.length ≤ s.calls.length then (1, s) else (0, putW { s with calls := s.calls ++ [(x.name, l)] } x.d (ans.getD s.calls.length 0))
    | _ => (0, putW s x.d (pureW args x l))
def inssW (T : Int) (args ans : List Int) : List PIn → WSt → Nat × WSt
  | [], s => (0, s)
  | x :: l, s => match insW T args ans x s with
    | (0, s') => inssW T args ans l s'
    | r => r
/-- Params become values. -/
def putsW : List Int → List Int → WSt → WSt
  | p :: ps, v :: vs, s => putsW ps vs (putW s p v)
  | _, _, s => s
/-- Leaving by way k: the next block and the state (none: stuck). -/
def leaveW (c : PCo) (b : PBk) (k : Nat) (s : WSt) : Option (Nat × WSt) :=
  match pickW s (b.wth.getD k []) with
  | none => none
  | some l => some ((b.nx.getD k 0).toNat, putsW (((c.blocks[(b.nx.getD k 0).toNat]?).map (·.params)).getD []) l s)
/-- The end of a block: the next one; or done (a value); or stuck. -/
inductive EndW where
  | go (k : Nat) (s : WSt)
  | done (v : Int)
  | stuck
def endW (c : PCo) (b : PBk) (s : WSt) : EndW :=
  if (b.fin == eJump) = true then (match leaveW c b 0 s with | none => .stuck | some p => .go p.1 p.2)
  else if hasW s b.v = true then
    if (b.fin == eReturn) = true then .done (gotW s b.v)
    else match leaveW c b (if gotW s b.v ≠ 0 then 0 else 1) s with | none => .stuck | some p => .go p.1 p.2
  else .stuck
/-- How a walk ended: how, the value, the state (none: too long). -/
def runW (c : PCo) (T : Int) (args ans : List Int) : Nat → Nat → WSt → Option (List UInt8 × Int × WSt)
  | 0, _, _ => none
  | n + 1, k, s => match c.blocks[k]? with
    | none => none
    | some b => match inssW T args ans b.ins s with
      | (0, s') => (match endW c b s' with
        | .go k' s2 => runW c T args ans n k' s2
        | .done v => some (hDone, v, s')
        | .stuck => some (hStuck, 0, s'))
      | (1, s') => some (hOver, 0, s')
      | (_, s') => some (hStuck, 0, s')
theorem runW_more {c : PCo} {T : Int} {args ans : List Int} : ∀ {n m k : Nat} {s : WSt} {x : List UInt8 × Int × WSt}, n ≤ m → runW c T args ans n k s = some x → runW c T args ans m k s = some x := by
  intro n
  induction n with
  | zero => intro m k s x _ h; cases h
  | succ n ih =>
    intro m k s x hm h
    obtain ⟨m, rfl⟩ : ∃ j, m = j + 1 := ⟨m - 1, by omega⟩
    unfold runW at h ⊢
    cases hb : c.blocks[k]? with
    | none => rw [hb] at h; cases h
    | some b =>
      rw [hb] at h
      dsimp only at h ⊢
      rcases hi : inssW T args ans b.ins s with ⟨o, s'⟩
      rw [hi] at h
      match o, h with
      | 0, h =>
        simp only at h ⊢
        cases he : endW c b s' with
        | go k' s2 => rw [he] at h; exact ih (by omega) h
        | done v => rw [he] at h; exact h
        | stuck => rw [he] at h; exact h
      | 1, h => exact h
      | o + 2, h => exact h

/-! what a right code is -/
structure BkOk (c : PCo) (b : PBk) : Prop where
  kinds : bkKinds b = true
  bounds : bkBounds c b = true
  shapes : bkShapes c b = true
structure GoodC (c : PCo) : Prop where
  some : 0 < c.blocks.length
  most : c.blocks.length ≤ 1000
  params : 0 ≤ c.params ∧ c.params ≤ 4
  values : 0 ≤ c.values ∧ c.values ≤ 1000
  blocks : ∀ b ∈ c.blocks, BkOk c b
theorem bk_ok {c : PCo} {m : List Int} {b : PBk} (h : bkC c m b = 0) : BkOk c b ∧ (onceW m (makesW b)).1 = true := by
  unfold bkC at h
  cases h1 : bkKinds b
  · rw [h1] at h; simp at h
  · rw [h1] at h
    cases h2 : bkBounds c b
    · rw [h2] at h; simp at h
    · rw [h2] at h
      cases h3 : bkShapes c b
      · rw [h3] at h; simp at h
      · rw [h3] at h
        cases h4 : (onceW m (makesW b)).1
        · rw [h4] at h; simp at h
        · exact ⟨⟨h1, h2, h3⟩, rfl⟩
theorem bksC_ok {c : PCo} : ∀ {l : List PBk} {m : List Int} {k : Nat}, (bksC c m l k).1 = 0 → (∀ b ∈ l, BkOk c b) ∧ (bksC c m l k).2 = -1 := by
  intro l
  induction l with
  | nil => intro m k _; exact ⟨fun b hb => (by cases hb), rfl⟩
  | cons b l ih =>
    intro m k h
    unfold bksC at h ⊢
    by_cases h5 : bkC c m b ≠ 0
    · rw [if_pos h5] at h; exact absurd h h5
    · rw [if_neg h5] at h ⊢
      obtain ⟨h1, h2⟩ := ih h
      refine ⟨fun x hx => ?_, h2⟩
      rcases List.mem_cons.1 hx with rfl | hx
      · exact (bk_ok (m := m) (by omega)).1
      · exact h1 x hx
theorem coC_good {c : PCo} (h : (coC c).1 = 0) : GoodC c ∧ (coC c).2 = -1 := by
  unfold coC at h ⊢
  split at h
  · exact absurd h (by decide)
  · rename_i h1
    rw [if_neg h1]
    split at h
    · exact absurd h (by decide)
    · rename_i h2
      rw [if_neg h2]
      split at h
      · exact absurd h (by decide)
      · rename_i h3
        rw [if_neg h3]
        obtain ⟨g1, g2⟩ := bksC_ok h
        exact ⟨⟨by omega, by omega, by omega, by omega, g1⟩, g2⟩

/-! what an Ins that is right has -/
theorem kindW_lt (k : List UInt8) : kindW k ≤ 7 := by
  unfold kindW
  repeat' split
  all_goals omega
structure InF (c : PCo) (x : PIn) : Prop where
  kind : kindW x.kind ≠ 0
  args : ∀ v ∈ x.args, 0 ≤ v ∧ v < c.values
  d : kindW x.kind ≠ 6 → kindW x.kind ≠ 7 → 0 ≤ x.d ∧ x.d < c.values
  param : kindW x.kind = 1 → 0 ≤ x.num ∧ x.num < c.params
  one : kindW x.kind = 3 → x.args.length = 1 ∧ ∀ a, (oneV x.name a).isSome = true
  two : kindW x.kind = 4 → x.args.length = 2 ∧ ∀ a b, (doV x.name a b).isSome = true
  print : kindW x.kind = 7 → x.args.length = 1
theorem kindW_is {k : List UInt8} : (kindW k = 1 ↔ k = kParam) ∧ (kindW k = 6 ↔ k = kTick) ∧ (kindW k = 7 ↔ k = kPrint) := by
  unfold kindW
  repeat' split
  all_goals simp_all
  all_goals decide
theorem okV_le {c : PCo} {v : Int} (h : okV c v = true) : 0 ≤ v ∧ v < c.values := by unfold okV at h; simpa using h
theorem okVs_le {c : PCo} {l : List Int} (h : okVs c l = true) : ∀ v ∈ l, 0 ≤ v ∧ v < c.values := fun v hv => okV_le (List.all_eq_true.1 h v hv)
theorem in_facts {c : PCo} {x : PIn} (h1 : inKnown x = true) (h2 : inBound c x = true) (h3 : inShape x = true) : InF c x := by
  unfold inKnown at h1
  unfold inBound at h2
  unfold inShape at h3
  simp only [Bool.and_eq_true, Bool.or_eq_true, Bool.not_eq_true', bne_iff_ne, ne_eq, beq_iff_eq, decide_eq_true_eq] at h1 h2 h3
  obtain ⟨hk, ho⟩ := h1
  obtain ⟨⟨ha, hd⟩, hp⟩ := h2
  obtain ⟨⟨⟨hm, -⟩, -⟩, -⟩ := h3
  obtain ⟨k1, k6, k7⟩ := @kindW_is x.kind
  have hmade : kindW x.kind ≠ 6 → kindW x.kind ≠ 7 → madeW x.kind = true := fun e6 e7 => by
    unfold madeW
    rw [Bool.and_eq_true, bne_iff_ne, bne_iff_ne]
    exact ⟨fun e => e6 (k6.2 e), fun e => e7 (k7.2 e)⟩
  refine ⟨hk, okVs_le ha, fun e6 e7 => ?_, fun e => ?_, fun e => ?_, fun e => ?_, fun e => ?_⟩
  · rcases hd with hd | hd
    · rw [hmade e6 e7] at hd; cases hd
    · exact okV_le hd
  · rcases hp with hp | hp
    · rw [k1.1 e] at hp; exact absurd hp (by decide)
    · exact hp
  · unfold opW at ho
    rw [if_pos e] at ho
    rw [e] at hm
    refine ⟨by simp [manyW] at hm; omega, fun a => ?_⟩
    rw [oneV_some _ a 0]; exact ho
  · unfold opW at ho
    rw [if_neg (by rw [e]; decide), if_pos e] at ho
    rw [e] at hm
    refine ⟨?_, fun a b => ?_⟩
    · simp [manyW] at hm; omega
    · rw [doV_some _ a b 0 0]; exact ho
  · rw [e] at hm
    simp [manyW] at hm
    omega
structure BkF (c : PCo) (b : PBk) : Prop where
  ins : ∀ x ∈ b.ins, InF c x
  fin : 0 ≤ endN b.fin
  nx : (b.nx.length : Int) = endN b.fin
  wn : (b.wth.length : Int) = endN b.fin
  far : ∀ k ∈ b.nx, 0 ≤ k ∧ k < c.blocks.length
  v : b.fin ≠ eJump → 0 ≤ b.v ∧ b.v < c.values
  params : ∀ v ∈ b.params, 0 ≤ v ∧ v < c.values
  wth : ∀ l ∈ b.wth, ∀ v ∈ l, 0 ≤ v ∧ v < c.values
  fit : ∀ k, k < b.nx.length → withFit c b k = true
theorem bk_facts {c : PCo} {b : PBk} (h : BkOk c b) : BkF c b := by
  have h1 := h.kinds
  have h2 := h.bounds
  have h3 := h.shapes
  unfold bkKinds at h1
  unfold bkBounds at h2
  unfold bkShapes at h3
  simp only [Bool.and_eq_true, Bool.or_eq_true, Bool.not_eq_true', beq_iff_eq, decide_eq_true_eq, List.all_eq_true, List.mem_range] at h1 h2 h3
  obtain ⟨a1, a2⟩ := h1
  obtain ⟨⟨⟨⟨b1, b2⟩, b3⟩, b4⟩, b5⟩ := h2
  obtain ⟨⟨⟨⟨c1, c2⟩, c3⟩, c4⟩, c5⟩ := h3
  refine ⟨fun x hx => in_facts (a1 x hx) (b1 x hx) (c1 x hx), a2, c2, c3, fun k hk => ?_, fun e => ?_, okVs_le b3, fun l hl => okVs_le (b2 l hl), c5⟩
  · unfold farTo at b5
    rw [List.any_eq_false] at b5
    have := b5 k hk
    simp only [Bool.or_eq_true, decide_eq_true_eq, not_or] at this
    omega
  · rcases b4 with e' | e'
    · exact absurd e' e
    · exact okV_le e'
end Go.Proofs.YtdilakpipbkokaaDoor

namespace Go.Proofs.YtdilakpipbkokaaDoor
open Go.RowKit

/-! the walk's states stay right -/
structure WOk (c : PCo) (T : Int) (ans : List Int) (s : WSt) : Prop where
  g : s.got.length = c.values.toNat
  h : s.has.length = c.values.toNat
  g6 : ∀ n ∈ s.got, I64 n
  out : s.out.length ≤ 1000
  calls : s.calls.length ≤ ans.length
  c8 : ∀ p ∈ s.calls, p.2.length ≤ 8
  ticks : 0 ≤ s.ticks ∧ s.ticks ≤ T
theorem wok_start {c : PCo} {T : Int} {ans : List Int} (hT : 0 ≤ T) : WOk c T ans (WSt0 c) :=
  ⟨by simp [WSt0], by simp [WSt0], fun n hn => by simp [WSt0] at hn; rw [hn.2]; exact i64_zero, by simp [WSt0], by simp [WSt0], fun p hp => (by cases hp), ⟨Int.le_refl _, hT⟩⟩
theorem WOk.put {c : PCo} {T : Int} {ans : List Int} {s : WSt} (h : WOk c T ans s) (d : Int) {v : Int} (hv : I64 v) : WOk c T ans (putW s d v) :=
  { h with g := by simp [putW, h.g], h := by simp [putW, h.h], g6 := setA_I64 h.g6 _ hv }
theorem gotW_I64 {c : PCo} {T : Int} {ans : List Int} {s : WSt} (h : WOk c T ans s) (v : Int) : I64 (gotW s v) := getDA_I64 h.g6 _
theorem pickW_len {s : WSt} : ∀ {l r : List Int}, pickW s l = some r → r.length = l.length := by
  intro l
  induction l with
  | nil => intro r h; injection h with h; subst h; rfl
  | cons v l ih =>
    intro r h
    unfold pickW at h
    split at h
    · cases hp : pickW s l with
      | none => rw [hp] at h; cases h
      | some q =>
        rw [hp] at h
        injection h with h
        subst h
        simp [ih hp]
    · cases h
theorem pickW_I64 {c : PCo} {T : Int} {ans : List Int} {s : WSt} (hk : WOk c T ans s) : ∀ {l r : List Int}, pickW s l = some r → ∀ n ∈ r, I64 n := by
  intro l
  induction l with
  | nil => intro r h n hn; injection h with h; subst h; cases hn
  | cons v l ih =>
    intro r h n hn
    unfold pickW at h
    split at h
    · cases hp : pickW s l with
      | none => rw [hp] at h; cases h
      | some q =>
        rw [hp] at h
        injection h with h
        subst h
        rcases List.mem_cons.1 hn with rfl | hn
        · exact gotW_I64 hk v
        · exact ih hp n hn
    · cases h
theorem pickW_step {s : WSt} {l : List Int} {k : Nat} (h : k < l.length) : pickW s (l.drop k) = if hasW s l[k] = true then (pickW s (l.drop (k + 1))).map (gotW s l[k] :: ·) else none := by
  rw [List.drop_eq_getElem_cons h]; rfl
theorem pure_I64 {c : PCo} {T : Int} {args ans : List Int} {s : WSt} (hk : WOk c T ans s) (ha6 : ∀ n ∈ args, I64 n) {x : PIn} (hx : I64 x.num) {l : List Int} (hl : ∀ n ∈ l, I64 n) : I64 (pureW args x l) := by
  unfold pureW
  split
  · exact getDA_I64 ha6 _
  · cases ho : oneV x.name (l.getD 0 0) with
    | none => exact i64_zero
    | some v => exact oneV_I64 ho
  · cases ho : doV x.name (l.getD 0 0) (l.getD 1 0) with
    | none => exact i64_zero
    | some v => exact doV_I64 (getDA_I64 hl _) ho
  · exact hx
theorem wok_ins {c : PCo} {T : Int} {args ans : List Int} (ha6 : ∀ n ∈ args, I64 n) (hn6 : ∀ n ∈ ans, I64 n) {x : PIn} (hx : I64 x.num) (h8 : x.args.length ≤ 8) {s s' : WSt} {o : Nat} (h : WOk c T ans s) (hs : insW T args ans x s = (o, s')) : WOk c T ans s' := by
  unfold insW at hs
  cases hp : pickW s x.args with
  | none => rw [hp] at hs; injection hs with _ hs; subst hs; exact h
  | some l =>
    rw [hp] at hs
    dsimp only at hs
    have hl := pickW_len hp
    have hl6 := pickW_I64 h hp
    split at hs
    · split at hs
      · injection hs with _ hs; subst hs; exact h
      · injection hs with _ hs; subst hs; exact { h with ticks := by have := h.ticks; simp only; omega }
    · split at hs
      · injection hs with _ hs; subst hs; exact h
      · injection hs with _ hs; subst hs; exact { h with out := by simp; omega }
    · split at hs
      · injection hs with _ hs; subst hs; exact h
      · injection hs with _ hs
        subst hs
        refine WOk.put ?_ _ (getDA_I64 hn6 _)
        exact { h with
          calls := by simp; omega
          c8 := fun p hp => by
            rcases List.mem_append.1 hp with hp | hp
            · exact h.c8 p hp
            · rw [List.mem_singleton.1 hp]; simp only; omega }
    · injection hs with _ hs
      subst hs
      exact h.put _ (pure_I64 h ha6 hx hl6)
theorem wok_puts {c : PCo} {T : Int} {ans : List Int} : ∀ {ps vs : List Int} {s : WSt}, (∀ n ∈ vs, I64 n) → WOk c T ans s → WOk c T ans (putsW ps vs s) := by
  intro ps
  induction ps with
  | nil => intro vs s _ h; cases vs <;> exact h
  | cons p ps ih =>
    intro vs s hv h
    cases vs with
    | nil => exact h
    | cons v vs => exact ih (fun n hn => hv n (List.mem_cons_of_mem _ hn)) (h.put p (hv v List.mem_cons_self))
theorem wok_leave {c : PCo} {T : Int} {ans : List Int} {b : PBk} {k k' : Nat} {s s' : WSt} (h : WOk c T ans s) (hl : leaveW c b k s = some (k', s')) : WOk c T ans s' := by
  unfold leaveW at hl
  split at hl
  · cases hl
  · rename_i l hp
    injection hl with hl
    injection hl with _ hl
    subst hl
    exact wok_puts (pickW_I64 h hp) h
theorem wok_end {c : PCo} {T : Int} {ans : List Int} {b : PBk} {k : Nat} {s s' : WSt} (h : WOk c T ans s) (he : endW c b s = .go k s') : WOk c T ans s' := by
  unfold endW at he
  split at he
  · split at he
    · cases he
    · rename_i p hp
      injection he with h1 h2
      subst h1; subst h2
      exact wok_leave (k' := p.1) (s' := p.2) h hp
  · split at he
    · split at he
      · cases he
      · split at he
        · cases he
        · rename_i p hp
          injection he with h1 h2
          subst h1; subst h2
          exact wok_leave (k' := p.1) (s' := p.2) h hp
    · cases he
theorem leave_lt {c : PCo} {b : PBk} (hb : BkF c b) {k k' : Nat} (hk : k < b.nx.length) {s s' : WSt} (hl : leaveW c b k s = some (k', s')) : k' < c.blocks.length ∧ (b.nx.getD k 0) = (k' : Int) := by
  unfold leaveW at hl
  split at hl
  · cases hl
  · injection hl with hl
    injection hl with hl _
    have h1 := hb.far (b.nx.getD k 0) (by rw [List.getD_eq_getElem?_getD, List.getElem?_eq_getElem hk]; exact List.getElem_mem hk)
    omega
theorem putsW_step {ps vs : List Int} {s : WSt} {k : Nat} (h1 : k < ps.length) (h2 : k < vs.length) : putsW (ps.drop k) (vs.drop k) s = putsW (ps.drop (k + 1)) (vs.drop (k + 1)) (putW s ps[k] vs[k]) := by
  rw [List.drop_eq_getElem_cons h1, List.drop_eq_getElem_cons h2]; rfl
theorem inssW_step {T : Int} {args ans : List Int} {l : List PIn} {k : Nat} {s : WSt} (h : k < l.length) : inssW T args ans (l.drop k) s = (match insW T args ans l[k] s with | (0, s') => inssW T args ans (l.drop (k + 1)) s' | r => r) := by
  rw [List.drop_eq_getElem_cons h]; rfl
end Go.Proofs.YtdilakpipbkokaaDoor

namespace Go.Proofs.YtdilakpipbkokaaDoor
open Go.RowKit

/-! blocks and rows that are one's own -/
theorem old_block (w : World) (o : Obj) {k : Nat} (hk : k < w.heap.size) : (w.alloc o).heap[k]? = w.heap[k]? := by
  show (w.heap.push o)[k]? = _
  rw [Array.getElem?_push_lt hk, Array.getElem?_eq_getElem hk]
theorem new_block (w : World) (o : Obj) {k : Nat} (hk : k = w.heap.size) : (w.alloc o).heap[k]? = some o := by
  subst hk; exact heap_alloc_new w o
theorem row_set {w : World} {b j : Nat} {cs cs' : Array Value} {T : TypeId} {fz : Nat × Nat} (u : Value) (hb : w.heap[b]? = some (.cells cs T fz)) (he : cs' = cs.setIfInBounds j u) : (w.setCell ⟨b, j, none⟩ u).heap[b]? = some (.cells cs' T fz) := by
  subst he
  simp [World.setCell, Array.getElem?_modify, hb]
theorem row_frozen {w : World} {b : Nat} {cs : Array Value} {T : TypeId} (hb : w.heap[b]? = some (.cells cs T (0, 0))) (j : Nat) : w.frozen? ⟨b, j, none⟩ = false := by
  simp [World.frozen?, hb]
theorem own_else {w : World} {base : Nat} {e : TypeId} {size : Nat} {v : Value} {n : Nat} {xs : List Value} {x : Nat} {o : Obj} (h : w.ownsRow base e size v n xs) (hx : w.heap[x]? = some o) (hT : ∀ cs, o ≠ .cells cs e (0, 0)) : v.ownBlock ≠ some x := by
  rcases h.2 with ⟨q, _⟩ | ⟨g, cap, cur, q, _, q4, _⟩
  · rw [q]; simp [Value.ownBlock]
  · rw [q]
    intro e
    simp only [Value.ownBlock, Option.some.injEq] at e
    subst e
    rw [hx] at q4
    exact hT _ (Option.some.inj q4)
theorem own_same {w w' : World} {base : Nat} {e : TypeId} {size : Nat} {v : Value} {n : Nat} {xs : List Value} (h : w.ownsRow base e size v n xs) (hs : ∀ k, v.ownBlock = some k → w'.heap[k]? = w.heap[k]?) : w'.ownsRow base e size v n xs := by
  refine ⟨h.1, ?_⟩
  rcases h.2 with q | ⟨g, cap, cur, q1, q2, q3, q4⟩
  · exact .inl q
  · exact .inr ⟨g, cap, cur, q1, q2, (hs g (by rw [q1]; rfl)).trans q3, q4⟩
theorem own_lt {w : World} {base : Nat} {e : TypeId} {size : Nat} {v : Value} {n : Nat} {xs : List Value} (h : w.ownsRow base e size v n xs) {k : Nat} (hk : v.ownBlock = some k) : base ≤ k ∧ k < w.heap.size := by
  rcases h.2 with ⟨q, _⟩ | ⟨g, cap, cur, q1, q2, q3, q4⟩
  · rw [q] at hk; cases hk
  · rw [q1] at hk
    simp only [Value.ownBlock, Option.some.injEq] at hk
    subst hk
    exact ⟨q2, (Array.getElem?_eq_some_iff.1 q3).1⟩
theorem own_blk {w : World} {base : Nat} {e : TypeId} {size : Nat} {v : Value} {n : Nat} {xs : List Value} (h : w.ownsRow base e size v n xs) {k : Nat} (hk : v.ownBlock = some k) : ∃ cs, w.heap[k]? = some (.cells cs e (0, 0)) := by
  rcases h.2 with ⟨q, _⟩ | ⟨g, cap, cur, q1, q2, q3, q4⟩
  · rw [q] at hk; cases hk
  · rw [q1] at hk
    simp only [Value.ownBlock, Option.some.injEq] at hk
    subst hk
    exact ⟨_, q3⟩
theorem own_ne {w : World} {b1 b2 s1 s2 : Nat} {e1 e2 : TypeId} {v1 v2 : Value} {n1 n2 : Nat} {l1 l2 : List Value} (h1 : w.ownsRow b1 e1 s1 v1 n1 l1) (h2 : w.ownsRow b2 e2 s2 v2 n2 l2) (hT : e1 ≠ e2) {k : Nat} (hk : v1.ownBlock = some k) : v2.ownBlock ≠ some k := by
  obtain ⟨cs, hc⟩ := own_blk h1 hk
  exact own_else h2 hc fun cs' e => by injection e with _ e _; exact hT e
end Go.Proofs.YtdilakpipbkokaaDoor
