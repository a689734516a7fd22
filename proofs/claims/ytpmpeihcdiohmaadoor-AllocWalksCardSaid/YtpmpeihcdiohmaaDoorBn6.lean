import Derived.Test.YtpmpeihcdiohmaaDoorBn5
import Derived.Test.YtpmpeihcdiohmaaDoorBn4
set_option linter.unusedVariables false
set_option linter.unusedSimpArgs false
namespace Go.Proofs.YtpmpeihcdiohmaaDoor
open Go.RowKit

/-- DoOf's own answer. -/
def dofV (l : List UInt8) (a b : Int) : Int :=
  if (l == [43]) = true then wrap64 (a + b)
  else if (l == [45]) = true then wrap64 (a - b)
  else if (l == [42]) = true then wrap64 (a * b)
  else if (l == [47]) = true then divV a b
  else if (l == [37]) = true then remV a b
  else if (l == [38]) = true then bits .and .i64 a b
  else if (l == [124]) = true then bits .or .i64 a b
  else if (l == [94]) = true then bits .xor .i64 a b
  else if (l == [60, 60]) = true then wrap64 (a * 2 ^ (b % 64).toNat)
  else if (l == [62, 62]) = true then a / 2 ^ (b % 64).toNat
  else if (l == [60]) = true then bitV (decide (a < b))
  else if (l == [60, 61]) = true then bitV (decide (a ≤ b))
  else if (l == [61, 61]) = true then bitV (a == b)
  else bitV (a != b)
theorem divV_neg (a : Int) : divV a (-1) = wrap64 (-a) := by unfold divV; simp
theorem remV_neg (a : Int) : remV a (-1) = 0 := by unfold remV; simp
theorem divV_other (a b : Int) (h0 : (b == 0) = false) : divV a b = wrap64 (a.tdiv b) := by unfold divV; rw [if_neg (by simpa using h0)]
theorem remV_other (a b : Int) (h0 : (b == 0) = false) : remV a b = a.tmod b := by unfold remV; rw [if_neg (by simpa using h0)]
set_option maxHeartbeats 1000000 in
theorem DoOf_any (s : ByteArray) (a b : Int) (ha : I64 a) (w : World) :
    Calls Tryd.prog 23 #[.string s, .int .i64 a, .int .i64 b] w fun e w' => e = .returned (.int .i64 (dofV s.toList a b)) ∧ w' = w := by
  by_cases hl : s.toList = [62, 62]
  · refine (DoOf_shr s hl a b ha w).mono ?_
    rintro e w' ⟨rfl, rfl⟩
    exact ⟨by rw [hl]; rfl, rfl⟩
  · have hl' : (s.toList == [62, 62]) = false := by simpa using hl
    clear hl
    have hpos : 0 ≤ b % 64 := by omega
    have hle : b % 64 ≤ 63 := by omega
    have hw := mul_wrap a (2 ^ (b % 64).toNat)
    have HW := Lib.hid hw
    clear hw ha
    by_cases h0 : b = 0
    · subst h0
      go_enter Tryd.func23, Tryd.ntmps23
      go_wp2_with (first
        | (go_at_call 41; refine (lowSix_any _ _).mono ?_; rintro e w' ⟨rfl, rfl⟩)
        | (go_at_call 40; refine (powerOf_any _ (by omega) (by omega) _).mono ?_; rintro e w' ⟨rfl, rfl⟩)
        | (go_at_call 39; refine (Bit_any _ _).mono ?_; rintro e w' ⟨rfl, rfl⟩))
      all_goals (go_ret; refine ⟨?_, rfl⟩; simp [*, dofV, divV, remV])
      all_goals (first | (have := HW.out; simpa using this; done) | (unfold wrap64; rfl))
    · by_cases h1 : b = -1
      · subst h1
        go_enter Tryd.func23, Tryd.ntmps23
        go_wp2_with (first
          | (go_at_call 41; refine (lowSix_any _ _).mono ?_; rintro e w' ⟨rfl, rfl⟩)
          | (go_at_call 40; refine (powerOf_any _ (by omega) (by omega) _).mono ?_; rintro e w' ⟨rfl, rfl⟩)
          | (go_at_call 39; refine (Bit_any _ _).mono ?_; rintro e w' ⟨rfl, rfl⟩))
        all_goals (go_ret; refine ⟨?_, rfl⟩; simp [*, dofV, divV, remV])
        all_goals (first | (have := HW.out; simpa using this; done) | (unfold wrap64; rfl))
      · have b0 : (b == 0) = false := by simpa using h0
        have b1 : (b == -1) = false := by simpa using h1
        clear h1
        go_enter Tryd.func23, Tryd.ntmps23
        go_wp2_with (first
          | (go_at_call 41; refine (lowSix_any _ _).mono ?_; rintro e w' ⟨rfl, rfl⟩)
          | (go_at_call 40; refine (powerOf_any _ (by omega) (by omega) _).mono ?_; rintro e w' ⟨rfl, rfl⟩)
          | (go_at_call 39; refine (Bit_any _ _).mono ?_; rintro e w' ⟨rfl, rfl⟩))
        all_goals (go_ret; refine ⟨?_, rfl⟩; simp [*, dofV, divV, remV])
        all_goals (first | (have := HW.out; simpa using this; done) | (unfold wrap64; rfl))
theorem OneOf_any (s : ByteArray) (a v : Int) (hv : oneV s.toList a = some v) (w : World) : Calls Tryd.prog 22 #[.string s, .int .i64 a] w fun e w' => e = .returned (.int .i64 v) ∧ w' = w := by
  have HV := Lib.hid hv
  clear hv
  cases h1 : (s.toList == [45])
  all_goals
    go_enter Tryd.func22, Tryd.ntmps22
    go_wp2_with (go_at_call 39; refine (Bit_any _ _).mono ?_; rintro e w' ⟨rfl, rfl⟩)
    go_ret
    have e := HV.out
    unfold oneV at e
    rw [h1] at e
    simp at e
  · exact ⟨by rw [← e.2]; rfl, rfl⟩
  · exact ⟨by rw [← e]; simp, rfl⟩
theorem doV_ops (l : List UInt8) (a b : Int) : (doV l a b).isSome = opsB.any (fun x => x == l) := by
  by_cases hm : l ∈ opsB
  · have h1 : opsB.any (fun x => x == l) = true := List.any_eq_true.2 ⟨l, hm, by simp⟩
    rw [h1]
    simp only [opsB, List.mem_cons, List.not_mem_nil, or_false] at hm
    rcases hm with rfl | rfl | rfl | rfl | rfl | rfl | rfl | rfl | rfl | rfl | rfl | rfl | rfl | rfl <;> rfl
  · have h1 : opsB.any (fun x => x == l) = false := by
      rw [List.any_eq_false]
      intro x hx e
      exact hm (by have := eq_of_beq e; exact this ▸ hx)
    rw [h1]
    simp only [opsB, List.mem_cons, List.not_mem_nil, or_false, not_or] at hm
    simp [doV, orderV, hm]
theorem doV_dofV (l : List UInt8) (a b v : Int) (h : doV l a b = some v) : dofV l a b = v := by
  have hs : opsB.any (fun x => x == l) = true := by rw [← doV_ops l a b, h]; rfl
  obtain ⟨x, hm, e⟩ := List.any_eq_true.1 hs
  obtain rfl := eq_of_beq e
  simp only [opsB, List.mem_cons, List.not_mem_nil, or_false] at hm
  rcases hm with rfl | rfl | rfl | rfl | rfl | rfl | rfl | rfl | rfl | rfl | rfl | rfl | rfl | rfl <;> exact Option.some.inj h
theorem bitV_I64 (b : Bool) : I64 (bitV b) := by cases b <;> (unfold I64 bitV; decide)
theorem tmod_I64 {a : Int} (ha : I64 a) (b : Int) : I64 (a.tmod b) := by
  have h1 : (a.tmod b).natAbs ≤ a.natAbs := by rw [Int.natAbs_tmod]; exact Nat.mod_le _ _
  unfold I64 at *
  by_cases h : 0 ≤ a
  · omega
  · have h2 : 0 ≤ (-a).tmod b := Int.tmod_nonneg b (by omega)
    rw [Int.neg_tmod] at h2
    omega
theorem divV_I64 (a b : Int) : I64 (divV a b) := by
  unfold divV
  split
  · unfold I64; omega
  · exact wrap64_I64 _
theorem remV_I64 {a : Int} (ha : I64 a) (b : Int) : I64 (remV a b) := by
  unfold remV
  split
  · exact ha
  · exact tmod_I64 ha b
theorem ite_I64 {c : Prop} [Decidable c] {a b : Int} (h1 : I64 a) (h2 : I64 b) : I64 (if c then a else b) := by split <;> assumption
theorem dofV_I64 (l : List UInt8) {a : Int} (ha : I64 a) (b : Int) : I64 (dofV l a b) := by
  unfold dofV
  repeat' (with_reducible refine ite_I64 ?_ ?_)
  all_goals first
    | exact wrap64_I64 _
    | exact divV_I64 _ _
    | exact remV_I64 ha _
    | exact bits_I64 _ _ _
    | exact shr_I64 _ ha _
    | exact bitV_I64 _
theorem oneV_I64 {l : List UInt8} {a v : Int} (h : oneV l a = some v) : I64 v := by
  unfold oneV at h
  split at h
  · injection h with h; subst h; exact wrap64_I64 _
  · split at h
    · injection h with h; subst h; exact bitV_I64 _
    · cases h
end Go.Proofs.YtpmpeihcdiohmaaDoor

namespace Go.Proofs.YtpmpeihcdiohmaaDoor
open Go.RowKit

/-! codes of registers, in plain Lean -/
structure PLow where
  kind : List UInt8
  d : Int
  a : Int
  b : Int
  num : Int
  name : List UInt8
structure PBlk where
  ins : List PLow
  fin : List UInt8
  a : Int
  nx : List Int
structure PCd where
  name : List UInt8
  params : Int
  slots : Int
  blocks : List PBlk
def kParam : List UInt8 := [112, 97, 114, 97, 109]
def kConst : List UInt8 := [99, 111, 110, 115, 116]
def kLoad : List UInt8 := [108, 111, 97, 100]
def kOne : List UInt8 := [111, 110, 101]
def kTwo : List UInt8 := [116, 119, 111]
def kMove : List UInt8 := [109, 111, 118, 101]
def kStore : List UInt8 := [115, 116, 111, 114, 101]
def kArg : List UInt8 := [97, 114, 103]
def kCall : List UInt8 := [99, 97, 108, 108]
def kTick : List UInt8 := [116, 105, 99, 107]
def kPrint : List UInt8 := [112, 114, 105, 110, 116]
def eJump : List UInt8 := [106, 117, 109, 112]
def eIf : List UInt8 := [105, 102]
def eReturn : List UInt8 := [114, 101, 116, 117, 114, 110]
def hOver : List UInt8 := [111, 118, 101, 114]
def hDone : List UInt8 := [100, 111, 110, 101]
def hStuck : List UInt8 := [115, 116, 117, 99, 107]
def hLong : List UInt8 := [108, 111, 110, 103]
/-- A kind's number: 0 for one that there is not. -/
def kindN (k : List UInt8) : Nat :=
  if (k == kParam) = true then 1 else if (k == kConst) = true then 2 else if (k == kLoad) = true then 3 else if (k == kOne) = true then 4
  else if (k == kTwo) = true then 5 else if (k == kMove) = true then 6 else if (k == kStore) = true then 7 else if (k == kArg) = true then 8
  else if (k == kCall) = true then 9 else if (k == kTick) = true then 10 else if (k == kPrint) = true then 11 else 0
def kHas : Nat → List UInt8
  | 1 => [100, 110]
  | 2 => [100, 110]
  | 3 => [100, 110]
  | 4 => [100, 97, 115]
  | 5 => [100, 97, 98, 115]
  | 6 => [100, 97]
  | 7 => [97, 110]
  | 8 => [97, 110]
  | 9 => [100, 110, 115]
  | 11 => [97]
  | _ => []
def regA (n : Int) : Bool := decide (0 ≤ n) && decide (n < 8)
/-- Is a kind one, and its op? -/
def lowKnown (x : PLow) : Bool :=
  if kindN x.kind = 4 then (oneV x.name 0).isSome else if kindN x.kind = 5 then (doV x.name 0 0).isSome else kindN x.kind != 0
def lowNumber (c : PCd) (x : PLow) : Bool :=
  match kindN x.kind with
  | 1 => decide (0 ≤ x.num) && decide (x.num < c.params)
  | 3 => decide (0 ≤ x.num) && decide (x.num < c.slots)
  | 7 => decide (0 ≤ x.num) && decide (x.num < c.slots)
  | 8 => decide (0 ≤ x.num) && decide (x.num < 4)
  | 9 => decide (0 ≤ x.num) && decide (x.num ≤ 4)
  | _ => true
def lowHas (x : PLow) (l : UInt8) : Bool := (kHas (kindN x.kind)).contains l
def lowWithin (c : PCd) (x : PLow) : Bool :=
  lowNumber c x && (!lowHas x 100 || regA x.d) && (!lowHas x 97 || regA x.a) && (!lowHas x 98 || regA x.b)
def lowBare (x : PLow) : Bool :=
  (lowHas x 100 || x.d == 0) && (lowHas x 97 || x.a == 0) && (lowHas x 98 || x.b == 0) && (lowHas x 110 || x.num == 0) && (lowHas x 115 || x.name.isEmpty)
/-- How many blocks come behind an end (-1: there is no such end). -/
def endN (e : List UInt8) : Int := if (e == eJump) = true then 1 else if (e == eIf) = true then 2 else if (e == eReturn) = true then 0 else -1
def farTo (n : Nat) (l : List Int) : Bool := l.any fun k => decide (k < 0) || decide ((n : Int) ≤ k)
def blkKind (b : PBlk) : Bool := decide (endN b.fin < 0) || !b.ins.all lowKnown
def blkBound (c : PCd) (b : PBlk) : Bool := farTo c.blocks.length b.nx || (b.fin != eJump && !regA b.a) || !b.ins.all (lowWithin c)
def blkShape (b : PBlk) : Bool := ((b.nx.length : Int) != endN b.fin) || (b.fin == eJump && b.a != 0) || !b.ins.all lowBare
def blkC (c : PCd) (b : PBlk) : Nat := if blkKind b then 4 else if blkBound c b then 2 else if blkShape b then 3 else 0
def blksC (c : PCd) : List PBlk → Nat → Nat × Int
  | [], _ => (0, -1)
  | b :: l, k => if blkC c b ≠ 0 then (blkC c b, (k : Int)) else blksC c l (k + 1)
def lowC (c : PCd) : Nat × Int :=
  if 3000 < c.blocks.length then (8, -1) else if c.blocks.length = 0 then (3, -1) else if c.params < 0 ∨ 4 < c.params then (9, -1)
  else if c.slots < 0 ∨ 1000 < c.slots then (2, -1) else blksC c c.blocks 0

/-! a walk -/
structure ASt where
  r : List Int
  slots : List Int
  next : List Int
  out : List Int
  calls : List (List UInt8 × List Int)
  ticks : Int
def next0 : List Int := [0, 0, 0, 0]
def ASt0 (c : PCd) : ASt := ⟨[0, 0, 0, 0, 0, 0, 0, 0], List.replicate c.slots.toNat 0, next0, [], [], 0⟩
def rOf (s : ASt) (n : Int) : Int := s.r.getD n.toNat 0
def putR (s : ASt) (x : PLow) (v : Int) : ASt := { s with r := s.r.set x.d.toNat v }
/-- An instruction (none: it is over). -/
def insA (T : Int) (args ans : List Int) (x : PLow) (s : ASt) : Option ASt :=
  match kindN x.kind with
  | 1 => some (putR s x (args.getD x.num.toNat 0))
  | 3 => some (putR s x (s.slots.getD x.num.toNat 0))
  | 4 => some (putR s x ((oneV x.name (rOf s x.a)).getD 0))
  | 5 => some (putR s x ((doV x.name (rOf s x.a) (rOf s x.b)).getD 0))
  | 6 => some (putR s x (rOf s x.a))
  | 7 => some { s with slots := s.slots.set x.num.toNat (rOf s x.a) }
  | 8 => some { s with next := s.next.set x.num.toNat (rOf s x.a) }
  | 9 => if ans.length ≤ s.calls.length then none
         else some { putR s x (ans.getD s.calls.length 0) with calls := s.calls ++ [(x.name, s.next.take x.num.toNat)], next := next0 }
  | 10 => if T ≤ s.ticks then none else some { s with ticks := s.ticks + 1 }
  | 11 => if 1000 ≤ s.out.length then none else some { s with out := s.out ++ [rOf s x.a] }
  | _ => some (putR s x x.num)
/-- Instructions: is it over, and the state. -/
def inssA (T : Int) (args ans : List Int) : List PLow → ASt → Bool × ASt
  | [], s => (false, s)
  | x :: l, s => match insA T args ans x s with
    | none => (true, s)
    | some s' => inssA T args ans l s'
/-- The block behind one. -/
def nextA (b : PBlk) (s : ASt) : Nat := if (b.fin == eIf) = true ∧ rOf s b.a = 0 then (b.nx.getD 1 0).toNat else (b.nx.getD 0 0).toNat
/-- How a walk ended: how, the value, the state (none: too long). -/
def runA (c : PCd) (T : Int) (args ans : List Int) : Nat → Nat → ASt → Option (List UInt8 × Int × ASt)
  | 0, _, _ => none
  | n + 1, k, s => match c.blocks[k]? with
    | none => none
    | some b => match inssA T args ans b.ins s with
      | (true, s') => some (hOver, 0, s')
      | (false, s') => if (b.fin == eReturn) = true then some (hDone, rOf s' b.a, s') else runA c T args ans n (nextA b s') s'
theorem runA_more {c : PCd} {T : Int} {args ans : List Int} : ∀ {n m k : Nat} {s : ASt} {x : List UInt8 × Int × ASt}, n ≤ m → runA c T args ans n k s = some x → runA c T args ans m k s = some x := by
  intro n
  induction n with
  | zero => intro m k s x _ h; cases h
  | succ n ih =>
    intro m k s x hm h
    obtain ⟨m, rfl⟩ : ∃ j, m = j + 1 := ⟨m - 1, by omega⟩
    unfold runA at h ⊢
    cases hb : c.blocks[k]? with
    | none => rw [hb] at h; cases h
    | some b =>
      rw [hb] at h
      dsimp only at h ⊢
      cases hi : inssA T args ans b.ins s with
      | mk o s' =>
        rw [hi] at h
        cases o with
        | true => exact h
        | false =>
          dsimp only at h ⊢
          by_cases hf : (b.fin == eReturn) = true
          · rw [if_pos hf] at h ⊢; exact h
          · rw [if_neg hf] at h ⊢; exact ih (by omega) h

/-! what a right code is -/
structure LowOk (c : PCd) (x : PLow) : Prop where
  known : lowKnown x = true
  within : lowWithin c x = true
  bare : lowBare x = true
structure BlkOk (c : PCd) (b : PBlk) : Prop where
  fin : 0 ≤ endN b.fin
  nx : (b.nx.length : Int) = endN b.fin
  far : ∀ k ∈ b.nx, 0 ≤ k ∧ k < c.blocks.length
  reg : b.fin ≠ eJump → 0 ≤ b.a ∧ b.a < 8
  ins : ∀ x ∈ b.ins, LowOk c x
structure GoodA (c : PCd) : Prop where
  some : 0 < c.blocks.length
  most : c.blocks.length ≤ 3000
  params : 0 ≤ c.params ∧ c.params ≤ 4
  slots : 0 ≤ c.slots ∧ c.slots ≤ 1000
  blocks : ∀ b ∈ c.blocks, BlkOk c b
theorem blksC_zero {c : PCd} : ∀ {l : List PBlk} {k : Nat}, (blksC c l k).1 = 0 ↔ ∀ b ∈ l, blkC c b = 0 := by
  intro l
  induction l with
  | nil => intro k; exact ⟨fun _ b h => (by cases h), fun _ => rfl⟩
  | cons b l ih =>
    intro k
    unfold blksC
    by_cases h : blkC c b = 0
    · rw [if_neg (by simpa using h), ih]
      exact ⟨fun g x hx => by rcases List.mem_cons.1 hx with rfl | hx; exact h; exact g x hx, fun g x hx => g x (List.mem_cons_of_mem _ hx)⟩
    · rw [if_pos h]
      exact ⟨fun g => absurd g h, fun g => absurd (g b List.mem_cons_self) h⟩
theorem blk_ok {c : PCd} {b : PBlk} (h : blkC c b = 0) : BlkOk c b := by
  unfold blkC at h
  split at h
  · exact absurd h (by decide)
  · rename_i h1
    split at h
    · exact absurd h (by decide)
    · rename_i h2
      split at h
      · exact absurd h (by decide)
      · rename_i h3
        have k1 : ¬ endN b.fin < 0 ∧ b.ins.all lowKnown = true := by
          unfold blkKind at h1
          cases hk : b.ins.all lowKnown
          · rw [hk] at h1; simp at h1
          · rw [hk] at h1; exact ⟨by simpa using h1, rfl⟩
        have k2 : farTo c.blocks.length b.nx = false ∧ (b.fin ≠ eJump → regA b.a = true) ∧ b.ins.all (lowWithin c) = true := by
          unfold blkBound at h2
          cases hf : farTo c.blocks.length b.nx
          · cases hk : b.ins.all (lowWithin c)
            · rw [hk] at h2; simp at h2
            · refine ⟨rfl, fun he => ?_, rfl⟩
              cases hr : regA b.a
              · rw [hr] at h2; simp [he] at h2
              · rfl
          · rw [hf] at h2; simp at h2
        have k3 : (b.nx.length : Int) = endN b.fin ∧ b.ins.all lowBare = true := by
          unfold blkShape at h3
          cases hk : b.ins.all lowBare
          · rw [hk] at h3; simp at h3
          · refine ⟨?_, rfl⟩
            by_cases he : (b.nx.length : Int) = endN b.fin
            · exact he
            · simp [he] at h3
        refine ⟨by omega, k3.1, fun k hk => ?_, fun hf => ?_, fun x hx => ⟨List.all_eq_true.1 k1.2 x hx, List.all_eq_true.1 k2.2.2 x hx, List.all_eq_true.1 k3.2 x hx⟩⟩
        · have h9 := k2.1
          unfold farTo at h9
          rw [List.any_eq_false] at h9
          have := h9 k hk
          simp only [Bool.or_eq_true, decide_eq_true_eq, not_or] at this
          omega
        · have h9 := k2.2.1 hf
          unfold regA at h9
          simp only [Bool.and_eq_true, decide_eq_true_eq] at h9
          exact h9
theorem lowC_good {c : PCd} (h : (lowC c).1 = 0) : GoodA c := by
  unfold lowC at h
  split at h
  · exact absurd h (by decide)
  · split at h
    · exact absurd h (by decide)
    · split at h
      · exact absurd h (by decide)
      · split at h
        · exact absurd h (by decide)
        · rename_i h1 h2 h3 h4
          exact ⟨by omega, by omega, by omega, by omega, fun b hb => blk_ok (blksC_zero.1 h b hb)⟩
theorem blksC_at {c : PCd} : ∀ {l : List PBlk} {k : Nat}, (blksC c l k).1 = 0 → (blksC c l k).2 = -1 := by
  intro l
  induction l with
  | nil => intro k _; rfl
  | cons b l ih =>
    intro k h
    unfold blksC at h ⊢
    by_cases h5 : blkC c b ≠ 0
    · rw [if_pos h5] at h; exact absurd h h5
    · rw [if_neg h5] at h ⊢; exact ih h
theorem lowC_at {c : PCd} (h : (lowC c).1 = 0) : (lowC c).2 = -1 := by
  unfold lowC at h ⊢
  split at h
  · exact absurd h (by decide)
  · rename_i h1
    rw [if_neg h1]
    split at h
    · exact absurd h (by decide)
    · rename_i h2
      rw [if_neg h2]
      split at h
      · exact absurd h (by decide)
      · rename_i h3
        rw [if_neg h3]
        split at h
        · exact absurd h (by decide)
        · rename_i h4
          rw [if_neg h4]
          exact blksC_at h
end Go.Proofs.YtpmpeihcdiohmaaDoor

namespace Go.Proofs.YtpmpeihcdiohmaaDoor
open Go.RowKit

/-! a walk stays well -/
theorem kind_lt (k : List UInt8) : kindN k ≤ 11 := by
  unfold kindN
  repeat' split
  all_goals omega
theorem oneV_some (l : List UInt8) (a b : Int) : (oneV l a).isSome = (oneV l b).isSome := by
  unfold oneV
  split
  · rfl
  · split <;> rfl
theorem doV_some (l : List UInt8) (a b c d : Int) : (doV l a b).isSome = (doV l c d).isSome := by rw [doV_ops, doV_ops]
/-- What a right instruction has. -/
structure LowF (c : PCd) (x : PLow) : Prop where
  kind : kindN x.kind ≠ 0
  d : kindN x.kind ∈ [1, 2, 3, 4, 5, 6, 9] → 0 ≤ x.d ∧ x.d < 8
  a : kindN x.kind ∈ [4, 5, 6, 7, 8, 11] → 0 ≤ x.a ∧ x.a < 8
  b : kindN x.kind = 5 → 0 ≤ x.b ∧ x.b < 8
  param : kindN x.kind = 1 → 0 ≤ x.num ∧ x.num < c.params
  slot : kindN x.kind ∈ [3, 7] → 0 ≤ x.num ∧ x.num < c.slots
  arg : kindN x.kind = 8 → 0 ≤ x.num ∧ x.num < 4
  call : kindN x.kind = 9 → 0 ≤ x.num ∧ x.num ≤ 4
  one : kindN x.kind = 4 → ∀ a, (oneV x.name a).isSome = true
  two : kindN x.kind = 5 → ∀ a b, (doV x.name a b).isSome = true
theorem regA_le {n : Int} (h : regA n = true) : 0 ≤ n ∧ n < 8 := by
  unfold regA at h
  simpa using h
theorem low_within {c : PCd} {x : PLow} (h : lowWithin c x = true) : lowNumber c x = true ∧ (lowHas x 100 = true → regA x.d = true) ∧ (lowHas x 97 = true → regA x.a = true) ∧ (lowHas x 98 = true → regA x.b = true) := by
  unfold lowWithin at h
  simp only [Bool.and_eq_true, Bool.or_eq_true, Bool.not_eq_true'] at h
  obtain ⟨⟨⟨h0, h1⟩, h2⟩, h3⟩ := h
  exact ⟨h0, fun e => h1.resolve_left (by simp [e]), fun e => h2.resolve_left (by simp [e]), fun e => h3.resolve_left (by simp [e])⟩
theorem low_facts {c : PCd} {x : PLow} (h : LowOk c x) : LowF c x := by
  obtain ⟨w0, w1, w2, w3⟩ := low_within h.within
  have h1 := h.known
  have hN : ∀ n, kindN x.kind = n → lowNumber c x = (match n with
      | 1 => decide (0 ≤ x.num) && decide (x.num < c.params)
      | 3 => decide (0 ≤ x.num) && decide (x.num < c.slots)
      | 7 => decide (0 ≤ x.num) && decide (x.num < c.slots)
      | 8 => decide (0 ≤ x.num) && decide (x.num < 4)
      | 9 => decide (0 ≤ x.num) && decide (x.num ≤ 4)
      | _ => true) := fun n hn => by unfold lowNumber; rw [hn] <;> rfl
  refine ⟨fun e => ?_, fun hm => regA_le (w1 ?_), fun hm => regA_le (w2 ?_), fun hm => regA_le (w3 ?_), fun e => ?_, fun hm => ?_, fun e => ?_, fun e => ?_, fun e a => ?_, fun e a b => ?_⟩
  · unfold lowKnown at h1
    rw [e] at h1
    simp at h1
  · simp only [List.mem_cons, List.not_mem_nil, or_false] at hm
    rcases hm with e | e | e | e | e | e | e <;> (unfold lowHas; rw [e]; rfl)
  · simp only [List.mem_cons, List.not_mem_nil, or_false] at hm
    rcases hm with e | e | e | e | e | e <;> (unfold lowHas; rw [e]; rfl)
  · unfold lowHas; rw [hm]; rfl
  · rw [hN _ e] at w0; simpa using w0
  · simp only [List.mem_cons, List.not_mem_nil, or_false] at hm
    rcases hm with e | e <;> (rw [hN _ e] at w0; simpa using w0)
  · rw [hN _ e] at w0; simpa using w0
  · rw [hN _ e] at w0; simpa using w0
  · unfold lowKnown at h1
    rw [if_pos e] at h1
    rw [oneV_some _ a 0]; exact h1
  · unfold lowKnown at h1
    rw [if_neg (by rw [e]; decide), if_pos e] at h1
    rw [doV_some _ a b 0 0]; exact h1

structure AOk (c : PCd) (T : Int) (ans : List Int) (s : ASt) : Prop where
  r8 : s.r.length = 8
  r6 : ∀ n ∈ s.r, I64 n
  sl : s.slots.length = c.slots.toNat
  s6 : ∀ n ∈ s.slots, I64 n
  n4 : s.next.length = 4
  n6 : ∀ n ∈ s.next, I64 n
  out : s.out.length ≤ 1000
  o6 : ∀ n ∈ s.out, I64 n
  calls : s.calls.length ≤ ans.length
  c6 : ∀ p ∈ s.calls, p.2.length ≤ 4
  ticks : 0 ≤ s.ticks ∧ s.ticks ≤ T
theorem i64_zero : I64 0 := ⟨by decide, by decide⟩
theorem getDA_I64 {l : List Int} (h : ∀ n ∈ l, I64 n) (k : Nat) : I64 (l.getD k 0) := by
  rw [List.getD_eq_getElem?_getD]
  cases hk : l[k]? with
  | none => exact i64_zero
  | some v => exact h v (List.mem_of_getElem? hk)
theorem setA_I64 {l : List Int} (h : ∀ n ∈ l, I64 n) (k : Nat) {v : Int} (hv : I64 v) : ∀ n ∈ l.set k v, I64 n := fun n hn => by
  rcases List.mem_or_eq_of_mem_set hn with hn | rfl
  · exact h n hn
  · exact hv
theorem aok_start {c : PCd} {T : Int} {ans : List Int} (hT : 0 ≤ T) : AOk c T ans (ASt0 c) where
  r8 := rfl
  r6 := fun n hn => by simp only [ASt0, List.mem_cons, List.not_mem_nil, or_false] at hn; rcases hn with rfl | rfl | rfl | rfl | rfl | rfl | rfl | rfl <;> exact i64_zero
  sl := by simp [ASt0]
  s6 := fun n hn => by rw [(List.mem_replicate.1 hn).2]; exact i64_zero
  n4 := rfl
  n6 := fun n hn => by simp only [ASt0, next0, List.mem_cons, List.not_mem_nil, or_false] at hn; rcases hn with rfl | rfl | rfl | rfl <;> exact i64_zero
  out := Nat.zero_le _
  o6 := fun n hn => by cases hn
  calls := Nat.zero_le _
  c6 := fun p hp => by cases hp
  ticks := ⟨Int.le_refl _, hT⟩
theorem AOk.put {c : PCd} {T : Int} {ans : List Int} {s : ASt} (h : AOk c T ans s) (x : PLow) {v : Int} (hv : I64 v) : AOk c T ans (putR s x v) :=
  { h with r8 := by simp [putR, h.r8], r6 := setA_I64 h.r6 _ hv }
theorem doV_I64 {l : List UInt8} {a b v : Int} (ha : I64 a) (h : doV l a b = some v) : I64 v := by
  rw [← doV_dofV l a b v h]; exact dofV_I64 l ha b
theorem aok_ins {c : PCd} {T : Int} {args ans : List Int} (ha6 : ∀ n ∈ args, I64 n) (hn6 : ∀ n ∈ ans, I64 n) {x : PLow} (hx : I64 x.num) {s s' : ASt} (h : AOk c T ans s) (hs : insA T args ans x s = some s') : AOk c T ans s' := by
  unfold insA at hs
  split at hs
  · cases hs; exact h.put x (getDA_I64 ha6 _)
  · cases hs; exact h.put x (getDA_I64 h.s6 _)
  · cases hs
    refine h.put x ?_
    cases ho : oneV x.name (rOf s x.a) with
    | none => exact i64_zero
    | some v => exact oneV_I64 ho
  · cases hs
    refine h.put x ?_
    cases ho : doV x.name (rOf s x.a) (rOf s x.b) with
    | none => exact i64_zero
    | some v => exact doV_I64 (getDA_I64 h.r6 _) ho
  · cases hs; exact h.put x (getDA_I64 h.r6 _)
  · cases hs; exact { h with sl := by simp [h.sl], s6 := setA_I64 h.s6 _ (getDA_I64 h.r6 _) }
  · cases hs; exact { h with n4 := by simp [h.n4], n6 := setA_I64 h.n6 _ (getDA_I64 h.r6 _) }
  · split at hs
    · cases hs
    · rename_i hc
      cases hs
      have hp := h.put x (getDA_I64 hn6 s.calls.length)
      exact { hp with
        n4 := rfl
        n6 := fun n hn => by simp only [next0, List.mem_cons, List.not_mem_nil, or_false] at hn; rcases hn with rfl | rfl | rfl | rfl <;> exact i64_zero
        calls := by simp; omega
        c6 := fun p hp => by
          rcases List.mem_append.1 hp with hp | hp
          · exact h.c6 p hp
          · rw [List.mem_singleton.1 hp]; have := h.n4; simp only [List.length_take]; omega }
  · split at hs
    · cases hs
    · rename_i hc
      cases hs
      exact { h with ticks := ⟨by have := h.ticks; show 0 ≤ s.ticks + 1; omega, by show s.ticks + 1 ≤ T; omega⟩ }
  · split at hs
    · cases hs
    · rename_i hc
      cases hs
      exact { h with
        out := by show (s.out ++ [rOf s x.a]).length ≤ 1000; simp; omega
        o6 := fun n hn => by
          rcases List.mem_append.1 hn with hn | hn
          · exact h.o6 n hn
          · rw [List.mem_singleton.1 hn]; exact getDA_I64 h.r6 _ }
  · cases hs; exact h.put x hx
theorem aok_inss {c : PCd} {T : Int} {args ans : List Int} (ha6 : ∀ n ∈ args, I64 n) (hn6 : ∀ n ∈ ans, I64 n) : ∀ {l : List PLow}, (∀ x ∈ l, I64 x.num) → ∀ {s : ASt}, AOk c T ans s → AOk c T ans (inssA T args ans l s).2 := by
  intro l
  induction l with
  | nil => intro _ s h; exact h
  | cons x l ih =>
    intro hl s h
    unfold inssA
    cases hi : insA T args ans x s with
    | none => exact h
    | some s' => exact ih (fun y hy => hl y (List.mem_cons_of_mem _ hy)) (aok_ins ha6 hn6 (hl x List.mem_cons_self) h hi)
end Go.Proofs.YtpmpeihcdiohmaaDoor

namespace Go.Proofs.YtpmpeihcdiohmaaDoor
open Go.RowKit

/-! letters of a kind (printed by gen_alhas.py) -/
def kHasR (n : Nat) : List UInt8 := if n = 10 then [45] else kHas n
set_option maxRecDepth 100000 in
theorem has_any (k : List UInt8) (w : World) : Calls Tryd.prog 54 #[.string (mkB k)] w (Ret (.tuple #[.string (mkB (kHas (kindN k))), .bool (kindN k != 0)]) w) := by
  have e1 : ((mkB k).toList == [112, 97, 114, 97, 109]) = (k == kParam) := by rw [mkB_toList]; rfl
  have e2 : ((mkB k).toList == [99, 111, 110, 115, 116]) = (k == kConst) := by rw [mkB_toList]; rfl
  have e3 : ((mkB k).toList == [108, 111, 97, 100]) = (k == kLoad) := by rw [mkB_toList]; rfl
  have e4 : ((mkB k).toList == [111, 110, 101]) = (k == kOne) := by rw [mkB_toList]; rfl
  have e5 : ((mkB k).toList == [116, 119, 111]) = (k == kTwo) := by rw [mkB_toList]; rfl
  have e6 : ((mkB k).toList == [109, 111, 118, 101]) = (k == kMove) := by rw [mkB_toList]; rfl
  have e7 : ((mkB k).toList == [115, 116, 111, 114, 101]) = (k == kStore) := by rw [mkB_toList]; rfl
  have e8 : ((mkB k).toList == [97, 114, 103]) = (k == kArg) := by rw [mkB_toList]; rfl
  have e9 : ((mkB k).toList == [99, 97, 108, 108]) = (k == kCall) := by rw [mkB_toList]; rfl
  have e10 : ((mkB k).toList == [116, 105, 99, 107]) = (k == kTick) := by rw [mkB_toList]; rfl
  have e11 : ((mkB k).toList == [112, 114, 105, 110, 116]) = (k == kPrint) := by rw [mkB_toList]; rfl
  cases h1 : (k == kParam)
  · rw [h1] at e1
    cases h2 : (k == kConst)
    · rw [h2] at e2
      cases h3 : (k == kLoad)
      · rw [h3] at e3
        cases h4 : (k == kOne)
        · rw [h4] at e4
          cases h5 : (k == kTwo)
          · rw [h5] at e5
            cases h6 : (k == kMove)
            · rw [h6] at e6
              cases h7 : (k == kStore)
              · rw [h7] at e7
                cases h8 : (k == kArg)
                · rw [h8] at e8
                  cases h9 : (k == kCall)
                  · rw [h9] at e9
                    cases h10 : (k == kTick)
                    · rw [h10] at e10
                      cases h11 : (k == kPrint)
                      · rw [h11] at e11
                        have HK : Hid (kindN k = 0) := by show kindN k = 0; unfold kindN; simp only [h1, h2, h3, h4, h5, h6, h7, h8, h9, h10, h11]; rfl
                        clear h1 h2 h3 h4 h5 h6 h7 h8 h9 h10 h11
                        go_enter Tryd.func54, Tryd.ntmps54
                        go_wp2_with fail
                        go_returns
                        exact ⟨by rw [HK.out]; rfl, grow_refl _⟩
                      · rw [h11] at e11
                        have HK : Hid (kindN k = 11) := by show kindN k = 11; unfold kindN; simp only [h1, h2, h3, h4, h5, h6, h7, h8, h9, h10, h11]; rfl
                        clear h1 h2 h3 h4 h5 h6 h7 h8 h9 h10 h11
                        go_enter Tryd.func54, Tryd.ntmps54
                        go_wp2_with fail
                        go_returns
                        exact ⟨by rw [HK.out]; rfl, grow_refl _⟩
                    · rw [h10] at e10
                      have HK : Hid (kindN k = 10) := by show kindN k = 10; unfold kindN; simp only [h1, h2, h3, h4, h5, h6, h7, h8, h9, h10]; rfl
                      rw [show (k == kPrint) = false by rw [eq_of_beq h10]; rfl] at e11
                      clear h1 h2 h3 h4 h5 h6 h7 h8 h9 h10
                      go_enter Tryd.func54, Tryd.ntmps54
                      go_wp2_with fail
                      go_returns
                      exact ⟨by rw [HK.out]; rfl, grow_refl _⟩
                  · rw [h9] at e9
                    have HK : Hid (kindN k = 9) := by show kindN k = 9; unfold kindN; simp only [h1, h2, h3, h4, h5, h6, h7, h8, h9]; rfl
                    rw [show (k == kTick) = false by rw [eq_of_beq h9]; rfl] at e10
                    rw [show (k == kPrint) = false by rw [eq_of_beq h9]; rfl] at e11
                    clear h1 h2 h3 h4 h5 h6 h7 h8 h9
                    go_enter Tryd.func54, Tryd.ntmps54
                    go_wp2_with fail
                    go_returns
                    exact ⟨by rw [HK.out]; rfl, grow_refl _⟩
                · rw [h8] at e8
                  have HK : Hid (kindN k = 8) := by show kindN k = 8; unfold kindN; simp only [h1, h2, h3, h4, h5, h6, h7, h8]; rfl
                  rw [show (k == kCall) = false by rw [eq_of_beq h8]; rfl] at e9
                  rw [show (k == kTick) = false by rw [eq_of_beq h8]; rfl] at e10
                  rw [show (k == kPrint) = false by rw [eq_of_beq h8]; rfl] at e11
                  clear h1 h2 h3 h4 h5 h6 h7 h8
                  go_enter Tryd.func54, Tryd.ntmps54
                  go_wp2_with fail
                  go_returns
                  exact ⟨by rw [HK.out]; rfl, grow_refl _⟩
              · rw [h7] at e7
                have HK : Hid (kindN k = 7) := by show kindN k = 7; unfold kindN; simp only [h1, h2, h3, h4, h5, h6, h7]; rfl
                rw [show (k == kArg) = false by rw [eq_of_beq h7]; rfl] at e8
                rw [show (k == kCall) = false by rw [eq_of_beq h7]; rfl] at e9
                rw [show (k == kTick) = false by rw [eq_of_beq h7]; rfl] at e10
                rw [show (k == kPrint) = false by rw [eq_of_beq h7]; rfl] at e11
                clear h1 h2 h3 h4 h5 h6 h7
                go_enter Tryd.func54, Tryd.ntmps54
                go_wp2_with fail
                go_returns
                exact ⟨by rw [HK.out]; rfl, grow_refl _⟩
            · rw [h6] at e6
              have HK : Hid (kindN k = 6) := by show kindN k = 6; unfold kindN; simp only [h1, h2, h3, h4, h5, h6]; rfl
              rw [show (k == kStore) = false by rw [eq_of_beq h6]; rfl] at e7
              rw [show (k == kArg) = false by rw [eq_of_beq h6]; rfl] at e8
              rw [show (k == kCall) = false by rw [eq_of_beq h6]; rfl] at e9
              rw [show (k == kTick) = false by rw [eq_of_beq h6]; rfl] at e10
              rw [show (k == kPrint) = false by rw [eq_of_beq h6]; rfl] at e11
              clear h1 h2 h3 h4 h5 h6
              go_enter Tryd.func54, Tryd.ntmps54
              go_wp2_with fail
              go_returns
              exact ⟨by rw [HK.out]; rfl, grow_refl _⟩
          · rw [h5] at e5
            have HK : Hid (kindN k = 5) := by show kindN k = 5; unfold kindN; simp only [h1, h2, h3, h4, h5]; rfl
            rw [show (k == kMove) = false by rw [eq_of_beq h5]; rfl] at e6
            rw [show (k == kStore) = false by rw [eq_of_beq h5]; rfl] at e7
            rw [show (k == kArg) = false by rw [eq_of_beq h5]; rfl] at e8
            rw [show (k == kCall) = false by rw [eq_of_beq h5]; rfl] at e9
            rw [show (k == kTick) = false by rw [eq_of_beq h5]; rfl] at e10
            rw [show (k == kPrint) = false by rw [eq_of_beq h5]; rfl] at e11
            clear h1 h2 h3 h4 h5
            go_enter Tryd.func54, Tryd.ntmps54
            go_wp2_with fail
            go_returns
            exact ⟨by rw [HK.out]; rfl, grow_refl _⟩
        · rw [h4] at e4
          have HK : Hid (kindN k = 4) := by show kindN k = 4; unfold kindN; simp only [h1, h2, h3, h4]; rfl
          rw [show (k == kTwo) = false by rw [eq_of_beq h4]; rfl] at e5
          rw [show (k == kMove) = false by rw [eq_of_beq h4]; rfl] at e6
          rw [show (k == kStore) = false by rw [eq_of_beq h4]; rfl] at e7
          rw [show (k == kArg) = false by rw [eq_of_beq h4]; rfl] at e8
          rw [show (k == kCall) = false by rw [eq_of_beq h4]; rfl] at e9
          rw [show (k == kTick) = false by rw [eq_of_beq h4]; rfl] at e10
          rw [show (k == kPrint) = false by rw [eq_of_beq h4]; rfl] at e11
          clear h1 h2 h3 h4
          go_enter Tryd.func54, Tryd.ntmps54
          go_wp2_with fail
          go_returns
          exact ⟨by rw [HK.out]; rfl, grow_refl _⟩
      · rw [h3] at e3
        have HK : Hid (kindN k = 3) := by show kindN k = 3; unfold kindN; simp only [h1, h2, h3]; rfl
        rw [show (k == kOne) = false by rw [eq_of_beq h3]; rfl] at e4
        rw [show (k == kTwo) = false by rw [eq_of_beq h3]; rfl] at e5
        rw [show (k == kMove) = false by rw [eq_of_beq h3]; rfl] at e6
        rw [show (k == kStore) = false by rw [eq_of_beq h3]; rfl] at e7
        rw [show (k == kArg) = false by rw [eq_of_beq h3]; rfl] at e8
        rw [show (k == kCall) = false by rw [eq_of_beq h3]; rfl] at e9
        rw [show (k == kTick) = false by rw [eq_of_beq h3]; rfl] at e10
        rw [show (k == kPrint) = false by rw [eq_of_beq h3]; rfl] at e11
        clear h1 h2 h3
        go_enter Tryd.func54, Tryd.ntmps54
        go_wp2_with fail
        go_returns
        exact ⟨by rw [HK.out]; rfl, grow_refl _⟩
    · rw [h2] at e2
      have HK : Hid (kindN k = 2) := by show kindN k = 2; unfold kindN; simp only [h1, h2]; rfl
      rw [show (k == kLoad) = false by rw [eq_of_beq h2]; rfl] at e3
      rw [show (k == kOne) = false by rw [eq_of_beq h2]; rfl] at e4
      rw [show (k == kTwo) = false by rw [eq_of_beq h2]; rfl] at e5
      rw [show (k == kMove) = false by rw [eq_of_beq h2]; rfl] at e6
      rw [show (k == kStore) = false by rw [eq_of_beq h2]; rfl] at e7
      rw [show (k == kArg) = false by rw [eq_of_beq h2]; rfl] at e8
      rw [show (k == kCall) = false by rw [eq_of_beq h2]; rfl] at e9
      rw [show (k == kTick) = false by rw [eq_of_beq h2]; rfl] at e10
      rw [show (k == kPrint) = false by rw [eq_of_beq h2]; rfl] at e11
      clear h1 h2
      go_enter Tryd.func54, Tryd.ntmps54
      go_wp2_with fail
      go_returns
      exact ⟨by rw [HK.out]; rfl, grow_refl _⟩
  · rw [h1] at e1
    have HK : Hid (kindN k = 1) := by show kindN k = 1; unfold kindN; simp only [h1]; rfl
    rw [show (k == kConst) = false by rw [eq_of_beq h1]; rfl] at e2
    rw [show (k == kLoad) = false by rw [eq_of_beq h1]; rfl] at e3
    rw [show (k == kOne) = false by rw [eq_of_beq h1]; rfl] at e4
    rw [show (k == kTwo) = false by rw [eq_of_beq h1]; rfl] at e5
    rw [show (k == kMove) = false by rw [eq_of_beq h1]; rfl] at e6
    rw [show (k == kStore) = false by rw [eq_of_beq h1]; rfl] at e7
    rw [show (k == kArg) = false by rw [eq_of_beq h1]; rfl] at e8
    rw [show (k == kCall) = false by rw [eq_of_beq h1]; rfl] at e9
    rw [show (k == kTick) = false by rw [eq_of_beq h1]; rfl] at e10
    rw [show (k == kPrint) = false by rw [eq_of_beq h1]; rfl] at e11
    clear h1
    go_enter Tryd.func54, Tryd.ntmps54
    go_wp2_with fail
    go_returns
    exact ⟨by rw [HK.out]; rfl, grow_refl _⟩
set_option maxRecDepth 100000 in
theorem hasOf_any (k : List UInt8) (w : World) : Calls Tryd.prog 26 #[.string (mkB k)] w (Ret (.string (mkB (kHasR (kindN k)))) w) := by
  have e1 : ((mkB k).toList == [112, 97, 114, 97, 109]) = (k == kParam) := by rw [mkB_toList]; rfl
  have e2 : ((mkB k).toList == [99, 111, 110, 115, 116]) = (k == kConst) := by rw [mkB_toList]; rfl
  have e3 : ((mkB k).toList == [108, 111, 97, 100]) = (k == kLoad) := by rw [mkB_toList]; rfl
  have e4 : ((mkB k).toList == [111, 110, 101]) = (k == kOne) := by rw [mkB_toList]; rfl
  have e5 : ((mkB k).toList == [116, 119, 111]) = (k == kTwo) := by rw [mkB_toList]; rfl
  have e6 : ((mkB k).toList == [109, 111, 118, 101]) = (k == kMove) := by rw [mkB_toList]; rfl
  have e7 : ((mkB k).toList == [115, 116, 111, 114, 101]) = (k == kStore) := by rw [mkB_toList]; rfl
  have e8 : ((mkB k).toList == [97, 114, 103]) = (k == kArg) := by rw [mkB_toList]; rfl
  have e9 : ((mkB k).toList == [99, 97, 108, 108]) = (k == kCall) := by rw [mkB_toList]; rfl
  have e10 : ((mkB k).toList == [116, 105, 99, 107]) = (k == kTick) := by rw [mkB_toList]; rfl
  have e11 : ((mkB k).toList == [112, 114, 105, 110, 116]) = (k == kPrint) := by rw [mkB_toList]; rfl
  cases h1 : (k == kParam)
  · rw [h1] at e1
    cases h2 : (k == kConst)
    · rw [h2] at e2
      cases h3 : (k == kLoad)
      · rw [h3] at e3
        cases h4 : (k == kOne)
        · rw [h4] at e4
          cases h5 : (k == kTwo)
          · rw [h5] at e5
            cases h6 : (k == kMove)
            · rw [h6] at e6
              cases h7 : (k == kStore)
              · rw [h7] at e7
                cases h8 : (k == kArg)
                · rw [h8] at e8
                  cases h9 : (k == kCall)
                  · rw [h9] at e9
                    cases h10 : (k == kTick)
                    · rw [h10] at e10
                      cases h11 : (k == kPrint)
                      · rw [h11] at e11
                        have HK : Hid (kindN k = 0) := by show kindN k = 0; unfold kindN; simp only [h1, h2, h3, h4, h5, h6, h7, h8, h9, h10, h11]; rfl
                        clear h1 h2 h3 h4 h5 h6 h7 h8 h9 h10 h11
                        go_enter Tryd.func26, Tryd.ntmps26
                        go_wp2_with fail
                        go_ret
                        exact ⟨by rw [HK.out]; rfl, grow_refl _⟩
                      · rw [h11] at e11
                        have HK : Hid (kindN k = 11) := by show kindN k = 11; unfold kindN; simp only [h1, h2, h3, h4, h5, h6, h7, h8, h9, h10, h11]; rfl
                        clear h1 h2 h3 h4 h5 h6 h7 h8 h9 h10 h11
                        go_enter Tryd.func26, Tryd.ntmps26
                        go_wp2_with fail
                        go_ret
                        exact ⟨by rw [HK.out]; rfl, grow_refl _⟩
                    · rw [h10] at e10
                      have HK : Hid (kindN k = 10) := by show kindN k = 10; unfold kindN; simp only [h1, h2, h3, h4, h5, h6, h7, h8, h9, h10]; rfl
                      rw [show (k == kPrint) = false by rw [eq_of_beq h10]; rfl] at e11
                      clear h1 h2 h3 h4 h5 h6 h7 h8 h9 h10
                      go_enter Tryd.func26, Tryd.ntmps26
                      go_wp2_with fail
                      go_ret
                      exact ⟨by rw [HK.out]; rfl, grow_refl _⟩
                  · rw [h9] at e9
                    have HK : Hid (kindN k = 9) := by show kindN k = 9; unfold kindN; simp only [h1, h2, h3, h4, h5, h6, h7, h8, h9]; rfl
                    rw [show (k == kTick) = false by rw [eq_of_beq h9]; rfl] at e10
                    rw [show (k == kPrint) = false by rw [eq_of_beq h9]; rfl] at e11
                    clear h1 h2 h3 h4 h5 h6 h7 h8 h9
                    go_enter Tryd.func26, Tryd.ntmps26
                    go_wp2_with fail
                    go_ret
                    exact ⟨by rw [HK.out]; rfl, grow_refl _⟩
                · rw [h8] at e8
                  have HK : Hid (kindN k = 8) := by show kindN k = 8; unfold kindN; simp only [h1, h2, h3, h4, h5, h6, h7, h8]; rfl
                  rw [show (k == kCall) = false by rw [eq_of_beq h8]; rfl] at e9
                  rw [show (k == kTick) = false by rw [eq_of_beq h8]; rfl] at e10
                  rw [show (k == kPrint) = false by rw [eq_of_beq h8]; rfl] at e11
                  clear h1 h2 h3 h4 h5 h6 h7 h8
                  go_enter Tryd.func26, Tryd.ntmps26
                  go_wp2_with fail
                  go_ret
                  exact ⟨by rw [HK.out]; rfl, grow_refl _⟩
              · rw [h7] at e7
                have HK : Hid (kindN k = 7) := by show kindN k = 7; unfold kindN; simp only [h1, h2, h3, h4, h5, h6, h7]; rfl
                rw [show (k == kArg) = false by rw [eq_of_beq h7]; rfl] at e8
                rw [show (k == kCall) = false by rw [eq_of_beq h7]; rfl] at e9
                rw [show (k == kTick) = false by rw [eq_of_beq h7]; rfl] at e10
                rw [show (k == kPrint) = false by rw [eq_of_beq h7]; rfl] at e11
                clear h1 h2 h3 h4 h5 h6 h7
                go_enter Tryd.func26, Tryd.ntmps26
                go_wp2_with fail
                go_ret
                exact ⟨by rw [HK.out]; rfl, grow_refl _⟩
            · rw [h6] at e6
              have HK : Hid (kindN k = 6) := by show kindN k = 6; unfold kindN; simp only [h1, h2, h3, h4, h5, h6]; rfl
              rw [show (k == kStore) = false by rw [eq_of_beq h6]; rfl] at e7
              rw [show (k == kArg) = false by rw [eq_of_beq h6]; rfl] at e8
              rw [show (k == kCall) = false by rw [eq_of_beq h6]; rfl] at e9
              rw [show (k == kTick) = false by rw [eq_of_beq h6]; rfl] at e10
              rw [show (k == kPrint) = false by rw [eq_of_beq h6]; rfl] at e11
              clear h1 h2 h3 h4 h5 h6
              go_enter Tryd.func26, Tryd.ntmps26
              go_wp2_with fail
              go_ret
              exact ⟨by rw [HK.out]; rfl, grow_refl _⟩
          · rw [h5] at e5
            have HK : Hid (kindN k = 5) := by show kindN k = 5; unfold kindN; simp only [h1, h2, h3, h4, h5]; rfl
            rw [show (k == kMove) = false by rw [eq_of_beq h5]; rfl] at e6
            rw [show (k == kStore) = false by rw [eq_of_beq h5]; rfl] at e7
            rw [show (k == kArg) = false by rw [eq_of_beq h5]; rfl] at e8
            rw [show (k == kCall) = false by rw [eq_of_beq h5]; rfl] at e9
            rw [show (k == kTick) = false by rw [eq_of_beq h5]; rfl] at e10
            rw [show (k == kPrint) = false by rw [eq_of_beq h5]; rfl] at e11
            clear h1 h2 h3 h4 h5
            go_enter Tryd.func26, Tryd.ntmps26
            go_wp2_with fail
            go_ret
            exact ⟨by rw [HK.out]; rfl, grow_refl _⟩
        · rw [h4] at e4
          have HK : Hid (kindN k = 4) := by show kindN k = 4; unfold kindN; simp only [h1, h2, h3, h4]; rfl
          rw [show (k == kTwo) = false by rw [eq_of_beq h4]; rfl] at e5
          rw [show (k == kMove) = false by rw [eq_of_beq h4]; rfl] at e6
          rw [show (k == kStore) = false by rw [eq_of_beq h4]; rfl] at e7
          rw [show (k == kArg) = false by rw [eq_of_beq h4]; rfl] at e8
          rw [show (k == kCall) = false by rw [eq_of_beq h4]; rfl] at e9
          rw [show (k == kTick) = false by rw [eq_of_beq h4]; rfl] at e10
          rw [show (k == kPrint) = false by rw [eq_of_beq h4]; rfl] at e11
          clear h1 h2 h3 h4
          go_enter Tryd.func26, Tryd.ntmps26
          go_wp2_with fail
          go_ret
          exact ⟨by rw [HK.out]; rfl, grow_refl _⟩
      · rw [h3] at e3
        have HK : Hid (kindN k = 3) := by show kindN k = 3; unfold kindN; simp only [h1, h2, h3]; rfl
        rw [show (k == kOne) = false by rw [eq_of_beq h3]; rfl] at e4
        rw [show (k == kTwo) = false by rw [eq_of_beq h3]; rfl] at e5
        rw [show (k == kMove) = false by rw [eq_of_beq h3]; rfl] at e6
        rw [show (k == kStore) = false by rw [eq_of_beq h3]; rfl] at e7
        rw [show (k == kArg) = false by rw [eq_of_beq h3]; rfl] at e8
        rw [show (k == kCall) = false by rw [eq_of_beq h3]; rfl] at e9
        rw [show (k == kTick) = false by rw [eq_of_beq h3]; rfl] at e10
        rw [show (k == kPrint) = false by rw [eq_of_beq h3]; rfl] at e11
        clear h1 h2 h3
        go_enter Tryd.func26, Tryd.ntmps26
        go_wp2_with fail
        go_ret
        exact ⟨by rw [HK.out]; rfl, grow_refl _⟩
    · rw [h2] at e2
      have HK : Hid (kindN k = 2) := by show kindN k = 2; unfold kindN; simp only [h1, h2]; rfl
      rw [show (k == kLoad) = false by rw [eq_of_beq h2]; rfl] at e3
      rw [show (k == kOne) = false by rw [eq_of_beq h2]; rfl] at e4
      rw [show (k == kTwo) = false by rw [eq_of_beq h2]; rfl] at e5
      rw [show (k == kMove) = false by rw [eq_of_beq h2]; rfl] at e6
      rw [show (k == kStore) = false by rw [eq_of_beq h2]; rfl] at e7
      rw [show (k == kArg) = false by rw [eq_of_beq h2]; rfl] at e8
      rw [show (k == kCall) = false by rw [eq_of_beq h2]; rfl] at e9
      rw [show (k == kTick) = false by rw [eq_of_beq h2]; rfl] at e10
      rw [show (k == kPrint) = false by rw [eq_of_beq h2]; rfl] at e11
      clear h1 h2
      go_enter Tryd.func26, Tryd.ntmps26
      go_wp2_with fail
      go_ret
      exact ⟨by rw [HK.out]; rfl, grow_refl _⟩
  · rw [h1] at e1
    have HK : Hid (kindN k = 1) := by show kindN k = 1; unfold kindN; simp only [h1]; rfl
    rw [show (k == kConst) = false by rw [eq_of_beq h1]; rfl] at e2
    rw [show (k == kLoad) = false by rw [eq_of_beq h1]; rfl] at e3
    rw [show (k == kOne) = false by rw [eq_of_beq h1]; rfl] at e4
    rw [show (k == kTwo) = false by rw [eq_of_beq h1]; rfl] at e5
    rw [show (k == kMove) = false by rw [eq_of_beq h1]; rfl] at e6
    rw [show (k == kStore) = false by rw [eq_of_beq h1]; rfl] at e7
    rw [show (k == kArg) = false by rw [eq_of_beq h1]; rfl] at e8
    rw [show (k == kCall) = false by rw [eq_of_beq h1]; rfl] at e9
    rw [show (k == kTick) = false by rw [eq_of_beq h1]; rfl] at e10
    rw [show (k == kPrint) = false by rw [eq_of_beq h1]; rfl] at e11
    clear h1
    go_enter Tryd.func26, Tryd.ntmps26
    go_wp2_with fail
    go_ret
    exact ⟨by rw [HK.out]; rfl, grow_refl _⟩
end Go.Proofs.YtpmpeihcdiohmaaDoor
