import Derived.Test.YtonnhechjbdenaaGreatDoorBn3
set_option linter.unusedVariables false
set_option linter.unusedSimpArgs false
namespace Go.Proofs.YtonnhechjbdenaaGreatDoor
open Go.RowKit

/-! a walk stays well -/
theorem kind_lt (k : List UInt8) : kindN k ≤ 11 := by
  unfold kindN
  repeat' split
  all_goals omega
theorem oneV_some (l : List UInt8) (a b : Int) : (oneV l a).isSome = (oneV l b).isSome := by
  unfold oneV
  split
  · rfl
  · split <;> rfl
theorem doV_some (l : List UInt8) (a b c d : Int) : (doV l a b).isSome = (doV l c d).isSome := by rw [doV_ops, doV_ops]
/-- What a right instruction has. -/
structure LowF (c : PCd) (x : PLow) : Prop where
  kind : kindN x.kind ≠ 0
  d : kindN x.kind ∈ [1, 2, 3, 4, 5, 6, 9] → 0 ≤ x.d ∧ x.d < 8
  a : kindN x.kind ∈ [4, 5, 6, 7, 8, 11] → 0 ≤ x.a ∧ x.a < 8
  b : kindN x.kind = 5 → 0 ≤ x.b ∧ x.b < 8
  param : kindN x.kind = 1 → 0 ≤ x.num ∧ x.num < c.params
  slot : kindN x.kind ∈ [3, 7] → 0 ≤ x.num ∧ x.num < c.slots
  arg : kindN x.kind = 8 → 0 ≤ x.num ∧ x.num < 4
  call : kindN x.kind = 9 → 0 ≤ x.num ∧ x.num ≤ 4
  one : kindN x.kind = 4 → ∀ a, (oneV x.name a).isSome = true
  two : kindN x.kind = 5 → ∀ a b, (doV x.name a b).isSome = true
theorem regA_le {n : Int} (h : regA n = true) : 0 ≤ n ∧ n < 8 := by
  unfold regA at h
  simpa using h
theorem low_within {c : PCd} {x : PLow} (h : lowWithin c x = true) : lowNumber c x = true ∧ (lowHas x 100 = true → regA x.d = true) ∧ (lowHas x 97 = true → regA x.a = true) ∧ (lowHas x 98 = true → regA x.b = true) := by
  unfold lowWithin at h
  simp only [Bool.and_eq_true, Bool.or_eq_true, Bool.not_eq_true'] at h
  obtain ⟨⟨⟨h0, h1⟩, h2⟩, h3⟩ := h
  exact ⟨h0, fun e => h1.resolve_left (by simp [e]), fun e => h2.resolve_left (by simp [e]), fun e => h3.resolve_left (by simp [e])⟩
theorem low_facts {c : PCd} {x : PLow} (h : LowOk c x) : LowF c x := by
  obtain ⟨w0, w1, w2, w3⟩ := low_within h.within
  have h1 := h.known
  have hN : ∀ n, kindN x.kind = n → lowNumber c x = (match n with
      | 1 => decide (0 ≤ x.num) && decide (x.num < c.params)
      | 3 => decide (0 ≤ x.num) && decide (x.num < c.slots)
      | 7 => decide (0 ≤ x.num) && decide (x.num < c.slots)
      | 8 => decide (0 ≤ x.num) && decide (x.num < 4)
      | 9 => decide (0 ≤ x.num) && decide (x.num ≤ 4)
      | _ => true) := fun n hn => by unfold lowNumber; rw [hn] <;> rfl
  refine ⟨fun e => ?_, fun hm => regA_le (w1 ?_), fun hm => regA_le (w2 ?_), fun hm => regA_le (w3 ?_), fun e => ?_, fun hm => ?_, fun e => ?_, fun e => ?_, fun e a => ?_, fun e a b => ?_⟩
  · unfold lowKnown at h1
    rw [e] at h1
    simp at h1
  · simp only [List.mem_cons, List.not_mem_nil, or_false] at hm
    rcases hm with e | e | e | e | e | e | e <;> (unfold lowHas; rw [e]; rfl)
  · simp only [List.mem_cons, List.not_mem_nil, or_false] at hm
    rcases hm with e | e | e | e | e | e <;> (unfold lowHas; rw [e]; rfl)
  · unfold lowHas; rw [hm]; rfl
  · rw [hN _ e] at w0; simpa using w0
  · simp only [List.mem_cons, List.not_mem_nil, or_false] at hm
    rcases hm with e | e <;> (rw [hN _ e] at w0; simpa using w0)
  · rw [hN _ e] at w0; simpa using w0
  · rw [hN _ e] at w0; simpa using w0
  · unfold lowKnown at h1
    rw [if_pos e] at h1
    rw [oneV_some _ a 0]; exact h1
  · unfold lowKnown at h1
    rw [if_neg (by rw [e]; decide), if_pos e] at h1
    rw [doV_some _ a b 0 0]; exact h1

structure AOk (c : PCd) (T : Int) (ans : List Int) (s : ASt) : Prop where
  r8 : s.r.length = 8
  r6 : ∀ n ∈ s.r, I64 n
  sl : s.slots.length = c.slots.toNat
  s6 : ∀ n ∈ s.slots, I64 n
  n4 : s.next.length = 4
  n6 : ∀ n ∈ s.next, I64 n
  out : s.out.length ≤ 1000
  o6 : ∀ n ∈ s.out, I64 n
  calls : s.calls.length ≤ ans.length
  c6 : ∀ p ∈ s.calls, p.2.length ≤ 4
  ticks : 0 ≤ s.ticks ∧ s.ticks ≤ T
theorem setA_I64 {l : List Int} (h : ∀ n ∈ l, I64 n) (k : Nat) {v : Int} (hv : I64 v) : ∀ n ∈ l.set k v, I64 n := fun n hn => by
  rcases List.mem_or_eq_of_mem_set hn with hn | rfl
  · exact h n hn
  · exact hv
theorem AOk.put {c : PCd} {T : Int} {ans : List Int} {s : ASt} (h : AOk c T ans s) (x : PLow) {v : Int} (hv : I64 v) : AOk c T ans (putR s x v) :=
  { h with r8 := by simp [putR, h.r8], r6 := setA_I64 h.r6 _ hv }
end Go.Proofs.YtonnhechjbdenaaGreatDoor
