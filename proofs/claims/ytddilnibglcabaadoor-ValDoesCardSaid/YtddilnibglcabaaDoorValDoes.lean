import Derived.Test.YtddilnibglcabaaDoorRefVal
import Derived.Test.YtddilnibglcabaaDoorValBack
import Derived.Test.YtddilnibglcabaaDoorCoded
namespace Go.Proofs.YtddilnibglcabaaDoor
open Go.RowKit

/-- DoOf's own answer. -/
def dofV (l : List UInt8) (a b : Int) : Int :=
  if (l == [43]) = true then wrap64 (a + b)
  else if (l == [45]) = true then wrap64 (a - b)
  else if (l == [42]) = true then wrap64 (a * b)
  else if (l == [47]) = true then divV a b
  else if (l == [37]) = true then remV a b
  else if (l == [38]) = true then bits .and .i64 a b
  else if (l == [124]) = true then bits .or .i64 a b
  else if (l == [94]) = true then bits .xor .i64 a b
  else if (l == [60, 60]) = true then wrap64 (a * 2 ^ (b % 64).toNat)
  else if (l == [62, 62]) = true then a / 2 ^ (b % 64).toNat
  else if (l == [60]) = true then bitV (decide (a < b))
  else if (l == [60, 61]) = true then bitV (decide (a ≤ b))
  else if (l == [61, 61]) = true then bitV (a == b)
  else bitV (a != b)
theorem divV_neg (a : Int) : divV a (-1) = wrap64 (-a) := by unfold divV; simp
theorem remV_neg (a : Int) : remV a (-1) = 0 := by unfold remV; simp
theorem divV_other (a b : Int) (h0 : (b == 0) = false) : divV a b = wrap64 (a.tdiv b) := by unfold divV; rw [if_neg (by simpa using h0)]
theorem remV_other (a b : Int) (h0 : (b == 0) = false) : remV a b = a.tmod b := by unfold remV; rw [if_neg (by simpa using h0)]
set_option maxHeartbeats 1000000 in
theorem DoOf_any (s : ByteArray) (a b : Int) (ha : I64 a) (w : World) :
    Calls Tryd.prog 27 #[.string s, .int .i64 a, .int .i64 b] w fun e w' => e = .returned (.int .i64 (dofV s.toList a b)) ∧ w' = w := by
  by_cases hl : s.toList = [62, 62]
  · refine (DoOf_shr s hl a b ha w).mono ?_
    rintro e w' ⟨rfl, rfl⟩
    exact ⟨by rw [hl]; rfl, rfl⟩
  · have hl' : (s.toList == [62, 62]) = false := by simpa using hl
    clear hl
    have hpos : 0 ≤ b % 64 := by omega
    have hle : b % 64 ≤ 63 := by omega
    have hw := mul_wrap a (2 ^ (b % 64).toNat)
    have HW := Lib.hid hw
    clear hw ha
    by_cases h0 : b = 0
    · subst h0
      go_enter Tryd.func27, Tryd.ntmps27
      go_wp2_with (first
        | (go_at_call 54; refine (lowSix_any _ _).mono ?_; rintro e w' ⟨rfl, rfl⟩)
        | (go_at_call 53; refine (powerOf_any _ (by omega) (by omega) _).mono ?_; rintro e w' ⟨rfl, rfl⟩)
        | (go_at_call 55; refine (Bit_any _ _).mono ?_; rintro e w' ⟨rfl, rfl⟩))
      all_goals (go_ret; refine ⟨?_, rfl⟩; simp [*, dofV, divV, remV])
      all_goals (first | (have := HW.out; simpa using this; done) | (unfold wrap64; rfl))
    · by_cases h1 : b = -1
      · subst h1
        go_enter Tryd.func27, Tryd.ntmps27
        go_wp2_with (first
          | (go_at_call 54; refine (lowSix_any _ _).mono ?_; rintro e w' ⟨rfl, rfl⟩)
          | (go_at_call 53; refine (powerOf_any _ (by omega) (by omega) _).mono ?_; rintro e w' ⟨rfl, rfl⟩)
          | (go_at_call 55; refine (Bit_any _ _).mono ?_; rintro e w' ⟨rfl, rfl⟩))
        all_goals (go_ret; refine ⟨?_, rfl⟩; simp [*, dofV, divV, remV])
        all_goals (first | (have := HW.out; simpa using this; done) | (unfold wrap64; rfl))
      · have b0 : (b == 0) = false := by simpa using h0
        have b1 : (b == -1) = false := by simpa using h1
        clear h1
        go_enter Tryd.func27, Tryd.ntmps27
        go_wp2_with (first
          | (go_at_call 54; refine (lowSix_any _ _).mono ?_; rintro e w' ⟨rfl, rfl⟩)
          | (go_at_call 53; refine (powerOf_any _ (by omega) (by omega) _).mono ?_; rintro e w' ⟨rfl, rfl⟩)
          | (go_at_call 55; refine (Bit_any _ _).mono ?_; rintro e w' ⟨rfl, rfl⟩))
        all_goals (go_ret; refine ⟨?_, rfl⟩; simp [*, dofV, divV, remV])
        all_goals (first | (have := HW.out; simpa using this; done) | (unfold wrap64; rfl))
theorem IsTwo_any (s : ByteArray) (w : World) : Calls Tryd.prog 26 #[.string s] w fun e w' => e = .returned (.bool (isIn s opsL)) ∧ w' = w.alloc opsO := by
  go_enter Tryd.func26, Tryd.ntmps26
  go_wp2_with (first
    | (go_at_call 31; go_in)
    | (go_at_call 32; refine (IsIn_any s _ opsL _ _ (opsO_row w) (by decide)).mono ?_; rintro e w' ⟨rfl, rfl⟩))
  go_ret
  exact ⟨rfl, rfl⟩
theorem ROps_any (w : World) : Calls Tryd.prog 31 #[] w fun e w' => e = .returned (.slice (some ⟨w.heap.size, 0, none⟩) 14 14) ∧ w' = w.alloc opsO := by
  go_enter Tryd.func31, Tryd.ntmps31
  go_wp2_with fail
  go_ret
  exact ⟨rfl, rfl⟩
def isOneV (l : List UInt8) : Bool := (l == [45]) || (l == [33])
theorem IsOne_any (s : ByteArray) (w : World) : Calls Tryd.prog 28 #[.string s] w fun e w' => e = .returned (.bool (isOneV s.toList)) ∧ w' = w := by
  cases h1 : (s.toList == [45]) <;> cases h2 : (s.toList == [33])
  all_goals
    have H : Hid (isOneV s.toList = _) := show isOneV s.toList = _ by unfold isOneV; rw [h1, h2]
    go_enter Tryd.func28, Tryd.ntmps28
    go_wp2_with fail
    go_ret
    exact ⟨by rw [H.out]; rfl, rfl⟩
theorem OneOf_any (s : ByteArray) (a v : Int) (hv : oneV s.toList a = some v) (w : World) : Calls Tryd.prog 29 #[.string s, .int .i64 a] w fun e w' => e = .returned (.int .i64 v) ∧ w' = w := by
  have HV := Lib.hid hv
  clear hv
  cases h1 : (s.toList == [45])
  all_goals
    go_enter Tryd.func29, Tryd.ntmps29
    go_wp2_with (go_at_call 55; refine (Bit_any _ _).mono ?_; rintro e w' ⟨rfl, rfl⟩)
    go_ret
    have e := HV.out
    unfold oneV at e
    rw [h1] at e
    simp at e
  · exact ⟨by rw [← e.2]; rfl, rfl⟩
  · exact ⟨by rw [← e]; simp, rfl⟩
theorem doV_ops (l : List UInt8) (a b : Int) : (doV l a b).isSome = opsB.any (fun x => x == l) := by
  by_cases hm : l ∈ opsB
  · have h1 : opsB.any (fun x => x == l) = true := List.any_eq_true.2 ⟨l, hm, by simp⟩
    rw [h1]
    simp only [opsB, List.mem_cons, List.not_mem_nil, or_false] at hm
    rcases hm with rfl | rfl | rfl | rfl | rfl | rfl | rfl | rfl | rfl | rfl | rfl | rfl | rfl | rfl <;> rfl
  · have h1 : opsB.any (fun x => x == l) = false := by
      rw [List.any_eq_false]
      intro x hx e
      exact hm (by have := eq_of_beq e; exact this ▸ hx)
    rw [h1]
    simp only [opsB, List.mem_cons, List.not_mem_nil, or_false, not_or] at hm
    simp [doV, orderV, hm]
theorem doV_dofV (l : List UInt8) (a b v : Int) (h : doV l a b = some v) : dofV l a b = v := by
  have hs : opsB.any (fun x => x == l) = true := by rw [← doV_ops l a b, h]; rfl
  obtain ⟨x, hm, e⟩ := List.any_eq_true.1 hs
  obtain rfl := eq_of_beq e
  simp only [opsB, List.mem_cons, List.not_mem_nil, or_false] at hm
  rcases hm with rfl | rfl | rfl | rfl | rfl | rfl | rfl | rfl | rfl | rfl | rfl | rfl | rfl | rfl <;> exact Option.some.inj h
theorem oneV_isOne (l : List UInt8) (a : Int) : (oneV l a).isSome = isOneV l := by
  unfold oneV isOneV
  cases (l == [45]) <;> cases (l == [33]) <;> rfl
theorem isIn_ops (s : ByteArray) (a b : Int) : isIn s opsL = (doV s.toList a b).isSome := by
  rw [doV_ops, opsL, isIn_mkB]

theorem Quiet.keepLaid {E : Nat → Addr} {w : World} (h : Laid E w) (n : Nat) : Laid E (w.drewN n) := h.keep (below_drewN (Below.refl _ _) _)
theorem sames_ops : sameS opsL opsL = true := by unfold sameS; simp
theorem SameTexts_ops (b : Nat) (w : World) (hb : w.heap.size = b) : Calls Tryd.prog 30 #[.slice (some ⟨b, 0, none⟩) 14 14, .slice (some ⟨b + 1, 0, none⟩) 14 14] ((w.alloc opsO).alloc opsO) (Quiet (.bool true) ((w.alloc opsO).alloc opsO)) := by
  subst hb
  have r1 := (opsO_row w).keep (Keeps.alloc _ opsO)
  have r2 := opsO_row (w.alloc opsO)
  rw [World.size_alloc] at r2
  have h := SameTexts_any _ _ opsL opsL 14 14 _ r1 r2 (by decide) (by decide)
  rw [sames_ops, opsL_len] at h
  exact h
def swapsO : Obj := .cells #[.string ⟨#[43]⟩, .string ⟨#[42]⟩, .string ⟨#[38]⟩, .string ⟨#[124]⟩, .string ⟨#[94]⟩, .string ⟨#[61, 61]⟩, .string ⟨#[33, 61]⟩] 9
theorem IsIn_swaps (s : ByteArray) (b : Nat) (w : World) (hb : w.heap.size = b) :
    Calls Tryd.prog 32 #[.string s, .slice (some ⟨b, 0, none⟩) 7 7] (w.alloc (.cells #[.string ⟨#[43]⟩, .string ⟨#[42]⟩, .string ⟨#[38]⟩, .string ⟨#[124]⟩, .string ⟨#[94]⟩, .string ⟨#[61, 61]⟩, .string ⟨#[33, 61]⟩] 9)) fun e w' => e = .returned (.bool (isIn s swapsL)) ∧ w' = w.alloc swapsO := by
  subst hb
  have h := IsIn_any s _ swapsL 7 _ (Row.new w (swapsL.map Value.string).toArray 9) (by decide)
  rw [show swapsL.length = 7 from rfl] at h
  exact h
set_option maxHeartbeats 2000000 in
theorem ValDoes_walk (E : Nat → Addr) (s : ByteArray) (a b : Int) (ha : I64 a) (w : World) (hL : Laid E w) :
    Calls Tryd.prog 8 #[.string s, .int .i64 a, .int .i64 b] w fun e w' => e = .returned (.bool true) ∧ Below w.heap.size w w' := by
  have hK := hL.c3
  by_cases hlen : 20 < s.size
  · go_enter Tryd.func8, Tryd.ntmps8
    go_wp2_with (first
      | (go_at_call 13; refine (done_true _ _ (by exact hK)).mono ?_; rintro e w' ⟨rfl, n1, rfl⟩))
    go_ret
    exact ⟨rfl, below_drewN (Below.refl _ _) _⟩
  · have H2 := Lib.hid (isIn_ops s a b)
    have H1 := Lib.hid (oneV_isOne s.toList a)
    have HI := Lib.hid ha
    have HL := Lib.hid hL
    clear hL ha
    cases hd : doV s.toList a b with
    | none =>
      have hin : isIn s opsL = false := by rw [H2.out, hd]; rfl
      cases ho : oneV s.toList a with
      | none =>
        have hone : isOneV s.toList = false := by rw [← H1.out, ho]; rfl
        go_enter Tryd.func8, Tryd.ntmps8
        go_wp2_with (first
          | (go_at_call 13; refine (done_true _ _ (by exact hK)).mono ?_; rintro e w' ⟨rfl, n1, rfl⟩)
          | (go_at_call 16; refine (Do_any _ _ _ _ _ (by exact hK)).mono ?_; rintro e w' ⟨rfl, n2, rfl⟩)
          | (go_at_call 26; refine (IsTwo_any _ _).mono ?_; rintro e w' ⟨rfl, rfl⟩))
        refine (coded_true E _ _ HL.out (grow_alloc (grow_drew (grow_refl _) _) _) 3 (by decide) 4 (by decide)).mono ?_
        rintro e w1 ⟨rfl, hb1, hl1⟩
        have HL1 := Lib.hid hl1
        have hK1 := hl1.c3
        clear hl1
        go_wp2_with (first
          | (go_at_call 15; refine (One_any _ _ _ _ (by exact hK1)).mono ?_; rintro e w' ⟨rfl, n3, rfl⟩)
          | (go_at_call 28; refine (IsOne_any _ _).mono ?_; rintro e w' ⟨rfl, rfl⟩))
        refine (coded_true E _ _ HL1.out (grow_drew (grow_refl _) _) 3 (by decide) 4 (by decide)).mono ?_
        rintro e w2 ⟨rfl, hb2, hl2⟩
        clear hl2
        go_wp2_with (first
          | (go_at_call 17; refine (Ops_any _).mono ?_; rintro e w' ⟨rfl, rfl⟩)
          | (go_at_call 31; refine (ROps_any _).mono ?_; rintro e w' ⟨rfl, rfl⟩))
        refine (SameTexts_ops _ _ (by simp)).mono ?_
        rintro e w' ⟨rfl, n4, rfl⟩
        go_wp2_with (first
          | (go_at_call 18; refine (Swaps_any _ _).mono ?_; rintro e w' ⟨rfl, rfl⟩))
        refine (IsIn_swaps _ _ _ (by simp)).mono ?_
        rintro e w' ⟨rfl, rfl⟩
        go_wp2_with fail
        go_ret
        exact ⟨rfl, by repeat (first | exact grow_refl _ | refine grow_alloc ?_ _ | refine grow_drew ?_ _ | refine grow_trans ?_ (by assumption))⟩
      | some u =>
        have hone : isOneV s.toList = true := by rw [← H1.out, ho]; rfl
        have HO := Lib.hid ho
        go_enter Tryd.func8, Tryd.ntmps8
        go_wp2_with (first
          | (go_at_call 13; refine (done_true _ _ (by exact hK)).mono ?_; rintro e w' ⟨rfl, n1, rfl⟩)
          | (go_at_call 16; refine (Do_any _ _ _ _ _ (by exact hK)).mono ?_; rintro e w' ⟨rfl, n2, rfl⟩)
          | (go_at_call 26; refine (IsTwo_any _ _).mono ?_; rintro e w' ⟨rfl, rfl⟩))
        refine (coded_true E _ _ HL.out (grow_alloc (grow_drew (grow_refl _) _) _) 3 (by decide) 4 (by decide)).mono ?_
        rintro e w1 ⟨rfl, hb1, hl1⟩
        have HL1 := Lib.hid hl1
        have hK1 := hl1.c3
        clear hl1
        go_wp2_with (first
          | (go_at_call 15; refine (One_any _ _ _ _ (by exact hK1)).mono ?_; rintro e w' ⟨rfl, n3, rfl⟩)
          | (go_at_call 28; refine (IsOne_any _ _).mono ?_; rintro e w' ⟨rfl, rfl⟩)
          | (go_at_call 29; refine (OneOf_any _ _ _ (by exact HO.out) _).mono ?_; rintro e w' ⟨rfl, rfl⟩)
          | (go_at_call 17; refine (Ops_any _).mono ?_; rintro e w' ⟨rfl, rfl⟩)
          | (go_at_call 31; refine (ROps_any _).mono ?_; rintro e w' ⟨rfl, rfl⟩))
        refine (SameTexts_ops _ _ (by simp)).mono ?_
        rintro e w' ⟨rfl, n4, rfl⟩
        go_wp2_with (first
          | (go_at_call 18; refine (Swaps_any _ _).mono ?_; rintro e w' ⟨rfl, rfl⟩))
        refine (IsIn_swaps _ _ _ (by simp)).mono ?_
        rintro e w' ⟨rfl, rfl⟩
        go_wp2_with fail
        go_ret
        exact ⟨rfl, by repeat (first | exact grow_refl _ | refine grow_alloc ?_ _ | refine grow_drew ?_ _ | refine grow_trans ?_ (by assumption))⟩
    | some v =>
      have hin : isIn s opsL = true := by rw [H2.out, hd]; rfl
      have hdf := doV_dofV _ _ _ _ hd
      have hK0 : ∀ n : Nat, ((w.drewN n).alloc opsO).cell? ⟨3, 0, none⟩ = some (esV (E 3)) := fun n => Keeps.alloc _ _ _ _ hK
      have HK0 := Lib.hid hK0
      clear hK0
      cases ho : oneV s.toList a with
      | none =>
        have hone : isOneV s.toList = false := by rw [← H1.out, ho]; rfl
        go_enter Tryd.func8, Tryd.ntmps8
        go_wp2_with (first
          | (go_at_call 13; refine (done_true _ _ (by exact hK)).mono ?_; rintro e w' ⟨rfl, n1, rfl⟩)
          | (go_at_call 16; refine (Do_any _ _ _ _ _ (by exact hK)).mono ?_; rintro e w' ⟨rfl, n2, rfl⟩)
          | (go_at_call 26; refine (IsTwo_any _ _).mono ?_; rintro e w' ⟨rfl, rfl⟩)
          | (go_at_call 27; refine (DoOf_any _ _ _ HI.out _).mono ?_; rintro e w' ⟨rfl, rfl⟩)
          | (go_at_call 15; refine (One_any _ _ _ _ (by exact HK0.out _)).mono ?_; rintro e w' ⟨rfl, n3, rfl⟩)
          | (go_at_call 28; refine (IsOne_any _ _).mono ?_; rintro e w' ⟨rfl, rfl⟩))
        refine (coded_true E _ _ HL.out (by repeat (first | exact grow_refl _ | refine grow_alloc ?_ _ | refine grow_drew ?_ _)) 3 (by decide) 4 (by decide)).mono ?_
        rintro e w2 ⟨rfl, hb2, hl2⟩
        clear hl2
        go_wp2_with (first
          | (go_at_call 17; refine (Ops_any _).mono ?_; rintro e w' ⟨rfl, rfl⟩)
          | (go_at_call 31; refine (ROps_any _).mono ?_; rintro e w' ⟨rfl, rfl⟩))
        refine (SameTexts_ops _ _ (by simp)).mono ?_
        rintro e w' ⟨rfl, n4, rfl⟩
        go_wp2_with (first
          | (go_at_call 18; refine (Swaps_any _ _).mono ?_; rintro e w' ⟨rfl, rfl⟩))
        refine (IsIn_swaps _ _ _ (by simp)).mono ?_
        rintro e w' ⟨rfl, rfl⟩
        go_wp2_with fail
        go_ret
        exact ⟨rfl, by repeat (first | exact grow_refl _ | refine grow_alloc ?_ _ | refine grow_drew ?_ _ | refine grow_trans ?_ (by assumption))⟩
      | some u =>
        have hone : isOneV s.toList = true := by rw [← H1.out, ho]; rfl
        have HO := Lib.hid ho
        go_enter Tryd.func8, Tryd.ntmps8
        go_wp2_with (first
          | (go_at_call 13; refine (done_true _ _ (by exact hK)).mono ?_; rintro e w' ⟨rfl, n1, rfl⟩)
          | (go_at_call 16; refine (Do_any _ _ _ _ _ (by exact hK)).mono ?_; rintro e w' ⟨rfl, n2, rfl⟩)
          | (go_at_call 26; refine (IsTwo_any _ _).mono ?_; rintro e w' ⟨rfl, rfl⟩)
          | (go_at_call 27; refine (DoOf_any _ _ _ HI.out _).mono ?_; rintro e w' ⟨rfl, rfl⟩)
          | (go_at_call 15; refine (One_any _ _ _ _ (by exact HK0.out _)).mono ?_; rintro e w' ⟨rfl, n3, rfl⟩)
          | (go_at_call 28; refine (IsOne_any _ _).mono ?_; rintro e w' ⟨rfl, rfl⟩)
          | (go_at_call 29; refine (OneOf_any _ _ _ (by exact HO.out) _).mono ?_; rintro e w' ⟨rfl, rfl⟩)
          | (go_at_call 17; refine (Ops_any _).mono ?_; rintro e w' ⟨rfl, rfl⟩)
          | (go_at_call 31; refine (ROps_any _).mono ?_; rintro e w' ⟨rfl, rfl⟩))
        refine (SameTexts_ops _ _ (by simp)).mono ?_
        rintro e w' ⟨rfl, n4, rfl⟩
        go_wp2_with (first
          | (go_at_call 18; refine (Swaps_any _ _).mono ?_; rintro e w' ⟨rfl, rfl⟩))
        refine (IsIn_swaps _ _ _ (by simp)).mono ?_
        rintro e w' ⟨rfl, rfl⟩
        go_wp2_with fail
        go_ret
        exact ⟨rfl, by repeat (first | exact grow_refl _ | refine grow_alloc ?_ _ | refine grow_drew ?_ _ | refine grow_trans ?_ (by assumption))⟩
end Go.Proofs.YtddilnibglcabaaDoor
