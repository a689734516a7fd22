import Derived.Test.YtnpdjncgilekhaaGreatDoorBn14
namespace Go.Proofs.YtnpdjncgilekhaaGreatDoor
open Go.RowKit

def opsB : List (List UInt8) := [[43], [45], [42], [47], [37], [38], [124], [94], [60, 60], [62, 62], [60], [60, 61], [61, 61], [33, 61]]
def swapsB : List (List UInt8) := [[43], [42], [38], [124], [94], [61, 61], [33, 61]]
def opsL : List ByteArray := opsB.map mkB
def swapsL : List ByteArray := swapsB.map mkB
def opsO : Obj := .cells (opsL.map Value.string).toArray 9
theorem opsO_row (w : World) : Row (w.alloc opsO) (some ⟨w.heap.size, 0, none⟩) (opsL.map Value.string) := Row.new w _ _
end Go.Proofs.YtnpdjncgilekhaaGreatDoor

namespace Go.Proofs.YtnpdjncgilekhaaGreatDoor
open Go.RowKit

theorem two_pow_step (k : Nat) : wrap64 (wrap64 (2 ^ k) + wrap64 (2 ^ k)) = wrap64 (2 ^ (k + 1)) := by
  rw [Int.pow_succ]
  generalize (2 : Int) ^ k = x
  unfold wrap64; omega
theorem mul_wrap (a x : Int) : wrap64 (a * wrap64 x) = wrap64 (a * x) := by
  simp only [w64_toInt, BitVec.ofInt_mul, BitVec.ofInt_toInt]
theorem powerOf_any (n : Int) (h0 : 0 ≤ n) (h1 : n ≤ 63) (w : World) :
    Calls Tryz.prog 120 #[.int .i64 n] w fun e w' => e = .returned (.int .i64 (wrap64 (2 ^ n.toNat))) ∧ w' = w := by
  obtain ⟨m, rfl⟩ := Int.eq_ofNat_of_zero_le h0
  simp only [Int.toNat_natCast]
  go_enter Tryz.func120, Tryz.ntmps120
  go_wp2_with fail
  go_loop [3, 4] (fun p i => ∃ k : Nat, k ≤ m ∧ i = .int .i64 k ∧ p = .int .i64 (wrap64 (2 ^ k))) (fun _ i => m - (intOf i).toNat)
  case atStart => exact ⟨0, Nat.zero_le _, rfl, by unfold wrap64; rfl⟩
  case round =>
    obtain ⟨k, hk, rfl, rfl⟩ := hrel
    by_cases hlt : k < m
    · have HS := Lib.hid (two_pow_step k)
      go_wp2_with fail
      go_round
      case rel => exact ⟨k + 1, by omega, by go_num, by rw [HS.out]⟩
      case measure => simp [intOf]; omega
    · have hk' : k = m := by omega
      subst hk'
      go_wp2_with fail
      go_ret
      exact ⟨rfl, rfl⟩
theorem lowSix_any (n : Int) (w : World) :
    Calls Tryz.prog 121 #[.int .i64 n] w fun e w' => e = .returned (.int .i64 (n % 64)) ∧ w' = w := by
  by_cases h : n.tmod 64 < 0
  · have hq := Int.mul_tdiv_add_tmod n 64
    have b1 : -64 < n.tmod 64 := by have := Int.lt_tmod_of_pos n (show (0:Int) < 64 by decide); omega
    have e : n.tmod 64 + 64 = n % 64 := by omega
    clear hq
    have HE := Lib.hid e
    clear e
    go_enter Tryz.func121, Tryz.ntmps121
    go_wp2_with fail
    go_ret
    exact ⟨by rw [← HE.out]; rfl, rfl⟩
  · have hq := Int.mul_tdiv_add_tmod n 64
    have b1 : n.tmod 64 < 64 := Int.tmod_lt_of_pos n (by decide)
    have e : n.tmod 64 = n % 64 := by omega
    clear hq b1
    have hn : ¬ n % 64 < 0 := by omega
    clear h
    go_enter Tryz.func121, Tryz.ntmps121
    go_wp2_with fail
    go_ret
    exact ⟨rfl, rfl⟩
theorem Bit_any (b : Bool) (w : World) : Calls Tryz.prog 119 #[.bool b] w fun e w' => e = .returned (.int .i64 (bitV b)) ∧ w' = w := by
  cases b
  · go_enter Tryz.func119, Tryz.ntmps119
    go_wp2
    go_ret
    exact ⟨rfl, rfl⟩
  · go_enter Tryz.func119, Tryz.ntmps119
    go_wp2
    go_ret
    exact ⟨rfl, rfl⟩
theorem tmod2 (v : Int) : (v % 2 = 0 → v.tmod 2 = 0) ∧ (v % 2 = 1 → v < 0 → v.tmod 2 = -1) := by
  have hq := Int.mul_tdiv_add_tmod v 2
  have h1 := Int.tmod_lt_of_pos v (show (0:Int) < 2 by decide)
  have h2 := Int.lt_tmod_of_pos v (show (0:Int) < 2 by decide)
  have h3 : v < 0 → v.tmod 2 ≤ 0 := fun h => by
    have := Int.neg_tmod (-v) 2
    rw [Int.neg_neg] at this
    have h4 := Int.tmod_nonneg (a := -v) 2 (by omega)
    omega
  constructor
  · intro h; omega
  · intro h hv; have := h3 hv; omega
theorem tdiv2 (u : Int) (h : u % 2 = 0) : u.tdiv 2 = u / 2 := by
  have hq := Int.mul_tdiv_add_tmod u 2
  have := (tmod2 u).1 h
  omega
theorem shr_I64 (a : Int) (ha : I64 a) (k : Nat) : I64 (a / 2 ^ k) := by
  have hp : (0 : Int) < 2 ^ k := Int.pow_pos (by decide)
  generalize (2 : Int) ^ k = x at *
  unfold I64 at *
  constructor
  · refine Int.le_ediv_of_mul_le hp ?_
    omega
  · refine Int.le_of_lt_add_one (Int.ediv_lt_of_lt_mul hp ?_)
    omega
theorem DoOf_shr (s : ByteArray) (hl : s.toList = [62, 62]) (a b : Int) (ha : I64 a) (w : World) :
    Calls Tryz.prog 112 #[.string s, .int .i64 a, .int .i64 b] w fun e w' => e = .returned (.int .i64 (a / 2 ^ (b % 64).toNat)) ∧ w' = w := by
  obtain ⟨N, hN⟩ : ∃ N : Nat, b % 64 = (N : Int) := ⟨(b % 64).toNat, by omega⟩
  have hN63 : N ≤ 63 := by omega
  have HA := Lib.hid ha
  clear ha
  rw [hN, Int.toNat_natCast]
  go_enter Tryz.func112, Tryz.ntmps112
  go_wp2_with (first
    | (go_at_call 121; refine (lowSix_any _ _).mono ?_; rintro e w' ⟨rfl, rfl⟩))
  clear hl
  go_loop [8, 9] (fun p i => ∃ k : Nat, k ≤ N ∧ i = .int .i64 k ∧ p = .int .i64 (a / 2 ^ k)) (fun _ i => N - (intOf i).toNat)
  case atStart => exact ⟨0, Nat.zero_le _, rfl, by simp⟩
  case round =>
    obtain ⟨k, hk, rfl, rfl⟩ := hrel
    by_cases hlt : k < N
    · obtain ⟨v, hv⟩ : ∃ v, a / 2 ^ k = v := ⟨_, rfl⟩
      have hI := shr_I64 a HA.out k
      have hs : a / 2 ^ (k + 1) = v / 2 := by rw [← hv, Int.pow_succ, Int.ediv_ediv_of_nonneg (Int.le_of_lt (Int.pow_pos (by decide)))]
      rw [hv] at hI ⊢
      have HS := Lib.hid hs
      clear hs hv
      have HI := Lib.hid hI
      have hlo : -9223372036854775808 ≤ v := hI.1
      have hhi : v ≤ 9223372036854775807 := hI.2
      clear hI
      have ht := tmod2 v
      by_cases hp : v % 2 = 0
      · by_cases hv0 : 0 ≤ v
        · clear ht
          go_wp2_with fail
          go_round
          case rel => exact ⟨k + 1, by omega, by go_num, by rw [HS.out]⟩
          case measure => simp [intOf]; omega
        · have h1 := ht.1 hp
          have h2 := Lib.hid (tdiv2 v hp)
          clear ht hp
          go_wp2_with fail
          go_round
          case rel => exact ⟨k + 1, by omega, by go_num, by rw [HS.out, ← h2.out]⟩
          case measure => simp [intOf]; omega
      · have hp1 : v % 2 = 1 := by omega
        clear hp
        by_cases hv0 : 0 ≤ v
        · have h3 := Lib.hid (show (v - 1) / 2 = v / 2 by omega)
          clear ht
          go_wp2_with fail
          go_round
          case rel => exact ⟨k + 1, by omega, by go_num, by rw [HS.out, h3.out]⟩
          case measure => simp [intOf]; omega
        · have h1 := ht.2 hp1 (by omega)
          have hlo' : -9223372036854775807 ≤ v := by omega
          have h2 := Lib.hid (tdiv2 (v - 1) (by omega))
          have h3 := Lib.hid (show (v - 1) / 2 = v / 2 by omega)
          clear ht hp1
          go_wp2_with fail
          go_round
          case rel => exact ⟨k + 1, by omega, by go_num, by rw [HS.out, ← h3.out, ← h2.out]⟩
          case measure => simp [intOf]; omega
    · have hk' : k = N := by omega
      subst hk'
      go_wp2_with fail
      go_ret
      exact ⟨rfl, rfl⟩
end Go.Proofs.YtnpdjncgilekhaaGreatDoor

namespace Go.Proofs.YtnpdjncgilekhaaGreatDoor
open Go.RowKit

/-- DoOf's own answer. -/
def dofV (l : List UInt8) (a b : Int) : Int :=
  if (l == [43]) = true then wrap64 (a + b)
  else if (l == [45]) = true then wrap64 (a - b)
  else if (l == [42]) = true then wrap64 (a * b)
  else if (l == [47]) = true then divV a b
  else if (l == [37]) = true then remV a b
  else if (l == [38]) = true then bits .and .i64 a b
  else if (l == [124]) = true then bits .or .i64 a b
  else if (l == [94]) = true then bits .xor .i64 a b
  else if (l == [60, 60]) = true then wrap64 (a * 2 ^ (b % 64).toNat)
  else if (l == [62, 62]) = true then a / 2 ^ (b % 64).toNat
  else if (l == [60]) = true then bitV (decide (a < b))
  else if (l == [60, 61]) = true then bitV (decide (a ≤ b))
  else if (l == [61, 61]) = true then bitV (a == b)
  else bitV (a != b)
theorem divV_neg (a : Int) : divV a (-1) = wrap64 (-a) := by unfold divV; simp
theorem remV_neg (a : Int) : remV a (-1) = 0 := by unfold remV; simp
theorem divV_other (a b : Int) (h0 : (b == 0) = false) : divV a b = wrap64 (a.tdiv b) := by unfold divV; rw [if_neg (by simpa using h0)]
theorem remV_other (a b : Int) (h0 : (b == 0) = false) : remV a b = a.tmod b := by unfold remV; rw [if_neg (by simpa using h0)]
set_option maxHeartbeats 1000000 in
theorem DoOf_any (s : ByteArray) (a b : Int) (ha : I64 a) (w : World) :
    Calls Tryz.prog 112 #[.string s, .int .i64 a, .int .i64 b] w fun e w' => e = .returned (.int .i64 (dofV s.toList a b)) ∧ w' = w := by
  by_cases hl : s.toList = [62, 62]
  · refine (DoOf_shr s hl a b ha w).mono ?_
    rintro e w' ⟨rfl, rfl⟩
    exact ⟨by rw [hl]; rfl, rfl⟩
  · have hl' : (s.toList == [62, 62]) = false := by simpa using hl
    clear hl
    have hpos : 0 ≤ b % 64 := by omega
    have hle : b % 64 ≤ 63 := by omega
    have hw := mul_wrap a (2 ^ (b % 64).toNat)
    have HW := Lib.hid hw
    clear hw ha
    by_cases h0 : b = 0
    · subst h0
      go_enter Tryz.func112, Tryz.ntmps112
      go_wp2_with (first
        | (go_at_call 121; refine (lowSix_any _ _).mono ?_; rintro e w' ⟨rfl, rfl⟩)
        | (go_at_call 120; refine (powerOf_any _ (by omega) (by omega) _).mono ?_; rintro e w' ⟨rfl, rfl⟩)
        | (go_at_call 119; refine (Bit_any _ _).mono ?_; rintro e w' ⟨rfl, rfl⟩))
      all_goals (go_ret; refine ⟨?_, rfl⟩; simp [*, dofV, divV, remV])
      all_goals (first | (have := HW.out; simpa using this; done) | (unfold wrap64; rfl))
    · by_cases h1 : b = -1
      · subst h1
        go_enter Tryz.func112, Tryz.ntmps112
        go_wp2_with (first
          | (go_at_call 121; refine (lowSix_any _ _).mono ?_; rintro e w' ⟨rfl, rfl⟩)
          | (go_at_call 120; refine (powerOf_any _ (by omega) (by omega) _).mono ?_; rintro e w' ⟨rfl, rfl⟩)
          | (go_at_call 119; refine (Bit_any _ _).mono ?_; rintro e w' ⟨rfl, rfl⟩))
        all_goals (go_ret; refine ⟨?_, rfl⟩; simp [*, dofV, divV, remV])
        all_goals (first | (have := HW.out; simpa using this; done) | (unfold wrap64; rfl))
      · have b0 : (b == 0) = false := by simpa using h0
        have b1 : (b == -1) = false := by simpa using h1
        clear h1
        go_enter Tryz.func112, Tryz.ntmps112
        go_wp2_with (first
          | (go_at_call 121; refine (lowSix_any _ _).mono ?_; rintro e w' ⟨rfl, rfl⟩)
          | (go_at_call 120; refine (powerOf_any _ (by omega) (by omega) _).mono ?_; rintro e w' ⟨rfl, rfl⟩)
          | (go_at_call 119; refine (Bit_any _ _).mono ?_; rintro e w' ⟨rfl, rfl⟩))
        all_goals (go_ret; refine ⟨?_, rfl⟩; simp [*, dofV, divV, remV])
        all_goals (first | (have := HW.out; simpa using this; done) | (unfold wrap64; rfl))
theorem OneOf_any (s : ByteArray) (a v : Int) (hv : oneV s.toList a = some v) (w : World) : Calls Tryz.prog 111 #[.string s, .int .i64 a] w fun e w' => e = .returned (.int .i64 v) ∧ w' = w := by
  have HV := Lib.hid hv
  clear hv
  cases h1 : (s.toList == [45])
  all_goals
    go_enter Tryz.func111, Tryz.ntmps111
    go_wp2_with (go_at_call 119; refine (Bit_any _ _).mono ?_; rintro e w' ⟨rfl, rfl⟩)
    go_ret
    have e := HV.out
    unfold oneV at e
    rw [h1] at e
    simp at e
  · exact ⟨by rw [← e.2]; rfl, rfl⟩
  · exact ⟨by rw [← e]; simp, rfl⟩
theorem doV_ops (l : List UInt8) (a b : Int) : (doV l a b).isSome = opsB.any (fun x => x == l) := by
  by_cases hm : l ∈ opsB
  · have h1 : opsB.any (fun x => x == l) = true := List.any_eq_true.2 ⟨l, hm, by simp⟩
    rw [h1]
    simp only [opsB, List.mem_cons, List.not_mem_nil, or_false] at hm
    rcases hm with rfl | rfl | rfl | rfl | rfl | rfl | rfl | rfl | rfl | rfl | rfl | rfl | rfl | rfl <;> rfl
  · have h1 : opsB.any (fun x => x == l) = false := by
      rw [List.any_eq_false]
      intro x hx e
      exact hm (by have := eq_of_beq e; exact this ▸ hx)
    rw [h1]
    simp only [opsB, List.mem_cons, List.not_mem_nil, or_false, not_or] at hm
    simp [doV, orderV, hm]
theorem doV_dofV (l : List UInt8) (a b v : Int) (h : doV l a b = some v) : dofV l a b = v := by
  have hs : opsB.any (fun x => x == l) = true := by rw [← doV_ops l a b, h]; rfl
  obtain ⟨x, hm, e⟩ := List.any_eq_true.1 hs
  obtain rfl := eq_of_beq e
  simp only [opsB, List.mem_cons, List.not_mem_nil, or_false] at hm
  rcases hm with rfl | rfl | rfl | rfl | rfl | rfl | rfl | rfl | rfl | rfl | rfl | rfl | rfl | rfl <;> exact Option.some.inj h
theorem bitV_I64 (b : Bool) : I64 (bitV b) := by cases b <;> (unfold I64 bitV; decide)
theorem tmod_I64 {a : Int} (ha : I64 a) (b : Int) : I64 (a.tmod b) := by
  have h1 : (a.tmod b).natAbs ≤ a.natAbs := by rw [Int.natAbs_tmod]; exact Nat.mod_le _ _
  unfold I64 at *
  by_cases h : 0 ≤ a
  · omega
  · have h2 : 0 ≤ (-a).tmod b := Int.tmod_nonneg b (by omega)
    rw [Int.neg_tmod] at h2
    omega
theorem divV_I64 (a b : Int) : I64 (divV a b) := by
  unfold divV
  split
  · unfold I64; omega
  · exact wrap64_I64 _
theorem remV_I64 {a : Int} (ha : I64 a) (b : Int) : I64 (remV a b) := by
  unfold remV
  split
  · exact ha
  · exact tmod_I64 ha b
theorem ite_I64 {c : Prop} [Decidable c] {a b : Int} (h1 : I64 a) (h2 : I64 b) : I64 (if c then a else b) := by split <;> assumption
theorem dofV_I64 (l : List UInt8) {a : Int} (ha : I64 a) (b : Int) : I64 (dofV l a b) := by
  unfold dofV
  repeat' (with_reducible refine ite_I64 ?_ ?_)
  all_goals first
    | exact wrap64_I64 _
    | exact divV_I64 _ _
    | exact remV_I64 ha _
    | exact bits_I64 _ _ _
    | exact shr_I64 _ ha _
    | exact bitV_I64 _
theorem oneV_I64 {l : List UInt8} {a v : Int} (h : oneV l a = some v) : I64 v := by
  unfold oneV at h
  split at h
  · injection h with h; subst h; exact wrap64_I64 _
  · split at h
    · injection h with h; subst h; exact bitV_I64 _
    · cases h
end Go.Proofs.YtnpdjncgilekhaaGreatDoor

namespace Go.Proofs.YtnpdjncgilekhaaGreatDoor
open Go.RowKit

/-! the reference's run: its variables -/
def namesOf (vs : Vs) : List Nm := vs.map (·.1)
def numsOf (vs : Vs) : List Int := vs.map (·.2)
/-- Variables in block q: nv their names' row, xv their numbers'. -/
structure Vr (base q : Nat) (nv xv : Value) (vs : Vs) (w : World) : Prop where
  low : base ≤ q
  blk : w.heap[q]? = some (.cells #[nv, xv] 146 (0, 0))
  ns : w.ownsRow base 9 1 nv vs.length (strVs (namesOf vs))
  xs : w.ownsRow base 3 1 xv vs.length (intVs (numsOf vs))
  ok : ∀ x ∈ vs, I64 x.2
theorem row2 {w : World} {q : Nat} {v0 v1 : Value} {T : TypeId} {fz : Nat × Nat} (hrow : w.heap[q]? = some (.cells #[v0, v1] T fz)) : w.cell? ⟨q, 0, none⟩ = some v0 ∧ w.cell? ⟨q, 1, none⟩ = some v1 :=
  ⟨cell_of_row _ _ 0 _ _ _ hrow, cell_of_row _ _ 1 _ _ _ hrow⟩
section
variable {base q : Nat} {nv xv : Value} {vs : Vs} {w w' : World}
theorem Vr.lt (h : Vr base q nv xv vs w) : q < w.heap.size := (Array.getElem?_eq_some_iff.1 h.blk).1
theorem Vr.base_le (h : Vr base q nv xv vs w) : base ≤ w.heap.size := by have := h.low; have := h.lt; omega
theorem Vr.below (h : Vr base q nv xv vs w) (hb : Below w.heap.size w w') : Vr base q nv xv vs w' := ⟨h.low, (hb.block q h.lt).trans h.blk, ownsRow_below h.ns hb, ownsRow_below h.xs hb, h.ok⟩
theorem Vr.same (h : Vr base q nv xv vs w) (hq : w'.heap[q]? = w.heap[q]?) (hn : ∀ k, nv.ownBlock = some k → w'.heap[k]? = w.heap[k]?) (hx : ∀ k, xv.ownBlock = some k → w'.heap[k]? = w.heap[k]?) : Vr base q nv xv vs w' :=
  ⟨h.low, hq.trans h.blk, owns_same h.ns hn, owns_same h.xs hx, h.ok⟩
theorem Vr.nq (h : Vr base q nv xv vs w) : nv.ownBlock ≠ some q := own_other h.ns h.blk fun cs e => by injection e with _ e _; exact absurd e (by decide)
theorem Vr.xq (h : Vr base q nv xv vs w) : xv.ownBlock ≠ some q := own_other h.xs h.blk fun cs e => by injection e with _ e _; exact absurd e (by decide)
/-- Rows of unlike types lie in unlike blocks. -/
theorem owns_apart {b1 b2 : Nat} {e1 e2 : TypeId} {v1 v2 : Value} {n1 n2 : Nat} {l1 l2 : List Value} (h1 : w.ownsRow b1 e1 1 v1 n1 l1) (h2 : w.ownsRow b2 e2 1 v2 n2 l2) (hT : e1 ≠ e2) {k : Nat} (hk : v1.ownBlock = some k) : v2.ownBlock ≠ some k := by
  rcases h1.2 with ⟨r, _⟩ | ⟨g, cap, cur, r, _, r4, _⟩
  · rw [r] at hk; cases hk
  · rw [r] at hk
    simp only [Value.ownBlock, Option.some.injEq] at hk
    subst hk
    exact own_other h2 r4 fun cs e => by injection e with _ e _; exact hT e
theorem getV_at {name : Nm} {k : Nat} (hk : k < vs.length) (h : vs[k].1 = name) (hno : ∀ j (hj : j < vs.length), j < k → vs[j].1 ≠ name) : getV vs name = vs[k].2 := by
  have e : vs = vs.take k ++ vs[k] :: vs.drop (k + 1) := by rw [← List.drop_eq_getElem_cons hk, List.take_append_drop]
  have h2 : (vs.take k).find? (fun x => x.1 == name) = none := by
    rw [List.find?_eq_none]
    intro g hg
    obtain ⟨j, hj, rfl⟩ := List.mem_iff_getElem.1 hg
    rw [List.length_take] at hj
    rw [List.getElem_take]
    simpa using hno j (by omega) (by omega)
  unfold getV lookV
  conv => lhs; rw [e]
  rw [List.find?_append, h2, List.find?_cons]
  simp [h]
theorem getV_none {name : Nm} (hno : ∀ j (hj : j < vs.length), vs[j].1 ≠ name) : getV vs name = 0 := by
  unfold getV lookV
  rw [List.find?_eq_none.2]
  · rfl
  · intro g hg
    obtain ⟨j, hj, rfl⟩ := List.mem_iff_getElem.1 hg
    simpa using hno j hj
theorem getV_I64 (h : ∀ x ∈ vs, I64 x.2) (name : Nm) : I64 (getV vs name) := by
  unfold getV lookV
  cases hf : vs.find? (fun x => x.1 == name) with
  | none => exact ⟨by decide, by decide⟩
  | some x => exact h x (List.mem_of_find?_eq_some hf)
theorem names_get {k : Nat} (h : k < vs.length) : (strVs (namesOf vs))[k]? = some (.string (mkB vs[k].1)) := by unfold strVs namesOf; simp [h]
theorem nums_get {k : Nat} (h : k < vs.length) : (intVs (numsOf vs))[k]? = some (.int .i64 vs[k].2) := by unfold intVs numsOf; simp [h]
set_option maxHeartbeats 2000000 in
set_option maxRecDepth 100000 in
theorem get_any (h : Vr base q nv xv vs w) (hlen : vs.length ≤ 1000) (name : Nm) :
    Calls Tryz.prog 110 #[.pointer (some ⟨q, 0, none⟩), .string (mkB name)] w (Quiet (.int .i64 (getV vs name)) w) := by
  obtain ⟨c0, c1⟩ := row2 h.blk
  obtain ⟨A, a, rfl, ha, hrowA⟩ := owns_row h.ns
  obtain ⟨B, b, rfl, hb, hrowB⟩ := owns_row h.xs
  have HA := Lib.hid hrowA
  have HB := Lib.hid hrowB
  clear h hrowA hrowB
  go_enter Tryz.func110, Tryz.ntmps110
  go_wp2_with fail
  go_loopw [5] (fun i wr => ∃ k : Nat, k ≤ vs.length ∧ i = .int .i64 k ∧ w = wr ∧ ∀ j (hj : j < vs.length), j < k → vs[j].1 ≠ name) (fun i _ => vs.length - (intOf i).toNat)
  case atStart => exact ⟨0, Nat.zero_le _, rfl, rfl, fun j _ h => absurd h (by omega)⟩
  case round =>
    obtain ⟨k, hk, rfl, rfl, hno⟩ := hrel
    have HNO := Lib.hid hno
    clear hno
    by_cases hlt : k < vs.length
    · obtain ⟨bA, oA, rfl, gA⟩ := HA.out k _ (names_get hlt)
      obtain ⟨bB, oB, rfl, gB⟩ := HB.out k _ (nums_get hlt)
      have hlt' : (k : Int) < (vs.length : Int) := by omega
      by_cases hn : vs[k].1 = name
      · have q1 : ((mkB vs[k].1).toList == (mkB name).toList) = true := by rw [mkB_toList, mkB_toList, hn]; exact beq_self_eq_true _
        have HG := Lib.hid (getV_at hlt hn HNO.out)
        clear hn
        go_wp2_with fail
        go_ret
        rw [HG.out]
        exact Quiet.same_of rfl
      · have q1 : ((mkB vs[k].1).toList == (mkB name).toList) = false := by rw [mkB_toList, mkB_toList]; exact beq_eq_false_iff_ne.2 hn
        have HN := Lib.hid hn
        clear hn
        go_wp2_with fail
        go_roundw
        case rel => exact ⟨k + 1, by omega, by go_num, (by trivial), fun j hj hjk => by
          by_cases hjj : j = k
          · subst hjj; exact HN.out
          · exact HNO.out j hj (by omega)⟩
        case measure => simp [intOf]; omega
    · have hk' : k = vs.length := by omega
      have HG : Hid (getV vs name = 0) := show getV vs name = 0 from getV_none fun j hj => HNO.out j hj (by omega)
      have hnl : ¬ ((k : Int) < (vs.length : Int)) := by omega
      clear hk' hlt hk
      go_wp2_with fail
      go_ret
      rw [HG.out]
      exact Quiet.same_of rfl
end
/-- Blocks stand, but for those of S and those of three rows. -/
structure Mv3 (base : Nat) (S : List Nat) (v nv xv v' nv' xv' : Value) (w w' : World) : Prop where
  bel : Below base w w'
  kp : ∀ k, k < w.heap.size → k ∉ S → v.ownBlock ≠ some k → nv.ownBlock ≠ some k → xv.ownBlock ≠ some k → w'.heap[k]? = w.heap[k]?
  mv : v'.ownBlock = v.ownBlock ∨ ∀ k, v'.ownBlock = some k → w.heap.size ≤ k
  mn : nv'.ownBlock = nv.ownBlock ∨ ∀ k, nv'.ownBlock = some k → w.heap.size ≤ k
  mx : xv'.ownBlock = xv.ownBlock ∨ ∀ k, xv'.ownBlock = some k → w.heap.size ≤ k
section
variable {base q : Nat} {v nv xv v' nv' xv' v2 nv2 xv2 : Value} {vs : Vs} {w w' w2 : World} {S : List Nat}
theorem nw_trans {a b c : Value} {s t : Nat} (hs : s ≤ t) (h : b.ownBlock = a.ownBlock ∨ ∀ k, b.ownBlock = some k → s ≤ k) (k : c.ownBlock = b.ownBlock ∨ ∀ k, c.ownBlock = some k → t ≤ k) : c.ownBlock = a.ownBlock ∨ ∀ k, c.ownBlock = some k → s ≤ k := by
  rcases k with q | q
  · rcases h with p | p
    · exact .inl (q.trans p)
    · exact .inr fun i e => p i (q ▸ e)
  · exact .inr fun i e => Nat.le_trans hs (q i e)
theorem nw_ne {a b : Value} {s i : Nat} (h : b.ownBlock = a.ownBlock ∨ ∀ k, b.ownBlock = some k → s ≤ k) (hi : i < s) (ha : a.ownBlock ≠ some i) : b.ownBlock ≠ some i := by
  rcases h with q | q
  · rw [q]; exact ha
  · intro e; have := q i e; omega
theorem Mv3.trans (h : Mv3 base S v nv xv v' nv' xv' w w') (k : Mv3 base S v' nv' xv' v2 nv2 xv2 w' w2) : Mv3 base S v nv xv v2 nv2 xv2 w w2 :=
  ⟨h.bel.trans k.bel, fun i h1 h2 h3 h4 h5 => (k.kp i (Nat.lt_of_lt_of_le h1 h.bel.size) h2 (nw_ne h.mv h1 h3) (nw_ne h.mn h1 h4) (nw_ne h.mx h1 h5)).trans (h.kp i h1 h2 h3 h4 h5),
    nw_trans h.bel.size h.mv k.mv, nw_trans h.bel.size h.mn k.mn, nw_trans h.bel.size h.mx k.mx⟩
theorem Mv3.refl : Mv3 base S v nv xv v nv xv w w := ⟨Below.refl _ _, fun _ _ _ _ _ _ => rfl, .inl rfl, .inl rfl, .inl rfl⟩
theorem Mv3.below (hb : base ≤ w.heap.size) (h : Below w.heap.size w w') : Mv3 base S v nv xv v nv xv w w' := ⟨h.mono hb, fun k hk _ _ _ _ => h.block k hk, .inl rfl, .inl rfl, .inl rfl⟩
theorem Mv3.of {S' : List Nat} (h : Mv base S' v v' w w') (hs : ∀ k ∈ S', k ∈ S) : Mv3 base S v nv xv v' nv xv w w' := ⟨h.bel, fun k h1 h2 h3 _ _ => h.kp k h1 (fun q => h2 (hs k q)) h3, h.nw, .inl rfl, .inl rfl⟩
theorem Mv3.wide {S' : List Nat} (h : Mv3 base S' v nv xv v' nv' xv' w w') (hs : ∀ k ∈ S', k ∈ S) : Mv3 base S v nv xv v' nv' xv' w w' := ⟨h.bel, fun k h1 h2 => h.kp k h1 (fun q => h2 (hs k q)), h.mv, h.mn, h.mx⟩
theorem putV_at {name : Nm} {n : Int} : ∀ (vs : Vs) (k : Nat) (hk : k < vs.length), vs[k].1 = name → (∀ j (hj : j < vs.length), j < k → vs[j].1 ≠ name) → putV vs name n = vs.set k (name, n) := by
  intro vs
  induction vs with
  | nil => intro k hk; simp at hk
  | cons x xs ih =>
    intro k hk h hno
    unfold putV
    cases k with
    | zero =>
      rw [if_pos (by simpa using h)]
      rfl
    | succ k =>
      have h0 : x.1 ≠ name := hno 0 (by simp) (by omega)
      rw [if_neg (by simpa using h0), ih k (by simpa using hk) (by simpa using h) fun j hj hjk => hno (j + 1) (by simp; omega) (by omega)]
      rfl
theorem putV_none {name : Nm} {n : Int} : ∀ (vs : Vs), (∀ j (hj : j < vs.length), vs[j].1 ≠ name) → putV vs name n = vs ++ [(name, n)] := by
  intro vs
  induction vs with
  | nil => intro _; rfl
  | cons x xs ih =>
    intro hno
    unfold putV
    have h0 : x.1 ≠ name := hno 0 (by simp)
    rw [if_neg (by simpa using h0), ih fun j hj => hno (j + 1) (by simp; omega)]
    rfl
theorem set_own {e : TypeId} {g n cap k : Nat} {xs : List Value} (u : Value) (h : w.ownsRow base e 1 (.slice (some ⟨g, 0, none⟩) n cap) n xs) : (w.setCell ⟨g, k, none⟩ u).ownsRow base e 1 (.slice (some ⟨g, 0, none⟩) n cap) n (xs.set k u) := by
  refine ⟨by rw [List.length_set]; exact h.1, .inr ?_⟩
  rcases h.2 with ⟨r, _⟩ | ⟨g', cap', cur, r, h2, h3, h4, h5, h6, h7⟩
  · cases r
  · injection r with r1 r2 r3
    injection r1 with r1
    injection r1 with r1
    subst r1 r3
    refine ⟨g, cap, cur.setIfInBounds k u, rfl, h2, row_set u h3 rfl, h4, h5, by simpa using h6, ?_⟩
    rw [Array.toList_setIfInBounds, List.take_set, h7]
theorem putV_I64 {n : Int} (hn : I64 n) (name : Nm) : ∀ (vs : Vs), (∀ x ∈ vs, I64 x.2) → ∀ x ∈ putV vs name n, I64 x.2 := by
  intro vs
  induction vs with
  | nil =>
    intro _ x hx
    unfold putV at hx
    simp only [List.mem_singleton] at hx
    subst hx; exact hn
  | cons y ys ih =>
    intro h x hx
    unfold putV at hx
    split at hx
    · rcases List.mem_cons.1 hx with rfl | hx
      · exact hn
      · exact h x (by simp [hx])
    · rcases List.mem_cons.1 hx with rfl | hx
      · exact h _ (by simp)
      · exact ih (fun z hz => h z (by simp [hz])) x hx
/-- A number of a variable is stored. -/
theorem Vr.store {g cap k : Nat} {name : Nm} {n : Int} (h : Vr base q nv (.slice (some ⟨g, 0, none⟩) vs.length cap) vs w) (hk : k < vs.length) (hn : vs[k].1 = name) (hno : ∀ j (hj : j < vs.length), j < k → vs[j].1 ≠ name) (hi : I64 n) :
    Vr base q nv (.slice (some ⟨g, 0, none⟩) (putV vs name n).length cap) (putV vs name n) (w.setCell ⟨g, k, none⟩ (.int .i64 n)) ∧ (putV vs name n).length = vs.length ∧ ∀ v, Mv3 base [q] v nv (.slice (some ⟨g, 0, none⟩) vs.length cap) v nv (.slice (some ⟨g, 0, none⟩) vs.length cap) w (w.setCell ⟨g, k, none⟩ (.int .i64 n)) := by
  have hp := putV_at (n := n) vs k hk hn hno
  have hl : (putV vs name n).length = vs.length := by rw [hp, List.length_set]
  have hgb : base ≤ g := by
    rcases h.xs.2 with ⟨r, _⟩ | ⟨g', cap', cur, r, h2, _⟩
    · cases r
    · injection r with r1
      injection r1 with r1
      injection r1 with r1
      subst r1; exact h2
  have hng : nv.ownBlock ≠ some g := fun e => owns_apart h.ns h.xs (by decide) e rfl
  have hqg : q ≠ g := fun e => h.xq (by rw [e]; rfl)
  have e1 : namesOf (putV vs name n) = namesOf vs := by
    rw [hp]
    unfold namesOf
    rw [List.map_set]
    show (List.map (fun x => x.1) vs).set k name = _
    rw [← hn, ← List.getElem_map (fun x : Nm × Int => x.1) (h := by simpa using hk), List.set_getElem_self]
  have e2 : intVs (numsOf (putV vs name n)) = (intVs (numsOf vs)).set k (.int .i64 n) := by
    rw [hp]
    unfold intVs numsOf
    rw [List.map_set, List.map_set]
  refine ⟨⟨h.low, by rw [hl]; exact (Below.heap_setCell _ _ _ _ hqg).trans h.blk, ?_, ?_, putV_I64 hi name vs h.ok⟩, hl, fun v => ⟨(Below.refl base w).setCell hgb _, fun i _ _ _ _ h5 => Below.heap_setCell _ _ _ _ (fun e => h5 (by simp only at e; rw [e]; rfl)), .inl rfl, .inl rfl, .inl rfl⟩⟩
  · rw [hl, e1]; exact setRow_owns _ h.ns hng
  · rw [hl, e2]; exact set_own _ h.xs
end
end Go.Proofs.YtnpdjncgilekhaaGreatDoor

namespace Go.Proofs.YtnpdjncgilekhaaGreatDoor
open Go.RowKit

/-! Vars.set -/
section
variable {base q : Nat} {nv xv : Value} {vs : Vs} {w : World}
set_option maxHeartbeats 4000000 in
set_option maxRecDepth 100000 in
theorem set_old (h : Vr base q nv xv vs w) (hlen : vs.length ≤ 1000) (name : Nm) (n : Int) (hi : I64 n) (hex : ∃ k, ∃ hk : k < vs.length, vs[k].1 = name) :
    Calls Tryz.prog 80 #[.pointer (some ⟨q, 0, none⟩), .string (mkB name), .int .i64 n] w fun en w' => en = .returned (.tuple #[]) ∧ ∃ nv' xv', Vr base q nv' xv' (putV vs name n) w' ∧ ∀ v, Mv3 base [q] v nv xv v nv' xv' w w' := by
  obtain ⟨c0, c1⟩ := row2 h.blk
  obtain ⟨A, a, rfl, ha, hrowA⟩ := owns_row h.ns
  have h0 : 0 < vs.length := by obtain ⟨k, hk, -⟩ := hex; omega
  obtain ⟨g, cap, rfl⟩ : ∃ g cap, xv = .slice (some ⟨g, 0, none⟩) vs.length cap := by
    rcases h.xs.2 with ⟨-, r⟩ | ⟨g, cap, cur, r, -⟩
    · omega
    · exact ⟨g, cap, r⟩
  obtain ⟨B, b, eB, hb, hrowB⟩ := owns_row h.xs
  injection eB with e1 e2 e3
  subst e1 e3
  have HA := Lib.hid hrowA
  have HB := Lib.hid hrowB
  have HV := Lib.hid h
  have HX := Lib.hid hex
  have HZ : Hid (∀ j, w.frozen? ⟨g, j, none⟩ = false) := fun j => by
    rcases h.xs.2 with ⟨-, r⟩ | ⟨g', cap', cur, r, -, h3, -⟩
    · omega
    · injection r with r1
      injection r1 with r1
      injection r1 with r1
      subst r1
      exact row_frozen h3 j
  clear h hrowA hrowB hex
  go_enter Tryz.func80, Tryz.ntmps80
  go_wp2_with fail
  go_loopw [6] (fun i wr => ∃ k : Nat, k ≤ vs.length ∧ i = .int .i64 k ∧ w = wr ∧ ∀ j (hj : j < vs.length), j < k → vs[j].1 ≠ name) (fun i _ => vs.length - (intOf i).toNat)
  case atStart => exact ⟨0, Nat.zero_le _, rfl, rfl, fun j _ h => absurd h (by omega)⟩
  case round =>
    obtain ⟨k, hk, rfl, rfl, hno⟩ := hrel
    have HNO := Lib.hid hno
    clear hno
    by_cases hlt : k < vs.length
    · obtain ⟨bA, oA, rfl, gA⟩ := HA.out k _ (names_get hlt)
      obtain ⟨bB, oB, eB, gB⟩ := HB.out k _ (nums_get hlt)
      injection eB with eB
      injection eB with e1 e2
      subst e1 e2
      rw [Nat.zero_add] at gB
      have z := HZ.out k
      have hlt' : (k : Int) < (vs.length : Int) := by omega
      by_cases hn : vs[k].1 = name
      · have q1 : ((mkB vs[k].1).toList == (mkB name).toList) = true := by rw [mkB_toList, mkB_toList, hn]; exact beq_self_eq_true _
        have HS := Lib.hid (HV.out.store hlt hn HNO.out hi)
        clear hn hi
        go_wp2_with fail
        refine bodyPost_ret (results_none rfl _ _ _) rfl ?_
        obtain ⟨s1, s2, s3⟩ := HS.out
        rw [s2] at s1
        exact ⟨rfl, _, _, s1, s3⟩
      · have q1 : ((mkB vs[k].1).toList == (mkB name).toList) = false := by rw [mkB_toList, mkB_toList]; exact beq_eq_false_iff_ne.2 hn
        have HN := Lib.hid hn
        clear hn z gB
        go_wp2_with fail
        go_roundw
        case rel => exact ⟨k + 1, by omega, by go_num, (by trivial), fun j hj hjk => by
          by_cases hjj : j = k
          · subst hjj; exact HN.out
          · exact HNO.out j hj (by omega)⟩
        case measure => simp [intOf]; omega
    · obtain ⟨j, hj, e⟩ := HX.out
      exact absurd e (HNO.out j hj (by omega))
theorem grown_old {w4 : World} {ob : Obj} {row : Option Nat} (hg : (w.alloc ob).grownBy w4 row) {k : Nat} (hk : k < w.heap.size) (hn : row ≠ some k) : w4.heap[k]? = w.heap[k]? := by
  rw [hg.block k (by simp; omega) (fun q => hn q.symm), old_block _ _ hk]
theorem names_grown {nv' : Value} {name : Nm} {w4 : World} {ob : Obj} (h : Vr base q nv xv vs w) (hg : (w.alloc ob).grownBy w4 nv.ownBlock) (hown : w4.ownsRow base 9 1 nv' (vs.length + 1) (strVs (namesOf vs) ++ [.string (mkB name)])) (hat : nv'.ownBlock = nv.ownBlock ∨ nv'.ownBlock = some (w.heap.size + 1)) :
    w4.heap[q]? = w.heap[q]? ∧ (w4.setCell ⟨q, 0, none⟩ nv').heap[q]? = some (.cells #[nv', xv] 146 (0, 0)) ∧ (w4.setCell ⟨q, 0, none⟩ nv').ownsRow base 9 1 nv' (vs.length + 1) (strVs (namesOf vs) ++ [.string (mkB name)]) ∧
      (w4.setCell ⟨q, 0, none⟩ nv').ownsRow base 3 1 xv vs.length (intVs (numsOf vs)) ∧ ∀ v, Mv3 base [q] v nv xv v nv' xv w (w4.setCell ⟨q, 0, none⟩ nv') := by
  have hq := grown_old hg h.lt h.nq
  have hsz : w.heap.size ≤ w4.heap.size := by have := hg.size; simp at this; omega
  have hnq : nv'.ownBlock ≠ some q := by
    rcases hat with e | e
    · rw [e]; exact h.nq
    · rw [e]; intro r; have := h.lt; have := Option.some.inj r; omega
  refine ⟨hq, row_set (j := 0) nv' (hq.trans h.blk) (by simp), setRow_owns _ hown hnq, setRow_owns _ (owns_same h.xs fun k hk => grown_old hg (owns_lt h.xs hk).2 (owns_apart h.xs h.ns (by decide) hk)) h.xq, fun v => ⟨?_, fun k h1 h2 _ h4 _ => ?_, .inl rfl, ?_, .inl rfl⟩⟩
  · exact Below.setCell (Below.grown ((Below.refl base w).alloc h.base_le ob) hg (by have := h.base_le; simp; omega) (fun k hk => (owns_lt h.ns hk).1)) h.low _
  · rw [Below.heap_setCell _ _ _ _ (fun e => h2 (by simp only at e; simp [e]))]
    exact grown_old hg h1 h4
  · rcases hat with e | e
    · exact .inl e
    · exact .inr fun k hk => by rw [e] at hk; have := Option.some.inj hk; omega
theorem nums_grown {nv' xv' : Value} {name : Nm} {n : Int} {w5 w6 : World} {ob : Obj} (hlow : base ≤ q) (hb : w5.heap[q]? = some (.cells #[nv', xv] 146 (0, 0))) (hns : w5.ownsRow base 9 1 nv' (vs.length + 1) (strVs (namesOf vs) ++ [.string (mkB name)])) (hxs : w5.ownsRow base 3 1 xv vs.length (intVs (numsOf vs))) (hok : ∀ x ∈ vs, I64 x.2) (hi : I64 n) (hno : ∀ j (hj : j < vs.length), vs[j].1 ≠ name)
    (hg : (w5.alloc ob).grownBy w6 xv.ownBlock) (hown : w6.ownsRow base 3 1 xv' (vs.length + 1) (intVs (numsOf vs) ++ [.int .i64 n])) (hat : xv'.ownBlock = xv.ownBlock ∨ xv'.ownBlock = some (w5.heap.size + 1)) :
    w6.heap[q]? = w5.heap[q]? ∧ Vr base q nv' xv' (putV vs name n) (w6.setCell ⟨q, 1, none⟩ xv') ∧ ∀ v, Mv3 base [q] v nv' xv v nv' xv' w5 (w6.setCell ⟨q, 1, none⟩ xv') := by
  have hlt : q < w5.heap.size := (Array.getElem?_eq_some_iff.1 hb).1
  have hxq : xv.ownBlock ≠ some q := own_other hxs hb fun cs e => by injection e with _ e _; exact absurd e (by decide)
  have hq := grown_old hg hlt hxq
  have hbl : base ≤ w5.heap.size := by omega
  have hsz : w5.heap.size ≤ w6.heap.size := by have := hg.size; simp at this; omega
  have hxq' : xv'.ownBlock ≠ some q := by
    rcases hat with e | e
    · rw [e]; exact hxq
    · rw [e]; intro r; have := Option.some.inj r; omega
  have hnq : nv'.ownBlock ≠ some q := own_other hns hb fun cs e => by injection e with _ e _; exact absurd e (by decide)
  have hp : putV vs name n = vs ++ [(name, n)] := putV_none vs hno
  refine ⟨hq, ⟨hlow, row_set (j := 1) xv' (hq.trans hb) (by simp), ?_, ?_, putV_I64 hi name vs hok⟩, fun v => ⟨?_, fun k h1 h2 _ _ h5 => ?_, .inl rfl, .inl rfl, ?_⟩⟩
  · rw [hp, List.length_append, show strVs (namesOf (vs ++ [(name, n)])) = strVs (namesOf vs) ++ [.string (mkB name)] by simp [strVs, namesOf]]
    exact setRow_owns _ (owns_same hns fun k hk => grown_old hg (owns_lt hns hk).2 (owns_apart hns hxs (by decide) hk)) hnq
  · rw [hp, List.length_append, show intVs (numsOf (vs ++ [(name, n)])) = intVs (numsOf vs) ++ [.int .i64 n] by simp [intVs, numsOf]]
    exact setRow_owns _ hown hxq'
  · exact Below.setCell (Below.grown ((Below.refl base w5).alloc hbl ob) hg (by simp; omega) (fun k hk => (owns_lt hxs hk).1)) hlow _
  · rw [Below.heap_setCell _ _ _ _ (fun e => h2 (by simp only at e; simp [e]))]
    exact grown_old hg h1 h5
  · rcases hat with e | e
    · exact .inl e
    · exact .inr fun k hk => by rw [e] at hk; have := Option.some.inj hk; omega
set_option maxHeartbeats 8000000 in
set_option maxRecDepth 100000 in
theorem set_new (h : Vr base q nv xv vs w) (hlen : vs.length ≤ 1000) (name : Nm) (n : Int) (hi : I64 n) (hno0 : ∀ j (hj : j < vs.length), vs[j].1 ≠ name) :
    Calls Tryz.prog 80 #[.pointer (some ⟨q, 0, none⟩), .string (mkB name), .int .i64 n] w fun en w' => en = .returned (.tuple #[]) ∧ ∃ nv' xv', Vr base q nv' xv' (putV vs name n) w' ∧ ∀ v, Mv3 base [q] v nv xv v nv' xv' w w' := by
  obtain ⟨c0, c1⟩ := row2 h.blk
  obtain ⟨A, a, rfl, ha, hrowA⟩ := owns_row h.ns
  obtain ⟨B, b, rfl, hb, hrowB⟩ := owns_row h.xs
  obtain ⟨ti, hi1, hz0, hz1, hz2⟩ := info_parts intInfo
  obtain ⟨ts, ht, hy0, hy1, hy2⟩ := info_parts strInfo
  have HA := Lib.hid hrowA
  have HV := Lib.hid h
  have HNO := Lib.hid hno0
  have HI := Lib.hid hi
  have hlow := h.low
  have hbl := h.base_le
  have HLOW := Lib.hid hlow
  clear h hrowA hrowB hno0 hi
  go_enter Tryz.func80, Tryz.ntmps80
  go_wp2_with fail
  go_loopw [6] (fun i wr => ∃ k : Nat, k ≤ vs.length ∧ i = .int .i64 k ∧ w = wr) (fun i _ => vs.length - (intOf i).toNat)
  case atStart => exact ⟨0, Nat.zero_le _, rfl, rfl⟩
  case round =>
    obtain ⟨k, hk, rfl, rfl⟩ := hrel
    by_cases hlt : k < vs.length
    · obtain ⟨bA, oA, rfl, gA⟩ := HA.out k _ (names_get hlt)
      have hlt' : (k : Int) < (vs.length : Int) := by omega
      have q1 : ((mkB vs[k].1).toList == (mkB name).toList) = false := by rw [mkB_toList, mkB_toList]; exact beq_eq_false_iff_ne.2 (HNO.out k hlt)
      go_wp2_with fail
      go_roundw
      case rel => exact ⟨k + 1, by omega, by go_num, (by trivial)⟩
      case measure => simp [intOf]; omega
    · have hnl : ¬ ((k : Int) < (vs.length : Int)) := by omega
      have z0 := row_frozen HV.out.blk 0
      clear hk hlt
      go_upto_region 6 with (at_builtin; refine wpList_append_own_at _ rfl _ _ 35 rfl base 9 ts _ 1 16 Tryz.underlying35 ht hy0 hy1 hy2 rfl (by decide) _ _ _ rfl (HV.out.ns.alloc _) ⟨w.heap.size, 0, none⟩ 1 1 [.string (mkB name)] rfl rfl (cell_one_new _ _ _) (fun u hu => by simp at hu; subst hu; rfl) (by unfold maxLen; omega) (by omega) (by simp; omega) ?_; intro nv' w4 hown hgrow _ hat; obtain ⟨A4, d4, rfl⟩ := owns_slice hown; obtain ⟨k1, k2, k3, k4, k5⟩ := names_grown HV.out hgrow hown (hat.elim (fun e => .inl e) (fun e => .inr (e.trans (by simp)))); have x4 : w4.cell? ⟨q, 0, none⟩ = some (.slice A vs.length a) := (row2 (k1.trans HV.out.blk)).1; have y4 : w4.frozen? ⟨q, 0, none⟩ = false := row_frozen (k1.trans HV.out.blk) 0; have K2 := Lib.hid k2; have K3 := Lib.hid k3; have K4 := Lib.hid k4; have K5 := Lib.hid k5; clear hown hgrow hat k1 k2 k3 k4 k5)
      obtain ⟨w5, hw5⟩ : ∃ w5, w4.setCell ⟨q, 0, none⟩ (.slice A4 (vs.length + 1) d4) = w5 := ⟨_, rfl⟩
      rw [hw5]
      rw [hw5] at K2 K3 K4 K5
      clear hw5 x4 y4 z0 c0 c1
      obtain ⟨d0, d1⟩ := row2 K2.out
      have hbl5 : base ≤ w5.heap.size := by have := (Array.getElem?_eq_some_iff.1 K2.out).1; omega
      go_wp2_with (at_builtin; refine wpList_append_own_at _ rfl _ _ 45 rfl base 3 ti _ 1 8 Tryz.underlying45 hi1 hz0 hz1 hz2 rfl (by decide) _ _ _ rfl (K4.out.alloc _) ⟨w5.heap.size, 0, none⟩ 1 1 [.int .i64 n] rfl rfl (cell_one_new _ _ _) (fun u hu => by simp at hu; subst hu; rfl) (by unfold maxLen; omega) (by omega) (by simp; omega) ?_; intro xv' w6 hown hgrow _ hat; obtain ⟨A6, d6, rfl⟩ := owns_slice hown; obtain ⟨k1, k2, k3⟩ := nums_grown HLOW.out K2.out K3.out K4.out HV.out.ok HI.out HNO.out hgrow hown (hat.elim (fun e => .inl e) (fun e => .inr (e.trans (by simp)))); have x6 : w6.cell? ⟨q, 1, none⟩ = some (.slice B vs.length b) := (row2 (k1.trans K2.out)).2; have y6 : w6.frozen? ⟨q, 1, none⟩ = false := row_frozen (k1.trans K2.out) 1; have M2 := Lib.hid k2; have M3 := Lib.hid k3; clear hown hgrow hat k1 k2 k3)
      go_end0
      exact ⟨rfl, _, _, M2.out, fun v => (K5.out v).trans (M3.out v)⟩
theorem set_any (h : Vr base q nv xv vs w) (hlen : vs.length ≤ 1000) (name : Nm) (n : Int) (hi : I64 n) :
    Calls Tryz.prog 80 #[.pointer (some ⟨q, 0, none⟩), .string (mkB name), .int .i64 n] w fun en w' => en = .returned (.tuple #[]) ∧ ∃ nv' xv', Vr base q nv' xv' (putV vs name n) w' ∧ ∀ v, Mv3 base [q] v nv xv v nv' xv' w w' := by
  by_cases hex : ∃ k, ∃ hk : k < vs.length, vs[k].1 = name
  · exact set_old h hlen name n hi hex
  · exact set_new h hlen name n hi fun j hj e => hex ⟨j, hj, e⟩
end
end Go.Proofs.YtnpdjncgilekhaaGreatDoor

namespace Go.Proofs.YtnpdjncgilekhaaGreatDoor
open Go.RowKit

/-! the reference's run; Run.Tick -/
def rnL (A : Option Addr) (nf cf T d : Nat) (st : St) (v : Value) : Array Value := #[.slice A nf cf, .int .i64 T, .int .i64 d, .bool true, .string (mkB st.how), v, .int .i64 st.ticks, .slice none 0 0, .slice none 0 0]
section
variable (base m : Nat) (A : Option Addr) (nf cf T : Nat)
/-- The run at block m; v is the slice of what was printed. -/
structure Rn (d : Nat) (st : St) (v : Value) (w : World) : Prop where
  low : base ≤ m
  blk : w.heap[m]? = some (.cells (rnL A nf cf T d st v) 92 (0, 0))
  own : w.ownsRow base 3 1 v st.out.length (intVs st.out)
  ticks : st.ticks ≤ T
  out : st.out.length ≤ 1000
end
section
variable {base m : Nat} {A : Option Addr} {nf cf T : Nat} {d : Nat} {st : St} {v : Value} {w w' : World}
theorem Rn.lt (h : Rn base m A nf cf T d st v w) : m < w.heap.size := (Array.getElem?_eq_some_iff.1 h.blk).1
theorem Rn.base_le (h : Rn base m A nf cf T d st v w) : base ≤ w.heap.size := by have := h.low; have := h.lt; omega
theorem Rn.same (h : Rn base m A nf cf T d st v w) (hm : w'.heap[m]? = w.heap[m]?) (hv : ∀ k, v.ownBlock = some k → w'.heap[k]? = w.heap[k]?) : Rn base m A nf cf T d st v w' := ⟨h.low, hm.trans h.blk, owns_same h.own hv, h.ticks, h.out⟩
theorem Rn.below (h : Rn base m A nf cf T d st v w) (hb : Below w.heap.size w w') : Rn base m A nf cf T d st v w' := ⟨h.low, (hb.block m h.lt).trans h.blk, ownsRow_below h.own hb, h.ticks, h.out⟩
theorem Rn.drewN (h : Rn base m A nf cf T d st v w) (n : Nat) : Rn base m A nf cf T d st v (w.drewN n) := h.same rfl fun _ _ => rfl
theorem Rn.own_m (h : Rn base m A nf cf T d st v w) : v.ownBlock ≠ some m := own_other h.own h.blk fun cs e => by injection e with _ e _; exact absurd e (by decide)
theorem Rn.store {d' : Nat} {st' : St} (h : Rn base m A nf cf T d st v w) {j : Nat} (u : Value) (hc : rnL A nf cf T d' st' v = (rnL A nf cf T d st v).setIfInBounds j u) (ho : st'.out = st.out) (ht : st'.ticks ≤ T) : Rn base m A nf cf T d' st' v (w.setCell ⟨m, j, none⟩ u) := by
  refine ⟨h.low, row_set (j := j) u h.blk hc, ?_, ht, by rw [ho]; exact h.out⟩
  rw [ho]; exact setRow_owns u h.own h.own_m
theorem row9 {q : Nat} {v0 v1 v2 v3 v4 v5 v6 v7 v8 : Value} {T : TypeId} {fz : Nat × Nat} (hrow : w.heap[q]? = some (.cells #[v0, v1, v2, v3, v4, v5, v6, v7, v8] T fz)) :
    w.cell? ⟨q, 0, none⟩ = some v0 ∧ w.cell? ⟨q, 1, none⟩ = some v1 ∧ w.cell? ⟨q, 2, none⟩ = some v2 ∧ w.cell? ⟨q, 3, none⟩ = some v3 ∧ w.cell? ⟨q, 4, none⟩ = some v4 ∧ w.cell? ⟨q, 5, none⟩ = some v5 ∧ w.cell? ⟨q, 6, none⟩ = some v6 :=
  ⟨cell_of_row _ _ 0 _ _ _ hrow, cell_of_row _ _ 1 _ _ _ hrow, cell_of_row _ _ 2 _ _ _ hrow, cell_of_row _ _ 3 _ _ _ hrow, cell_of_row _ _ 4 _ _ _ hrow, cell_of_row _ _ 5 _ _ _ hrow, cell_of_row _ _ 6 _ _ _ hrow⟩
theorem Rn.cells (h : Rn base m A nf cf T d st v w) : w.cell? ⟨m, 0, none⟩ = some (.slice A nf cf) ∧ w.cell? ⟨m, 1, none⟩ = some (.int .i64 T) ∧ w.cell? ⟨m, 2, none⟩ = some (.int .i64 d) ∧ w.cell? ⟨m, 3, none⟩ = some (.bool true) ∧ w.cell? ⟨m, 4, none⟩ = some (.string (mkB st.how)) ∧ w.cell? ⟨m, 5, none⟩ = some v ∧ w.cell? ⟨m, 6, none⟩ = some (.int .i64 st.ticks) := row9 h.blk
theorem rTick_any (h : Rn base m A nf cf T d st v w) (hT : T ≤ 5000) :
    Calls Tryz.prog 61 #[.pointer (some ⟨m, 0, none⟩)] w fun e w' => e = .returned (.bool (decide (st.ticks < T))) ∧ Rn base m A nf cf T d (tickP T st) v w' ∧ Mv base [m] v v w w' := by
  obtain ⟨c0, c1, c2, c3, c4, c5, c6⟩ := h.cells
  have z4 := row_frozen h.blk 4
  have z6 := row_frozen h.blk 6
  have ht := h.ticks
  have hlow := h.low
  by_cases hl : st.ticks < T
  · have hd : decide (st.ticks < T) = true := decide_eq_true hl
    rw [hd]
    have hst : tickP T st = { st with ticks := st.ticks + 1 } := by unfold tickP; rw [if_pos hl]
    rw [hst]
    have hn3 : ¬ (T : Int) ≤ (st.ticks : Int) := by omega
    have HS : Hid (∀ k, Rn base m A nf cf T d { st with ticks := st.ticks + 1 } v ((w.drewN k).setCell ⟨m, 6, none⟩ (.int .i64 (st.ticks + 1)))) := fun k => (h.drewN k).store _ (by unfold rnL; simp) rfl (by simp; omega)
    have HLO := Lib.hid hlow
    have t5 : (st.ticks : Int) ≤ 5000 := by omega
    clear hl hd hst h ht c0 c2 c3 c4 c5 hlow
    go_enter Tryz.func61, Tryz.ntmps61
    go_wp2_with fail
    go_quiet (fail)
    go_wp2_with fail
    go_ret
    exact ⟨rfl, HS.out _, (Mv.drewN Mv.refl _).trans (Mv.store HLO.out (by simp))⟩
  · have hd : decide (st.ticks < T) = false := decide_eq_false hl
    rw [hd]
    have hst : tickP T st = { st with how := tiredN } := by unfold tickP; rw [if_neg hl]
    rw [hst]
    have hn : (T : Int) ≤ (st.ticks : Int) := by omega
    have HS : Hid (∀ k, Rn base m A nf cf T d { st with how := tiredN } v ((w.drewN k).setCell ⟨m, 4, none⟩ (.string (mkB tiredN)))) := fun k => (h.drewN k).store _ (by unfold rnL; simp) rfl ht
    have HLO := Lib.hid hlow
    clear hl hd hst h ht c0 c2 c3 c5 hlow
    go_enter Tryz.func61, Tryz.ntmps61
    go_wp2_with fail
    go_quiet (fail)
    go_wp2_with fail
    go_ret
    exact ⟨rfl, HS.out _, (Mv.drewN Mv.refl _).trans (Mv.store HLO.out (by simp))⟩
end
end Go.Proofs.YtnpdjncgilekhaaGreatDoor
