import Derived.Test.YtgoifbkogboppaaDoorBn3
import Derived.Test.YtgoifbkogboppaaDoorBn4
set_option linter.unusedVariables false
set_option linter.unusedSimpArgs false
namespace Go.Proofs.YtgoifbkogboppaaDoor
open Go.RowKit

theorem two_pow_step (k : Nat) : wrap64 (wrap64 (2 ^ k) + wrap64 (2 ^ k)) = wrap64 (2 ^ (k + 1)) := by
  rw [Int.pow_succ]
  generalize (2 : Int) ^ k = x
  unfold wrap64; omega
theorem mul_wrap (a x : Int) : wrap64 (a * wrap64 x) = wrap64 (a * x) := by
  simp only [w64_toInt, BitVec.ofInt_mul, BitVec.ofInt_toInt]
theorem powerOf_any (n : Int) (h0 : 0 ≤ n) (h1 : n ≤ 63) (w : World) :
    Calls Tryd.prog 34 #[.int .i64 n] w fun e w' => e = .returned (.int .i64 (wrap64 (2 ^ n.toNat))) ∧ w' = w := by
  obtain ⟨m, rfl⟩ := Int.eq_ofNat_of_zero_le h0
  simp only [Int.toNat_natCast]
  go_enter Tryd.func34, Tryd.ntmps34
  go_wp2_with fail
  go_loop [3, 4] (fun p i => ∃ k : Nat, k ≤ m ∧ i = .int .i64 k ∧ p = .int .i64 (wrap64 (2 ^ k))) (fun _ i => m - (intOf i).toNat)
  case atStart => exact ⟨0, Nat.zero_le _, rfl, by unfold wrap64; rfl⟩
  case round =>
    obtain ⟨k, hk, rfl, rfl⟩ := hrel
    by_cases hlt : k < m
    · have HS := Lib.hid (two_pow_step k)
      go_wp2_with fail
      go_round
      case rel => exact ⟨k + 1, by omega, by go_num, by rw [HS.out]⟩
      case measure => simp [intOf]; omega
    · have hk' : k = m := by omega
      subst hk'
      go_wp2_with fail
      go_ret
      exact ⟨rfl, rfl⟩
theorem lowSix_any (n : Int) (w : World) :
    Calls Tryd.prog 35 #[.int .i64 n] w fun e w' => e = .returned (.int .i64 (n % 64)) ∧ w' = w := by
  by_cases h : n.tmod 64 < 0
  · have hq := Int.mul_tdiv_add_tmod n 64
    have b1 : -64 < n.tmod 64 := by have := Int.lt_tmod_of_pos n (show (0:Int) < 64 by decide); omega
    have e : n.tmod 64 + 64 = n % 64 := by omega
    clear hq
    have HE := Lib.hid e
    clear e
    go_enter Tryd.func35, Tryd.ntmps35
    go_wp2_with fail
    go_ret
    exact ⟨by rw [← HE.out]; rfl, rfl⟩
  · have hq := Int.mul_tdiv_add_tmod n 64
    have b1 : n.tmod 64 < 64 := Int.tmod_lt_of_pos n (by decide)
    have e : n.tmod 64 = n % 64 := by omega
    clear hq b1
    have hn : ¬ n % 64 < 0 := by omega
    clear h
    go_enter Tryd.func35, Tryd.ntmps35
    go_wp2_with fail
    go_ret
    exact ⟨rfl, rfl⟩
theorem Bit_any (b : Bool) (w : World) : Calls Tryd.prog 33 #[.bool b] w fun e w' => e = .returned (.int .i64 (bitV b)) ∧ w' = w := by
  cases b
  · go_enter Tryd.func33, Tryd.ntmps33
    go_wp2
    go_ret
    exact ⟨rfl, rfl⟩
  · go_enter Tryd.func33, Tryd.ntmps33
    go_wp2
    go_ret
    exact ⟨rfl, rfl⟩
theorem tmod2 (v : Int) : (v % 2 = 0 → v.tmod 2 = 0) ∧ (v % 2 = 1 → v < 0 → v.tmod 2 = -1) := by
  have hq := Int.mul_tdiv_add_tmod v 2
  have h1 := Int.tmod_lt_of_pos v (show (0:Int) < 2 by decide)
  have h2 := Int.lt_tmod_of_pos v (show (0:Int) < 2 by decide)
  have h3 : v < 0 → v.tmod 2 ≤ 0 := fun h => by
    have := Int.neg_tmod (-v) 2
    rw [Int.neg_neg] at this
    have h4 := Int.tmod_nonneg (a := -v) 2 (by omega)
    omega
  constructor
  · intro h; omega
  · intro h hv; have := h3 hv; omega
theorem tdiv2 (u : Int) (h : u % 2 = 0) : u.tdiv 2 = u / 2 := by
  have hq := Int.mul_tdiv_add_tmod u 2
  have := (tmod2 u).1 h
  omega
theorem shr_I64 (a : Int) (ha : I64 a) (k : Nat) : I64 (a / 2 ^ k) := by
  have hp : (0 : Int) < 2 ^ k := Int.pow_pos (by decide)
  generalize (2 : Int) ^ k = x at *
  unfold I64 at *
  constructor
  · refine Int.le_ediv_of_mul_le hp ?_
    omega
  · refine Int.le_of_lt_add_one (Int.ediv_lt_of_lt_mul hp ?_)
    omega
theorem DoOf_shr (s : ByteArray) (hl : s.toList = [62, 62]) (a b : Int) (ha : I64 a) (w : World) :
    Calls Tryd.prog 20 #[.string s, .int .i64 a, .int .i64 b] w fun e w' => e = .returned (.int .i64 (a / 2 ^ (b % 64).toNat)) ∧ w' = w := by
  obtain ⟨N, hN⟩ : ∃ N : Nat, b % 64 = (N : Int) := ⟨(b % 64).toNat, by omega⟩
  have hN63 : N ≤ 63 := by omega
  have HA := Lib.hid ha
  clear ha
  rw [hN, Int.toNat_natCast]
  go_enter Tryd.func20, Tryd.ntmps20
  go_wp2_with (first
    | (go_at_call 35; refine (lowSix_any _ _).mono ?_; rintro e w' ⟨rfl, rfl⟩))
  clear hl
  go_loop [8, 9] (fun p i => ∃ k : Nat, k ≤ N ∧ i = .int .i64 k ∧ p = .int .i64 (a / 2 ^ k)) (fun _ i => N - (intOf i).toNat)
  case atStart => exact ⟨0, Nat.zero_le _, rfl, by simp⟩
  case round =>
    obtain ⟨k, hk, rfl, rfl⟩ := hrel
    by_cases hlt : k < N
    · obtain ⟨v, hv⟩ : ∃ v, a / 2 ^ k = v := ⟨_, rfl⟩
      have hI := shr_I64 a HA.out k
      have hs : a / 2 ^ (k + 1) = v / 2 := by rw [← hv, Int.pow_succ, Int.ediv_ediv_of_nonneg (Int.le_of_lt (Int.pow_pos (by decide)))]
      rw [hv] at hI ⊢
      have HS := Lib.hid hs
      clear hs hv
      have HI := Lib.hid hI
      have hlo : -9223372036854775808 ≤ v := hI.1
      have hhi : v ≤ 9223372036854775807 := hI.2
      clear hI
      have ht := tmod2 v
      by_cases hp : v % 2 = 0
      · by_cases hv0 : 0 ≤ v
        · clear ht
          go_wp2_with fail
          go_round
          case rel => exact ⟨k + 1, by omega, by go_num, by rw [HS.out]⟩
          case measure => simp [intOf]; omega
        · have h1 := ht.1 hp
          have h2 := Lib.hid (tdiv2 v hp)
          clear ht hp
          go_wp2_with fail
          go_round
          case rel => exact ⟨k + 1, by omega, by go_num, by rw [HS.out, ← h2.out]⟩
          case measure => simp [intOf]; omega
      · have hp1 : v % 2 = 1 := by omega
        clear hp
        by_cases hv0 : 0 ≤ v
        · have h3 := Lib.hid (show (v - 1) / 2 = v / 2 by omega)
          clear ht
          go_wp2_with fail
          go_round
          case rel => exact ⟨k + 1, by omega, by go_num, by rw [HS.out, h3.out]⟩
          case measure => simp [intOf]; omega
        · have h1 := ht.2 hp1 (by omega)
          have hlo' : -9223372036854775807 ≤ v := by omega
          have h2 := Lib.hid (tdiv2 (v - 1) (by omega))
          have h3 := Lib.hid (show (v - 1) / 2 = v / 2 by omega)
          clear ht hp1
          go_wp2_with fail
          go_round
          case rel => exact ⟨k + 1, by omega, by go_num, by rw [HS.out, ← h3.out, ← h2.out]⟩
          case measure => simp [intOf]; omega
    · have hk' : k = N := by omega
      subst hk'
      go_wp2_with fail
      go_ret
      exact ⟨rfl, rfl⟩
end Go.Proofs.YtgoifbkogboppaaDoor

namespace Go.Proofs.YtgoifbkogboppaaDoor
open Go.RowKit

/-- DoOf's own answer. -/
def dofV (l : List UInt8) (a b : Int) : Int :=
  if (l == [43]) = true then wrap64 (a + b)
  else if (l == [45]) = true then wrap64 (a - b)
  else if (l == [42]) = true then wrap64 (a * b)
  else if (l == [47]) = true then divV a b
  else if (l == [37]) = true then remV a b
  else if (l == [38]) = true then bits .and .i64 a b
  else if (l == [124]) = true then bits .or .i64 a b
  else if (l == [94]) = true then bits .xor .i64 a b
  else if (l == [60, 60]) = true then wrap64 (a * 2 ^ (b % 64).toNat)
  else if (l == [62, 62]) = true then a / 2 ^ (b % 64).toNat
  else if (l == [60]) = true then bitV (decide (a < b))
  else if (l == [60, 61]) = true then bitV (decide (a ≤ b))
  else if (l == [61, 61]) = true then bitV (a == b)
  else bitV (a != b)
theorem divV_neg (a : Int) : divV a (-1) = wrap64 (-a) := by unfold divV; simp
theorem remV_neg (a : Int) : remV a (-1) = 0 := by unfold remV; simp
theorem divV_other (a b : Int) (h0 : (b == 0) = false) : divV a b = wrap64 (a.tdiv b) := by unfold divV; rw [if_neg (by simpa using h0)]
theorem remV_other (a b : Int) (h0 : (b == 0) = false) : remV a b = a.tmod b := by unfold remV; rw [if_neg (by simpa using h0)]
set_option maxHeartbeats 1000000 in
theorem DoOf_any (s : ByteArray) (a b : Int) (ha : I64 a) (w : World) :
    Calls Tryd.prog 20 #[.string s, .int .i64 a, .int .i64 b] w fun e w' => e = .returned (.int .i64 (dofV s.toList a b)) ∧ w' = w := by
  by_cases hl : s.toList = [62, 62]
  · refine (DoOf_shr s hl a b ha w).mono ?_
    rintro e w' ⟨rfl, rfl⟩
    exact ⟨by rw [hl]; rfl, rfl⟩
  · have hl' : (s.toList == [62, 62]) = false := by simpa using hl
    clear hl
    have hpos : 0 ≤ b % 64 := by omega
    have hle : b % 64 ≤ 63 := by omega
    have hw := mul_wrap a (2 ^ (b % 64).toNat)
    have HW := Lib.hid hw
    clear hw ha
    by_cases h0 : b = 0
    · subst h0
      go_enter Tryd.func20, Tryd.ntmps20
      go_wp2_with (first
        | (go_at_call 35; refine (lowSix_any _ _).mono ?_; rintro e w' ⟨rfl, rfl⟩)
        | (go_at_call 34; refine (powerOf_any _ (by omega) (by omega) _).mono ?_; rintro e w' ⟨rfl, rfl⟩)
        | (go_at_call 33; refine (Bit_any _ _).mono ?_; rintro e w' ⟨rfl, rfl⟩))
      all_goals (go_ret; refine ⟨?_, rfl⟩; simp [*, dofV, divV, remV])
      all_goals (first | (have := HW.out; simpa using this; done) | (unfold wrap64; rfl))
    · by_cases h1 : b = -1
      · subst h1
        go_enter Tryd.func20, Tryd.ntmps20
        go_wp2_with (first
          | (go_at_call 35; refine (lowSix_any _ _).mono ?_; rintro e w' ⟨rfl, rfl⟩)
          | (go_at_call 34; refine (powerOf_any _ (by omega) (by omega) _).mono ?_; rintro e w' ⟨rfl, rfl⟩)
          | (go_at_call 33; refine (Bit_any _ _).mono ?_; rintro e w' ⟨rfl, rfl⟩))
        all_goals (go_ret; refine ⟨?_, rfl⟩; simp [*, dofV, divV, remV])
        all_goals (first | (have := HW.out; simpa using this; done) | (unfold wrap64; rfl))
      · have b0 : (b == 0) = false := by simpa using h0
        have b1 : (b == -1) = false := by simpa using h1
        clear h1
        go_enter Tryd.func20, Tryd.ntmps20
        go_wp2_with (first
          | (go_at_call 35; refine (lowSix_any _ _).mono ?_; rintro e w' ⟨rfl, rfl⟩)
          | (go_at_call 34; refine (powerOf_any _ (by omega) (by omega) _).mono ?_; rintro e w' ⟨rfl, rfl⟩)
          | (go_at_call 33; refine (Bit_any _ _).mono ?_; rintro e w' ⟨rfl, rfl⟩))
        all_goals (go_ret; refine ⟨?_, rfl⟩; simp [*, dofV, divV, remV])
        all_goals (first | (have := HW.out; simpa using this; done) | (unfold wrap64; rfl))
theorem OneOf_any (s : ByteArray) (a v : Int) (hv : oneV s.toList a = some v) (w : World) : Calls Tryd.prog 19 #[.string s, .int .i64 a] w fun e w' => e = .returned (.int .i64 v) ∧ w' = w := by
  have HV := Lib.hid hv
  clear hv
  cases h1 : (s.toList == [45])
  all_goals
    go_enter Tryd.func19, Tryd.ntmps19
    go_wp2_with (go_at_call 33; refine (Bit_any _ _).mono ?_; rintro e w' ⟨rfl, rfl⟩)
    go_ret
    have e := HV.out
    unfold oneV at e
    rw [h1] at e
    simp at e
  · exact ⟨by rw [← e.2]; rfl, rfl⟩
  · exact ⟨by rw [← e]; simp, rfl⟩
theorem doV_ops (l : List UInt8) (a b : Int) : (doV l a b).isSome = opsB.any (fun x => x == l) := by
  by_cases hm : l ∈ opsB
  · have h1 : opsB.any (fun x => x == l) = true := List.any_eq_true.2 ⟨l, hm, by simp⟩
    rw [h1]
    simp only [opsB, List.mem_cons, List.not_mem_nil, or_false] at hm
    rcases hm with rfl | rfl | rfl | rfl | rfl | rfl | rfl | rfl | rfl | rfl | rfl | rfl | rfl | rfl <;> rfl
  · have h1 : opsB.any (fun x => x == l) = false := by
      rw [List.any_eq_false]
      intro x hx e
      exact hm (by have := eq_of_beq e; exact this ▸ hx)
    rw [h1]
    simp only [opsB, List.mem_cons, List.not_mem_nil, or_false, not_or] at hm
    simp [doV, orderV, hm]
theorem doV_dofV (l : List UInt8) (a b v : Int) (h : doV l a b = some v) : dofV l a b = v := by
  have hs : opsB.any (fun x => x == l) = true := by rw [← doV_ops l a b, h]; rfl
  obtain ⟨x, hm, e⟩ := List.any_eq_true.1 hs
  obtain rfl := eq_of_beq e
  simp only [opsB, List.mem_cons, List.not_mem_nil, or_false] at hm
  rcases hm with rfl | rfl | rfl | rfl | rfl | rfl | rfl | rfl | rfl | rfl | rfl | rfl | rfl | rfl <;> exact Option.some.inj h
theorem bitV_I64 (b : Bool) : I64 (bitV b) := by cases b <;> (unfold I64 bitV; decide)
theorem tmod_I64 {a : Int} (ha : I64 a) (b : Int) : I64 (a.tmod b) := by
  have h1 : (a.tmod b).natAbs ≤ a.natAbs := by rw [Int.natAbs_tmod]; exact Nat.mod_le _ _
  unfold I64 at *
  by_cases h : 0 ≤ a
  · omega
  · have h2 : 0 ≤ (-a).tmod b := Int.tmod_nonneg b (by omega)
    rw [Int.neg_tmod] at h2
    omega
theorem divV_I64 (a b : Int) : I64 (divV a b) := by
  unfold divV
  split
  · unfold I64; omega
  · exact wrap64_I64 _
theorem remV_I64 {a : Int} (ha : I64 a) (b : Int) : I64 (remV a b) := by
  unfold remV
  split
  · exact ha
  · exact tmod_I64 ha b
theorem ite_I64 {c : Prop} [Decidable c] {a b : Int} (h1 : I64 a) (h2 : I64 b) : I64 (if c then a else b) := by split <;> assumption
theorem dofV_I64 (l : List UInt8) {a : Int} (ha : I64 a) (b : Int) : I64 (dofV l a b) := by
  unfold dofV
  repeat' (with_reducible refine ite_I64 ?_ ?_)
  all_goals first
    | exact wrap64_I64 _
    | exact divV_I64 _ _
    | exact remV_I64 ha _
    | exact bits_I64 _ _ _
    | exact shr_I64 _ ha _
    | exact bitV_I64 _
theorem oneV_I64 {l : List UInt8} {a v : Int} (h : oneV l a = some v) : I64 v := by
  unfold oneV at h
  split at h
  · injection h with h; subst h; exact wrap64_I64 _
  · split at h
    · injection h with h; subst h; exact bitV_I64 _
    · cases h
end Go.Proofs.YtgoifbkogboppaaDoor

namespace Go.Proofs.YtgoifbkogboppaaDoor
open Go.RowKit

/-! a machine, in plain Lean: what is so at each step -/
structure FrOk (m : PImg) (x : PFr) : Prop where
  r : x.r.length = 8
  slots : x.slots.length = x.f.slots.toNat
  args : x.args.length = 4
  next : x.next.length = 4
  pc : x.pc ≤ m.words.length
  d : x.d < 8
  r6 : ∀ n ∈ x.r, I64 n
  s6 : ∀ n ∈ x.slots, I64 n
  a6 : ∀ n ∈ x.args, I64 n
  n6 : ∀ n ∈ x.next, I64 n
  f : 0 ≤ x.f.params ∧ x.f.params ≤ 4 ∧ 0 ≤ x.f.slots ∧ x.f.slots ≤ 1000
structure MsOk (m : PImg) (T : Nat) (s : PMs) : Prop where
  calls : ∀ x ∈ s.calls, FrOk m x
  deep : s.calls.length ≤ 40
  out : s.out.length ≤ 1000
  ticks : s.ticks ≤ T
  some : s.over = false → s.calls ≠ []
  o6 : ∀ n ∈ s.out, I64 n
/-- What a right word is. -/
structure InsOk (m : PImg) (i : PIns) : Prop where
  op : ∃ k, k < 29 ∧ i.op = nameOf k
  d : 0 ≤ i.d ∧ i.d ≤ 7
  a : 0 ≤ i.a ∧ i.a ≤ 7
  b : 0 ≤ i.b ∧ i.b ≤ 7
  imm : -2147483648 ≤ i.imm ∧ i.imm ≤ 2147483647
  far : farW m.words.length m.funs.length i = false
theorem ins_ok {m : PImg} (hg : GoodI m) {k : Nat} (hk : k < m.words.length) : InsOk m (insP m.words[k]) := by
  have h := hg.words k hk
  unfold wordC at h
  by_cases he : errW m.words[k] = 0
  · rw [if_neg (by simpa using he)] at h
    have hf : farW m.words.length m.funs.length (insP m.words[k]) = false := by
      cases hf : farW m.words.length m.funs.length (insP m.words[k])
      · rfl
      · rw [hf] at h; simp at h
    unfold errW at he
    split at he
    · cases he
    · rename_i h1
      have := errP_zero he
      refine ⟨⟨(m.words[k] / 72057594037927936).toNat - 1, by omega, rfl⟩, this.1, this.2.1, this.2.2.1, this.2.2.2.1, hf⟩
  · rw [if_pos he] at h; exact absurd h he
theorem far_not {nw nf : Nat} {i : PIns} (h : farW nw nf i = false) (h0 : 0 ≤ mostW nw nf i.op) : 0 ≤ i.imm ∧ i.imm < mostW nw nf i.op := by
  unfold farW at h
  simp [h0] at h
  omega
theorem InsOk.jump {m : PImg} {i : PIns} (h : InsOk m i) (ho : i.op = jumpT ∨ i.op = ifT) : 0 ≤ i.imm ∧ i.imm < m.words.length := by
  have e : mostW m.words.length m.funs.length i.op = m.words.length := by unfold mostW; rw [if_pos ho]
  have := far_not h.far (by rw [e]; omega)
  rwa [e] at this
theorem InsOk.call {m : PImg} {i : PIns} (h : InsOk m i) (ho : i.op = callT) : 0 ≤ i.imm ∧ i.imm < m.funs.length := by
  have e : mostW m.words.length m.funs.length i.op = m.funs.length := by rw [ho]; rfl
  have := far_not h.far (by rw [e]; omega)
  rwa [e] at this
theorem InsOk.slot {m : PImg} {i : PIns} (h : InsOk m i) (ho : i.op = loadT ∨ i.op = storeT) : 0 ≤ i.imm ∧ i.imm < 1000 := by
  have e : mostW m.words.length m.funs.length i.op = 1000 := by rcases ho with ho | ho <;> (rw [ho]; rfl)
  have := far_not h.far (by rw [e]; decide)
  rwa [e] at this
theorem InsOk.param {m : PImg} {i : PIns} (h : InsOk m i) (ho : i.op = paramT ∨ i.op = argT) : 0 ≤ i.imm ∧ i.imm < 4 := by
  have e : mostW m.words.length m.funs.length i.op = 4 := by rcases ho with ho | ho <;> (rw [ho]; rfl)
  have := far_not h.far (by rw [e]; decide)
  rwa [e] at this
theorem fn_ok {nw : Nat} {l : List PFn} {f : PFn} (h : fnC nw l f = 0) : (0 ≤ f.params ∧ f.params ≤ 4 ∧ 0 ≤ f.slots ∧ f.slots ≤ 1000) ∧ 0 ≤ f.entry ∧ f.entry < nw ∧ fnameB l f = false := by
  unfold fnC at h
  cases hn : fnameB l f
  · rw [hn] at h
    simp only [Bool.false_eq_true, if_false] at h
    by_cases h1 : f.params < 0 ∨ 4 < f.params
    · rw [if_pos h1] at h; cases h
    · rw [if_neg h1] at h
      by_cases h2 : f.slots < 0 ∨ 1000 < f.slots ∨ f.entry < 0 ∨ (nw : Int) ≤ f.entry
      · rw [if_pos h2] at h; cases h
      · exact ⟨by omega, by omega, by omega, rfl⟩
  · rw [hn] at h; simp at h
theorem set_I64 {l : List Int} {k : Nat} {v : Int} (h : ∀ n ∈ l, I64 n) (hv : I64 v) : ∀ n ∈ l.set k v, I64 n := fun n hn => by
  rcases List.mem_or_eq_of_mem_set hn with q | q
  · exact h n q
  · rw [q]; exact hv
theorem get_I64 {l : List Int} (h : ∀ n ∈ l, I64 n) (k : Nat) : I64 (l.getD k 0) := by
  rw [List.getD_eq_getElem?_getD]
  cases hk : l[k]? with
  | none => exact ⟨by decide, by decide⟩
  | some v => exact h v (List.mem_of_getElem? hk)
theorem rep_I64 (n : Nat) : ∀ x ∈ List.replicate n (0 : Int), I64 x := fun x hx => by
  rw [List.eq_of_mem_replicate hx]; exact ⟨by decide, by decide⟩
theorem valOf_I64 {l : Txt} {a : Int} (ha : I64 a) (b : Int) : I64 (valOf (doV l a b)) := by
  cases h : doV l a b with
  | none => exact ⟨by decide, by decide⟩
  | some v =>
    have := doV_dofV l a b v h
    show I64 v
    rw [← this]
    exact dofV_I64 l ha b
theorem zero4_I64 : ∀ n ∈ zero4, I64 n := fun n hn => by
  have : n = 0 := by unfold zero4 at hn; simpa using hn
  rw [this]; exact ⟨by decide, by decide⟩
theorem zero8_I64 : ∀ n ∈ zero8, I64 n := fun n hn => by
  have : n = 0 := by unfold zero8 at hn; simpa using hn
  rw [this]; exact ⟨by decide, by decide⟩
theorem args4_len (args : List Int) : (args4 args).length = 4 := by unfold args4 zero4; simp
theorem args4_I64 {args : List Int} (h : ∀ n ∈ args, I64 n) : ∀ n ∈ args4 args, I64 n := fun n hn => by
  unfold args4 at hn
  rcases List.mem_append.1 (List.mem_of_mem_take hn) with q | q
  · exact h n q
  · exact zero4_I64 n q
section
variable {m : PImg} {T : Nat} {s : PMs} {x y : PFr} {i : PIns}
theorem over_end (how : Txt) (h : how ≠ []) : (endM how s).over = true := by
  unfold PMs.over endM
  cases how with
  | nil => exact absurd rfl h
  | cons a b => rfl
theorem MsOk.end_ (h : MsOk m T s) {how : Txt} (hh : how ≠ []) : MsOk m T (endM how s) := ⟨h.calls, h.deep, h.out, h.ticks, (fun q => by rw [over_end how hh] at q; cases q), h.o6⟩
theorem MsOk.tick (h : MsOk m T s) : MsOk m T (tickM T s) := by
  unfold tickM
  split
  · exact ⟨h.calls, h.deep, h.out, by simp; omega, h.some, h.o6⟩
  · exact h.end_ (by decide)
theorem MsOk.print (h : MsOk m T s) {n : Int} (hn : I64 n) : MsOk m T (printM n s) := by
  unfold printM
  split
  · exact h.end_ (by decide)
  · exact ⟨h.calls, h.deep, by simp; omega, h.ticks, h.some, fun k hk => by
      rcases List.mem_append.1 hk with q | q
      · exact h.o6 k q
      · have : k = n := by simpa using q
        rw [this]; exact hn⟩
theorem dropLast_mem {α : Type} {l : List α} {x : α} (h : x ∈ l.dropLast) : x ∈ l := List.dropLast_subset l h
theorem MsOk.top (h : MsOk m T s) (hx : FrOk m x) (h0 : s.calls ≠ []) : MsOk m T (topM x s) := by
  refine ⟨fun y hy => ?_, ?_, h.out, h.ticks, fun _ => by unfold topM; simp, h.o6⟩
  · unfold topM at hy
    rcases List.mem_append.1 hy with q | q
    · exact h.calls y (dropLast_mem q)
    · have : y = x := by simpa using q
      rw [this]; exact hx
  · have := h.deep
    have := List.length_pos_iff.2 h0
    unfold topM
    simp
    omega
theorem top_mem (h0 : s.calls ≠ []) : s.top ∈ s.calls := by
  unfold PMs.top
  rw [List.getLastD_eq_getLast?, List.getLast?_eq_some_getLast h0]
  exact List.getLast_mem h0
theorem MsOk.topOk (h : MsOk m T s) (h0 : s.calls ≠ []) : FrOk m s.top := h.calls _ (top_mem h0)
theorem FrOk.put (h : FrOk m x) {n v : Int} (hv : I64 v) : FrOk m (putM x n v) := ⟨by unfold putM; simp [h.r], h.slots, h.args, h.next, h.pc, h.d, set_I64 h.r6 hv, h.s6, h.a6, h.n6, h.f⟩
theorem FrOk.reg (h : FrOk m x) (n : Int) : I64 (regM x n) := get_I64 h.r6 _
theorem new_ok {f : PFn} {d : Nat} {args : List Int} (hf : 0 ≤ f.params ∧ f.params ≤ 4 ∧ 0 ≤ f.slots ∧ f.slots ≤ 1000) (he : 0 ≤ f.entry ∧ f.entry < m.words.length) (hd : d < 8) (ha : args.length = 4) (ha6 : ∀ n ∈ args, I64 n) : FrOk m (newFr f d args) :=
  ⟨rfl, by unfold newFr; simp, ha, rfl, by unfold newFr; simp; omega, hd, zero8_I64, rep_I64 _, ha6, zero4_I64, hf⟩
theorem MsOk.enter (hg : GoodI m) (h : MsOk m T s) {k d : Nat} {args : List Int} (hk : k < m.funs.length) (hd : d < 8) (ha : args.length = 4) (ha6 : ∀ n ∈ args, I64 n) (h0 : (s.over = false → s.calls ≠ []) ∨ True) : MsOk m T (enterM m.funs T k d args s) := by
  have ht := h.tick
  unfold enterM
  split
  · exact ht
  · split
    · exact ht.end_ (by decide)
    · rename_i h1 h2
      have hf : m.funs.getD k fn0 = m.funs[k] := by rw [List.getD_eq_getElem?_getD, List.getElem?_eq_getElem hk]; rfl
      have hok := fn_ok (hg.funs k hk)
      have hl : (tickM T s).calls = s.calls := by unfold tickM endM; split <;> rfl
      rw [hf]
      refine ⟨fun y hy => ?_, ?_, ht.out, ht.ticks, fun _ => by unfold pushM; simp, ht.o6⟩
      · unfold pushM at hy
        rcases List.mem_append.1 hy with q | q
        · exact ht.calls y q
        · have : y = newFr m.funs[k] d args := by simpa using q
          rw [this]; exact new_ok hok.1 ⟨hok.2.1, hok.2.2.1⟩ hd ha ha6
      · unfold pushM; simp [hl]; omega
theorem MsOk.back (h : MsOk m T s) (h0 : s.calls ≠ []) {v : Int} (hv : I64 v) : MsOk m T (backM v s) := by
  unfold backM
  split
  · exact ⟨fun x hx => (by cases hx), by simp, h.out, h.ticks, fun q => (by simp [PMs.over, doneT] at q), h.o6⟩
  · rename_i h1
    have hm : s.calls.dropLast.getLastD s.top ∈ s.calls := by
      rw [List.getLastD_eq_getLast?, List.getLast?_eq_some_getLast h1]
      exact dropLast_mem (List.getLast_mem h1)
    have hx := h.calls _ hm
    refine ⟨fun y hy => ?_, ?_, h.out, h.ticks, fun _ => by simp, h.o6⟩
    · rcases List.mem_append.1 hy with q | q
      · exact h.calls y (dropLast_mem (dropLast_mem q))
      · rw [List.mem_singleton.1 q]
        exact ⟨by rw [List.length_set]; exact hx.r, hx.slots, hx.args, hx.next, hx.pc, hx.d, set_I64 hx.r6 hv, hx.s6, hx.a6, hx.n6, hx.f⟩
    · have := h.deep
      simp
      omega
theorem sum_I64 (h : FrOk m x) : I64 (sumP i x) := by
  unfold sumP
  split
  · exact wrap64_I64 _
  · split
    · exact bitV_I64 _
    · exact valOf_I64 (h.reg _) _
theorem MsOk.flow (hg : GoodI m) (h : MsOk m T s) (hx : FrOk m x) (hi : InsOk m i) (h0 : s.calls ≠ []) (hc : flowB i.op = true) : MsOk m T (flowP m.funs T i x s) := by
  unfold flowP
  split
  · exact h.tick
  · split
    · exact h.print (hx.reg _)
    · split
      · rename_i ho
        have := hi.jump (.inl ho)
        exact h.top ⟨hx.r, hx.slots, hx.args, hx.next, by simp; omega, hx.d, hx.r6, hx.s6, hx.a6, hx.n6, hx.f⟩ h0
      · split
        · rename_i ho
          have := hi.jump (.inr ho)
          split
          · exact h
          · exact h.top ⟨hx.r, hx.slots, hx.args, hx.next, by simp; omega, hx.d, hx.r6, hx.s6, hx.a6, hx.n6, hx.f⟩ h0
        · split
          · exact h.back h0 (hx.reg _)
          · have hz : FrOk m { x with next := zero4 } := ⟨hx.r, hx.slots, hx.args, rfl, hx.pc, hx.d, hx.r6, hx.s6, hx.a6, zero4_I64, hx.f⟩
            split
            · rename_i h1 h2 h3 h4 h5 h6
              have ho : i.op = callT := by
                unfold flowB at hc
                simpa [h1, h2, h3, h4, h5] using hc
              have := hi.call ho
              exact (h.top hz h0).enter hg (by omega) (by have := hi.d; omega) hx.next hx.n6 (.inr trivial)
            · exact (h.top hz h0).end_ (by decide)
theorem MsOk.move (h : MsOk m T s) (hx : FrOk m x) (hi : InsOk m i) (h0 : s.calls ≠ []) : MsOk m T (moveP i x s) := by
  have him : I64 i.imm := by have := hi.imm; unfold I64; omega
  unfold moveP
  split
  · exact h.end_ (by decide)
  · split
    · exact h.top (hx.put him) h0
    · split
      · exact h.top (hx.put (wrap64_I64 _)) h0
      · split
        · exact h.top (hx.put (hx.reg _)) h0
        · split
          · exact h.top (hx.put (get_I64 hx.s6 _)) h0
          · split
            · exact h.top ⟨hx.r, by simp [hx.slots], hx.args, hx.next, hx.pc, hx.d, hx.r6, set_I64 hx.s6 (hx.reg _), hx.a6, hx.n6, hx.f⟩ h0
            · split
              · exact h.top (hx.put (get_I64 hx.a6 _)) h0
              · exact h.top ⟨hx.r, hx.slots, hx.args, by simp [hx.next], hx.pc, hx.d, hx.r6, hx.s6, hx.a6, set_I64 hx.n6 (hx.reg _), hx.f⟩ h0
theorem MsOk.stepI (hg : GoodI m) (h : MsOk m T s) (hx : FrOk m x) (hi : InsOk m i) (h0 : s.calls ≠ []) : MsOk m T (stepI m.funs T i x s) := by
  unfold Go.Proofs.YtgoifbkogboppaaDoor.stepI
  cases hf : flowB i.op
  · simp only [Bool.false_eq_true, if_false]
    split
    · exact h.move hx hi h0
    · exact h.top (hx.put (sum_I64 hx)) h0
  · simp only [if_true]
    exact h.flow hg hx hi h0 hf
theorem MsOk.step (hg : GoodI m) (h : MsOk m T s) (ho : s.over = false) : MsOk m T (stepM m T s) := by
  have h0 := h.some ho
  have ht := h.topOk h0
  unfold stepM
  split
  · exact h.end_ (by decide)
  · rename_i hp
    have hp' : s.top.pc < m.words.length := by omega
    have hw : m.words.getD s.top.pc 0 = m.words[s.top.pc] := by rw [List.getD_eq_getElem?_getD, List.getElem?_eq_getElem hp']; rfl
    rw [hw]
    have hx : FrOk m { s.top with pc := s.top.pc + 1 } := ⟨ht.r, ht.slots, ht.args, ht.next, by simp; omega, ht.d, ht.r6, ht.s6, ht.a6, ht.n6, ht.f⟩
    exact (h.top hx h0).stepI hg hx (ins_ok hg hp') (by unfold topM; simp)
theorem start_ok (hg : GoodI m) {k : Nat} (hk : k < m.funs.length) {args : List Int} (h6 : ∀ n ∈ args, I64 n) : MsOk m T (startM m T k args) := by
  have ht0 : (tickM T Ms0).calls = [] := by unfold tickM endM Ms0; split <;> rfl
  have hok := fn_ok (hg.funs k hk)
  have hf : m.funs.getD k fn0 = m.funs[k] := by rw [List.getD_eq_getElem?_getD, List.getElem?_eq_getElem hk]; rfl
  have hout : (tickM T Ms0).out = [] := by unfold tickM endM Ms0; split <;> rfl
  have htk : (tickM T Ms0).ticks ≤ T := by unfold tickM endM Ms0; split <;> (simp; try omega)
  unfold startM enterM
  split
  · rename_i h1
    exact ⟨(fun x hx => by rw [ht0] at hx; cases hx), (by rw [ht0]; simp), (by rw [hout]; simp), htk, (fun q => by rw [h1] at q; cases q), (fun n hn => by rw [hout] at hn; cases hn)⟩
  · split
    · rename_i h2; simp [Ms0] at h2
    · rw [hf]
      refine ⟨fun y hy => ?_, by unfold pushM; rw [ht0]; simp, by show (tickM T Ms0).out.length ≤ 1000; rw [hout]; simp, htk, (fun _ => by unfold pushM; simp), fun n hn => by
        have : n ∈ (tickM T Ms0).out := hn
        rw [hout] at this; cases this⟩
      unfold pushM at hy
      rw [ht0] at hy
      have : y = newFr m.funs[k] 0 (args4 args) := by simpa using hy
      rw [this]
      exact new_ok hok.1 ⟨hok.2.1, hok.2.2.1⟩ (by decide) (args4_len args) (args4_I64 h6)
end
end Go.Proofs.YtgoifbkogboppaaDoor

namespace Go.Proofs.YtgoifbkogboppaaDoor
open Go.RowKit

/-- The call returns v; what was there is as it was. -/
def Ret (v : Value) (w : World) : Ending → World → Prop := fun e w' => e = .returned v ∧ Below w.heap.size w w'
theorem mkB_len (l : List UInt8) : (mkB l).size = l.length := rfl
end Go.Proofs.YtgoifbkogboppaaDoor
