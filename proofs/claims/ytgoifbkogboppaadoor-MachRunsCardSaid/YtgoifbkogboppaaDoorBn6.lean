import Derived.Lib.ItoaNum
import Derived.Lib.Strings
import Derived.Test.YtgoifbkogboppaaDoorBn5
import Derived.Test.YtgoifbkogboppaaDoorBn3
set_option linter.unusedVariables false
set_option linter.unusedSimpArgs false
namespace Go.Proofs.YtgoifbkogboppaaDoor
open Go.RowKit

theorem bytes_same {a b : ByteArray} (h : a.toList = b.toList) : a = b := by
  rw [Lib.toList_data, Lib.toList_data] at h
  cases a; cases b
  simp only at h
  rw [Array.toList_inj.1 h]
theorem mkB_app (a b : List UInt8) : mkB a ++ mkB b = mkB (a ++ b) := by
  apply bytes_same
  rw [mkB_toList, Lib.toList_data, ByteArray.data_append, Array.toList_append]
  rfl
theorem mkB_one (a : List UInt8) (c : UInt8) : mkB a ++ ⟨#[c]⟩ = mkB (a ++ [c]) := mkB_app a [c]
theorem dd_small {u : Nat} (h : u < 10) : Lib.decDigits u = [UInt8.ofNat (48 + u)] := by rw [Lib.decDigits, dif_pos h]
theorem dd_big {u : Nat} (h : ¬ u < 10) : Lib.decDigits u = Lib.decDigits (u / 10) ++ [UInt8.ofNat (48 + u % 10)] := by rw [Lib.decDigits, dif_neg h]
theorem nDigits_le : ∀ (k u : Nat), u < 10 ^ (k + 1) → Lib.nDigits u ≤ k + 1 := by
  intro k
  induction k with
  | zero => intro u h; rw [Lib.nDigits_small (by simpa using h)]; omega
  | succ k ih =>
    intro u h
    by_cases hs : u < 10
    · rw [Lib.nDigits_small hs]; omega
    · rw [Lib.nDigits_big hs]
      have := ih (u / 10) (by rw [Nat.pow_succ] at h; omega)
      omega
theorem itoa_len (n : Int) (h0 : -9223372036854775808 ≤ n) (h1 : n ≤ 9223372036854775807) : (Lib.itoa n).length ≤ 21 := by
  unfold Lib.itoa
  split
  · have := nDigits_le 19 n.natAbs (by have : n.natAbs ≤ 9223372036854775808 := by omega
                                       exact Nat.lt_of_le_of_lt this (by decide))
    rw [List.length_cons, Lib.decDigits_length]; omega
  · have := nDigits_le 19 n.toNat (by have : n.toNat ≤ 9223372036854775808 := by omega
                                      exact Nat.lt_of_le_of_lt this (by decide))
    rw [Lib.decDigits_length]; omega
end Go.Proofs.YtgoifbkogboppaaDoor

namespace Go.Proofs.YtgoifbkogboppaaDoor
open Go.RowKit

/-! an instruction's text, in plain Lean: two instructions have one text only if they are one -/
theorem dec_byte : ∀ n : Nat, n < 10 → UInt8.ofNat (48 + n) ≠ 32 ∧ UInt8.ofNat (48 + n) ≠ 45 ∧ UInt8.ofNat (48 + n) ≠ 114 ∧ (UInt8.ofNat (48 + n)).toNat = 48 + n := by decide
theorem decDigits_any : ∀ (u : Nat), ∀ c ∈ Lib.decDigits u, c ≠ 32 ∧ c ≠ 45 ∧ c ≠ 114 := by
  intro u
  induction u using Nat.strongRecOn with
  | _ u ih =>
    intro c hc
    rw [Lib.decDigits] at hc
    split at hc
    · rename_i h
      simp only [List.mem_singleton] at hc
      have := dec_byte u h
      rw [hc]; exact ⟨this.1, this.2.1, this.2.2.1⟩
    · rename_i h
      rw [List.mem_append, List.mem_singleton] at hc
      rcases hc with hc | hc
      · exact ih (u / 10) (by omega) c hc
      · have := dec_byte (u % 10) (by omega)
        rw [hc]; exact ⟨this.1, this.2.1, this.2.2.1⟩
theorem decDigits_ne (u : Nat) : Lib.decDigits u ≠ [] := by
  rw [Lib.decDigits]; split <;> simp
theorem decDigits_inj : ∀ (u v : Nat), Lib.decDigits u = Lib.decDigits v → u = v := by
  intro u
  induction u using Nat.strongRecOn with
  | _ u ih =>
    intro v h
    by_cases h1 : u < 10 <;> by_cases h2 : v < 10
    · rw [dd_small h1, dd_small h2] at h
      have h3 := (dec_byte u h1).2.2.2
      have h4 := (dec_byte v h2).2.2.2
      rw [(List.cons.inj h).1] at h3
      omega
    · rw [dd_small h1, dd_big h2] at h
      have := congrArg List.length h
      have hv := decDigits_ne (v / 10)
      rw [← List.length_pos_iff] at hv
      simp only [List.length_append, List.length_singleton] at this; omega
    · rw [dd_big h1, dd_small h2] at h
      have := congrArg List.length h
      have hv := decDigits_ne (u / 10)
      rw [← List.length_pos_iff] at hv
      simp only [List.length_append, List.length_singleton] at this; omega
    · rw [dd_big h1, dd_big h2] at h
      obtain ⟨ha, hb⟩ := List.append_inj' h rfl
      have h5 := ih (u / 10) (by omega) _ ha
      have h3 := (dec_byte (u % 10) (by omega)).2.2.2
      have h4 := (dec_byte (v % 10) (by omega)).2.2.2
      rw [(List.cons.inj hb).1] at h3
      omega
theorem itoa_any (n : Int) : ∀ c ∈ Lib.itoa n, c ≠ 32 := by
  intro c hc
  unfold Lib.itoa at hc
  split at hc
  · rcases List.mem_cons.1 hc with rfl | h
    · decide
    · exact (decDigits_any _ c h).1
  · exact (decDigits_any _ c hc).1
theorem itoa_inj (m n : Int) (h : Lib.itoa m = Lib.itoa n) : m = n := by
  unfold Lib.itoa at h
  split at h <;> split at h
  · have := decDigits_inj _ _ (List.cons.inj h).2; omega
  · exfalso
    have : (45 : UInt8) ∈ Lib.decDigits n.toNat := by rw [← h]; simp
    exact (decDigits_any _ _ this).2.1 rfl
  · exfalso
    have : (45 : UInt8) ∈ Lib.decDigits m.toNat := by rw [h]; simp
    exact (decDigits_any _ _ this).2.1 rfl
  · have := decDigits_inj _ _ h; omega
/-- Words with blanks ahead. -/
def chunkP (b : Bool) (t : List UInt8) : List UInt8 := if b then 32 :: t else []
def textP (h : List UInt8) (i : PIns) : List UInt8 :=
  i.op ++ chunkP (h.contains 100) (114 :: Lib.itoa i.d) ++ chunkP (h.contains 97) (114 :: Lib.itoa i.a) ++ chunkP (h.contains 98) ((if i.op == callN then [] else [114]) ++ Lib.itoa i.b) ++ chunkP (h.contains 105) (Lib.itoa i.imm)
def textI (i : PIns) : List UInt8 := if errI i = 0 then textP (hasOf (findL i.op - 1)) i else []
def heads (r : List UInt8) : Prop := r = [] ∨ ∃ r', r = 32 :: r'
theorem heads_chunk (b : Bool) (t r : List UInt8) (h : heads r) : heads (chunkP b t ++ r) := by
  unfold chunkP
  cases b
  · exact h
  · exact .inr ⟨_, rfl⟩
theorem split_head : ∀ (u v r s : List UInt8), (∀ c ∈ u, c ≠ 32) → (∀ c ∈ v, c ≠ 32) → heads r → heads s → u ++ r = v ++ s → u = v ∧ r = s := by
  intro u
  induction u with
  | nil =>
    intro v r s _ hv hr hs h
    cases v with
    | nil => exact ⟨rfl, h⟩
    | cons c v =>
      rcases hr with rfl | ⟨r', rfl⟩
      · simp at h
      · simp at h
        exact absurd h.1.symm (hv c (by simp))
  | cons a u ih =>
    intro v r s hu hv hr hs h
    cases v with
    | nil =>
      rcases hs with rfl | ⟨s', rfl⟩
      · simp at h
      · simp at h
        exact absurd h.1 (hu a (by simp))
    | cons c v =>
      simp only [List.cons_append, List.cons.injEq] at h
      obtain ⟨h1, h2⟩ := ih v r s (fun x hx => hu x (by simp [hx])) (fun x hx => hv x (by simp [hx])) hr hs h.2
      exact ⟨by rw [h.1, h1], h2⟩
theorem chunk_head (b : Bool) (t u r s : List UInt8) (ht : ∀ c ∈ t, c ≠ 32) (hu : ∀ c ∈ u, c ≠ 32) (hr : heads r) (hs : heads s) (h : chunkP b t ++ r = chunkP b u ++ s) : (b = true → t = u) ∧ r = s := by
  unfold chunkP at h
  cases b
  · exact ⟨fun h => (by cases h), h⟩
  · simp only [if_true, List.cons_append, List.cons.injEq, true_and] at h
    have := split_head t u r s ht hu hr hs h
    exact ⟨fun _ => this.1, this.2⟩
theorem name_any : ∀ n, n < 29 → ∀ c ∈ nameOf n, c ≠ 32 := by decide
theorem textI_inj (x y : PIns) (hx : errI x = 0) (hy : errI y = 0) (h : textI x = textI y) : x = y := by
  unfold textI at h
  rw [if_pos hx, if_pos hy] at h
  unfold errI at hx hy
  split at hx
  · cases hx
  split at hy
  · cases hy
  rename_i fx fy
  obtain ⟨gx1, gx2⟩ := findL_spec x.op fx
  obtain ⟨gy1, gy2⟩ := findL_spec y.op fy
  have ex := errP_zero hx
  have ey := errP_zero hy
  have nx : ∀ c ∈ x.op, c ≠ 32 := by rw [← gx2]; exact name_any _ (by omega)
  have ny : ∀ c ∈ y.op, c ≠ 32 := by rw [← gy2]; exact name_any _ (by omega)
  unfold textP at h
  simp only [List.append_assoc] at h
  have hn : heads ([] : List UInt8) := .inl rfl
  have i1 : ∀ (n : Int), ∀ c ∈ (114 : UInt8) :: Lib.itoa n, c ≠ 32 := fun n c hc => by
    rcases List.mem_cons.1 hc with rfl | h
    · decide
    · exact itoa_any n c h
  have i2 : ∀ (b : Bool) (n : Int), ∀ c ∈ (if b then [] else [114]) ++ Lib.itoa n, c ≠ (32 : UInt8) := fun b n c hc => by
    cases b
    · exact i1 n c hc
    · exact itoa_any n c hc
  have hh : ∀ (b1 b2 b3 b4 : Bool) (t1 t2 t3 t4 : List UInt8), heads (chunkP b1 t1 ++ (chunkP b2 t2 ++ (chunkP b3 t3 ++ chunkP b4 t4))) := fun b1 b2 b3 b4 t1 t2 t3 t4 =>
    heads_chunk _ _ _ (heads_chunk _ _ _ (heads_chunk _ _ _ (by simpa using heads_chunk b4 t4 [] hn)))
  obtain ⟨ho, h1⟩ := split_head _ _ _ _ nx ny (hh _ _ _ _ _ _ _ _) (hh _ _ _ _ _ _ _ _) h
  rw [ho] at h1 ex
  have hh3 : ∀ (b2 b3 b4 : Bool) (t2 t3 t4 : List UInt8), heads (chunkP b2 t2 ++ (chunkP b3 t3 ++ chunkP b4 t4)) := fun b2 b3 b4 t2 t3 t4 =>
    heads_chunk _ _ _ (heads_chunk _ _ _ (by simpa using heads_chunk b4 t4 [] hn))
  have hh2 : ∀ (b3 b4 : Bool) (t3 t4 : List UInt8), heads (chunkP b3 t3 ++ chunkP b4 t4) := fun b3 b4 t3 t4 =>
    heads_chunk _ _ _ (by simpa using heads_chunk b4 t4 [] hn)
  obtain ⟨d1, h2⟩ := chunk_head _ _ _ _ _ (i1 _) (i1 _) (hh3 _ _ _ _ _ _) (hh3 _ _ _ _ _ _) h1
  obtain ⟨a1, h3⟩ := chunk_head _ _ _ _ _ (i1 _) (i1 _) (hh2 _ _ _ _) (hh2 _ _ _ _) h2
  obtain ⟨b1, h4⟩ := chunk_head _ _ _ _ _ (i2 _ _) (i2 _ _) (by simpa using heads_chunk _ _ [] hn) (by simpa using heads_chunk _ _ [] hn) h3
  rw [← List.append_nil (chunkP _ (Lib.itoa x.imm)), ← List.append_nil (chunkP _ (Lib.itoa y.imm))] at h4
  obtain ⟨m1, _⟩ := chunk_head _ _ _ [] [] (itoa_any _) (itoa_any _) hn hn h4
  have ed : x.d = y.d := by
    cases hc : (hasOf (findL y.op - 1)).contains 100
    · rw [ex.2.2.2.2.1 hc, ey.2.2.2.2.1 hc]
    · exact itoa_inj _ _ (List.cons.inj (d1 hc)).2
  have ea : x.a = y.a := by
    cases hc : (hasOf (findL y.op - 1)).contains 97
    · rw [ex.2.2.2.2.2.1 hc, ey.2.2.2.2.2.1 hc]
    · exact itoa_inj _ _ (List.cons.inj (a1 hc)).2
  have eb : x.b = y.b := by
    cases hc : (hasOf (findL y.op - 1)).contains 98
    · rw [ex.2.2.2.2.2.2.1 hc, ey.2.2.2.2.2.2.1 hc]
    · exact itoa_inj _ _ (List.append_cancel_left (b1 hc))
  have em : x.imm = y.imm := by
    cases hc : (hasOf (findL y.op - 1)).contains 105
    · rw [ex.2.2.2.2.2.2.2 hc, ey.2.2.2.2.2.2.2 hc]
    · exact itoa_inj _ _ (m1 hc)
  cases x; cases y
  simp only at ho ed ea eb em
  rw [ho, ed, ea, eb, em]
end Go.Proofs.YtgoifbkogboppaaDoor
