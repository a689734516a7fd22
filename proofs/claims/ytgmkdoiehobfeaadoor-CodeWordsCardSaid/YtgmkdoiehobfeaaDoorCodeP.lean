import Derived.Test.YtgmkdoiehobfeaaDoorBase
namespace Go.Proofs.YtgmkdoiehobfeaaDoor
open Go.RowKit

/-! instructions and words of a machine, in plain Lean -/
/-- The table: an op's name, and what it has. -/
def opsT : List (List UInt8 × List UInt8) := [
  ([99, 111, 110, 115, 116], [100, 105]), ([104, 105, 103, 104], [100, 105]), ([109, 111, 118, 101], [100, 97]), ([108, 111, 97, 100], [100, 105]), ([115, 116, 111, 114, 101], [97, 105]),
  ([112, 97, 114, 97, 109], [100, 105]), ([97, 114, 103], [97, 105]), ([99, 97, 108, 108], [100, 98, 105]), ([116, 105, 99, 107], []), ([112, 114, 105, 110, 116], [97]),
  ([106, 117, 109, 112], [105]), ([105, 102], [97, 105]), ([114, 101, 116, 117, 114, 110], [97]), ([110, 101, 103], [100, 97]), ([110, 111, 116], [100, 97]),
  ([97, 100, 100], [100, 97, 98]), ([115, 117, 98], [100, 97, 98]), ([109, 117, 108], [100, 97, 98]), ([100, 105, 118], [100, 97, 98]), ([114, 101, 109], [100, 97, 98]),
  ([97, 110, 100], [100, 97, 98]), ([111, 114], [100, 97, 98]), ([120, 111, 114], [100, 97, 98]), ([115, 104, 108], [100, 97, 98]), ([115, 104, 114], [100, 97, 98]),
  ([108, 101, 115, 115], [100, 97, 98]), ([109, 111, 115, 116], [100, 97, 98]), ([115, 97, 109, 101], [100, 97, 98]), ([111, 116, 104, 101, 114], [100, 97, 98])]
def nameOf (n : Nat) : List UInt8 := (opsT.getD n ([], [])).1
def hasOf (n : Nat) : List UInt8 := (opsT.getD n ([], [])).2
/-- The place of an op in the table, and one; 0: it is none. -/
def findL (op : List UInt8) : Nat := match opsT.findIdx? (fun r => r.1 == op) with | some k => k + 1 | none => 0
structure PIns where
  op : List UInt8
  d : Int
  a : Int
  b : Int
  imm : Int
  deriving DecidableEq
def callN : List UInt8 := [99, 97, 108, 108]
def regP (n : Int) : Bool := decide (0 ≤ n) && decide (n < 8)
def mostB (op : List UInt8) : Int := if op == callN then 4 else 7
/-- The number of what is wrong with an instruction (0: nothing). -/
def errP (h : List UInt8) (i : PIns) : Nat :=
  if (h.contains 100 && !regP i.d) || (h.contains 97 && !regP i.a) || (h.contains 98 && (decide (i.b < 0) || decide (mostB i.op < i.b))) || (h.contains 105 && (decide (i.imm < -2147483648) || decide (2147483647 < i.imm))) then 2
  else if (!h.contains 100 && i.d != 0) || (!h.contains 97 && i.a != 0) || (!h.contains 98 && i.b != 0) || (!h.contains 105 && i.imm != 0) then 3 else 0
def errI (i : PIns) : Nat := if findL i.op = 0 then 4 else errP (hasOf (findL i.op - 1)) i
def lowP (n : Int) : Int := if n < 0 then n + 4294967296 else n
def wordP (i : PIns) : Int := ((findL i.op : Int) * 16777216 + i.d * 65536 + i.a * 256 + i.b) * 4294967296 + lowP i.imm
/-- What a word is, if its number is one. -/
def insP (w : Int) : PIns :=
  let k := (w / 72057594037927936).toNat
  ⟨nameOf (k - 1), w / 281474976710656 % 256, w / 1099511627776 % 256, w / 4294967296 % 256, if w % 4294967296 ≥ 2147483648 then w % 4294967296 - 4294967296 else w % 4294967296⟩
def errW (w : Int) : Nat := if w / 72057594037927936 < 1 ∨ 29 < w / 72057594037927936 then 4 else errP (hasOf ((w / 72057594037927936).toNat - 1)) (insP w)
theorem findL_spec (op : List UInt8) (h : findL op ≠ 0) : findL op ≤ 29 ∧ nameOf (findL op - 1) = op := by
  unfold findL at h ⊢
  cases hf : opsT.findIdx? (fun r => r.1 == op) with
  | none => rw [hf] at h; exact absurd rfl h
  | some k =>
    rw [List.findIdx?_eq_some_iff_getElem] at hf
    obtain ⟨hk, he, _⟩ := hf
    have hk' : k < 29 := hk
    refine ⟨by simp only; omega, ?_⟩
    simp only [Nat.add_sub_cancel]
    unfold nameOf
    rw [List.getD_eq_getElem?_getD, List.getElem?_eq_getElem hk]
    simpa using he
theorem findL_name (n : Nat) (h : n < 29) : findL (nameOf n) = n + 1 := by
  revert n
  decide
theorem errP_zero {h : List UInt8} {i : PIns} (e : errP h i = 0) : (0 ≤ i.d ∧ i.d ≤ 7) ∧ (0 ≤ i.a ∧ i.a ≤ 7) ∧ (0 ≤ i.b ∧ i.b ≤ 7) ∧ (-2147483648 ≤ i.imm ∧ i.imm ≤ 2147483647) ∧
    (h.contains 100 = false → i.d = 0) ∧ (h.contains 97 = false → i.a = 0) ∧ (h.contains 98 = false → i.b = 0) ∧ (h.contains 105 = false → i.imm = 0) := by
  unfold errP at e
  split at e
  · cases e
  · split at e
    · cases e
    · rename_i h1 h2
      simp only [Bool.or_eq_true, Bool.and_eq_true, not_or, not_and, Bool.not_eq_eq_eq_not, Bool.not_true, bne_iff_ne, ne_eq, Decidable.not_not, decide_eq_true_eq] at h1 h2
      obtain ⟨⟨⟨a1, a2⟩, a3⟩, a4⟩ := h1
      obtain ⟨⟨⟨b1, b2⟩, b3⟩, b4⟩ := h2
      have hm : mostB i.op ≤ 7 := by unfold mostB; split <;> omega
      refine ⟨?_, ?_, ?_, ?_, b1, b2, b3, b4⟩
      · cases hc : h.contains 100
        · have := b1 hc; omega
        · have := a1 hc; simp [regP] at this; omega
      · cases hc : h.contains 97
        · have := b2 hc; omega
        · have := a2 hc; simp [regP] at this; omega
      · cases hc : h.contains 98
        · have := b3 hc; omega
        · have := a3 hc; omega
      · cases hc : h.contains 105
        · have := b4 hc; omega
        · have := a4 hc; omega
/-- An instruction that has a word is its instruction. -/
theorem ins_word (i : PIns) (h : errI i = 0) : insP (wordP i) = i ∧ errW (wordP i) = 0 ∧ 0 ≤ wordP i ∧ wordP i < 18446744073709551616 := by
  unfold errI at h
  split at h
  · cases h
  · rename_i hf
    obtain ⟨f1, f2⟩ := findL_spec i.op hf
    obtain ⟨⟨d1, d2⟩, ⟨a1, a2⟩, ⟨b1, b2⟩, ⟨m1, m2⟩, _⟩ := errP_zero h
    have hl : 0 ≤ lowP i.imm ∧ lowP i.imm < 4294967296 ∧ (i.imm < 0 → lowP i.imm = i.imm + 4294967296) ∧ (0 ≤ i.imm → lowP i.imm = i.imm) := by
      unfold lowP; split <;> refine ⟨?_, ?_, ?_, ?_⟩ <;> omega
    have hw : wordP i = ((findL i.op : Int) * 16777216 + i.d * 65536 + i.a * 256 + i.b) * 4294967296 + lowP i.imm := rfl
    have hk : wordP i / 72057594037927936 = findL i.op := by omega
    have e : insP (wordP i) = i := by
      unfold insP
      rw [hk]
      cases i with
      | mk op d a b imm =>
        simp only [PIns.mk.injEq] at *
        refine ⟨?_, by omega, by omega, by omega, ?_⟩
        · rw [show ((findL op : Int).toNat) = findL op by omega]; exact f2
        · split <;> omega
    refine ⟨e, ?_, by omega, by omega⟩
    unfold errW
    rw [if_neg (by omega), hk, e, show ((findL i.op : Int).toNat) = findL i.op by omega]
    exact h
/-- A word that is an instruction is that instruction's word. -/
theorem word_ins (w : Int) (h : errW w = 0) : errI (insP w) = 0 ∧ wordP (insP w) = w := by
  unfold errW at h
  split at h
  · cases h
  · rename_i hk
    obtain ⟨k, hk2⟩ : ∃ k : Nat, w / 72057594037927936 = k + 1 := ⟨(w / 72057594037927936).toNat - 1, by omega⟩
    have hkn : ((k + 1 : Nat) : Int).toNat - 1 = k := by omega
    have hop : (insP w).op = nameOf k := by
      show nameOf ((w / 72057594037927936).toNat - 1) = _
      rw [hk2, show ((k : Int) + 1).toNat - 1 = k by omega]
    have hf : findL (insP w).op = k + 1 := by rw [hop]; exact findL_name k (by omega)
    refine ⟨?_, ?_⟩
    · unfold errI
      rw [if_neg (by omega), hf]
      rw [hk2, show ((k : Int) + 1).toNat - 1 = k by omega] at h
      exact h
    · obtain ⟨⟨d1, d2⟩, ⟨a1, a2⟩, ⟨b1, b2⟩, ⟨m1, m2⟩, _⟩ := errP_zero h
      unfold wordP
      rw [hf]
      have e1 : (insP w).d = w / 281474976710656 % 256 := rfl
      have e2 : (insP w).a = w / 1099511627776 % 256 := rfl
      have e3 : (insP w).b = w / 4294967296 % 256 := rfl
      have e4 : lowP (insP w).imm = w % 4294967296 := by
        show lowP (if w % 4294967296 ≥ 2147483648 then w % 4294967296 - 4294967296 else w % 4294967296) = _
        unfold lowP; split <;> split <;> omega
      rw [e1, e2, e3, e4]
      omega
end Go.Proofs.YtgmkdoiehobfeaaDoor
