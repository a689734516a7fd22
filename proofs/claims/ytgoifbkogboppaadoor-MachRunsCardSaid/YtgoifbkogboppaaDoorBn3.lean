import Derived.Test.YtgoifbkogboppaaDoorProg
import Derived.WalkKit
import Derived.WalkLawsBesides
import Derived.WalkSpells
import Derived.Handy
import Derived.Deep.QuietTactic
import Derived.BigQuiet
import Derived.Laws.EntriesVeiled
import Derived.Lib.Hide
import Derived.Laws.BitsAllLaws
set_option linter.unusedVariables false
set_option linter.unusedSimpArgs false
namespace Go.Proofs.YtgoifbkogboppaaDoor
open Go.RowKit

/-- The call returns v; the world is as it was, but for draws. -/
def Quiet (v : Value) (w : World) : Ending → World → Prop := fun e w' => e = .returned v ∧ ∃ n, w' = w.drewN n
theorem Quiet.same {v : Value} {w : World} : Quiet v w (.returned v) w := ⟨rfl, 0, rfl⟩
theorem Quiet.drew {v : Value} {w : World} (n : Nat) : Quiet v w (.returned v) (w.drewN n) := ⟨rfl, n, rfl⟩
theorem Quiet.same_of {v u : Value} {w : World} (h : v = u) : Quiet v w (.returned u) w := h ▸ Quiet.same
theorem Quiet.drew_of {v u : Value} {w : World} (n : Nat) (h : v = u) : Quiet v w (.returned u) (w.drewN n) := h ▸ Quiet.drew n
theorem below_drewN {B : Nat} {a w : World} (h : Below B a w) (n : Nat) : Below B a (w.drewN n) := ⟨h.os, h.tape, h.output, h.size, h.block⟩
theorem quiet_add {P : Program} {f : FuncId} {args : Array Value} {w : World} {a n : Nat} {v : Value} (h : Calls P f args (w.drewN (a + n)) (Quiet v (w.drewN (a + n)))) :
    Calls P f args (w.drewN (a + n)) fun e w'' => e = .returned v ∧ ∃ m, w'' = w.drewN (a + m) :=
  h.mono fun _ _ ⟨he, m, hm⟩ => ⟨he, n + m, by rw [hm, World.drewN_drewN, Nat.add_assoc]⟩
theorem quiet_zero {P : Program} {f : FuncId} {args : Array Value} {w : World} {n : Nat} {v : Value} (h : Calls P f args (w.drewN n) (Quiet v (w.drewN n))) :
    Calls P f args (w.drewN n) fun e w'' => e = .returned v ∧ ∃ m, w'' = w.drewN m :=
  h.mono fun _ _ ⟨he, m, hm⟩ => ⟨he, n + m, by rw [hm, World.drewN_drewN]⟩

theorem grow_refl (w : World) : Below w.heap.size w w := Below.refl _ _
theorem grow_alloc {a w : World} (h : Below a.heap.size a w) (o : Obj) : Below a.heap.size a (w.alloc o) := h.alloc h.size o
theorem grow_drew {a w : World} (h : Below a.heap.size a w) (n : Nat) : Below a.heap.size a (w.drewN n) := below_drewN h n
theorem grow_trans {a w w' : World} (h : Below a.heap.size a w) (k : Below w.heap.size w w') : Below a.heap.size a w' := h.trans (k.mono h.size)

/-- A cell that reads in w reads so in w'. -/
def Keeps (w w' : World) : Prop := ∀ a v, w.cell? a = some v → w'.cell? a = some v
theorem Keeps.refl (w : World) : Keeps w w := fun _ _ h => h
theorem Keeps.trans {a b c : World} (h : Keeps a b) (k : Keeps b c) : Keeps a c := fun x v hx => k x v (h x v hx)
theorem Keeps.of_below {w w' : World} (h : Below w.heap.size w w') : Keeps w w' := fun a v hv => (h.cell (World.block_lt_of_cell? w a hv)).trans hv
theorem Keeps.alloc (w : World) (o : Obj) : Keeps w (w.alloc o) := .of_below ((Below.refl _ _).alloc (Nat.le_refl _) _)
theorem Keeps.drewN (w : World) (n : Nat) : Keeps w (w.drewN n) := fun _ _ h => h

/-- The cells at a slice's address hold these values; nothing is said of the address where there are none. -/
def Row (w : World) (A : Option Addr) (vs : List Value) : Prop := ∀ (j : Nat) (u : Value), vs[j]? = some u → ∃ b off, A = some ⟨b, off, none⟩ ∧ w.cell? ⟨b, off + j, none⟩ = some u
theorem Row.nil (w : World) (A : Option Addr) : Row w A [] := fun j u h => by simp at h
theorem Row.keep {w w' : World} {A : Option Addr} {vs : List Value} (h : Row w A vs) (k : Keeps w w') : Row w' A vs := fun j u hj => by
  obtain ⟨b, off, e, hc⟩ := h j u hj
  exact ⟨b, off, e, k _ _ hc⟩
theorem Row.block {w : World} {b : Nat} {cs : Array Value} {t : TypeId} {fz : Nat × Nat} (h : w.heap[b]? = some (.cells cs t fz)) : Row w (some ⟨b, 0, none⟩) cs.toList := fun j u hj =>
  ⟨b, 0, rfl, by rw [cell_of_row w b (0 + j) cs t fz h]; simpa using hj⟩
theorem Row.new (w : World) (cs : Array Value) (t : TypeId) : Row (w.alloc (.cells cs t)) (some ⟨w.heap.size, 0, none⟩) cs.toList := Row.block (heap_alloc_new w _)
theorem Row.of_eq {w : World} {A : Option Addr} {vs us : List Value} (h : Row w A vs) (e : vs = us) : Row w A us := e ▸ h

/-! strings among strings -/
def sEq (x y : ByteArray) : Bool := x.toList == y.toList
def isIn (s : ByteArray) (xs : List ByteArray) : Bool := xs.any fun x => x.toList == s.toList
/-- The place of the first text that is s, counted from k; -1: none. -/
def idxV (s : ByteArray) : List ByteArray → Nat → Int
  | [], _ => -1
  | x :: xs, k => if (s.toList == x.toList) = true then k else idxV s xs (k + 1)
theorem idxV_drop {s : ByteArray} {xs : List ByteArray} {k : Nat} (h : k < xs.length) : idxV s (xs.drop k) k = if (s.toList == xs[k].toList) = true then (k : Int) else idxV s (xs.drop (k + 1)) (k + 1) := by
  rw [List.drop_eq_getElem_cons h]; rfl
theorem idxV_isIn (s : ByteArray) : ∀ (xs : List ByteArray) (k : Nat), decide (idxV s xs k ≥ 0) = isIn s xs := by
  intro xs
  induction xs with
  | nil => intro k; simp [idxV, isIn]
  | cons x xs ih =>
    intro k
    unfold idxV
    by_cases h : (s.toList == x.toList) = true
    · rw [if_pos h]
      have h' : (x.toList == s.toList) = true := by simp at h ⊢; exact h.symm
      simp [isIn, h']
    · rw [if_neg h, ih]
      have h' : (x.toList == s.toList) = false := by simp at h ⊢; exact fun e => h e.symm
      simp [isIn, h']
theorem idxV_ge (s : ByteArray) : ∀ (xs : List ByteArray) (k : Nat), -1 ≤ idxV s xs k ∧ idxV s xs k ≤ k + xs.length := by
  intro xs
  induction xs with
  | nil => intro k; simp [idxV]
  | cons x xs ih =>
    intro k
    unfold idxV
    have := ih (k + 1)
    simp only [List.length_cons]
    split <;> omega
/-- Are two lists of texts the same? -/
def sameS (xs ys : List ByteArray) : Bool := xs.map (·.toList) == ys.map (·.toList)
def mkB (l : List UInt8) : ByteArray := ⟨l.toArray⟩
theorem mkB_toList (l : List UInt8) : (mkB l).toList = l := ByteArray.toList_mk l
theorem isIn_mkB (s : ByteArray) (B : List (List UInt8)) : isIn s (B.map mkB) = B.any (fun x => x == s.toList) := by
  unfold isIn
  rw [List.any_map]
  congr 1
  funext x
  simp only [Function.comp, mkB_toList]
theorem strs_get {xs : List ByteArray} {k : Nat} (h : k < xs.length) : (xs.map Value.string)[k]? = some (.string xs[k]) := by simp [h]
theorem isIn_drop {s : ByteArray} {xs : List ByteArray} {k : Nat} (h : k < xs.length) : isIn s (xs.drop k) = ((xs[k].toList == s.toList) || isIn s (xs.drop (k + 1))) := by
  unfold isIn; rw [List.drop_eq_getElem_cons h, List.any_cons]
end Go.Proofs.YtgoifbkogboppaaDoor

namespace Go.Proofs.YtgoifbkogboppaaDoor
open Go.RowKit

/-! instructions and words of a machine, in plain Lean -/
/-- The table: an op's name, and what it has. -/
def opsT : List (List UInt8 × List UInt8) := [
  ([99, 111, 110, 115, 116], [100, 105]), ([104, 105, 103, 104], [100, 105]), ([109, 111, 118, 101], [100, 97]), ([108, 111, 97, 100], [100, 105]), ([115, 116, 111, 114, 101], [97, 105]),
  ([112, 97, 114, 97, 109], [100, 105]), ([97, 114, 103], [97, 105]), ([99, 97, 108, 108], [100, 98, 105]), ([116, 105, 99, 107], []), ([112, 114, 105, 110, 116], [97]),
  ([106, 117, 109, 112], [105]), ([105, 102], [97, 105]), ([114, 101, 116, 117, 114, 110], [97]), ([110, 101, 103], [100, 97]), ([110, 111, 116], [100, 97]),
  ([97, 100, 100], [100, 97, 98]), ([115, 117, 98], [100, 97, 98]), ([109, 117, 108], [100, 97, 98]), ([100, 105, 118], [100, 97, 98]), ([114, 101, 109], [100, 97, 98]),
  ([97, 110, 100], [100, 97, 98]), ([111, 114], [100, 97, 98]), ([120, 111, 114], [100, 97, 98]), ([115, 104, 108], [100, 97, 98]), ([115, 104, 114], [100, 97, 98]),
  ([108, 101, 115, 115], [100, 97, 98]), ([109, 111, 115, 116], [100, 97, 98]), ([115, 97, 109, 101], [100, 97, 98]), ([111, 116, 104, 101, 114], [100, 97, 98])]
def nameOf (n : Nat) : List UInt8 := (opsT.getD n ([], [])).1
def hasOf (n : Nat) : List UInt8 := (opsT.getD n ([], [])).2
/-- The place of an op in the table, and one; 0: it is none. -/
def findL (op : List UInt8) : Nat := match opsT.findIdx? (fun r => r.1 == op) with | some k => k + 1 | none => 0
structure PIns where
  op : List UInt8
  d : Int
  a : Int
  b : Int
  imm : Int
  deriving DecidableEq
def callN : List UInt8 := [99, 97, 108, 108]
def regP (n : Int) : Bool := decide (0 ≤ n) && decide (n < 8)
def mostB (op : List UInt8) : Int := if op == callN then 4 else 7
/-- The number of what is wrong with an instruction (0: nothing). -/
def errP (h : List UInt8) (i : PIns) : Nat :=
  if (h.contains 100 && !regP i.d) || (h.contains 97 && !regP i.a) || (h.contains 98 && (decide (i.b < 0) || decide (mostB i.op < i.b))) || (h.contains 105 && (decide (i.imm < -2147483648) || decide (2147483647 < i.imm))) then 2
  else if (!h.contains 100 && i.d != 0) || (!h.contains 97 && i.a != 0) || (!h.contains 98 && i.b != 0) || (!h.contains 105 && i.imm != 0) then 3 else 0
def errI (i : PIns) : Nat := if findL i.op = 0 then 4 else errP (hasOf (findL i.op - 1)) i
def lowP (n : Int) : Int := if n < 0 then n + 4294967296 else n
def wordP (i : PIns) : Int := ((findL i.op : Int) * 16777216 + i.d * 65536 + i.a * 256 + i.b) * 4294967296 + lowP i.imm
/-- What a word is, if its number is one. -/
def insP (w : Int) : PIns :=
  let k := (w / 72057594037927936).toNat
  ⟨nameOf (k - 1), w / 281474976710656 % 256, w / 1099511627776 % 256, w / 4294967296 % 256, if w % 4294967296 ≥ 2147483648 then w % 4294967296 - 4294967296 else w % 4294967296⟩
def errW (w : Int) : Nat := if w / 72057594037927936 < 1 ∨ 29 < w / 72057594037927936 then 4 else errP (hasOf ((w / 72057594037927936).toNat - 1)) (insP w)
theorem findL_spec (op : List UInt8) (h : findL op ≠ 0) : findL op ≤ 29 ∧ nameOf (findL op - 1) = op := by
  unfold findL at h ⊢
  cases hf : opsT.findIdx? (fun r => r.1 == op) with
  | none => rw [hf] at h; exact absurd rfl h
  | some k =>
    rw [List.findIdx?_eq_some_iff_getElem] at hf
    obtain ⟨hk, he, _⟩ := hf
    have hk' : k < 29 := hk
    refine ⟨by simp only; omega, ?_⟩
    simp only [Nat.add_sub_cancel]
    unfold nameOf
    rw [List.getD_eq_getElem?_getD, List.getElem?_eq_getElem hk]
    simpa using he
theorem findL_name (n : Nat) (h : n < 29) : findL (nameOf n) = n + 1 := by
  revert n
  decide
theorem errP_zero {h : List UInt8} {i : PIns} (e : errP h i = 0) : (0 ≤ i.d ∧ i.d ≤ 7) ∧ (0 ≤ i.a ∧ i.a ≤ 7) ∧ (0 ≤ i.b ∧ i.b ≤ 7) ∧ (-2147483648 ≤ i.imm ∧ i.imm ≤ 2147483647) ∧
    (h.contains 100 = false → i.d = 0) ∧ (h.contains 97 = false → i.a = 0) ∧ (h.contains 98 = false → i.b = 0) ∧ (h.contains 105 = false → i.imm = 0) := by
  unfold errP at e
  split at e
  · cases e
  · split at e
    · cases e
    · rename_i h1 h2
      simp only [Bool.or_eq_true, Bool.and_eq_true, not_or, not_and, Bool.not_eq_eq_eq_not, Bool.not_true, bne_iff_ne, ne_eq, Decidable.not_not, decide_eq_true_eq] at h1 h2
      obtain ⟨⟨⟨a1, a2⟩, a3⟩, a4⟩ := h1
      obtain ⟨⟨⟨b1, b2⟩, b3⟩, b4⟩ := h2
      have hm : mostB i.op ≤ 7 := by unfold mostB; split <;> omega
      refine ⟨?_, ?_, ?_, ?_, b1, b2, b3, b4⟩
      · cases hc : h.contains 100
        · have := b1 hc; omega
        · have := a1 hc; simp [regP] at this; omega
      · cases hc : h.contains 97
        · have := b2 hc; omega
        · have := a2 hc; simp [regP] at this; omega
      · cases hc : h.contains 98
        · have := b3 hc; omega
        · have := a3 hc; omega
      · cases hc : h.contains 105
        · have := b4 hc; omega
        · have := a4 hc; omega
/-- An instruction that has a word is its instruction. -/
theorem ins_word (i : PIns) (h : errI i = 0) : insP (wordP i) = i ∧ errW (wordP i) = 0 ∧ 0 ≤ wordP i ∧ wordP i < 18446744073709551616 := by
  unfold errI at h
  split at h
  · cases h
  · rename_i hf
    obtain ⟨f1, f2⟩ := findL_spec i.op hf
    obtain ⟨⟨d1, d2⟩, ⟨a1, a2⟩, ⟨b1, b2⟩, ⟨m1, m2⟩, _⟩ := errP_zero h
    have hl : 0 ≤ lowP i.imm ∧ lowP i.imm < 4294967296 ∧ (i.imm < 0 → lowP i.imm = i.imm + 4294967296) ∧ (0 ≤ i.imm → lowP i.imm = i.imm) := by
      unfold lowP; split <;> refine ⟨?_, ?_, ?_, ?_⟩ <;> omega
    have hw : wordP i = ((findL i.op : Int) * 16777216 + i.d * 65536 + i.a * 256 + i.b) * 4294967296 + lowP i.imm := rfl
    have hk : wordP i / 72057594037927936 = findL i.op := by omega
    have e : insP (wordP i) = i := by
      unfold insP
      rw [hk]
      cases i with
      | mk op d a b imm =>
        simp only [PIns.mk.injEq] at *
        refine ⟨?_, by omega, by omega, by omega, ?_⟩
        · rw [show ((findL op : Int).toNat) = findL op by omega]; exact f2
        · split <;> omega
    refine ⟨e, ?_, by omega, by omega⟩
    unfold errW
    rw [if_neg (by omega), hk, e, show ((findL i.op : Int).toNat) = findL i.op by omega]
    exact h
/-- A word that is an instruction is that instruction's word. -/
theorem word_ins (w : Int) (h : errW w = 0) : errI (insP w) = 0 ∧ wordP (insP w) = w := by
  unfold errW at h
  split at h
  · cases h
  · rename_i hk
    obtain ⟨k, hk2⟩ : ∃ k : Nat, w / 72057594037927936 = k + 1 := ⟨(w / 72057594037927936).toNat - 1, by omega⟩
    have hkn : ((k + 1 : Nat) : Int).toNat - 1 = k := by omega
    have hop : (insP w).op = nameOf k := by
      show nameOf ((w / 72057594037927936).toNat - 1) = _
      rw [hk2, show ((k : Int) + 1).toNat - 1 = k by omega]
    have hf : findL (insP w).op = k + 1 := by rw [hop]; exact findL_name k (by omega)
    refine ⟨?_, ?_⟩
    · unfold errI
      rw [if_neg (by omega), hf]
      rw [hk2, show ((k : Int) + 1).toNat - 1 = k by omega] at h
      exact h
    · obtain ⟨⟨d1, d2⟩, ⟨a1, a2⟩, ⟨b1, b2⟩, ⟨m1, m2⟩, _⟩ := errP_zero h
      unfold wordP
      rw [hf]
      have e1 : (insP w).d = w / 281474976710656 % 256 := rfl
      have e2 : (insP w).a = w / 1099511627776 % 256 := rfl
      have e3 : (insP w).b = w / 4294967296 % 256 := rfl
      have e4 : lowP (insP w).imm = w % 4294967296 := by
        show lowP (if w % 4294967296 ≥ 2147483648 then w % 4294967296 - 4294967296 else w % 4294967296) = _
        unfold lowP; split <;> split <;> omega
      rw [e1, e2, e3, e4]
      omega
end Go.Proofs.YtgoifbkogboppaaDoor

namespace Go.Proofs.YtgoifbkogboppaaDoor
open Go.RowKit

theorem wrap_toInt (n : Int) : IntKind.i64.wrap n = (BitVec.ofInt 64 n).toInt := by
  rw [IntKind.wrap_i64, BitVec.toInt_ofInt, Int.bmod_def]
  simp only [Nat.reducePow]
  split <;> omega
theorem w64_toInt (n : Int) : wrap64 n = (BitVec.ofInt 64 n).toInt := by
  rw [← wrap_toInt, IntWalk.i64_left]
theorem ofInt_w64 (n : Int) : BitVec.ofInt 64 (wrap64 n) = BitVec.ofInt 64 n := by
  rw [w64_toInt, BitVec.ofInt_toInt]
theorem toInt_ofInt_in (n : Int) (h : -9223372036854775808 ≤ n ∧ n ≤ 9223372036854775807) : (BitVec.ofInt 64 n).toInt = n := by
  rw [← w64_toInt, IntWalk.wrap64_in n h]
theorem ofInt_toNat_i (x : BitVec 64) : BitVec.ofInt 64 (x.toNat : Int) = x := by
  rw [BitVec.ofInt_natCast, BitVec.ofNat_toNat]; simp
theorem and_toInt (a b : Int) : bits .and .i64 a b = (BitVec.ofInt 64 a &&& BitVec.ofInt 64 b).toInt := by
  show IntKind.i64.wrap ((BitVec.ofInt 64 a &&& BitVec.ofInt 64 b).toNat : Int) = _
  rw [wrap_toInt, ofInt_toNat_i]
theorem or_toInt (a b : Int) : bits .or .i64 a b = (BitVec.ofInt 64 a ||| BitVec.ofInt 64 b).toInt := by
  show IntKind.i64.wrap ((BitVec.ofInt 64 a ||| BitVec.ofInt 64 b).toNat : Int) = _
  rw [wrap_toInt, ofInt_toNat_i]
theorem xor_toInt (a b : Int) : bits .xor .i64 a b = (BitVec.ofInt 64 a ^^^ BitVec.ofInt 64 b).toInt := by
  show IntKind.i64.wrap ((BitVec.ofInt 64 a ^^^ BitVec.ofInt 64 b).toNat : Int) = _
  rw [wrap_toInt, ofInt_toNat_i]
theorem i64_and63 (n : Int) : bits .and .i64 n 63 = n % 64 := by
  have h127 : (BitVec.ofInt 64 63).toNat = 2 ^ 6 - 1 := by decide
  have key : (BitVec.ofInt 64 n &&& BitVec.ofInt 64 63).toNat = (n % ((2 ^ 64 : Nat) : Int)).toNat % 2 ^ 6 := by
    rw [BitVec.toNat_and, BitVec.toNat_ofInt, h127, Nat.and_two_pow_sub_one_eq_mod]
  show IntKind.i64.wrap ((BitVec.ofInt 64 n &&& BitVec.ofInt 64 63).toNat : Nat) = n % 64
  rw [key, IntKind.wrap_i64]
  omega
def I64 (n : Int) : Prop := -9223372036854775808 ≤ n ∧ n ≤ 9223372036854775807
theorem toInt_I64 (x : BitVec 64) : I64 x.toInt := by
  have := BitVec.le_toInt x; have := BitVec.toInt_lt (x := x); unfold I64; simp at *; omega
theorem wrap64_I64 (n : Int) : I64 (wrap64 n) := by unfold I64 wrap64; omega
theorem bits_I64 (op : BinOp) (a b : Int) : I64 (bits op .i64 a b) := by
  unfold bits; rw [wrap_toInt]; exact toInt_I64 _
theorem add_assoc64 (a b c : Int) : wrap64 (wrap64 (a + b) + c) = wrap64 (a + wrap64 (b + c)) := by unfold wrap64; omega
theorem mul_assoc64 (a b c : Int) : wrap64 (wrap64 (a * b) * c) = wrap64 (a * wrap64 (b * c)) := by
  simp only [w64_toInt, BitVec.ofInt_mul, BitVec.ofInt_toInt, BitVec.mul_assoc]
theorem mul_add64 (a b c : Int) : wrap64 (a * wrap64 (b + c)) = wrap64 (wrap64 (a * b) + wrap64 (a * c)) := by
  simp only [w64_toInt, BitVec.ofInt_mul, BitVec.ofInt_add, BitVec.ofInt_toInt, BitVec.mul_add]
theorem and_assoc64 (a b c : Int) : bits .and .i64 (bits .and .i64 a b) c = bits .and .i64 a (bits .and .i64 b c) := by
  simp only [and_toInt, BitVec.ofInt_toInt, BitVec.and_assoc]
theorem or_assoc64 (a b c : Int) : bits .or .i64 (bits .or .i64 a b) c = bits .or .i64 a (bits .or .i64 b c) := by
  simp only [or_toInt, BitVec.ofInt_toInt, BitVec.or_assoc]
theorem xor_assoc64 (a b c : Int) : bits .xor .i64 (bits .xor .i64 a b) c = bits .xor .i64 a (bits .xor .i64 b c) := by
  simp only [xor_toInt, BitVec.ofInt_toInt, BitVec.xor_assoc]
theorem ofInt_neg_one : BitVec.ofInt 64 (-1) = BitVec.allOnes 64 := by decide
theorem deMorgan64 (a b : Int) : bits .xor .i64 (bits .and .i64 a b) (-1) = bits .or .i64 (bits .xor .i64 a (-1)) (bits .xor .i64 b (-1)) := by
  simp only [xor_toInt, or_toInt, and_toInt, BitVec.ofInt_toInt, ofInt_neg_one, BitVec.xor_allOnes, BitVec.not_and]
theorem xor_xor64 (a b : Int) (ha : I64 a) : bits .xor .i64 (bits .xor .i64 a b) b = a := by
  simp only [xor_toInt, BitVec.ofInt_toInt, BitVec.xor_assoc, BitVec.xor_self, BitVec.xor_zero]
  exact toInt_ofInt_in a ha
theorem add_comm64 (a b : Int) : wrap64 (a + b) = wrap64 (b + a) := by rw [Int.add_comm]
theorem and_comm64 (a b : Int) : bits .and .i64 a b = bits .and .i64 b a := by simp only [and_toInt, BitVec.and_comm]
theorem or_comm64 (a b : Int) : bits .or .i64 a b = bits .or .i64 b a := by simp only [or_toInt, BitVec.or_comm]
theorem xor_comm64 (a b : Int) : bits .xor .i64 a b = bits .xor .i64 b a := by simp only [xor_toInt, BitVec.xor_comm]
end Go.Proofs.YtgoifbkogboppaaDoor

namespace Go.Proofs.YtgoifbkogboppaaDoor
open Go.RowKit

def bitV (b : Bool) : Int := if b then 1 else 0
theorem bit_any (b : Bool) (w : World) : Calls Tryd.prog 66 #[.bool b] w fun e w' => e = .returned (.int .i64 (bitV b)) ∧ w' = w := by
  cases b
  · go_enter Tryd.func66, Tryd.ntmps66
    go_wp2
    go_ret
    exact ⟨rfl, rfl⟩
  · go_enter Tryd.func66, Tryd.ntmps66
    go_wp2
    go_ret
    exact ⟨rfl, rfl⟩

def orderV (l : List UInt8) (a b : Int) : Option Int :=
  if (l == [60]) = true then some (bitV (decide (a < b)))
  else if (l == [60, 61]) = true then some (bitV (decide (a ≤ b)))
  else if (l == [61, 61]) = true then some (bitV (a == b))
  else if (l == [33, 61]) = true then some (bitV (a != b))
  else none
def errOf (o : Option Int) (K : Value) : Value := match o with
  | some _ => .nilIface
  | none => K
def valOf (o : Option Int) : Int := o.getD 0

theorem order_any (s : ByteArray) (a b : Int) (K : Value) (w : World) (hK : w.cell? ⟨4, 0, none⟩ = some K) : Calls Tryd.prog 68 #[.string s, .int .i64 a, .int .i64 b] w (Quiet (.tuple #[.int .i64 (valOf (orderV s.toList a b)), errOf (orderV s.toList a b) K]) w) := by
  go_enter Tryd.func68, Tryd.ntmps68
  go_wp2_with (go_at_call 66; refine (bit_any _ _).mono ?_; rintro e w' ⟨rfl, rfl⟩)
  · go_ret2; refine Quiet.same_of ?_; simp [*, orderV, errOf, valOf]
  · go_ret2; refine Quiet.same_of ?_; simp [*, orderV, errOf, valOf]
  · go_ret2; refine Quiet.same_of ?_; simp [*, orderV, errOf, valOf]
  · go_ret2; refine Quiet.same_of ?_; simp [*, orderV, errOf, valOf]
  · go_quiet (fail)
    go_wp2
    go_ret2
    refine Quiet.drew_of _ ?_; simp [*, orderV, errOf, valOf]

def divV (a b : Int) : Int := if b = 0 then 0 else wrap64 (a.tdiv b)
def remV (a b : Int) : Int := if b = 0 then a else a.tmod b
theorem divV_min : divV (-9223372036854775808) (-1) = -9223372036854775808 := by decide +kernel
theorem remV_min : remV (-9223372036854775808) (-1) = 0 := by decide +kernel
theorem min_forms (b : Int) : Value.tuple #[.int .i64 (wrap64 ((-9223372036854775808).tdiv b)), .int .i64 ((-9223372036854775808).tmod b)] = Value.tuple #[.int .i64 (wrap64 (-Int.tdiv 9223372036854775808 b)), .int .i64 (-(9223372036854775808 % b))] := by
  rw [Int.neg_tdiv, Int.neg_tmod, Int.tmod_eq_emod_of_nonneg (by omega)]
theorem div_any (a b : Int) (w : World) : Calls Tryd.prog 67 #[.int .i64 a, .int .i64 b] w (Quiet (.tuple #[.int .i64 (divV a b), .int .i64 (remV a b)]) w) := by
  by_cases hb : b = 0
  · subst hb
    go_enter Tryd.func67, Tryd.ntmps67
    go_wp2_with fail
    go_ret2; exact Quiet.same_of (by simp [divV, remV])
  · have hb0 : (b == 0) = false := by simp [hb]
    by_cases hm : a = -9223372036854775808 ∧ b = -1
    · obtain ⟨rfl, rfl⟩ := hm
      go_enter Tryd.func67, Tryd.ntmps67
      go_wp2_with fail
      go_ret2; exact Quiet.same_of (by rw [divV_min, remV_min]; rfl)
    · have e1 : divV a b = wrap64 (a.tdiv b) := by unfold divV; rw [if_neg hb]
      have e2 : remV a b = a.tmod b := by unfold remV; rw [if_neg hb]
      rw [e1, e2]
      clear e1 e2
      by_cases ha : a = -9223372036854775808
      · subst ha
        have hb1 : (b == -1) = false := by simpa using hm
        clear hm
        go_enter Tryd.func67, Tryd.ntmps67
        go_wp2_with fail
        go_quiet (fail)
        go_wp2_with fail
        go_ret2; exact Quiet.drew_of _ (min_forms b)
      · have ha1 : (a == -9223372036854775808) = false := by simp [ha]
        clear hm
        go_enter Tryd.func67, Tryd.ntmps67
        go_wp2_with fail
        go_quiet (fail)
        go_wp2_with fail
        go_ret2; exact Quiet.drew_of _ rfl

def doV (l : List UInt8) (a b : Int) : Option Int :=
  if (l == [43]) = true then some (wrap64 (a + b))
  else if (l == [45]) = true then some (wrap64 (a - b))
  else if (l == [42]) = true then some (wrap64 (a * b))
  else if (l == [47]) = true then some (divV a b)
  else if (l == [37]) = true then some (remV a b)
  else if (l == [38]) = true then some (bits .and .i64 a b)
  else if (l == [124]) = true then some (bits .or .i64 a b)
  else if (l == [94]) = true then some (bits .xor .i64 a b)
  else if (l == [60, 60]) = true then some (wrap64 (a * 2 ^ (b % 64).toNat))
  else if (l == [62, 62]) = true then some (a / 2 ^ (b % 64).toNat)
  else orderV l a b
def oneV (l : List UInt8) (a : Int) : Option Int :=
  if (l == [45]) = true then some (wrap64 (-a))
  else if (l == [33]) = true then some (bitV (a == 0))
  else none
theorem Do_any (s : ByteArray) (a b : Int) (K : Value) (w : World) (hK : w.cell? ⟨4, 0, none⟩ = some K) :
    Calls Tryd.prog 57 #[.string s, .int .i64 a, .int .i64 b] w (Quiet (.tuple #[.int .i64 (valOf (doV s.toList a b)), errOf (doV s.toList a b) K]) w) := by
  have h63 := i64_and63 b
  go_enter Tryd.func57, Tryd.ntmps57
  go_wp2_with (first
    | (go_at_call 67; refine (div_any _ _ _).mono ?_; rintro e w' ⟨rfl, n, rfl⟩)
    | (go_at_call 68; refine (order_any _ _ _ K _ hK).mono ?_; rintro e w' ⟨rfl, n, rfl⟩))
  all_goals (go_ret2; first | refine Quiet.drew_of _ ?_ | refine Quiet.same_of ?_)
  all_goals simp [*, doV, errOf, valOf]
theorem One_any (s : ByteArray) (a : Int) (K : Value) (w : World) (hK : w.cell? ⟨4, 0, none⟩ = some K) :
    Calls Tryd.prog 56 #[.string s, .int .i64 a] w (Quiet (.tuple #[.int .i64 (valOf (oneV s.toList a)), errOf (oneV s.toList a) K]) w) := by
  go_enter Tryd.func56, Tryd.ntmps56
  go_wp2_with (first
    | (go_at_call 66; refine (bit_any _ _).mono ?_; rintro e w' ⟨rfl, rfl⟩))
  · go_ret2; refine Quiet.same_of ?_; simp [*, oneV, errOf, valOf]
  · go_ret2; refine Quiet.same_of ?_; simp [*, oneV, errOf, valOf]
  · go_quiet (fail)
    go_wp2_with fail
    go_ret2; refine Quiet.drew_of _ ?_; simp [*, oneV, errOf, valOf]
@[go_sem] theorem errOf_some (v : Int) (K : Value) : errOf (some v) K = .nilIface := rfl
@[go_sem] theorem errOf_none (K : Value) : errOf none K = K := rfl
@[go_sem] theorem valOf_some (v : Int) : valOf (some v) = v := rfl
@[go_sem] theorem valOf_none : valOf none = 0 := rfl
@[go_sem] theorem doV_add (a b : Int) : doV [43] a b = some (wrap64 (a + b)) := rfl
@[go_sem] theorem doV_sub (a b : Int) : doV [45] a b = some (wrap64 (a - b)) := rfl
@[go_sem] theorem doV_mul (a b : Int) : doV [42] a b = some (wrap64 (a * b)) := rfl
@[go_sem] theorem doV_div (a b : Int) : doV [47] a b = some (divV a b) := rfl
@[go_sem] theorem doV_rem (a b : Int) : doV [37] a b = some (remV a b) := rfl
@[go_sem] theorem doV_and (a b : Int) : doV [38] a b = some (bits .and .i64 a b) := rfl
@[go_sem] theorem doV_or (a b : Int) : doV [124] a b = some (bits .or .i64 a b) := rfl
@[go_sem] theorem doV_xor (a b : Int) : doV [94] a b = some (bits .xor .i64 a b) := rfl
@[go_sem] theorem doV_shl (a b : Int) : doV [60, 60] a b = some (wrap64 (a * 2 ^ (b % 64).toNat)) := rfl
@[go_sem] theorem doV_shr (a b : Int) : doV [62, 62] a b = some (a / 2 ^ (b % 64).toNat) := rfl
@[go_sem] theorem doV_lss (a b : Int) : doV [60] a b = some (bitV (decide (a < b))) := rfl
@[go_sem] theorem doV_leq (a b : Int) : doV [60, 61] a b = some (bitV (decide (a ≤ b))) := rfl
@[go_sem] theorem doV_eql (a b : Int) : doV [61, 61] a b = some (bitV (a == b)) := rfl
@[go_sem] theorem doV_neq (a b : Int) : doV [33, 61] a b = some (bitV (a != b)) := rfl
@[go_sem] theorem oneV_neg (a : Int) : oneV [45] a = some (wrap64 (-a)) := rfl
@[go_sem] theorem oneV_not (a : Int) : oneV [33] a = some (bitV (a == 0)) := rfl
@[go_sem] theorem bitV_true : bitV true = 1 := rfl
@[go_sem] theorem bitV_false : bitV false = 0 := rfl
end Go.Proofs.YtgoifbkogboppaaDoor

namespace Go.Proofs.YtgoifbkogboppaaDoor
open Go.RowKit


end Go.Proofs.YtgoifbkogboppaaDoor

namespace Go.Proofs.YtgoifbkogboppaaDoor
open Go.RowKit

def opsB : List (List UInt8) := [[43], [45], [42], [47], [37], [38], [124], [94], [60, 60], [62, 62], [60], [60, 61], [61, 61], [33, 61]]
def swapsB : List (List UInt8) := [[43], [42], [38], [124], [94], [61, 61], [33, 61]]
def opsL : List ByteArray := opsB.map mkB
def swapsL : List ByteArray := swapsB.map mkB
def opsO : Obj := .cells (opsL.map Value.string).toArray 9
theorem opsO_row (w : World) : Row (w.alloc opsO) (some ⟨w.heap.size, 0, none⟩) (opsL.map Value.string) := Row.new w _ _
end Go.Proofs.YtgoifbkogboppaaDoor
