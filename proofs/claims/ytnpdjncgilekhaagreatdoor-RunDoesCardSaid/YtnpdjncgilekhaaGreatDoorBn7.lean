import Derived.Lib.ItoaNum
import Derived.WalkKit
import Derived.Laws.BitsAllLaws
import Derived.Test.YtnpdjncgilekhaaGreatDoorBn6
namespace Go.Proofs.YtnpdjncgilekhaaGreatDoor
open Go.RowKit

/-! the text of trees -/
def xNum : List UInt8 := [110, 117, 109]
def xName : List UInt8 := [110, 97, 109, 101]
def xCall : List UInt8 := [99, 97, 108, 108]
def xOne : List UInt8 := [111, 110, 101]
def xTwo : List UInt8 := [116, 119, 111]
def opsRows : List (List (List UInt8)) := [[[61, 61], [33, 61]], [[60], [60, 61]], [[124]], [[94]], [[38]], [[60, 60], [62, 62]], [[43], [45]], [[42], [47], [37]]]
def levFrom (s : List UInt8) : List (List (List UInt8)) → Nat → Int
  | [], _ => -1
  | r :: rs, k => if r.contains s then (k : Int) else levFrom s rs (k + 1)
def levelP (s : List UInt8) : Int := levFrom s opsRows 0
theorem levFrom_drop {s : List UInt8} {rs : List (List (List UInt8))} {k : Nat} (h : k < rs.length) : levFrom s (rs.drop k) k = if rs[k].contains s then (k : Int) else levFrom s (rs.drop (k + 1)) (k + 1) := by
  rw [List.drop_eq_getElem_cons h]; rfl
theorem levFrom_range (s : List UInt8) : ∀ (rs : List (List (List UInt8))) (k : Nat), -1 ≤ levFrom s rs k ∧ levFrom s rs k ≤ k + rs.length := by
  intro rs
  induction rs with
  | nil => intro k; simp [levFrom]
  | cons r rs ih =>
    intro k
    unfold levFrom
    have := ih (k + 1)
    simp only [List.length_cons]
    split <;> omega
theorem levelP_range (s : List UInt8) : -1 ≤ levelP s ∧ levelP s ≤ 8 := by
  have := levFrom_range s opsRows 0
  simp [opsRows] at this
  exact this
def bigT : List UInt8 := [40, 48, 32, 45, 32, 57, 50, 50, 51, 51, 55, 50, 48, 51, 54, 56, 53, 52, 55, 55, 53, 56, 48, 55, 32, 45, 32, 49, 41]
def numT (n : Int) : List UInt8 := if n = -9223372036854775808 then bigT else if n < 0 then [40, 48, 32, 45, 32] ++ Lib.itoa (-n) ++ [41] else Lib.itoa n
def joinC : List (List UInt8) → List UInt8
  | [] => []
  | [x] => x
  | x :: xs => x ++ [44, 32] ++ joinC xs
def wrapT (k : PExpr) (least : Int) (t : List UInt8) : List UInt8 := if k.kind = xTwo ∧ levelP k.name < least then [40] ++ t ++ [41] else t
def oneT (name : List UInt8) : List PExpr → List (List UInt8) → List UInt8
  | [k], [t] => name ++ wrapT k 8 t
  | _, _ => []
def twoT (name : List UInt8) : List PExpr → List (List UInt8) → List UInt8
  | [a, b], [s, t] => wrapT a (levelP name) s ++ [32] ++ name ++ [32] ++ wrapT b (levelP name + 1) t
  | _, _ => []
mutual
def textE : PExpr → List UInt8
  | ⟨kind, num, name, kids⟩ =>
    if kind = xNum then numT num
    else if kind = xName then name
    else if kind = xCall then name ++ [40] ++ joinC (textKs kids) ++ [41]
    else if kind = xOne then oneT name kids (textKs kids)
    else if kind = xTwo then twoT name kids (textKs kids)
    else []
def textKs : List PExpr → List (List UInt8)
  | [] => []
  | k :: ks => textE k :: textKs ks
end
theorem textKs_map : ∀ ks, textKs ks = ks.map textE := by
  intro ks
  induction ks with
  | nil => rw [textKs]; rfl
  | cons k ks ih => rw [textKs, ih]; rfl
theorem textE_eq (e : PExpr) : textE e =
    if e.kind = xNum then numT e.num
    else if e.kind = xName then e.name
    else if e.kind = xCall then e.name ++ [40] ++ joinC (e.kids.map textE) ++ [41]
    else if e.kind = xOne then oneT e.name e.kids (e.kids.map textE)
    else if e.kind = xTwo then twoT e.name e.kids (e.kids.map textE)
    else [] := by
  cases e
  rw [textE]
  simp only [textKs_map]
theorem textE_num {e : PExpr} (h : e.kind = xNum) : textE e = numT e.num := by rw [textE_eq, if_pos h]
theorem textE_name {e : PExpr} (h : e.kind = xName) : textE e = e.name := by
  rw [textE_eq, if_neg (by rw [h]; decide), if_pos h]
theorem textE_call {e : PExpr} (h : e.kind = xCall) : textE e = e.name ++ [40] ++ joinC (e.kids.map textE) ++ [41] := by
  rw [textE_eq, if_neg (by rw [h]; decide), if_neg (by rw [h]; decide), if_pos h]
theorem textE_one {e k : PExpr} (h : e.kind = xOne) (hk : e.kids = [k]) : textE e = e.name ++ wrapT k 8 (textE k) := by
  rw [textE_eq, if_neg (by rw [h]; decide), if_neg (by rw [h]; decide), if_neg (by rw [h]; decide), if_pos h, hk]; rfl
theorem textE_one_no {e : PExpr} (h : e.kind = xOne) (hk : e.kids.length ≠ 1) : textE e = [] := by
  rw [textE_eq, if_neg (by rw [h]; decide), if_neg (by rw [h]; decide), if_neg (by rw [h]; decide), if_pos h]
  match h' : e.kids with
  | [] => rfl
  | [k] => rw [h'] at hk; simp at hk
  | a :: b :: r => simp [oneT]
theorem textE_two {e a b : PExpr} (h : e.kind = xTwo) (hk : e.kids = [a, b]) : textE e = wrapT a (levelP e.name) (textE a) ++ [32] ++ e.name ++ [32] ++ wrapT b (levelP e.name + 1) (textE b) := by
  rw [textE_eq, if_neg (by rw [h]; decide), if_neg (by rw [h]; decide), if_neg (by rw [h]; decide), if_neg (by rw [h]; decide), if_pos h, hk]; rfl
theorem textE_two_no {e : PExpr} (h : e.kind = xTwo) (hk : e.kids.length ≠ 2) : textE e = [] := by
  rw [textE_eq, if_neg (by rw [h]; decide), if_neg (by rw [h]; decide), if_neg (by rw [h]; decide), if_neg (by rw [h]; decide), if_pos h]
  match h' : e.kids with
  | [] => rfl
  | [k] => simp [twoT]
  | [a, b] => rw [h'] at hk; simp at hk
  | a :: b :: c :: r => simp [twoT]
theorem textE_none {e : PExpr} (h0 : e.kind ≠ xNum) (h1 : e.kind ≠ xName) (h2 : e.kind ≠ xCall) (h3 : e.kind ≠ xOne) (h4 : e.kind ≠ xTwo) : textE e = [] := by
  rw [textE_eq, if_neg h0, if_neg h1, if_neg h2, if_neg h3, if_neg h4]

/-! statements -/
def sVar : List UInt8 := [118, 97, 114]
def sSet : List UInt8 := [115, 101, 116]
def sReturn : List UInt8 := [114, 101, 116, 117, 114, 110]
def sPrint : List UInt8 := [112, 114, 105, 110, 116]
def sIf : List UInt8 := [105, 102]
def sWhile : List UInt8 := [119, 104, 105, 108, 101]
def lineT (d : Nat) (t : List UInt8) : List UInt8 := List.replicate d 9 ++ t ++ [10]
mutual
def textS : PStmt → Nat → List UInt8
  | ⟨kind, name, e, th, el⟩, d =>
    if kind = sVar then lineT d ([118, 97, 114, 32] ++ name ++ [32, 61, 32] ++ textE e ++ [59])
    else if kind = sSet then lineT d (name ++ [32, 61, 32] ++ textE e ++ [59])
    else if kind = sReturn ∨ kind = sPrint then lineT d (kind ++ [32] ++ textE e ++ [59])
    else if kind = sIf ∨ kind = sWhile then
      lineT d (kind ++ [32] ++ textE e ++ [32, 123]) ++ textB th (d + 1) ++ (if el.length = 0 then [] else lineT d [125, 32, 101, 108, 115, 101, 32, 123] ++ textB el (d + 1)) ++ lineT d [125]
    else []
def textB : List PStmt → Nat → List UInt8
  | [], _ => []
  | s :: ss, d => textS s d ++ textB ss d
end
theorem textB_nil (d : Nat) : textB [] d = [] := by rw [textB]
theorem textB_cons (s : PStmt) (ss : List PStmt) (d : Nat) : textB (s :: ss) d = textS s d ++ textB ss d := by rw [textB]
theorem textS_eq (s : PStmt) (d : Nat) : textS s d =
    if s.kind = sVar then lineT d ([118, 97, 114, 32] ++ s.name ++ [32, 61, 32] ++ textE s.e ++ [59])
    else if s.kind = sSet then lineT d (s.name ++ [32, 61, 32] ++ textE s.e ++ [59])
    else if s.kind = sReturn ∨ s.kind = sPrint then lineT d (s.kind ++ [32] ++ textE s.e ++ [59])
    else if s.kind = sIf ∨ s.kind = sWhile then
      lineT d (s.kind ++ [32] ++ textE s.e ++ [32, 123]) ++ textB s.th (d + 1) ++ (if s.el.length = 0 then [] else lineT d [125, 32, 101, 108, 115, 101, 32, 123] ++ textB s.el (d + 1)) ++ lineT d [125]
    else [] := by
  cases s; rw [textS]
def textF (f : PFun) : List UInt8 := lineT 0 ([102, 110, 32] ++ f.name ++ [40] ++ joinC f.params ++ [41, 32, 123]) ++ textB f.body 1 ++ lineT 0 [125]
def textG : List PFun → List UInt8
  | [] => []
  | f :: fs => textF f ++ textG fs
end Go.Proofs.YtnpdjncgilekhaaGreatDoor

namespace Go.Proofs.YtnpdjncgilekhaaGreatDoor
open Go.RowKit

/-! the words of a text, in plain Lean -/
def isLetter (c : UInt8) : Bool := decide ((97 : Int) ≤ c.toNat) && decide ((c.toNat : Int) ≤ 122)
def isDigit (c : UInt8) : Bool := decide ((48 : Int) ≤ c.toNat) && decide ((c.toNat : Int) ≤ 57)
def isBlank (c : UInt8) : Bool := ((c.toNat : Int) == 32) || ((c.toNat : Int) == 9) || ((c.toNat : Int) == 10)
def alnum (c : UInt8) : Bool := isLetter c || isDigit c
def wordsB : List (List UInt8) := [[102, 110], [118, 97, 114], [105, 102], [101, 108, 115, 101], [119, 104, 105, 108, 101], [114, 101, 116, 117, 114, 110], [112, 114, 105, 110, 116]]
def twosB : List (List UInt8) := [[60, 60], [62, 62], [60, 61], [61, 61], [33, 61]]
def onesB : List UInt8 := [43, 45, 42, 47, 37, 38, 124, 94, 60, 33, 61, 40, 41, 123, 125, 44, 59]
def kWord : List UInt8 := [119, 111, 114, 100]
def kName : List UInt8 := [110, 97, 109, 101]
def kNumber : List UInt8 := [110, 117, 109, 98, 101, 114]
def kSign : List UInt8 := [115, 105, 103, 110]
/-- How far a text goes on with bytes that are so. -/
def spanL (p : UInt8 → Bool) : List UInt8 → Nat
  | [] => 0
  | c :: l => if p c then spanL p l + 1 else 0
theorem spanL_le (p : UInt8 → Bool) : ∀ l, spanL p l ≤ l.length := by
  intro l; induction l with
  | nil => simp [spanL]
  | cons c l ih => simp only [spanL, List.length_cons]; split <;> omega
structure Tok where
  kind : List UInt8
  text : List UInt8
  pos : Nat
  deriving DecidableEq
/-- The token at the head of a text that is not empty: its kind, its length, is it one? -/
def tokAt (l : List UInt8) : List UInt8 × Nat × Bool :=
  match l with
  | [] => (kSign, 0, false)
  | c :: _ =>
    if isLetter c then
      let n := spanL alnum l
      if wordsB.any (fun x => x == l.take n) then (kWord, n, true) else (kName, n, decide (n ≤ 8))
    else if isDigit c then
      let n := spanL isDigit l
      (kNumber, n, decide (n ≤ 18) && (decide (n = 1) || c != 48) && (match l.drop n with | [] => true | d :: _ => !isLetter d))
    else if twosB.any (fun x => x == l.take 2) then (kSign, 2, true)
    else (kSign, 1, onesB.any (fun x => x == c))
/-- Tokens from a place on; or the place of the first that is none. -/
def lexL : Nat → List UInt8 → Nat → List Tok × Option Nat
  | 0, _, _ => ([], none)
  | f + 1, l, k =>
    let b := spanL isBlank l
    let r := l.drop b
    if r = [] then ([], none)
    else
      let t := tokAt r
      if t.2.2 then
        let q := lexL f (r.drop t.2.1) (k + b + t.2.1)
        (⟨t.1, r.take t.2.1, k + b⟩ :: q.1, q.2)
      else ([], some (k + b))
end Go.Proofs.YtnpdjncgilekhaaGreatDoor

namespace Go.Proofs.YtnpdjncgilekhaaGreatDoor
open Go.RowKit

theorem wrap_toInt (n : Int) : IntKind.i64.wrap n = (BitVec.ofInt 64 n).toInt := by
  rw [IntKind.wrap_i64, BitVec.toInt_ofInt, Int.bmod_def]
  simp only [Nat.reducePow]
  split <;> omega
theorem w64_toInt (n : Int) : wrap64 n = (BitVec.ofInt 64 n).toInt := by
  rw [← wrap_toInt, IntWalk.i64_left]
theorem ofInt_w64 (n : Int) : BitVec.ofInt 64 (wrap64 n) = BitVec.ofInt 64 n := by
  rw [w64_toInt, BitVec.ofInt_toInt]
theorem toInt_ofInt_in (n : Int) (h : -9223372036854775808 ≤ n ∧ n ≤ 9223372036854775807) : (BitVec.ofInt 64 n).toInt = n := by
  rw [← w64_toInt, IntWalk.wrap64_in n h]
theorem ofInt_toNat_i (x : BitVec 64) : BitVec.ofInt 64 (x.toNat : Int) = x := by
  rw [BitVec.ofInt_natCast, BitVec.ofNat_toNat]; simp
theorem and_toInt (a b : Int) : bits .and .i64 a b = (BitVec.ofInt 64 a &&& BitVec.ofInt 64 b).toInt := by
  show IntKind.i64.wrap ((BitVec.ofInt 64 a &&& BitVec.ofInt 64 b).toNat : Int) = _
  rw [wrap_toInt, ofInt_toNat_i]
theorem or_toInt (a b : Int) : bits .or .i64 a b = (BitVec.ofInt 64 a ||| BitVec.ofInt 64 b).toInt := by
  show IntKind.i64.wrap ((BitVec.ofInt 64 a ||| BitVec.ofInt 64 b).toNat : Int) = _
  rw [wrap_toInt, ofInt_toNat_i]
theorem xor_toInt (a b : Int) : bits .xor .i64 a b = (BitVec.ofInt 64 a ^^^ BitVec.ofInt 64 b).toInt := by
  show IntKind.i64.wrap ((BitVec.ofInt 64 a ^^^ BitVec.ofInt 64 b).toNat : Int) = _
  rw [wrap_toInt, ofInt_toNat_i]
theorem i64_and63 (n : Int) : bits .and .i64 n 63 = n % 64 := by
  have h127 : (BitVec.ofInt 64 63).toNat = 2 ^ 6 - 1 := by decide
  have key : (BitVec.ofInt 64 n &&& BitVec.ofInt 64 63).toNat = (n % ((2 ^ 64 : Nat) : Int)).toNat % 2 ^ 6 := by
    rw [BitVec.toNat_and, BitVec.toNat_ofInt, h127, Nat.and_two_pow_sub_one_eq_mod]
  show IntKind.i64.wrap ((BitVec.ofInt 64 n &&& BitVec.ofInt 64 63).toNat : Nat) = n % 64
  rw [key, IntKind.wrap_i64]
  omega
def I64 (n : Int) : Prop := -9223372036854775808 ≤ n ∧ n ≤ 9223372036854775807
theorem toInt_I64 (x : BitVec 64) : I64 x.toInt := by
  have := BitVec.le_toInt x; have := BitVec.toInt_lt (x := x); unfold I64; simp at *; omega
theorem wrap64_I64 (n : Int) : I64 (wrap64 n) := by unfold I64 wrap64; omega
theorem bits_I64 (op : BinOp) (a b : Int) : I64 (bits op .i64 a b) := by
  unfold bits; rw [wrap_toInt]; exact toInt_I64 _
theorem add_assoc64 (a b c : Int) : wrap64 (wrap64 (a + b) + c) = wrap64 (a + wrap64 (b + c)) := by unfold wrap64; omega
theorem mul_assoc64 (a b c : Int) : wrap64 (wrap64 (a * b) * c) = wrap64 (a * wrap64 (b * c)) := by
  simp only [w64_toInt, BitVec.ofInt_mul, BitVec.ofInt_toInt, BitVec.mul_assoc]
theorem mul_add64 (a b c : Int) : wrap64 (a * wrap64 (b + c)) = wrap64 (wrap64 (a * b) + wrap64 (a * c)) := by
  simp only [w64_toInt, BitVec.ofInt_mul, BitVec.ofInt_add, BitVec.ofInt_toInt, BitVec.mul_add]
theorem and_assoc64 (a b c : Int) : bits .and .i64 (bits .and .i64 a b) c = bits .and .i64 a (bits .and .i64 b c) := by
  simp only [and_toInt, BitVec.ofInt_toInt, BitVec.and_assoc]
theorem or_assoc64 (a b c : Int) : bits .or .i64 (bits .or .i64 a b) c = bits .or .i64 a (bits .or .i64 b c) := by
  simp only [or_toInt, BitVec.ofInt_toInt, BitVec.or_assoc]
theorem xor_assoc64 (a b c : Int) : bits .xor .i64 (bits .xor .i64 a b) c = bits .xor .i64 a (bits .xor .i64 b c) := by
  simp only [xor_toInt, BitVec.ofInt_toInt, BitVec.xor_assoc]
theorem ofInt_neg_one : BitVec.ofInt 64 (-1) = BitVec.allOnes 64 := by decide
theorem deMorgan64 (a b : Int) : bits .xor .i64 (bits .and .i64 a b) (-1) = bits .or .i64 (bits .xor .i64 a (-1)) (bits .xor .i64 b (-1)) := by
  simp only [xor_toInt, or_toInt, and_toInt, BitVec.ofInt_toInt, ofInt_neg_one, BitVec.xor_allOnes, BitVec.not_and]
theorem xor_xor64 (a b : Int) (ha : I64 a) : bits .xor .i64 (bits .xor .i64 a b) b = a := by
  simp only [xor_toInt, BitVec.ofInt_toInt, BitVec.xor_assoc, BitVec.xor_self, BitVec.xor_zero]
  exact toInt_ofInt_in a ha
theorem add_comm64 (a b : Int) : wrap64 (a + b) = wrap64 (b + a) := by rw [Int.add_comm]
theorem and_comm64 (a b : Int) : bits .and .i64 a b = bits .and .i64 b a := by simp only [and_toInt, BitVec.and_comm]
theorem or_comm64 (a b : Int) : bits .or .i64 a b = bits .or .i64 b a := by simp only [or_toInt, BitVec.or_comm]
theorem xor_comm64 (a b : Int) : bits .xor .i64 a b = bits .xor .i64 b a := by simp only [xor_toInt, BitVec.xor_comm]
end Go.Proofs.YtnpdjncgilekhaaGreatDoor

namespace Go.Proofs.YtnpdjncgilekhaaGreatDoor
open Go.RowKit

def bitV (b : Bool) : Int := if b then 1 else 0
theorem bit_any (b : Bool) (w : World) : Calls Tryz.prog 116 #[.bool b] w fun e w' => e = .returned (.int .i64 (bitV b)) ∧ w' = w := by
  cases b
  · go_enter Tryz.func116, Tryz.ntmps116
    go_wp2
    go_ret
    exact ⟨rfl, rfl⟩
  · go_enter Tryz.func116, Tryz.ntmps116
    go_wp2
    go_ret
    exact ⟨rfl, rfl⟩

def orderV (l : List UInt8) (a b : Int) : Option Int :=
  if (l == [60]) = true then some (bitV (decide (a < b)))
  else if (l == [60, 61]) = true then some (bitV (decide (a ≤ b)))
  else if (l == [61, 61]) = true then some (bitV (a == b))
  else if (l == [33, 61]) = true then some (bitV (a != b))
  else none
def errOf (o : Option Int) (K : Value) : Value := match o with
  | some _ => .nilIface
  | none => K
def valOf (o : Option Int) : Int := o.getD 0

theorem order_any (s : ByteArray) (a b : Int) (K : Value) (w : World) (hK : w.cell? ⟨6, 0, none⟩ = some K) : Calls Tryz.prog 118 #[.string s, .int .i64 a, .int .i64 b] w (Quiet (.tuple #[.int .i64 (valOf (orderV s.toList a b)), errOf (orderV s.toList a b) K]) w) := by
  go_enter Tryz.func118, Tryz.ntmps118
  go_wp2_with (go_at_call 116; refine (bit_any _ _).mono ?_; rintro e w' ⟨rfl, rfl⟩)
  · go_ret2; refine Quiet.same_of ?_; simp [*, orderV, errOf, valOf]
  · go_ret2; refine Quiet.same_of ?_; simp [*, orderV, errOf, valOf]
  · go_ret2; refine Quiet.same_of ?_; simp [*, orderV, errOf, valOf]
  · go_ret2; refine Quiet.same_of ?_; simp [*, orderV, errOf, valOf]
  · go_quiet (fail)
    go_wp2
    go_ret2
    refine Quiet.drew_of _ ?_; simp [*, orderV, errOf, valOf]

def divV (a b : Int) : Int := if b = 0 then 0 else wrap64 (a.tdiv b)
def remV (a b : Int) : Int := if b = 0 then a else a.tmod b
theorem divV_min : divV (-9223372036854775808) (-1) = -9223372036854775808 := by decide +kernel
theorem remV_min : remV (-9223372036854775808) (-1) = 0 := by decide +kernel
theorem min_forms (b : Int) : Value.tuple #[.int .i64 (wrap64 ((-9223372036854775808).tdiv b)), .int .i64 ((-9223372036854775808).tmod b)] = Value.tuple #[.int .i64 (wrap64 (-Int.tdiv 9223372036854775808 b)), .int .i64 (-(9223372036854775808 % b))] := by
  rw [Int.neg_tdiv, Int.neg_tmod, Int.tmod_eq_emod_of_nonneg (by omega)]
theorem div_any (a b : Int) (w : World) : Calls Tryz.prog 117 #[.int .i64 a, .int .i64 b] w (Quiet (.tuple #[.int .i64 (divV a b), .int .i64 (remV a b)]) w) := by
  by_cases hb : b = 0
  · subst hb
    go_enter Tryz.func117, Tryz.ntmps117
    go_wp2_with fail
    go_ret2; exact Quiet.same_of (by simp [divV, remV])
  · have hb0 : (b == 0) = false := by simp [hb]
    by_cases hm : a = -9223372036854775808 ∧ b = -1
    · obtain ⟨rfl, rfl⟩ := hm
      go_enter Tryz.func117, Tryz.ntmps117
      go_wp2_with fail
      go_ret2; exact Quiet.same_of (by rw [divV_min, remV_min]; rfl)
    · have e1 : divV a b = wrap64 (a.tdiv b) := by unfold divV; rw [if_neg hb]
      have e2 : remV a b = a.tmod b := by unfold remV; rw [if_neg hb]
      rw [e1, e2]
      clear e1 e2
      by_cases ha : a = -9223372036854775808
      · subst ha
        have hb1 : (b == -1) = false := by simpa using hm
        clear hm
        go_enter Tryz.func117, Tryz.ntmps117
        go_wp2_with fail
        go_quiet (fail)
        go_wp2_with fail
        go_ret2; exact Quiet.drew_of _ (min_forms b)
      · have ha1 : (a == -9223372036854775808) = false := by simp [ha]
        clear hm
        go_enter Tryz.func117, Tryz.ntmps117
        go_wp2_with fail
        go_quiet (fail)
        go_wp2_with fail
        go_ret2; exact Quiet.drew_of _ rfl

def doV (l : List UInt8) (a b : Int) : Option Int :=
  if (l == [43]) = true then some (wrap64 (a + b))
  else if (l == [45]) = true then some (wrap64 (a - b))
  else if (l == [42]) = true then some (wrap64 (a * b))
  else if (l == [47]) = true then some (divV a b)
  else if (l == [37]) = true then some (remV a b)
  else if (l == [38]) = true then some (bits .and .i64 a b)
  else if (l == [124]) = true then some (bits .or .i64 a b)
  else if (l == [94]) = true then some (bits .xor .i64 a b)
  else if (l == [60, 60]) = true then some (wrap64 (a * 2 ^ (b % 64).toNat))
  else if (l == [62, 62]) = true then some (a / 2 ^ (b % 64).toNat)
  else orderV l a b
def oneV (l : List UInt8) (a : Int) : Option Int :=
  if (l == [45]) = true then some (wrap64 (-a))
  else if (l == [33]) = true then some (bitV (a == 0))
  else none
theorem Do_any (s : ByteArray) (a b : Int) (K : Value) (w : World) (hK : w.cell? ⟨6, 0, none⟩ = some K) :
    Calls Tryz.prog 109 #[.string s, .int .i64 a, .int .i64 b] w (Quiet (.tuple #[.int .i64 (valOf (doV s.toList a b)), errOf (doV s.toList a b) K]) w) := by
  have h63 := i64_and63 b
  go_enter Tryz.func109, Tryz.ntmps109
  go_wp2_with (first
    | (go_at_call 117; refine (div_any _ _ _).mono ?_; rintro e w' ⟨rfl, n, rfl⟩)
    | (go_at_call 118; refine (order_any _ _ _ K _ hK).mono ?_; rintro e w' ⟨rfl, n, rfl⟩))
  all_goals (go_ret2; first | refine Quiet.drew_of _ ?_ | refine Quiet.same_of ?_)
  all_goals simp [*, doV, errOf, valOf]
theorem One_any (s : ByteArray) (a : Int) (K : Value) (w : World) (hK : w.cell? ⟨6, 0, none⟩ = some K) :
    Calls Tryz.prog 108 #[.string s, .int .i64 a] w (Quiet (.tuple #[.int .i64 (valOf (oneV s.toList a)), errOf (oneV s.toList a) K]) w) := by
  go_enter Tryz.func108, Tryz.ntmps108
  go_wp2_with (first
    | (go_at_call 116; refine (bit_any _ _).mono ?_; rintro e w' ⟨rfl, rfl⟩))
  · go_ret2; refine Quiet.same_of ?_; simp [*, oneV, errOf, valOf]
  · go_ret2; refine Quiet.same_of ?_; simp [*, oneV, errOf, valOf]
  · go_quiet (fail)
    go_wp2_with fail
    go_ret2; refine Quiet.drew_of _ ?_; simp [*, oneV, errOf, valOf]
@[go_sem] theorem errOf_some (v : Int) (K : Value) : errOf (some v) K = .nilIface := rfl
@[go_sem] theorem errOf_none (K : Value) : errOf none K = K := rfl
@[go_sem] theorem valOf_some (v : Int) : valOf (some v) = v := rfl
@[go_sem] theorem valOf_none : valOf none = 0 := rfl
@[go_sem] theorem doV_add (a b : Int) : doV [43] a b = some (wrap64 (a + b)) := rfl
@[go_sem] theorem doV_sub (a b : Int) : doV [45] a b = some (wrap64 (a - b)) := rfl
@[go_sem] theorem doV_mul (a b : Int) : doV [42] a b = some (wrap64 (a * b)) := rfl
@[go_sem] theorem doV_div (a b : Int) : doV [47] a b = some (divV a b) := rfl
@[go_sem] theorem doV_rem (a b : Int) : doV [37] a b = some (remV a b) := rfl
@[go_sem] theorem doV_and (a b : Int) : doV [38] a b = some (bits .and .i64 a b) := rfl
@[go_sem] theorem doV_or (a b : Int) : doV [124] a b = some (bits .or .i64 a b) := rfl
@[go_sem] theorem doV_xor (a b : Int) : doV [94] a b = some (bits .xor .i64 a b) := rfl
@[go_sem] theorem doV_shl (a b : Int) : doV [60, 60] a b = some (wrap64 (a * 2 ^ (b % 64).toNat)) := rfl
@[go_sem] theorem doV_shr (a b : Int) : doV [62, 62] a b = some (a / 2 ^ (b % 64).toNat) := rfl
@[go_sem] theorem doV_lss (a b : Int) : doV [60] a b = some (bitV (decide (a < b))) := rfl
@[go_sem] theorem doV_leq (a b : Int) : doV [60, 61] a b = some (bitV (decide (a ≤ b))) := rfl
@[go_sem] theorem doV_eql (a b : Int) : doV [61, 61] a b = some (bitV (a == b)) := rfl
@[go_sem] theorem doV_neq (a b : Int) : doV [33, 61] a b = some (bitV (a != b)) := rfl
@[go_sem] theorem oneV_neg (a : Int) : oneV [45] a = some (wrap64 (-a)) := rfl
@[go_sem] theorem oneV_not (a : Int) : oneV [33] a = some (bitV (a == 0)) := rfl
@[go_sem] theorem bitV_true : bitV true = 1 := rfl
@[go_sem] theorem bitV_false : bitV false = 0 := rfl
end Go.Proofs.YtnpdjncgilekhaaGreatDoor

namespace Go.Proofs.YtnpdjncgilekhaaGreatDoor
open Go.RowKit

/-! what is well, in plain Lean -/
abbrev Nm := List UInt8
def nmOk (l : Nm) : Bool := decide (1 ≤ l.length) && decide (l.length ≤ 8) && isLetter (l.headD 0) && l.all alnum && !wordsB.contains l
def isOneB (l : Nm) : Bool := (oneV l 0).isSome
def isTwoB (l : Nm) : Bool := (doV l 0 0).isSome
/-- An expression of n kids has nothing that its kind has not. -/
def bareB (e : PExpr) : Bool :=
  if e.kind = xNum then decide (0 ≤ e.num) && e.name.isEmpty && e.kids.isEmpty
  else if e.kind = xName then (e.num == 0) && nmOk e.name && e.kids.isEmpty
  else if e.kind = xCall then (e.num == 0) && nmOk e.name
  else if e.kind = xOne then (e.num == 0) && isOneB e.name && decide (e.kids.length = 1)
  else if e.kind = xTwo then (e.num == 0) && isTwoB e.name && decide (e.kids.length = 2)
  else false
abbrev Tab := List (Nm × Nat)
def argsOf (fs : Tab) (n : Nm) : Option Nat := (fs.find? fun f => f.1 == n).map (·.2)
def callC (fs : Tab) (n : Nm) (k : Nat) : Nat := match argsOf fs n with
  | none => 6
  | some m => if m = k then 0 else 9
def selfC (fs : Tab) (vis : List Nm) (e : PExpr) : Nat := if e.kind = xName then (if vis.contains e.name then 0 else 6) else if e.kind = xCall then callC fs e.name e.kids.length else 0
mutual
def exprC (fs : Tab) (vis : List Nm) : PExpr → Nat
  | ⟨kind, num, name, kids⟩ => if bareB ⟨kind, num, name, kids⟩ then (if kidsC fs vis kids = 0 then selfC fs vis ⟨kind, num, name, kids⟩ else kidsC fs vis kids) else 3
def kidsC (fs : Tab) (vis : List Nm) : List PExpr → Nat
  | [] => 0
  | k :: ks => if exprC fs vis k = 0 then kidsC fs vis ks else exprC fs vis k
end
theorem exprC_eq (fs : Tab) (vis : List Nm) (e : PExpr) : exprC fs vis e = if bareB e then (if kidsC fs vis e.kids = 0 then selfC fs vis e else kidsC fs vis e.kids) else 3 := by
  cases e; rw [exprC]
theorem kidsC_nil (fs : Tab) (vis : List Nm) : kidsC fs vis [] = 0 := by rw [kidsC]
theorem kidsC_cons (fs : Tab) (vis : List Nm) (k : PExpr) (ks : List PExpr) : kidsC fs vis (k :: ks) = if exprC fs vis k = 0 then kidsC fs vis ks else exprC fs vis k := by rw [kidsC]
/-- A statement has nothing that its kind has not. -/
def shapedB (kind name : Nm) (t l : Nat) : Bool :=
  if kind = sVar ∨ kind = sSet then nmOk name && decide (t = 0) && decide (l = 0)
  else if kind = sIf then name.isEmpty
  else if kind = sWhile then name.isEmpty && decide (l = 0)
  else if kind = sReturn ∨ kind = sPrint then name.isEmpty && decide (t = 0) && decide (l = 0)
  else false
def addC (name : Nm) (all vis : List Nm) : Nat × List Nm × List Nm := if all.contains name then (7, all, vis) else if 12 ≤ all.length then (8, all, vis) else (0, all ++ [name], vis ++ [name])
mutual
def stmtC (fs : Tab) : PStmt → List Nm → List Nm → Nat × List Nm × List Nm
  | ⟨kind, name, e, th, el⟩, all, vis =>
    if shapedB kind name th.length el.length then
      if exprC fs vis e = 0 then
        if kind = sVar then addC name all vis
        else if kind = sSet ∧ vis.contains name = false then (6, all, vis)
        else if (blockC fs th all vis).1 = 0 then ((blockC fs el (blockC fs th all vis).2 vis).1, (blockC fs el (blockC fs th all vis).2 vis).2, vis)
        else ((blockC fs th all vis).1, (blockC fs th all vis).2, vis)
      else (exprC fs vis e, all, vis)
    else (3, all, vis)
def blockC (fs : Tab) : List PStmt → List Nm → List Nm → Nat × List Nm
  | [], all, _ => (0, all)
  | s :: ss, all, vis => if (stmtC fs s all vis).1 = 0 then blockC fs ss (stmtC fs s all vis).2.1 (stmtC fs s all vis).2.2 else ((stmtC fs s all vis).1, (stmtC fs s all vis).2.1)
end
theorem stmtC_eq (fs : Tab) (s : PStmt) (all vis : List Nm) : stmtC fs s all vis =
    if shapedB s.kind s.name s.th.length s.el.length then
      if exprC fs vis s.e = 0 then
        if s.kind = sVar then addC s.name all vis
        else if s.kind = sSet ∧ vis.contains s.name = false then (6, all, vis)
        else if (blockC fs s.th all vis).1 = 0 then ((blockC fs s.el (blockC fs s.th all vis).2 vis).1, (blockC fs s.el (blockC fs s.th all vis).2 vis).2, vis)
        else ((blockC fs s.th all vis).1, (blockC fs s.th all vis).2, vis)
      else (exprC fs vis s.e, all, vis)
    else (3, all, vis) := by cases s; rw [stmtC]
theorem blockC_nil (fs : Tab) (all vis : List Nm) : blockC fs [] all vis = (0, all) := by rw [blockC]
theorem blockC_cons (fs : Tab) (s : PStmt) (ss : List PStmt) (all vis : List Nm) : blockC fs (s :: ss) all vis = if (stmtC fs s all vis).1 = 0 then blockC fs ss (stmtC fs s all vis).2.1 (stmtC fs s all vis).2.2 else ((stmtC fs s all vis).1, (stmtC fs s all vis).2.1) := by rw [blockC]
/-- Is one there twice? -/
def dupC (own : List Nm) : List Nm → Bool
  | [] => false
  | p :: ps => own.contains p || dupC (own ++ [p]) ps
def namesC (f : PFun) (ahead : List PFun) : Nat :=
  if nmOk f.name && f.params.all nmOk then
    if ahead.any (fun g => g.name == f.name) then 7 else if 4 < f.params.length then 9 else if dupC [] f.params then 7 else 0
  else 5
def tabOf (fs : List PFun) : Tab := fs.map fun f => (f.name, f.params.length)
def funC (fs : Tab) (ahead : List PFun) (f : PFun) : Nat := if namesC f ahead = 0 then (blockC fs f.body f.params f.params).1 else namesC f ahead
def progFrom (fs : Tab) (ahead : List PFun) : List PFun → Nat × Int
  | [] => (0, -1)
  | f :: rest => if funC fs ahead f = 0 then progFrom fs (ahead ++ [f]) rest else (funC fs ahead f, ahead.length)
def progC (fs : List PFun) : Nat × Int := if 8 < fs.length then (8, -1) else progFrom (tabOf fs) [] fs

/-! lengths, codes -/
theorem callC_code (fs : Tab) (n : Nm) (k : Nat) : callC fs n k ≤ 10 := by unfold callC; split <;> (try split) <;> omega
theorem selfC_code (fs : Tab) (vis : List Nm) (e : PExpr) : selfC fs vis e ≤ 10 := by
  unfold selfC
  have := callC_code fs e.name e.kids.length
  repeat (first | omega | split)
theorem kidsC_code {fs : Tab} {vis : List Nm} : ∀ (ks : List PExpr), (∀ k ∈ ks, exprC fs vis k ≤ 10) → kidsC fs vis ks ≤ 10 := by
  intro ks
  induction ks with
  | nil => intro _; rw [kidsC_nil]; omega
  | cons k ks ih =>
    intro h
    rw [kidsC_cons]
    split
    · exact ih fun x hx => h x (by simp [hx])
    · exact h k (by simp)
theorem exprC_code (fs : Tab) (vis : List Nm) : ∀ e : PExpr, exprC fs vis e ≤ 10 := by
  intro e
  induction e using PExpr.ind with
  | h e ih =>
    rw [exprC_eq]
    have h1 := kidsC_code e.kids ih
    have h2 := selfC_code fs vis e
    repeat (first | omega | split)
/-- What a statement leaves. -/
def Left (fs : Tab) (s : PStmt) : Prop := ∀ all vis, (stmtC fs s all vis).1 ≤ 10 ∧ (all.length ≤ 12 → (stmtC fs s all vis).2.1.length ≤ 12) ∧
  (vis.length ≤ all.length → (stmtC fs s all vis).2.2.length ≤ (stmtC fs s all vis).2.1.length) ∧ all.length ≤ (stmtC fs s all vis).2.1.length ∧ ∃ more, (stmtC fs s all vis).2.2 = vis ++ more
def LeftB (fs : Tab) (ss : List PStmt) : Prop := ∀ all vis, (blockC fs ss all vis).1 ≤ 10 ∧ (all.length ≤ 12 → (blockC fs ss all vis).2.length ≤ 12) ∧ all.length ≤ (blockC fs ss all vis).2.length
theorem leftB_of (fs : Tab) : ∀ (ss : List PStmt), (∀ s ∈ ss, Left fs s) → LeftB fs ss := by
  intro ss
  induction ss with
  | nil => intro _ all vis; rw [blockC_nil]; exact ⟨by simp, fun h => h, Nat.le_refl _⟩
  | cons s ss ih =>
    intro h all vis
    obtain ⟨a1, a2, a3, a4, -⟩ := h s (by simp) all vis
    rw [blockC_cons]
    split
    · obtain ⟨b1, b2, b3⟩ := ih (fun x hx => h x (by simp [hx])) (stmtC fs s all vis).2.1 (stmtC fs s all vis).2.2
      exact ⟨b1, fun q => b2 (a2 q), Nat.le_trans a4 b3⟩
    · exact ⟨a1, a2, a4⟩
theorem addC_left (name : Nm) (all vis : List Nm) : (addC name all vis).1 ≤ 10 ∧ (all.length ≤ 12 → (addC name all vis).2.1.length ≤ 12) ∧
    (vis.length ≤ all.length → (addC name all vis).2.2.length ≤ (addC name all vis).2.1.length) ∧ all.length ≤ (addC name all vis).2.1.length ∧ ∃ more, (addC name all vis).2.2 = vis ++ more := by
  unfold addC
  split
  · exact ⟨by simp, fun h => h, fun h => h, Nat.le_refl _, [], by simp⟩
  · split
    · exact ⟨by simp, fun h => h, fun h => h, Nat.le_refl _, [], by simp⟩
    · exact ⟨by simp, fun _ => by simp; omega, fun h => by simp; omega, by simp, _, rfl⟩
theorem left_of (fs : Tab) (s : PStmt) (ht : LeftB fs s.th) (hl : LeftB fs s.el) : Left fs s := by
  intro all vis
  have h0 := exprC_code fs vis s.e
  obtain ⟨t1, t2, t3⟩ := ht all vis
  obtain ⟨l1, l2, l3⟩ := hl (blockC fs s.th all vis).2 vis
  rw [stmtC_eq]
  split
  · split
    · split
      · exact addC_left _ _ _
      · split
        · exact ⟨by simp, fun h => h, fun h => h, Nat.le_refl _, [], by simp⟩
        · split
          · exact ⟨l1, fun h => l2 (t2 h), fun h => by simp only; omega, by simp only; omega, [], by simp⟩
          · exact ⟨t1, t2, fun h => by simp only; omega, t3, [], by simp⟩
    · exact ⟨h0, fun h => h, fun h => h, Nat.le_refl _, [], by simp⟩
  · exact ⟨by simp, fun h => h, fun h => h, Nat.le_refl _, [], by simp⟩
theorem left_any (fs : Tab) : ∀ s : PStmt, Left fs s := by
  intro s
  induction s using PStmt.ind with
  | h s iht ihl => exact left_of fs s (leftB_of fs _ iht) (leftB_of fs _ ihl)
theorem leftB_any (fs : Tab) (ss : List PStmt) : LeftB fs ss := leftB_of fs ss fun s _ => left_any fs s
theorem namesC_code (f : PFun) (ahead : List PFun) : namesC f ahead ≤ 10 := by unfold namesC; repeat (first | omega | split)
theorem funC_code (fs : Tab) (ahead : List PFun) (f : PFun) : funC fs ahead f ≤ 10 := by
  unfold funC
  have h1 := namesC_code f ahead
  have h2 := (leftB_any fs f.body f.params f.params).1
  split <;> omega
end Go.Proofs.YtnpdjncgilekhaaGreatDoor

namespace Go.Proofs.YtnpdjncgilekhaaGreatDoor
open Go.RowKit

/-! what a program does, in plain Lean -/
structure St where
  how : Nm
  out : List Int
  ticks : Nat
def St.over (s : St) : Bool := !s.how.isEmpty
def tiredN : Nm := [116, 105, 114, 101, 100]
def deepN : Nm := [100, 101, 101, 112]
def loudN : Nm := [108, 111, 117, 100]
def doneN : Nm := [100, 111, 110, 101]
abbrev Caller := Nm → List Int → St → Int × St
abbrev Vs := List (Nm × Int)
def lookV (vs : Vs) (n : Nm) : Option Int := (vs.find? fun x => x.1 == n).map (·.2)
def getV (vs : Vs) (n : Nm) : Int := (lookV vs n).getD 0
def putV : Vs → Nm → Int → Vs
  | [], n, v => [(n, v)]
  | x :: xs, n, v => if x.1 == n then (n, v) :: xs else x :: putV xs n v
theorem lookV_put : ∀ (vs : Vs) (n : Nm) (v : Int) (k : Nm), lookV (putV vs n v) k = if k = n then some v else lookV vs k := by
  intro vs
  induction vs with
  | nil =>
    intro n v k
    unfold putV lookV
    by_cases h : k = n
    · subst h; simp
    · have : (n == k) = false := beq_eq_false_iff_ne.2 fun e => h e.symm
      simp [this, h]
  | cons x xs ih =>
    intro n v k
    have ih' := ih n v k
    unfold lookV at ih' ⊢
    unfold putV
    by_cases hx : (x.1 == n) = true
    · rw [if_pos hx]
      have hxe : x.1 = n := by simpa using hx
      by_cases h : k = n
      · subst h; simp
      · have h1 : (n == k) = false := beq_eq_false_iff_ne.2 fun e => h e.symm
        simp [hxe, h1, h]
    · rw [if_neg hx, List.find?_cons, List.find?_cons]
      by_cases h1 : (x.1 == k) = true
      · have h2 : x.1 = k := by simpa using h1
        have h3 : k ≠ n := fun e => hx (by rw [h2, e]; simp)
        simp [h1, h3]
      · simp only [Bool.not_eq_true] at h1
        rw [h1]; exact ih'
theorem length_putV : ∀ (vs : Vs) (n : Nm) (v : Int), (putV vs n v).length = if (lookV vs n).isSome then vs.length else vs.length + 1 := by
  intro vs
  induction vs with
  | nil => intro n v; rfl
  | cons x xs ih =>
    intro n v
    have ih' := ih n v
    unfold lookV at ih' ⊢
    unfold putV
    rw [List.find?_cons]
    by_cases hx : (x.1 == n) = true
    · rw [if_pos hx, hx]; rfl
    · simp only [Bool.not_eq_true] at hx
      rw [if_neg (by rw [hx]; decide), hx]
      simp only [List.length_cons, ih']
      split <;> rfl
/-- The names that have a value, each once. -/
def namesV (vs : Vs) : List Nm := vs.map (·.1)
theorem lookV_isSome (vs : Vs) (n : Nm) : (lookV vs n).isSome = (namesV vs).contains n := by
  induction vs with
  | nil => rfl
  | cons x xs ih =>
    unfold lookV namesV at *
    rw [List.find?_cons, List.map_cons, List.contains_cons]
    by_cases hx : (x.1 == n) = true
    · have : n = x.1 := by simpa using (show x.1 = n by simpa using hx).symm
      rw [hx, this]; simp
    · simp only [Bool.not_eq_true] at hx
      have h2 : (n == x.1) = false := beq_eq_false_iff_ne.2 fun e => (beq_eq_false_iff_ne.1 hx) e.symm
      rw [hx, h2]; exact ih
theorem namesV_put : ∀ (vs : Vs) (n : Nm) (v : Int), namesV (putV vs n v) = if (lookV vs n).isSome then namesV vs else namesV vs ++ [n] := by
  intro vs
  induction vs with
  | nil => intro n v; rfl
  | cons x xs ih =>
    intro n v
    have ih' := ih n v
    unfold lookV namesV at ih' ⊢
    unfold putV
    rw [List.find?_cons]
    by_cases hx : (x.1 == n) = true
    · have : x.1 = n := by simpa using hx
      rw [if_pos hx, hx]; simp [this]
    · simp only [Bool.not_eq_true] at hx
      rw [if_neg (by rw [hx]; decide), hx]
      simp only [List.map_cons, ih']
      split <;> simp
/-- The names stand once, and in L. -/
def OnlyIn (vs : Vs) (L : List Nm) : Prop := (namesV vs).Nodup ∧ ∀ x ∈ namesV vs, x ∈ L
theorem OnlyIn.put {vs : Vs} {L : List Nm} (h : OnlyIn vs L) {n : Nm} (hn : n ∈ L) (v : Int) : OnlyIn (putV vs n v) L := by
  unfold OnlyIn
  rw [namesV_put]
  split
  · exact h
  · rename_i hc
    rw [lookV_isSome] at hc
    simp only [Bool.not_eq_true, List.contains_eq_mem, decide_eq_false_iff_not] at hc
    refine ⟨List.nodup_append.2 ⟨h.1, by simp, fun a ha b hb e => ?_⟩, fun x hx => ?_⟩
    · simp at hb; subst hb; subst e; exact hc ha
    · rcases List.mem_append.1 hx with q | q
      · exact h.2 x q
      · simp at q; subst q; exact hn
theorem OnlyIn.nil (L : List Nm) : OnlyIn [] L := ⟨by simp [namesV], by simp [namesV]⟩
theorem nodup_len {α : Type} [BEq α] [LawfulBEq α] : ∀ {a b : List α}, a.Nodup → (∀ x ∈ a, x ∈ b) → a.length ≤ b.length := by
  intro a
  induction a with
  | nil => intro b _ _; exact Nat.zero_le _
  | cons x xs ih =>
    intro b hn hb
    have hx : x ∈ b := hb x (by simp)
    obtain ⟨h1, h2⟩ := List.nodup_cons.1 hn
    have h3 := ih (b := b.erase x) h2 fun y hy => (List.mem_erase_of_ne (fun (e : y = x) => h1 (by rw [← e]; exact hy))).2 (hb y (by simp [hy]))
    rw [List.length_erase_of_mem hx] at h3
    have h4 := List.length_pos_of_mem hx
    simp only [List.length_cons]
    omega
theorem OnlyIn.len {vs : Vs} {L : List Nm} (h : OnlyIn vs L) : vs.length ≤ L.length := by
  have := nodup_len h.1 h.2
  simpa [namesV] using this
def tickP (T : Nat) (st : St) : St := if st.ticks < T then { st with ticks := st.ticks + 1 } else { st with how := tiredN }
def printP (n : Int) (st : St) : St := if 1000 ≤ st.out.length then { st with how := loudN } else { st with out := st.out ++ [n] }
/-- An expression's own part, behind its kids. -/
def selfP (call : Caller) (vs : Vs) (kind name : Nm) (num : Int) (r : List Int × St) : Int × St :=
  if r.2.over then (0, r.2)
  else if kind = xName then (getV vs name, r.2)
  else if kind = xCall then call name r.1 r.2
  else if kind = xOne then (valOf (oneV name (r.1.getD 0 0)), r.2)
  else if kind = xTwo then (valOf (doV name (r.1.getD 0 0) (r.1.getD 1 0)), r.2)
  else (num, r.2)
mutual
def evalP (call : Caller) (vs : Vs) : PExpr → St → Int × St
  | ⟨kind, num, name, kids⟩, st => if st.over then (0, st) else selfP call vs kind name num (kidsP call vs kids st)
def kidsP (call : Caller) (vs : Vs) : List PExpr → St → List Int × St
  | [], st => ([], st)
  | k :: ks, st => ((evalP call vs k st).1 :: (kidsP call vs ks (evalP call vs k st).2).1, (kidsP call vs ks (evalP call vs k st).2).2)
end
theorem evalP_eq (call : Caller) (vs : Vs) (e : PExpr) (st : St) : evalP call vs e st = if st.over then (0, st) else selfP call vs e.kind e.name e.num (kidsP call vs e.kids st) := by cases e; rw [evalP]
theorem kidsP_nil (call : Caller) (vs : Vs) (st : St) : kidsP call vs [] st = ([], st) := by rw [kidsP]
theorem kidsP_cons (call : Caller) (vs : Vs) (k : PExpr) (ks : List PExpr) (st : St) : kidsP call vs (k :: ks) st = ((evalP call vs k st).1 :: (kidsP call vs ks (evalP call vs k st).2).1, (kidsP call vs ks (evalP call vs k st).2).2) := by rw [kidsP]
/-- A frame: its variables, its answer. -/
structure Fr where
  vars : Vs
  ans : Option Int
abbrev FS := Fr × St
def stopP (s : FS) : Bool := s.2.over || s.1.ans.isSome
def loopP (T : Nat) (cond : FS → Int × St) (body : FS → FS) : Nat → FS → FS
  | 0, s => if stopP s then s else (s.1, tickP T s.2)
  | n + 1, s => if stopP s then s else if (tickP T s.2).over then (s.1, tickP T s.2)
      else if (cond (s.1, tickP T s.2)).2.over || (cond (s.1, tickP T s.2)).1 == 0 then (s.1, (cond (s.1, tickP T s.2)).2)
      else loopP T cond body n (body (s.1, (cond (s.1, tickP T s.2)).2))
mutual
def stmtP (call : Caller) (T : Nat) : PStmt → FS → FS
  | ⟨kind, name, e, th, el⟩, s =>
    if kind = sWhile then loopP T (fun s => evalP call s.1.vars e s.2) (fun s => blockP call T th s) (T - s.2.ticks) s
    else if (evalP call s.1.vars e s.2).2.over then (s.1, (evalP call s.1.vars e s.2).2)
    else if kind = sVar ∨ kind = sSet then (⟨putV s.1.vars name (evalP call s.1.vars e s.2).1, s.1.ans⟩, (evalP call s.1.vars e s.2).2)
    else if kind = sPrint then (s.1, printP (evalP call s.1.vars e s.2).1 (evalP call s.1.vars e s.2).2)
    else if kind = sReturn then (⟨s.1.vars, some (evalP call s.1.vars e s.2).1⟩, (evalP call s.1.vars e s.2).2)
    else if (evalP call s.1.vars e s.2).1 = 0 then blockP call T el (s.1, (evalP call s.1.vars e s.2).2)
    else blockP call T th (s.1, (evalP call s.1.vars e s.2).2)
def blockP (call : Caller) (T : Nat) : List PStmt → FS → FS
  | [], s => s
  | x :: xs, s => if stopP s then s else blockP call T xs (stmtP call T x s)
end
theorem stmtP_eq (call : Caller) (T : Nat) (x : PStmt) (s : FS) : stmtP call T x s =
    if x.kind = sWhile then loopP T (fun s => evalP call s.1.vars x.e s.2) (fun s => blockP call T x.th s) (T - s.2.ticks) s
    else if (evalP call s.1.vars x.e s.2).2.over then (s.1, (evalP call s.1.vars x.e s.2).2)
    else if x.kind = sVar ∨ x.kind = sSet then (⟨putV s.1.vars x.name (evalP call s.1.vars x.e s.2).1, s.1.ans⟩, (evalP call s.1.vars x.e s.2).2)
    else if x.kind = sPrint then (s.1, printP (evalP call s.1.vars x.e s.2).1 (evalP call s.1.vars x.e s.2).2)
    else if x.kind = sReturn then (⟨s.1.vars, some (evalP call s.1.vars x.e s.2).1⟩, (evalP call s.1.vars x.e s.2).2)
    else if (evalP call s.1.vars x.e s.2).1 = 0 then blockP call T x.el (s.1, (evalP call s.1.vars x.e s.2).2)
    else blockP call T x.th (s.1, (evalP call s.1.vars x.e s.2).2) := by cases x; rw [stmtP]
theorem blockP_nil (call : Caller) (T : Nat) (s : FS) : blockP call T [] s = s := by rw [blockP]
theorem blockP_cons (call : Caller) (T : Nat) (x : PStmt) (xs : List PStmt) (s : FS) : blockP call T (x :: xs) s = if stopP s then s else blockP call T xs (stmtP call T x s) := by rw [blockP]
/-- Parameters with their arguments. -/
def bindP : List Nm → List Int → Vs → Vs
  | [], _, vs => vs
  | p :: ps, l, vs => bindP ps l.tail (putV vs p (l.headD 0))
def bodyP (call : Caller) (T : Nat) (f : PFun) (args : List Int) (st : St) : Int × St := ((blockP call T f.body (⟨bindP f.params args [], none⟩, st)).1.ans.getD 0, (blockP call T f.body (⟨bindP f.params args [], none⟩, st)).2)
def findF (fs : List PFun) (n : Nm) : Option PFun := fs.find? fun f => f.name == n
def callP (fs : List PFun) (T : Nat) : Nat → Caller
  | 0, _, _, st => if st.over then (0, st) else if (tickP T st).over then (0, tickP T st) else (0, { tickP T st with how := deepN })
  | d + 1, name, args, st => if st.over then (0, st) else if (tickP T st).over then (0, tickP T st) else
      match findF fs name with
      | none => (0, tickP T st)
      | some f => bodyP (callP fs T d) T f args (tickP T st)
def St0 : St := ⟨[], [], 0⟩
/-- The outcome of a run: how, value, out, ticks. -/
def runP (fs : List PFun) (name : Nm) (args : List Int) (T : Nat) : Nm × Int × List Int × Nat :=
  if (callP fs T 40 name args St0).2.over then ((callP fs T 40 name args St0).2.how, 0, (callP fs T 40 name args St0).2.out, (callP fs T 40 name args St0).2.ticks)
  else (doneN, (callP fs T 40 name args St0).1, (callP fs T 40 name args St0).2.out, (callP fs T 40 name args St0).2.ticks)

/-! what is so of each step -/
/-- From a to b: nothing is done once it is over; what was printed stands; ticks are at most T. -/
structure Go1 (T : Nat) (a b : St) : Prop where
  stop : a.over = true → b = a
  out : a.out <+: b.out
  tick : a.ticks ≤ b.ticks
  most : a.ticks ≤ T → b.ticks ≤ T
  thousand : a.out.length ≤ 1000 → b.out.length ≤ 1000
  tired : (a.how = tiredN → T ≤ a.ticks) → b.how = tiredN → T ≤ b.ticks
theorem Go1.refl (T : Nat) (a : St) : Go1 T a a := ⟨fun _ => rfl, List.prefix_refl _, Nat.le_refl _, fun h => h, fun h => h, fun h => h⟩
theorem Go1.trans {T : Nat} {a b c : St} (h : Go1 T a b) (k : Go1 T b c) : Go1 T a c :=
  ⟨fun q => by have := h.stop q; subst this; exact k.stop q, h.out.trans k.out, Nat.le_trans h.tick k.tick, fun q => k.most (h.most q), fun q => k.thousand (h.thousand q), fun q => k.tired (h.tired q)⟩
theorem go_tick {T : Nat} {a : St} (h : a.over = false) : Go1 T a (tickP T a) := by
  unfold tickP
  split
  · exact ⟨fun q => (by rw [h] at q; cases q), List.prefix_refl _, by simp, fun _ => by simp; omega, fun q => q, fun q r => by have := q r; simp; omega⟩
  · exact ⟨fun q => (by rw [h] at q; cases q), List.prefix_refl _, Nat.le_refl _, fun q => q, fun q => q, fun _ _ => by simp; omega⟩
theorem go_print {T : Nat} {a : St} (h : a.over = false) (n : Int) : Go1 T a (printP n a) := by
  unfold printP
  split
  · exact ⟨fun q => (by rw [h] at q; cases q), List.prefix_refl _, Nat.le_refl _, fun q => q, fun q => q, fun _ r => by simp [loudN, tiredN] at r⟩
  · exact ⟨fun q => (by rw [h] at q; cases q), List.prefix_append _ _, Nat.le_refl _, fun q => q, fun _ => by simp; omega, fun q => q⟩
def GoC (T : Nat) (call : Caller) : Prop := ∀ n l st, Go1 T st (call n l st).2
theorem go_self {T : Nat} {call : Caller} (h : GoC T call) (vs : Vs) (kind name : Nm) (num : Int) (r : List Int × St) : Go1 T r.2 (selfP call vs kind name num r).2 := by
  unfold selfP
  repeat (first | exact Go1.refl _ _ | exact h _ _ _ | split)
theorem go_kids {T : Nat} {call : Caller} (vs : Vs) : ∀ (ks : List PExpr), (∀ k ∈ ks, ∀ st, Go1 T st (evalP call vs k st).2) → ∀ st, Go1 T st (kidsP call vs ks st).2 := by
  intro ks
  induction ks with
  | nil => intro _ st; rw [kidsP_nil]; exact Go1.refl _ _
  | cons k ks ih =>
    intro h st
    rw [kidsP_cons]
    exact (h k (by simp) st).trans (ih (fun x hx => h x (by simp [hx])) _)
theorem go_eval {T : Nat} {call : Caller} (h : GoC T call) (vs : Vs) : ∀ (e : PExpr) (st : St), Go1 T st (evalP call vs e st).2 := by
  intro e
  induction e using PExpr.ind with
  | h e ih =>
    intro st
    rw [evalP_eq]
    split
    · exact Go1.refl _ _
    · exact (go_kids vs e.kids ih st).trans (go_self h vs _ _ _ _)
theorem go_loop {T : Nat} {cond : FS → Int × St} {body : FS → FS} (hc : ∀ s, Go1 T s.2 (cond s).2) (hb : ∀ s, Go1 T s.2 (body s).2) : ∀ (n : Nat) (s : FS), Go1 T s.2 (loopP T cond body n s).2 := by
  intro n
  induction n with
  | zero =>
    intro s
    unfold loopP
    split
    · exact Go1.refl _ _
    · rename_i h
      have h1 : s.2.over = false := by unfold stopP at h; simp at h; exact h.1
      exact go_tick h1
  | succ n ih =>
    intro s
    unfold loopP
    split
    · exact Go1.refl _ _
    · rename_i h
      have h1 : s.2.over = false := by unfold stopP at h; simp at h; exact h.1
      have h2 := go_tick (T := T) h1
      split
      · exact h2
      · have h3 := hc (s.1, tickP T s.2)
        split
        · exact h2.trans h3
        · exact (h2.trans h3).trans ((hb (s.1, (cond (s.1, tickP T s.2)).2)).trans (ih _))
theorem go_blockL {T : Nat} {call : Caller} : ∀ (ss : List PStmt), (∀ x ∈ ss, ∀ s, Go1 T s.2 (stmtP call T x s).2) → ∀ s, Go1 T s.2 (blockP call T ss s).2 := by
  intro ss
  induction ss with
  | nil => intro _ s; rw [blockP_nil]; exact Go1.refl _ _
  | cons x xs ih =>
    intro h s
    rw [blockP_cons]
    split
    · exact Go1.refl _ _
    · exact (h x (by simp) s).trans (ih (fun y hy => h y (by simp [hy])) _)
theorem go_stmt {T : Nat} {call : Caller} (h : GoC T call) : ∀ (x : PStmt) (s : FS), Go1 T s.2 (stmtP call T x s).2 := by
  intro x
  induction x using PStmt.ind with
  | h x iht ihl =>
    intro s
    have h1 := go_eval h s.1.vars x.e s.2
    rw [stmtP_eq]
    split
    · exact go_loop (fun s => go_eval h _ _ _) (fun s => go_blockL x.th iht s) _ _
    · split
      · exact h1
      · rename_i h2
        simp only [Bool.not_eq_true] at h2
        split
        · exact h1
        · split
          · exact h1.trans (go_print h2 _)
          · split
            · exact h1
            · split
              · exact h1.trans (go_blockL x.el ihl (s.1, _))
              · exact h1.trans (go_blockL x.th iht (s.1, _))
theorem go_block {T : Nat} {call : Caller} (h : GoC T call) (ss : List PStmt) (s : FS) : Go1 T s.2 (blockP call T ss s).2 := go_blockL ss (fun x _ => go_stmt h x) s
theorem go_call (fs : List PFun) (T : Nat) : ∀ d, GoC T (callP fs T d) := by
  intro d
  induction d with
  | zero =>
    intro n l st
    unfold callP
    split
    · exact Go1.refl _ _
    · rename_i h
      simp only [Bool.not_eq_true] at h
      have h2 := go_tick (T := T) h
      split
      · exact h2
      · rename_i h3
        exact ⟨fun q => (by rw [h] at q; cases q), h2.out, h2.tick, h2.most, h2.thousand, fun _ r => by simp [deepN, tiredN] at r⟩
  | succ d ih =>
    intro n l st
    unfold callP
    split
    · exact Go1.refl _ _
    · rename_i h
      simp only [Bool.not_eq_true] at h
      have h2 := go_tick (T := T) h
      split
      · exact h2
      · split
        · exact h2
        · rename_i f _
          exact h2.trans (go_block ih f.body (⟨bindP f.params l [], none⟩, tickP T st))
end Go.Proofs.YtnpdjncgilekhaaGreatDoor

namespace Go.Proofs.YtnpdjncgilekhaaGreatDoor
open Go.RowKit

theorem IsIn_any (s : ByteArray) (A : Option Addr) (xs : List ByteArray) (c : Nat) (w : World) (hr : Row w A (xs.map .string)) (hn : xs.length ≤ 1000000) :
    Calls Tryz.prog 38 #[.string s, .slice A xs.length c] w fun e w' => e = .returned (.bool (isIn s xs)) ∧ w' = w := by
  go_enter Tryz.func38, Tryz.ntmps38
  go_wp2_with fail
  go_loop [5] (fun i => ∃ k : Nat, k ≤ xs.length ∧ i = .int .i64 k ∧ isIn s xs = isIn s (xs.drop k)) (fun i => xs.length - (intOf i).toNat)
  case atStart => exact ⟨0, Nat.zero_le _, rfl, by simp⟩
  case round =>
    obtain ⟨k, hk, rfl, hI⟩ := hrel
    have HI := Lib.hid hI
    clear hI
    by_cases hlt : k < xs.length
    · obtain ⟨b, off, rfl, hc⟩ := hr k _ (strs_get hlt)
      have HD := Lib.hid (isIn_drop (s := s) hlt)
      by_cases he : (xs[k].toList == s.toList) = true
      · go_wp2_with fail
        go_ret
        exact ⟨by rw [HI.out, HD.out, he]; rfl, rfl⟩
      · have he' : (xs[k].toList == s.toList) = false := by simpa using he
        clear he
        go_wp2_with fail
        go_round
        case rel => exact ⟨k + 1, by omega, by go_num, by rw [HI.out, HD.out, he']; rfl⟩
        case measure => simp [intOf]; omega
    · have hk' : k = xs.length := by omega
      subst hk'
      go_wp2_with fail
      go_ret
      exact ⟨by rw [HI.out]; simp [isIn], rfl⟩

theorem Index_any (s : ByteArray) (A : Option Addr) (xs : List ByteArray) (c : Nat) (w : World) (hr : Row w A (xs.map .string)) (hn : xs.length ≤ 1000000) :
    Calls Tryz.prog 57 #[.slice A xs.length c, .string s] w fun e w' => e = .returned (.int .i64 (idxV s xs 0)) ∧ w' = w := by
  go_enter Tryz.func57, Tryz.ntmps57
  go_wp2_with fail
  go_loop [8] (fun i => ∃ k : Nat, k ≤ xs.length ∧ i = .int .i64 k ∧ idxV s xs 0 = idxV s (xs.drop k) k) (fun i => xs.length - (intOf i).toNat)
  case atStart => exact ⟨0, Nat.zero_le _, rfl, by simp⟩
  case round =>
    obtain ⟨k, hk, rfl, hI⟩ := hrel
    have HI := Lib.hid hI
    clear hI
    by_cases hlt : k < xs.length
    · obtain ⟨b, off, rfl, hc⟩ := hr k _ (strs_get hlt)
      have HD := Lib.hid (idxV_drop (s := s) hlt)
      by_cases he : (s.toList == xs[k].toList) = true
      · go_wp2_with fail
        go_ret
        exact ⟨by rw [HI.out, HD.out, if_pos he]; rfl, rfl⟩
      · have he' : (s.toList == xs[k].toList) = false := by simpa using he
        have HE := Lib.hid he
        clear he
        go_wp2_with fail
        go_round
        case rel => exact ⟨k + 1, by omega, by go_num, by rw [HI.out, HD.out, if_neg HE.out]⟩
        case measure => simp [intOf]; omega
    · have hk' : k = xs.length := by omega
      subst hk'
      go_wp2_with fail
      go_ret
      exact ⟨by rw [HI.out]; simp [idxV], rfl⟩
theorem Contains_any (s : ByteArray) (A : Option Addr) (xs : List ByteArray) (c : Nat) (w : World) (hr : Row w A (xs.map .string)) (hn : xs.length ≤ 1000000) :
    Calls Tryz.prog 36 #[.slice A xs.length c, .string s] w fun e w' => e = .returned (.bool (isIn s xs)) ∧ w' = w := by
  have HB := Lib.hid (idxV_isIn s xs 0)
  go_enter Tryz.func36, Tryz.ntmps36
  go_wp2_with (go_at_call 57; refine (Index_any _ _ _ _ _ hr hn).mono ?_; rintro e w' ⟨rfl, rfl⟩)
  go_ret
  exact ⟨by rw [← HB.out]; rfl, rfl⟩
theorem sameS_len {xs ys : List ByteArray} (h : xs.length ≠ ys.length) : sameS xs ys = false := by
  unfold sameS; rw [beq_eq_false_iff_ne]; intro e; exact h (by simpa using congrArg List.length e)
theorem sameS_step {xs ys : List ByteArray} {k : Nat} (h : k < xs.length) (h' : k < ys.length) : sameS (xs.drop k) (ys.drop k) = (xs[k].toList == ys[k].toList && sameS (xs.drop (k + 1)) (ys.drop (k + 1))) := by
  unfold sameS; rw [List.drop_eq_getElem_cons h, List.drop_eq_getElem_cons h']; rfl
theorem SameTexts_any (A B : Option Addr) (xs ys : List ByteArray) (c d : Nat) (w : World) (hr : Row w A (xs.map .string)) (hs : Row w B (ys.map .string)) (hn : xs.length ≤ 1000000) (_hm : ys.length ≤ 1000000) :
    Calls Tryz.prog 11 #[.slice A xs.length c, .slice B ys.length d] w (Quiet (.bool (sameS xs ys)) w) := by
  by_cases hl : xs.length = ys.length
  · have hl' : ((xs.length : Int) != (ys.length : Int)) = false := by simp [hl]
    have HL := Lib.hid hl
    clear hl
    go_enter Tryz.func11, Tryz.ntmps11
    go_wp2_with fail
    go_loopw [5] (fun i wr => ∃ k m : Nat, k ≤ xs.length ∧ i = .int .i64 k ∧ wr = w.drewN m ∧ sameS xs ys = sameS (xs.drop k) (ys.drop k)) (fun i _ => xs.length - (intOf i).toNat)
    case atStart => exact ⟨0, 0, Nat.zero_le _, rfl, rfl, by simp⟩
    case round =>
      obtain ⟨k, m, hk, rfl, rfl, hI⟩ := hrel
      have HI := Lib.hid hI
      clear hI
      by_cases hlt : k < xs.length
      · have hlt' : k < ys.length := by have := HL.out; omega
        obtain ⟨b, off, rfl, hc⟩ := hr k _ (strs_get hlt)
        obtain ⟨b', off', rfl, hc'⟩ := hs k _ (strs_get hlt')
        have HD := Lib.hid (sameS_step hlt hlt')
        by_cases he : (xs[k].toList == ys[k].toList) = true
        · have HE := Lib.hid he
          go_wp2_with fail
          go_quiet (fail)
          go_wp2_with fail
          go_roundw
          case rel => exact ⟨k + 1, _, by omega, by go_num, rfl, by rw [HI.out, HD.out, HE.out]; rfl⟩
          case measure => simp [intOf]; omega
        · have he' : (xs[k].toList == ys[k].toList) = false := by simpa using he
          have HE := Lib.hid he'
          clear he
          go_wp2_with fail
          go_quiet (fail)
          go_wp2_with fail
          go_ret
          rw [World.drewN_drewN]
          exact Quiet.drew_of _ (by rw [HI.out, HD.out, HE.out]; rfl)
      · have hk' : k = xs.length := by omega
        subst hk'
        go_wp2_with fail
        go_ret
        exact Quiet.drew_of _ (by rw [HI.out]; have := HL.out; simp [sameS, this])
  · have hl' : ((xs.length : Int) != (ys.length : Int)) = true := by simp; omega
    have HS := Lib.hid (sameS_len hl)
    clear hl
    go_enter Tryz.func11, Tryz.ntmps11
    go_wp2_with fail
    go_ret
    exact Quiet.same_of (by rw [HS.out]; rfl)
end Go.Proofs.YtnpdjncgilekhaaGreatDoor

namespace Go.Proofs.YtnpdjncgilekhaaGreatDoor
open Go.RowKit

def strV (l : List UInt8) : Value := .string (mkB l)
theorem isIn_strV (s : List UInt8) (r : List (List UInt8)) : isIn (mkB s) (r.map mkB) = r.contains s := by
  rw [isIn_mkB, mkB_toList, List.contains_eq_any_beq]
  congr 1
  funext x
  exact Bool.beq_comm ..
end Go.Proofs.YtnpdjncgilekhaaGreatDoor

namespace Go.Proofs.YtnpdjncgilekhaaGreatDoor
open Go.RowKit

/-! names -/
theorem mkB_size (l : List UInt8) : (mkB l).size = l.length := rfl
theorem mkB_get (l : List UInt8) (k : Nat) (_h : k < (mkB l).size) (h' : k < l.length) : (mkB l)[k] = l[k] := rfl
theorem rlet_any (c : UInt8) (w : World) : Calls Tryz.prog 75 #[.int .u8 (c.toNat : Int)] w fun e w' => e = .returned (.bool (isLetter c)) ∧ w' = w := by
  by_cases h1 : (97 : Int) ≤ c.toNat <;> by_cases h2 : (c.toNat : Int) ≤ 122
  all_goals
    have H := Lib.hid (And.intro h1 h2)
    go_enter Tryz.func75, Tryz.ntmps75
    go_wp2_with fail
    go_ret
    exact ⟨by obtain ⟨h1, h2⟩ := H.out; unfold isLetter; simp [h1, h2], rfl⟩
theorem rdig_any (c : UInt8) (w : World) : Calls Tryz.prog 76 #[.int .u8 (c.toNat : Int)] w fun e w' => e = .returned (.bool (isDigit c)) ∧ w' = w := by
  by_cases h1 : (48 : Int) ≤ c.toNat <;> by_cases h2 : (c.toNat : Int) ≤ 57
  all_goals
    have H := Lib.hid (And.intro h1 h2)
    go_enter Tryz.func76, Tryz.ntmps76
    go_wp2_with fail
    go_ret
    exact ⟨by obtain ⟨h1, h2⟩ := H.out; unfold isDigit; simp [h1, h2], rfl⟩
def wordsL2 : List ByteArray := wordsB.map mkB
theorem isIn_words2 (n : Nm) : isIn (mkB n) wordsL2 = wordsB.contains n := isIn_strV n wordsB
theorem rwrd_any (n : Nm) (w : World) : Calls Tryz.prog 77 #[strV n] w (Ret (.bool (wordsB.contains n)) w) := by
  have H := Lib.hid (isIn_words2 n)
  unfold strV
  go_enter Tryz.func77, Tryz.ntmps77
  go_wp2_with (go_at_call 38; refine (IsIn_any _ _ wordsL2 _ _ (Row.new w _ _) (by decide)).mono ?_; rintro e w' ⟨rfl, rfl⟩)
  go_ret
  exact ⟨by rw [← H.out]; rfl, grow_alloc (grow_refl _) _⟩
/-- What is left to be asked of a name at its k-th byte. -/
def nmFrom (n : Nm) (k : Nat) : Bool := (decide (0 < k) || isLetter (n.headD 0)) && (n.drop k).all alnum
theorem nmFrom_step {n : Nm} {k : Nat} (h : k < n.length) : nmFrom n k = ((isLetter n[k] || (isDigit n[k] && decide (0 < k))) && nmFrom n (k + 1)) := by
  unfold nmFrom
  rw [List.drop_eq_getElem_cons h, List.all_cons]
  have e1 : alnum n[k] = (isLetter n[k] || isDigit n[k]) := rfl
  have hd : n.headD 0 = n[0]'(by omega) := by cases n with
    | nil => simp at h
    | cons c l => rfl
  rw [e1, hd]
  cases k with
  | zero => cases h1 : isLetter n[0] <;> simp [h1]
  | succ k => simp
theorem nmFrom_end (n : Nm) (h : 0 < n.length) : nmFrom n n.length = true := by simp [nmFrom, h]
theorem nmOk_from (n : Nm) : nmOk n = (decide (1 ≤ n.length) && decide (n.length ≤ 8) && nmFrom n 0 && !wordsB.contains n) := by
  unfold nmOk nmFrom
  simp only [List.drop_zero, Nat.lt_irrefl, decide_false, Bool.false_or, Bool.and_assoc]
set_option maxHeartbeats 1000000 in
theorem IsName_s (s : ByteArray) (w : World) (n : Nm) (hn : s.data.toList = n) : Calls Tryz.prog 55 #[.string s] w (Ret (.bool (nmOk n)) w) := by
  have hsz : s.size = n.length := by rw [← hn]; rfl
  have HB := Lib.hid hn
  have hsn : s = mkB n := by rw [← hn]; rfl
  have HSN := Lib.hid hsn
  clear hn hsn
  have HN := Lib.hid (nmOk_from n)
  have HS := Lib.hid hsz
  clear hsz
  by_cases h1 : n.length < 1
  · have q1 : (s.size : Int) < 1 := by rw [HS.out]; omega
    have HE : Hid (nmOk n = false) := show _ = _ by rw [HN.out, decide_eq_false (by omega)]; simp
    go_enter Tryz.func55, Tryz.ntmps55
    go_wp2_with fail
    go_ret
    exact ⟨by rw [HE.out]; rfl, grow_refl _⟩
  · have q1 : ¬ (s.size : Int) < 1 := by rw [HS.out]; omega
    by_cases h2 : 8 < n.length
    · have q2 : (8 : Int) < (s.size : Int) := by rw [HS.out]; omega
      have HE : Hid (nmOk n = false) := show _ = _ by rw [HN.out, decide_eq_false (p := n.length ≤ 8) (by omega)]; simp
      go_enter Tryz.func55, Tryz.ntmps55
      go_wp2_with fail
      go_ret
      exact ⟨by rw [HE.out]; rfl, grow_refl _⟩
    · have q2 : ¬ (8 : Int) < (s.size : Int) := by rw [HS.out]; omega
      have HE : Hid (nmOk n = (nmFrom n 0 && !wordsB.contains n)) := show _ = _ by rw [HN.out, decide_eq_true (p := n.length ≤ 8) (by omega), decide_eq_true (p := 1 ≤ n.length) (by omega)]; simp
      have hs8 : s.size ≤ 8 := by rw [HS.out]; omega
      have hs1 : 1 ≤ s.size := by rw [HS.out]; omega
      clear h1 h2
      go_enter Tryz.func55, Tryz.ntmps55
      go_wp2_with fail
      go_loop [3] (fun i => ∃ k : Nat, k ≤ s.size ∧ i = .int .i64 k ∧ nmFrom n 0 = nmFrom n k) (fun i => s.size - (intOf i).toNat)
      case atStart => exact ⟨0, by omega, rfl, rfl⟩
      case round =>
        obtain ⟨k, hk, rfl, hI⟩ := hrel
        have HI := Lib.hid hI
        clear hI
        by_cases hlt : k < s.size
        · have hl : k < n.length := by rw [HS.out] at hlt; exact hlt
          have HT := Lib.hid (nmFrom_step hl)
          have HG : Hid (s[k] = n[k]) := show s[k] = n[k] by have := HB.out; subst this; rfl
          rw [← HG.out] at HT
          cases ha : isLetter s[k]
          · cases hb : isDigit s[k]
            · have HF : Hid (nmOk n = false) := show _ = _ by rw [HE.out, HI.out, HT.out, ha, hb]; simp
              go_wp2_with (first
                | (go_at_call 75; (with_reducible refine (rlet_any _ _).mono ?_); rintro e w' ⟨rfl, rfl⟩)
                | (go_at_call 76; (with_reducible refine (rdig_any _ _).mono ?_); rintro e w' ⟨rfl, rfl⟩))
              go_ret
              exact ⟨by rw [HF.out]; rfl, grow_refl _⟩
            · by_cases h0 : k = 0
              · subst h0
                have HF : Hid (nmOk n = false) := show _ = _ by rw [HE.out, HI.out, HT.out, ha]; simp
                go_wp2_with (first
                  | (go_at_call 75; (with_reducible refine (rlet_any _ _).mono ?_); rintro e w' ⟨rfl, rfl⟩)
                  | (go_at_call 76; (with_reducible refine (rdig_any _ _).mono ?_); rintro e w' ⟨rfl, rfl⟩))
                go_ret
                exact ⟨by rw [HF.out]; rfl, grow_refl _⟩
              · have hk0 : ((k : Int) == 0) = false := beq_eq_false_iff_ne.2 (by omega)
                have HF : Hid (nmFrom n 0 = nmFrom n (k + 1)) := show _ = _ by rw [HI.out, HT.out, ha, hb, decide_eq_true (p := 0 < k) (by omega)]; simp
                clear h0
                go_wp2_with (first
                  | (go_at_call 75; (with_reducible refine (rlet_any _ _).mono ?_); rintro e w' ⟨rfl, rfl⟩)
                  | (go_at_call 76; (with_reducible refine (rdig_any _ _).mono ?_); rintro e w' ⟨rfl, rfl⟩))
                go_round
                case rel => exact ⟨k + 1, by omega, by go_num, HF.out⟩
                case measure => simp [intOf]; omega
          · have HF : Hid (nmFrom n 0 = nmFrom n (k + 1)) := show _ = _ by rw [HI.out, HT.out, ha]; simp
            go_wp2_with (first
              | (go_at_call 75; (with_reducible refine (rlet_any _ _).mono ?_); rintro e w' ⟨rfl, rfl⟩)
              | (go_at_call 76; (with_reducible refine (rdig_any _ _).mono ?_); rintro e w' ⟨rfl, rfl⟩))
            go_round
            case rel => exact ⟨k + 1, by omega, by go_num, HF.out⟩
            case measure => simp [intOf]; omega
        · have hk' : k = n.length := by rw [HS.out] at hlt hk; omega
          have HF : Hid (nmOk n = !wordsB.contains n) := show _ = _ by rw [HE.out, HI.out, hk', nmFrom_end n (by rw [HS.out] at hs1; omega)]; simp
          have hw1 := rwrd_any n w
          unfold strV at hw1
          rw [← HSN.out] at hw1
          have HW := Lib.hid hw1
          clear hw1
          cases hw : wordsB.contains n
          all_goals
            rw [hw] at HW HF
            go_wp2_with (go_at_call 77; (with_reducible refine HW.out.mono ?_); rintro e w' ⟨rfl, hb⟩)
            go_ret
            exact ⟨by rw [HF.out]; rfl, hb⟩
theorem IsName_any (n : Nm) (w : World) : Calls Tryz.prog 55 #[strV n] w (Ret (.bool (nmOk n)) w) := IsName_s (mkB n) w n rfl
end Go.Proofs.YtnpdjncgilekhaaGreatDoor
