import Derived.Lib.ItoaNum
import Derived.WalkKit
import Derived.Laws.BitsAllLaws
import Derived.Test.YteifmgcbafemeaaDoorBn5
namespace Go.Proofs.YteifmgcbafemeaaDoor
open Go.RowKit

/-! the text of trees -/
def xNum : List UInt8 := [110, 117, 109]
def xName : List UInt8 := [110, 97, 109, 101]
def xCall : List UInt8 := [99, 97, 108, 108]
def xOne : List UInt8 := [111, 110, 101]
def xTwo : List UInt8 := [116, 119, 111]
def opsRows : List (List (List UInt8)) := [[[61, 61], [33, 61]], [[60], [60, 61]], [[124]], [[94]], [[38]], [[60, 60], [62, 62]], [[43], [45]], [[42], [47], [37]]]
def levFrom (s : List UInt8) : List (List (List UInt8)) → Nat → Int
  | [], _ => -1
  | r :: rs, k => if r.contains s then (k : Int) else levFrom s rs (k + 1)
def levelP (s : List UInt8) : Int := levFrom s opsRows 0
theorem levFrom_drop {s : List UInt8} {rs : List (List (List UInt8))} {k : Nat} (h : k < rs.length) : levFrom s (rs.drop k) k = if rs[k].contains s then (k : Int) else levFrom s (rs.drop (k + 1)) (k + 1) := by
  rw [List.drop_eq_getElem_cons h]; rfl
theorem levFrom_range (s : List UInt8) : ∀ (rs : List (List (List UInt8))) (k : Nat), -1 ≤ levFrom s rs k ∧ levFrom s rs k ≤ k + rs.length := by
  intro rs
  induction rs with
  | nil => intro k; simp [levFrom]
  | cons r rs ih =>
    intro k
    unfold levFrom
    have := ih (k + 1)
    simp only [List.length_cons]
    split <;> omega
theorem levelP_range (s : List UInt8) : -1 ≤ levelP s ∧ levelP s ≤ 8 := by
  have := levFrom_range s opsRows 0
  simp [opsRows] at this
  exact this
def bigT : List UInt8 := [40, 48, 32, 45, 32, 57, 50, 50, 51, 51, 55, 50, 48, 51, 54, 56, 53, 52, 55, 55, 53, 56, 48, 55, 32, 45, 32, 49, 41]
def numT (n : Int) : List UInt8 := if n = -9223372036854775808 then bigT else if n < 0 then [40, 48, 32, 45, 32] ++ Lib.itoa (-n) ++ [41] else Lib.itoa n
def joinC : List (List UInt8) → List UInt8
  | [] => []
  | [x] => x
  | x :: xs => x ++ [44, 32] ++ joinC xs
def wrapT (k : PExpr) (least : Int) (t : List UInt8) : List UInt8 := if k.kind = xTwo ∧ levelP k.name < least then [40] ++ t ++ [41] else t
def oneT (name : List UInt8) : List PExpr → List (List UInt8) → List UInt8
  | [k], [t] => name ++ wrapT k 8 t
  | _, _ => []
def twoT (name : List UInt8) : List PExpr → List (List UInt8) → List UInt8
  | [a, b], [s, t] => wrapT a (levelP name) s ++ [32] ++ name ++ [32] ++ wrapT b (levelP name + 1) t
  | _, _ => []
mutual
def textE : PExpr → List UInt8
  | ⟨kind, num, name, kids⟩ =>
    if kind = xNum then numT num
    else if kind = xName then name
    else if kind = xCall then name ++ [40] ++ joinC (textKs kids) ++ [41]
    else if kind = xOne then oneT name kids (textKs kids)
    else if kind = xTwo then twoT name kids (textKs kids)
    else []
def textKs : List PExpr → List (List UInt8)
  | [] => []
  | k :: ks => textE k :: textKs ks
end
theorem textKs_map : ∀ ks, textKs ks = ks.map textE := by
  intro ks
  induction ks with
  | nil => rw [textKs]; rfl
  | cons k ks ih => rw [textKs, ih]; rfl
theorem textE_eq (e : PExpr) : textE e =
    if e.kind = xNum then numT e.num
    else if e.kind = xName then e.name
    else if e.kind = xCall then e.name ++ [40] ++ joinC (e.kids.map textE) ++ [41]
    else if e.kind = xOne then oneT e.name e.kids (e.kids.map textE)
    else if e.kind = xTwo then twoT e.name e.kids (e.kids.map textE)
    else [] := by
  cases e
  rw [textE]
  simp only [textKs_map]
theorem textE_num {e : PExpr} (h : e.kind = xNum) : textE e = numT e.num := by rw [textE_eq, if_pos h]
theorem textE_name {e : PExpr} (h : e.kind = xName) : textE e = e.name := by
  rw [textE_eq, if_neg (by rw [h]; decide), if_pos h]
theorem textE_call {e : PExpr} (h : e.kind = xCall) : textE e = e.name ++ [40] ++ joinC (e.kids.map textE) ++ [41] := by
  rw [textE_eq, if_neg (by rw [h]; decide), if_neg (by rw [h]; decide), if_pos h]
theorem textE_one {e k : PExpr} (h : e.kind = xOne) (hk : e.kids = [k]) : textE e = e.name ++ wrapT k 8 (textE k) := by
  rw [textE_eq, if_neg (by rw [h]; decide), if_neg (by rw [h]; decide), if_neg (by rw [h]; decide), if_pos h, hk]; rfl
theorem textE_one_no {e : PExpr} (h : e.kind = xOne) (hk : e.kids.length ≠ 1) : textE e = [] := by
  rw [textE_eq, if_neg (by rw [h]; decide), if_neg (by rw [h]; decide), if_neg (by rw [h]; decide), if_pos h]
  match h' : e.kids with
  | [] => rfl
  | [k] => rw [h'] at hk; simp at hk
  | a :: b :: r => simp [oneT]
theorem textE_two {e a b : PExpr} (h : e.kind = xTwo) (hk : e.kids = [a, b]) : textE e = wrapT a (levelP e.name) (textE a) ++ [32] ++ e.name ++ [32] ++ wrapT b (levelP e.name + 1) (textE b) := by
  rw [textE_eq, if_neg (by rw [h]; decide), if_neg (by rw [h]; decide), if_neg (by rw [h]; decide), if_neg (by rw [h]; decide), if_pos h, hk]; rfl
theorem textE_two_no {e : PExpr} (h : e.kind = xTwo) (hk : e.kids.length ≠ 2) : textE e = [] := by
  rw [textE_eq, if_neg (by rw [h]; decide), if_neg (by rw [h]; decide), if_neg (by rw [h]; decide), if_neg (by rw [h]; decide), if_pos h]
  match h' : e.kids with
  | [] => rfl
  | [k] => simp [twoT]
  | [a, b] => rw [h'] at hk; simp at hk
  | a :: b :: c :: r => simp [twoT]
theorem textE_none {e : PExpr} (h0 : e.kind ≠ xNum) (h1 : e.kind ≠ xName) (h2 : e.kind ≠ xCall) (h3 : e.kind ≠ xOne) (h4 : e.kind ≠ xTwo) : textE e = [] := by
  rw [textE_eq, if_neg h0, if_neg h1, if_neg h2, if_neg h3, if_neg h4]

/-! statements -/
def sVar : List UInt8 := [118, 97, 114]
def sSet : List UInt8 := [115, 101, 116]
def sReturn : List UInt8 := [114, 101, 116, 117, 114, 110]
def sPrint : List UInt8 := [112, 114, 105, 110, 116]
def sIf : List UInt8 := [105, 102]
def sWhile : List UInt8 := [119, 104, 105, 108, 101]
def lineT (d : Nat) (t : List UInt8) : List UInt8 := List.replicate d 9 ++ t ++ [10]
mutual
def textS : PStmt → Nat → List UInt8
  | ⟨kind, name, e, th, el⟩, d =>
    if kind = sVar then lineT d ([118, 97, 114, 32] ++ name ++ [32, 61, 32] ++ textE e ++ [59])
    else if kind = sSet then lineT d (name ++ [32, 61, 32] ++ textE e ++ [59])
    else if kind = sReturn ∨ kind = sPrint then lineT d (kind ++ [32] ++ textE e ++ [59])
    else if kind = sIf ∨ kind = sWhile then
      lineT d (kind ++ [32] ++ textE e ++ [32, 123]) ++ textB th (d + 1) ++ (if el.length = 0 then [] else lineT d [125, 32, 101, 108, 115, 101, 32, 123] ++ textB el (d + 1)) ++ lineT d [125]
    else []
def textB : List PStmt → Nat → List UInt8
  | [], _ => []
  | s :: ss, d => textS s d ++ textB ss d
end
theorem textB_nil (d : Nat) : textB [] d = [] := by rw [textB]
theorem textB_cons (s : PStmt) (ss : List PStmt) (d : Nat) : textB (s :: ss) d = textS s d ++ textB ss d := by rw [textB]
theorem textS_eq (s : PStmt) (d : Nat) : textS s d =
    if s.kind = sVar then lineT d ([118, 97, 114, 32] ++ s.name ++ [32, 61, 32] ++ textE s.e ++ [59])
    else if s.kind = sSet then lineT d (s.name ++ [32, 61, 32] ++ textE s.e ++ [59])
    else if s.kind = sReturn ∨ s.kind = sPrint then lineT d (s.kind ++ [32] ++ textE s.e ++ [59])
    else if s.kind = sIf ∨ s.kind = sWhile then
      lineT d (s.kind ++ [32] ++ textE s.e ++ [32, 123]) ++ textB s.th (d + 1) ++ (if s.el.length = 0 then [] else lineT d [125, 32, 101, 108, 115, 101, 32, 123] ++ textB s.el (d + 1)) ++ lineT d [125]
    else [] := by
  cases s; rw [textS]
def textF (f : PFun) : List UInt8 := lineT 0 ([102, 110, 32] ++ f.name ++ [40] ++ joinC f.params ++ [41, 32, 123]) ++ textB f.body 1 ++ lineT 0 [125]
def textG : List PFun → List UInt8
  | [] => []
  | f :: fs => textF f ++ textG fs
end Go.Proofs.YteifmgcbafemeaaDoor

namespace Go.Proofs.YteifmgcbafemeaaDoor
open Go.RowKit

/-! the words of a text, in plain Lean -/
def isLetter (c : UInt8) : Bool := decide ((97 : Int) ≤ c.toNat) && decide ((c.toNat : Int) ≤ 122)
def isDigit (c : UInt8) : Bool := decide ((48 : Int) ≤ c.toNat) && decide ((c.toNat : Int) ≤ 57)
def isBlank (c : UInt8) : Bool := ((c.toNat : Int) == 32) || ((c.toNat : Int) == 9) || ((c.toNat : Int) == 10)
def alnum (c : UInt8) : Bool := isLetter c || isDigit c
def wordsB : List (List UInt8) := [[102, 110], [118, 97, 114], [105, 102], [101, 108, 115, 101], [119, 104, 105, 108, 101], [114, 101, 116, 117, 114, 110], [112, 114, 105, 110, 116]]
def twosB : List (List UInt8) := [[60, 60], [62, 62], [60, 61], [61, 61], [33, 61]]
def onesB : List UInt8 := [43, 45, 42, 47, 37, 38, 124, 94, 60, 33, 61, 40, 41, 123, 125, 44, 59]
def kWord : List UInt8 := [119, 111, 114, 100]
def kName : List UInt8 := [110, 97, 109, 101]
def kNumber : List UInt8 := [110, 117, 109, 98, 101, 114]
def kSign : List UInt8 := [115, 105, 103, 110]
/-- How far a text goes on with bytes that are so. -/
def spanL (p : UInt8 → Bool) : List UInt8 → Nat
  | [] => 0
  | c :: l => if p c then spanL p l + 1 else 0
theorem spanL_le (p : UInt8 → Bool) : ∀ l, spanL p l ≤ l.length := by
  intro l; induction l with
  | nil => simp [spanL]
  | cons c l ih => simp only [spanL, List.length_cons]; split <;> omega
structure Tok where
  kind : List UInt8
  text : List UInt8
  pos : Nat
  deriving DecidableEq
/-- The token at the head of a text that is not empty: its kind, its length, is it one? -/
def tokAt (l : List UInt8) : List UInt8 × Nat × Bool :=
  match l with
  | [] => (kSign, 0, false)
  | c :: _ =>
    if isLetter c then
      let n := spanL alnum l
      if wordsB.any (fun x => x == l.take n) then (kWord, n, true) else (kName, n, decide (n ≤ 8))
    else if isDigit c then
      let n := spanL isDigit l
      (kNumber, n, decide (n ≤ 18) && (decide (n = 1) || c != 48) && (match l.drop n with | [] => true | d :: _ => !isLetter d))
    else if twosB.any (fun x => x == l.take 2) then (kSign, 2, true)
    else (kSign, 1, onesB.any (fun x => x == c))
/-- Tokens from a place on; or the place of the first that is none. -/
def lexL : Nat → List UInt8 → Nat → List Tok × Option Nat
  | 0, _, _ => ([], none)
  | f + 1, l, k =>
    let b := spanL isBlank l
    let r := l.drop b
    if r = [] then ([], none)
    else
      let t := tokAt r
      if t.2.2 then
        let q := lexL f (r.drop t.2.1) (k + b + t.2.1)
        (⟨t.1, r.take t.2.1, k + b⟩ :: q.1, q.2)
      else ([], some (k + b))
end Go.Proofs.YteifmgcbafemeaaDoor

namespace Go.Proofs.YteifmgcbafemeaaDoor
open Go.RowKit

theorem wrap_toInt (n : Int) : IntKind.i64.wrap n = (BitVec.ofInt 64 n).toInt := by
  rw [IntKind.wrap_i64, BitVec.toInt_ofInt, Int.bmod_def]
  simp only [Nat.reducePow]
  split <;> omega
theorem w64_toInt (n : Int) : wrap64 n = (BitVec.ofInt 64 n).toInt := by
  rw [← wrap_toInt, IntWalk.i64_left]
theorem ofInt_w64 (n : Int) : BitVec.ofInt 64 (wrap64 n) = BitVec.ofInt 64 n := by
  rw [w64_toInt, BitVec.ofInt_toInt]
theorem toInt_ofInt_in (n : Int) (h : -9223372036854775808 ≤ n ∧ n ≤ 9223372036854775807) : (BitVec.ofInt 64 n).toInt = n := by
  rw [← w64_toInt, IntWalk.wrap64_in n h]
theorem ofInt_toNat_i (x : BitVec 64) : BitVec.ofInt 64 (x.toNat : Int) = x := by
  rw [BitVec.ofInt_natCast, BitVec.ofNat_toNat]; simp
theorem and_toInt (a b : Int) : bits .and .i64 a b = (BitVec.ofInt 64 a &&& BitVec.ofInt 64 b).toInt := by
  show IntKind.i64.wrap ((BitVec.ofInt 64 a &&& BitVec.ofInt 64 b).toNat : Int) = _
  rw [wrap_toInt, ofInt_toNat_i]
theorem or_toInt (a b : Int) : bits .or .i64 a b = (BitVec.ofInt 64 a ||| BitVec.ofInt 64 b).toInt := by
  show IntKind.i64.wrap ((BitVec.ofInt 64 a ||| BitVec.ofInt 64 b).toNat : Int) = _
  rw [wrap_toInt, ofInt_toNat_i]
theorem xor_toInt (a b : Int) : bits .xor .i64 a b = (BitVec.ofInt 64 a ^^^ BitVec.ofInt 64 b).toInt := by
  show IntKind.i64.wrap ((BitVec.ofInt 64 a ^^^ BitVec.ofInt 64 b).toNat : Int) = _
  rw [wrap_toInt, ofInt_toNat_i]
theorem i64_and63 (n : Int) : bits .and .i64 n 63 = n % 64 := by
  have h127 : (BitVec.ofInt 64 63).toNat = 2 ^ 6 - 1 := by decide
  have key : (BitVec.ofInt 64 n &&& BitVec.ofInt 64 63).toNat = (n % ((2 ^ 64 : Nat) : Int)).toNat % 2 ^ 6 := by
    rw [BitVec.toNat_and, BitVec.toNat_ofInt, h127, Nat.and_two_pow_sub_one_eq_mod]
  show IntKind.i64.wrap ((BitVec.ofInt 64 n &&& BitVec.ofInt 64 63).toNat : Nat) = n % 64
  rw [key, IntKind.wrap_i64]
  omega
def I64 (n : Int) : Prop := -9223372036854775808 ≤ n ∧ n ≤ 9223372036854775807
theorem toInt_I64 (x : BitVec 64) : I64 x.toInt := by
  have := BitVec.le_toInt x; have := BitVec.toInt_lt (x := x); unfold I64; simp at *; omega
theorem wrap64_I64 (n : Int) : I64 (wrap64 n) := by unfold I64 wrap64; omega
theorem bits_I64 (op : BinOp) (a b : Int) : I64 (bits op .i64 a b) := by
  unfold bits; rw [wrap_toInt]; exact toInt_I64 _
theorem add_assoc64 (a b c : Int) : wrap64 (wrap64 (a + b) + c) = wrap64 (a + wrap64 (b + c)) := by unfold wrap64; omega
theorem mul_assoc64 (a b c : Int) : wrap64 (wrap64 (a * b) * c) = wrap64 (a * wrap64 (b * c)) := by
  simp only [w64_toInt, BitVec.ofInt_mul, BitVec.ofInt_toInt, BitVec.mul_assoc]
theorem mul_add64 (a b c : Int) : wrap64 (a * wrap64 (b + c)) = wrap64 (wrap64 (a * b) + wrap64 (a * c)) := by
  simp only [w64_toInt, BitVec.ofInt_mul, BitVec.ofInt_add, BitVec.ofInt_toInt, BitVec.mul_add]
theorem and_assoc64 (a b c : Int) : bits .and .i64 (bits .and .i64 a b) c = bits .and .i64 a (bits .and .i64 b c) := by
  simp only [and_toInt, BitVec.ofInt_toInt, BitVec.and_assoc]
theorem or_assoc64 (a b c : Int) : bits .or .i64 (bits .or .i64 a b) c = bits .or .i64 a (bits .or .i64 b c) := by
  simp only [or_toInt, BitVec.ofInt_toInt, BitVec.or_assoc]
theorem xor_assoc64 (a b c : Int) : bits .xor .i64 (bits .xor .i64 a b) c = bits .xor .i64 a (bits .xor .i64 b c) := by
  simp only [xor_toInt, BitVec.ofInt_toInt, BitVec.xor_assoc]
theorem ofInt_neg_one : BitVec.ofInt 64 (-1) = BitVec.allOnes 64 := by decide
theorem deMorgan64 (a b : Int) : bits .xor .i64 (bits .and .i64 a b) (-1) = bits .or .i64 (bits .xor .i64 a (-1)) (bits .xor .i64 b (-1)) := by
  simp only [xor_toInt, or_toInt, and_toInt, BitVec.ofInt_toInt, ofInt_neg_one, BitVec.xor_allOnes, BitVec.not_and]
theorem xor_xor64 (a b : Int) (ha : I64 a) : bits .xor .i64 (bits .xor .i64 a b) b = a := by
  simp only [xor_toInt, BitVec.ofInt_toInt, BitVec.xor_assoc, BitVec.xor_self, BitVec.xor_zero]
  exact toInt_ofInt_in a ha
theorem add_comm64 (a b : Int) : wrap64 (a + b) = wrap64 (b + a) := by rw [Int.add_comm]
theorem and_comm64 (a b : Int) : bits .and .i64 a b = bits .and .i64 b a := by simp only [and_toInt, BitVec.and_comm]
theorem or_comm64 (a b : Int) : bits .or .i64 a b = bits .or .i64 b a := by simp only [or_toInt, BitVec.or_comm]
theorem xor_comm64 (a b : Int) : bits .xor .i64 a b = bits .xor .i64 b a := by simp only [xor_toInt, BitVec.xor_comm]
end Go.Proofs.YteifmgcbafemeaaDoor

namespace Go.Proofs.YteifmgcbafemeaaDoor
open Go.RowKit

def bitV (b : Bool) : Int := if b then 1 else 0
theorem bit_any (b : Bool) (w : World) : Calls Tryd.prog 68 #[.bool b] w fun e w' => e = .returned (.int .i64 (bitV b)) ∧ w' = w := by
  cases b
  · go_enter Tryd.func68, Tryd.ntmps68
    go_wp2
    go_ret
    exact ⟨rfl, rfl⟩
  · go_enter Tryd.func68, Tryd.ntmps68
    go_wp2
    go_ret
    exact ⟨rfl, rfl⟩

def orderV (l : List UInt8) (a b : Int) : Option Int :=
  if (l == [60]) = true then some (bitV (decide (a < b)))
  else if (l == [60, 61]) = true then some (bitV (decide (a ≤ b)))
  else if (l == [61, 61]) = true then some (bitV (a == b))
  else if (l == [33, 61]) = true then some (bitV (a != b))
  else none
def errOf (o : Option Int) (K : Value) : Value := match o with
  | some _ => .nilIface
  | none => K
def valOf (o : Option Int) : Int := o.getD 0

theorem order_any (s : ByteArray) (a b : Int) (K : Value) (w : World) (hK : w.cell? ⟨7, 0, none⟩ = some K) : Calls Tryd.prog 70 #[.string s, .int .i64 a, .int .i64 b] w (Quiet (.tuple #[.int .i64 (valOf (orderV s.toList a b)), errOf (orderV s.toList a b) K]) w) := by
  go_enter Tryd.func70, Tryd.ntmps70
  go_wp2_with (go_at_call 68; refine (bit_any _ _).mono ?_; rintro e w' ⟨rfl, rfl⟩)
  · go_ret2; refine Quiet.same_of ?_; simp [*, orderV, errOf, valOf]
  · go_ret2; refine Quiet.same_of ?_; simp [*, orderV, errOf, valOf]
  · go_ret2; refine Quiet.same_of ?_; simp [*, orderV, errOf, valOf]
  · go_ret2; refine Quiet.same_of ?_; simp [*, orderV, errOf, valOf]
  · go_quiet (fail)
    go_wp2
    go_ret2
    refine Quiet.drew_of _ ?_; simp [*, orderV, errOf, valOf]

def divV (a b : Int) : Int := if b = 0 then 0 else wrap64 (a.tdiv b)
def remV (a b : Int) : Int := if b = 0 then a else a.tmod b
theorem divV_min : divV (-9223372036854775808) (-1) = -9223372036854775808 := by decide +kernel
theorem remV_min : remV (-9223372036854775808) (-1) = 0 := by decide +kernel
theorem min_forms (b : Int) : Value.tuple #[.int .i64 (wrap64 ((-9223372036854775808).tdiv b)), .int .i64 ((-9223372036854775808).tmod b)] = Value.tuple #[.int .i64 (wrap64 (-Int.tdiv 9223372036854775808 b)), .int .i64 (-(9223372036854775808 % b))] := by
  rw [Int.neg_tdiv, Int.neg_tmod, Int.tmod_eq_emod_of_nonneg (by omega)]
theorem div_any (a b : Int) (w : World) : Calls Tryd.prog 69 #[.int .i64 a, .int .i64 b] w (Quiet (.tuple #[.int .i64 (divV a b), .int .i64 (remV a b)]) w) := by
  by_cases hb : b = 0
  · subst hb
    go_enter Tryd.func69, Tryd.ntmps69
    go_wp2_with fail
    go_ret2; exact Quiet.same_of (by simp [divV, remV])
  · have hb0 : (b == 0) = false := by simp [hb]
    by_cases hm : a = -9223372036854775808 ∧ b = -1
    · obtain ⟨rfl, rfl⟩ := hm
      go_enter Tryd.func69, Tryd.ntmps69
      go_wp2_with fail
      go_ret2; exact Quiet.same_of (by rw [divV_min, remV_min]; rfl)
    · have e1 : divV a b = wrap64 (a.tdiv b) := by unfold divV; rw [if_neg hb]
      have e2 : remV a b = a.tmod b := by unfold remV; rw [if_neg hb]
      rw [e1, e2]
      clear e1 e2
      by_cases ha : a = -9223372036854775808
      · subst ha
        have hb1 : (b == -1) = false := by simpa using hm
        clear hm
        go_enter Tryd.func69, Tryd.ntmps69
        go_wp2_with fail
        go_quiet (fail)
        go_wp2_with fail
        go_ret2; exact Quiet.drew_of _ (min_forms b)
      · have ha1 : (a == -9223372036854775808) = false := by simp [ha]
        clear hm
        go_enter Tryd.func69, Tryd.ntmps69
        go_wp2_with fail
        go_quiet (fail)
        go_wp2_with fail
        go_ret2; exact Quiet.drew_of _ rfl

def doV (l : List UInt8) (a b : Int) : Option Int :=
  if (l == [43]) = true then some (wrap64 (a + b))
  else if (l == [45]) = true then some (wrap64 (a - b))
  else if (l == [42]) = true then some (wrap64 (a * b))
  else if (l == [47]) = true then some (divV a b)
  else if (l == [37]) = true then some (remV a b)
  else if (l == [38]) = true then some (bits .and .i64 a b)
  else if (l == [124]) = true then some (bits .or .i64 a b)
  else if (l == [94]) = true then some (bits .xor .i64 a b)
  else if (l == [60, 60]) = true then some (wrap64 (a * 2 ^ (b % 64).toNat))
  else if (l == [62, 62]) = true then some (a / 2 ^ (b % 64).toNat)
  else orderV l a b
def oneV (l : List UInt8) (a : Int) : Option Int :=
  if (l == [45]) = true then some (wrap64 (-a))
  else if (l == [33]) = true then some (bitV (a == 0))
  else none
theorem Do_any (s : ByteArray) (a b : Int) (K : Value) (w : World) (hK : w.cell? ⟨7, 0, none⟩ = some K) :
    Calls Tryd.prog 61 #[.string s, .int .i64 a, .int .i64 b] w (Quiet (.tuple #[.int .i64 (valOf (doV s.toList a b)), errOf (doV s.toList a b) K]) w) := by
  have h63 := i64_and63 b
  go_enter Tryd.func61, Tryd.ntmps61
  go_wp2_with (first
    | (go_at_call 69; refine (div_any _ _ _).mono ?_; rintro e w' ⟨rfl, n, rfl⟩)
    | (go_at_call 70; refine (order_any _ _ _ K _ hK).mono ?_; rintro e w' ⟨rfl, n, rfl⟩))
  all_goals (go_ret2; first | refine Quiet.drew_of _ ?_ | refine Quiet.same_of ?_)
  all_goals simp [*, doV, errOf, valOf]
theorem One_any (s : ByteArray) (a : Int) (K : Value) (w : World) (hK : w.cell? ⟨7, 0, none⟩ = some K) :
    Calls Tryd.prog 60 #[.string s, .int .i64 a] w (Quiet (.tuple #[.int .i64 (valOf (oneV s.toList a)), errOf (oneV s.toList a) K]) w) := by
  go_enter Tryd.func60, Tryd.ntmps60
  go_wp2_with (first
    | (go_at_call 68; refine (bit_any _ _).mono ?_; rintro e w' ⟨rfl, rfl⟩))
  · go_ret2; refine Quiet.same_of ?_; simp [*, oneV, errOf, valOf]
  · go_ret2; refine Quiet.same_of ?_; simp [*, oneV, errOf, valOf]
  · go_quiet (fail)
    go_wp2_with fail
    go_ret2; refine Quiet.drew_of _ ?_; simp [*, oneV, errOf, valOf]
@[go_sem] theorem errOf_some (v : Int) (K : Value) : errOf (some v) K = .nilIface := rfl
@[go_sem] theorem errOf_none (K : Value) : errOf none K = K := rfl
@[go_sem] theorem valOf_some (v : Int) : valOf (some v) = v := rfl
@[go_sem] theorem valOf_none : valOf none = 0 := rfl
@[go_sem] theorem doV_add (a b : Int) : doV [43] a b = some (wrap64 (a + b)) := rfl
@[go_sem] theorem doV_sub (a b : Int) : doV [45] a b = some (wrap64 (a - b)) := rfl
@[go_sem] theorem doV_mul (a b : Int) : doV [42] a b = some (wrap64 (a * b)) := rfl
@[go_sem] theorem doV_div (a b : Int) : doV [47] a b = some (divV a b) := rfl
@[go_sem] theorem doV_rem (a b : Int) : doV [37] a b = some (remV a b) := rfl
@[go_sem] theorem doV_and (a b : Int) : doV [38] a b = some (bits .and .i64 a b) := rfl
@[go_sem] theorem doV_or (a b : Int) : doV [124] a b = some (bits .or .i64 a b) := rfl
@[go_sem] theorem doV_xor (a b : Int) : doV [94] a b = some (bits .xor .i64 a b) := rfl
@[go_sem] theorem doV_shl (a b : Int) : doV [60, 60] a b = some (wrap64 (a * 2 ^ (b % 64).toNat)) := rfl
@[go_sem] theorem doV_shr (a b : Int) : doV [62, 62] a b = some (a / 2 ^ (b % 64).toNat) := rfl
@[go_sem] theorem doV_lss (a b : Int) : doV [60] a b = some (bitV (decide (a < b))) := rfl
@[go_sem] theorem doV_leq (a b : Int) : doV [60, 61] a b = some (bitV (decide (a ≤ b))) := rfl
@[go_sem] theorem doV_eql (a b : Int) : doV [61, 61] a b = some (bitV (a == b)) := rfl
@[go_sem] theorem doV_neq (a b : Int) : doV [33, 61] a b = some (bitV (a != b)) := rfl
@[go_sem] theorem oneV_neg (a : Int) : oneV [45] a = some (wrap64 (-a)) := rfl
@[go_sem] theorem oneV_not (a : Int) : oneV [33] a = some (bitV (a == 0)) := rfl
@[go_sem] theorem bitV_true : bitV true = 1 := rfl
@[go_sem] theorem bitV_false : bitV false = 0 := rfl
end Go.Proofs.YteifmgcbafemeaaDoor

namespace Go.Proofs.YteifmgcbafemeaaDoor
open Go.RowKit

/-! what is well, in plain Lean -/
abbrev Nm := List UInt8
def nmOk (l : Nm) : Bool := decide (1 ≤ l.length) && decide (l.length ≤ 8) && isLetter (l.headD 0) && l.all alnum && !wordsB.contains l
def isOneB (l : Nm) : Bool := (oneV l 0).isSome
def isTwoB (l : Nm) : Bool := (doV l 0 0).isSome
/-- An expression of n kids has nothing that its kind has not. -/
def bareB (e : PExpr) : Bool :=
  if e.kind = xNum then decide (0 ≤ e.num) && e.name.isEmpty && e.kids.isEmpty
  else if e.kind = xName then (e.num == 0) && nmOk e.name && e.kids.isEmpty
  else if e.kind = xCall then (e.num == 0) && nmOk e.name
  else if e.kind = xOne then (e.num == 0) && isOneB e.name && decide (e.kids.length = 1)
  else if e.kind = xTwo then (e.num == 0) && isTwoB e.name && decide (e.kids.length = 2)
  else false
abbrev Tab := List (Nm × Nat)
def argsOf (fs : Tab) (n : Nm) : Option Nat := (fs.find? fun f => f.1 == n).map (·.2)
def callC (fs : Tab) (n : Nm) (k : Nat) : Nat := match argsOf fs n with
  | none => 6
  | some m => if m = k then 0 else 9
def selfC (fs : Tab) (vis : List Nm) (e : PExpr) : Nat := if e.kind = xName then (if vis.contains e.name then 0 else 6) else if e.kind = xCall then callC fs e.name e.kids.length else 0
mutual
def exprC (fs : Tab) (vis : List Nm) : PExpr → Nat
  | ⟨kind, num, name, kids⟩ => if bareB ⟨kind, num, name, kids⟩ then (if kidsC fs vis kids = 0 then selfC fs vis ⟨kind, num, name, kids⟩ else kidsC fs vis kids) else 3
def kidsC (fs : Tab) (vis : List Nm) : List PExpr → Nat
  | [] => 0
  | k :: ks => if exprC fs vis k = 0 then kidsC fs vis ks else exprC fs vis k
end
theorem exprC_eq (fs : Tab) (vis : List Nm) (e : PExpr) : exprC fs vis e = if bareB e then (if kidsC fs vis e.kids = 0 then selfC fs vis e else kidsC fs vis e.kids) else 3 := by
  cases e; rw [exprC]
theorem kidsC_nil (fs : Tab) (vis : List Nm) : kidsC fs vis [] = 0 := by rw [kidsC]
theorem kidsC_cons (fs : Tab) (vis : List Nm) (k : PExpr) (ks : List PExpr) : kidsC fs vis (k :: ks) = if exprC fs vis k = 0 then kidsC fs vis ks else exprC fs vis k := by rw [kidsC]
/-- A statement has nothing that its kind has not. -/
def shapedB (kind name : Nm) (t l : Nat) : Bool :=
  if kind = sVar ∨ kind = sSet then nmOk name && decide (t = 0) && decide (l = 0)
  else if kind = sIf then name.isEmpty
  else if kind = sWhile then name.isEmpty && decide (l = 0)
  else if kind = sReturn ∨ kind = sPrint then name.isEmpty && decide (t = 0) && decide (l = 0)
  else false
def addC (name : Nm) (all vis : List Nm) : Nat × List Nm × List Nm := if all.contains name then (7, all, vis) else if 12 ≤ all.length then (8, all, vis) else (0, all ++ [name], vis ++ [name])
mutual
def stmtC (fs : Tab) : PStmt → List Nm → List Nm → Nat × List Nm × List Nm
  | ⟨kind, name, e, th, el⟩, all, vis =>
    if shapedB kind name th.length el.length then
      if exprC fs vis e = 0 then
        if kind = sVar then addC name all vis
        else if kind = sSet ∧ vis.contains name = false then (6, all, vis)
        else if (blockC fs th all vis).1 = 0 then ((blockC fs el (blockC fs th all vis).2 vis).1, (blockC fs el (blockC fs th all vis).2 vis).2, vis)
        else ((blockC fs th all vis).1, (blockC fs th all vis).2, vis)
      else (exprC fs vis e, all, vis)
    else (3, all, vis)
def blockC (fs : Tab) : List PStmt → List Nm → List Nm → Nat × List Nm
  | [], all, _ => (0, all)
  | s :: ss, all, vis => if (stmtC fs s all vis).1 = 0 then blockC fs ss (stmtC fs s all vis).2.1 (stmtC fs s all vis).2.2 else ((stmtC fs s all vis).1, (stmtC fs s all vis).2.1)
end
theorem stmtC_eq (fs : Tab) (s : PStmt) (all vis : List Nm) : stmtC fs s all vis =
    if shapedB s.kind s.name s.th.length s.el.length then
      if exprC fs vis s.e = 0 then
        if s.kind = sVar then addC s.name all vis
        else if s.kind = sSet ∧ vis.contains s.name = false then (6, all, vis)
        else if (blockC fs s.th all vis).1 = 0 then ((blockC fs s.el (blockC fs s.th all vis).2 vis).1, (blockC fs s.el (blockC fs s.th all vis).2 vis).2, vis)
        else ((blockC fs s.th all vis).1, (blockC fs s.th all vis).2, vis)
      else (exprC fs vis s.e, all, vis)
    else (3, all, vis) := by cases s; rw [stmtC]
theorem blockC_nil (fs : Tab) (all vis : List Nm) : blockC fs [] all vis = (0, all) := by rw [blockC]
theorem blockC_cons (fs : Tab) (s : PStmt) (ss : List PStmt) (all vis : List Nm) : blockC fs (s :: ss) all vis = if (stmtC fs s all vis).1 = 0 then blockC fs ss (stmtC fs s all vis).2.1 (stmtC fs s all vis).2.2 else ((stmtC fs s all vis).1, (stmtC fs s all vis).2.1) := by rw [blockC]
/-- Is one there twice? -/
def dupC (own : List Nm) : List Nm → Bool
  | [] => false
  | p :: ps => own.contains p || dupC (own ++ [p]) ps
def namesC (f : PFun) (ahead : List PFun) : Nat :=
  if nmOk f.name && f.params.all nmOk then
    if ahead.any (fun g => g.name == f.name) then 7 else if 4 < f.params.length then 9 else if dupC [] f.params then 7 else 0
  else 5
def tabOf (fs : List PFun) : Tab := fs.map fun f => (f.name, f.params.length)
def funC (fs : Tab) (ahead : List PFun) (f : PFun) : Nat := if namesC f ahead = 0 then (blockC fs f.body f.params f.params).1 else namesC f ahead
def progFrom (fs : Tab) (ahead : List PFun) : List PFun → Nat × Int
  | [] => (0, -1)
  | f :: rest => if funC fs ahead f = 0 then progFrom fs (ahead ++ [f]) rest else (funC fs ahead f, ahead.length)
def progC (fs : List PFun) : Nat × Int := if 8 < fs.length then (8, -1) else progFrom (tabOf fs) [] fs

/-! lengths, codes -/
theorem callC_code (fs : Tab) (n : Nm) (k : Nat) : callC fs n k ≤ 10 := by unfold callC; split <;> (try split) <;> omega
theorem selfC_code (fs : Tab) (vis : List Nm) (e : PExpr) : selfC fs vis e ≤ 10 := by
  unfold selfC
  have := callC_code fs e.name e.kids.length
  repeat (first | omega | split)
theorem kidsC_code {fs : Tab} {vis : List Nm} : ∀ (ks : List PExpr), (∀ k ∈ ks, exprC fs vis k ≤ 10) → kidsC fs vis ks ≤ 10 := by
  intro ks
  induction ks with
  | nil => intro _; rw [kidsC_nil]; omega
  | cons k ks ih =>
    intro h
    rw [kidsC_cons]
    split
    · exact ih fun x hx => h x (by simp [hx])
    · exact h k (by simp)
theorem exprC_code (fs : Tab) (vis : List Nm) : ∀ e : PExpr, exprC fs vis e ≤ 10 := by
  intro e
  induction e using PExpr.ind with
  | h e ih =>
    rw [exprC_eq]
    have h1 := kidsC_code e.kids ih
    have h2 := selfC_code fs vis e
    repeat (first | omega | split)
/-- What a statement leaves. -/
def Left (fs : Tab) (s : PStmt) : Prop := ∀ all vis, (stmtC fs s all vis).1 ≤ 10 ∧ (all.length ≤ 12 → (stmtC fs s all vis).2.1.length ≤ 12) ∧
  (vis.length ≤ all.length → (stmtC fs s all vis).2.2.length ≤ (stmtC fs s all vis).2.1.length) ∧ all.length ≤ (stmtC fs s all vis).2.1.length ∧ ∃ more, (stmtC fs s all vis).2.2 = vis ++ more
def LeftB (fs : Tab) (ss : List PStmt) : Prop := ∀ all vis, (blockC fs ss all vis).1 ≤ 10 ∧ (all.length ≤ 12 → (blockC fs ss all vis).2.length ≤ 12) ∧ all.length ≤ (blockC fs ss all vis).2.length
theorem leftB_of (fs : Tab) : ∀ (ss : List PStmt), (∀ s ∈ ss, Left fs s) → LeftB fs ss := by
  intro ss
  induction ss with
  | nil => intro _ all vis; rw [blockC_nil]; exact ⟨by simp, fun h => h, Nat.le_refl _⟩
  | cons s ss ih =>
    intro h all vis
    obtain ⟨a1, a2, a3, a4, -⟩ := h s (by simp) all vis
    rw [blockC_cons]
    split
    · obtain ⟨b1, b2, b3⟩ := ih (fun x hx => h x (by simp [hx])) (stmtC fs s all vis).2.1 (stmtC fs s all vis).2.2
      exact ⟨b1, fun q => b2 (a2 q), Nat.le_trans a4 b3⟩
    · exact ⟨a1, a2, a4⟩
theorem addC_left (name : Nm) (all vis : List Nm) : (addC name all vis).1 ≤ 10 ∧ (all.length ≤ 12 → (addC name all vis).2.1.length ≤ 12) ∧
    (vis.length ≤ all.length → (addC name all vis).2.2.length ≤ (addC name all vis).2.1.length) ∧ all.length ≤ (addC name all vis).2.1.length ∧ ∃ more, (addC name all vis).2.2 = vis ++ more := by
  unfold addC
  split
  · exact ⟨by simp, fun h => h, fun h => h, Nat.le_refl _, [], by simp⟩
  · split
    · exact ⟨by simp, fun h => h, fun h => h, Nat.le_refl _, [], by simp⟩
    · exact ⟨by simp, fun _ => by simp; omega, fun h => by simp; omega, by simp, _, rfl⟩
theorem left_of (fs : Tab) (s : PStmt) (ht : LeftB fs s.th) (hl : LeftB fs s.el) : Left fs s := by
  intro all vis
  have h0 := exprC_code fs vis s.e
  obtain ⟨t1, t2, t3⟩ := ht all vis
  obtain ⟨l1, l2, l3⟩ := hl (blockC fs s.th all vis).2 vis
  rw [stmtC_eq]
  split
  · split
    · split
      · exact addC_left _ _ _
      · split
        · exact ⟨by simp, fun h => h, fun h => h, Nat.le_refl _, [], by simp⟩
        · split
          · exact ⟨l1, fun h => l2 (t2 h), fun h => by simp only; omega, by simp only; omega, [], by simp⟩
          · exact ⟨t1, t2, fun h => by simp only; omega, t3, [], by simp⟩
    · exact ⟨h0, fun h => h, fun h => h, Nat.le_refl _, [], by simp⟩
  · exact ⟨by simp, fun h => h, fun h => h, Nat.le_refl _, [], by simp⟩
theorem left_any (fs : Tab) : ∀ s : PStmt, Left fs s := by
  intro s
  induction s using PStmt.ind with
  | h s iht ihl => exact left_of fs s (leftB_of fs _ iht) (leftB_of fs _ ihl)
theorem leftB_any (fs : Tab) (ss : List PStmt) : LeftB fs ss := leftB_of fs ss fun s _ => left_any fs s
theorem namesC_code (f : PFun) (ahead : List PFun) : namesC f ahead ≤ 10 := by unfold namesC; repeat (first | omega | split)
theorem funC_code (fs : Tab) (ahead : List PFun) (f : PFun) : funC fs ahead f ≤ 10 := by
  unfold funC
  have h1 := namesC_code f ahead
  have h2 := (leftB_any fs f.body f.params f.params).1
  split <;> omega
end Go.Proofs.YteifmgcbafemeaaDoor

namespace Go.Proofs.YteifmgcbafemeaaDoor
open Go.RowKit

/-! what a program does, in plain Lean -/
structure St where
  how : Nm
  out : List Int
  ticks : Nat
def St.over (s : St) : Bool := !s.how.isEmpty
def tiredN : Nm := [116, 105, 114, 101, 100]
def deepN : Nm := [100, 101, 101, 112]
def loudN : Nm := [108, 111, 117, 100]
def doneN : Nm := [100, 111, 110, 101]
abbrev Caller := Nm → List Int → St → Int × St
abbrev Vs := List (Nm × Int)
def lookV (vs : Vs) (n : Nm) : Option Int := (vs.find? fun x => x.1 == n).map (·.2)
def getV (vs : Vs) (n : Nm) : Int := (lookV vs n).getD 0
def putV : Vs → Nm → Int → Vs
  | [], n, v => [(n, v)]
  | x :: xs, n, v => if x.1 == n then (n, v) :: xs else x :: putV xs n v
theorem lookV_put : ∀ (vs : Vs) (n : Nm) (v : Int) (k : Nm), lookV (putV vs n v) k = if k = n then some v else lookV vs k := by
  intro vs
  induction vs with
  | nil =>
    intro n v k
    unfold putV lookV
    by_cases h : k = n
    · subst h; simp
    · have : (n == k) = false := beq_eq_false_iff_ne.2 fun e => h e.symm
      simp [this, h]
  | cons x xs ih =>
    intro n v k
    have ih' := ih n v k
    unfold lookV at ih' ⊢
    unfold putV
    by_cases hx : (x.1 == n) = true
    · rw [if_pos hx]
      have hxe : x.1 = n := by simpa using hx
      by_cases h : k = n
      · subst h; simp
      · have h1 : (n == k) = false := beq_eq_false_iff_ne.2 fun e => h e.symm
        simp [hxe, h1, h]
    · rw [if_neg hx, List.find?_cons, List.find?_cons]
      by_cases h1 : (x.1 == k) = true
      · have h2 : x.1 = k := by simpa using h1
        have h3 : k ≠ n := fun e => hx (by rw [h2, e]; simp)
        simp [h1, h3]
      · simp only [Bool.not_eq_true] at h1
        rw [h1]; exact ih'
theorem length_putV : ∀ (vs : Vs) (n : Nm) (v : Int), (putV vs n v).length = if (lookV vs n).isSome then vs.length else vs.length + 1 := by
  intro vs
  induction vs with
  | nil => intro n v; rfl
  | cons x xs ih =>
    intro n v
    have ih' := ih n v
    unfold lookV at ih' ⊢
    unfold putV
    rw [List.find?_cons]
    by_cases hx : (x.1 == n) = true
    · rw [if_pos hx, hx]; rfl
    · simp only [Bool.not_eq_true] at hx
      rw [if_neg (by rw [hx]; decide), hx]
      simp only [List.length_cons, ih']
      split <;> rfl
/-- The names that have a value, each once. -/
def namesV (vs : Vs) : List Nm := vs.map (·.1)
theorem lookV_isSome (vs : Vs) (n : Nm) : (lookV vs n).isSome = (namesV vs).contains n := by
  induction vs with
  | nil => rfl
  | cons x xs ih =>
    unfold lookV namesV at *
    rw [List.find?_cons, List.map_cons, List.contains_cons]
    by_cases hx : (x.1 == n) = true
    · have : n = x.1 := by simpa using (show x.1 = n by simpa using hx).symm
      rw [hx, this]; simp
    · simp only [Bool.not_eq_true] at hx
      have h2 : (n == x.1) = false := beq_eq_false_iff_ne.2 fun e => (beq_eq_false_iff_ne.1 hx) e.symm
      rw [hx, h2]; exact ih
theorem namesV_put : ∀ (vs : Vs) (n : Nm) (v : Int), namesV (putV vs n v) = if (lookV vs n).isSome then namesV vs else namesV vs ++ [n] := by
  intro vs
  induction vs with
  | nil => intro n v; rfl
  | cons x xs ih =>
    intro n v
    have ih' := ih n v
    unfold lookV namesV at ih' ⊢
    unfold putV
    rw [List.find?_cons]
    by_cases hx : (x.1 == n) = true
    · have : x.1 = n := by simpa using hx
      rw [if_pos hx, hx]; simp [this]
    · simp only [Bool.not_eq_true] at hx
      rw [if_neg (by rw [hx]; decide), hx]
      simp only [List.map_cons, ih']
      split <;> simp
/-- The names stand once, and in L. -/
def OnlyIn (vs : Vs) (L : List Nm) : Prop := (namesV vs).Nodup ∧ ∀ x ∈ namesV vs, x ∈ L
theorem OnlyIn.put {vs : Vs} {L : List Nm} (h : OnlyIn vs L) {n : Nm} (hn : n ∈ L) (v : Int) : OnlyIn (putV vs n v) L := by
  unfold OnlyIn
  rw [namesV_put]
  split
  · exact h
  · rename_i hc
    rw [lookV_isSome] at hc
    simp only [Bool.not_eq_true, List.contains_eq_mem, decide_eq_false_iff_not] at hc
    refine ⟨List.nodup_append.2 ⟨h.1, by simp, fun a ha b hb e => ?_⟩, fun x hx => ?_⟩
    · simp at hb; subst hb; subst e; exact hc ha
    · rcases List.mem_append.1 hx with q | q
      · exact h.2 x q
      · simp at q; subst q; exact hn
theorem OnlyIn.nil (L : List Nm) : OnlyIn [] L := ⟨by simp [namesV], by simp [namesV]⟩
theorem nodup_len {α : Type} [BEq α] [LawfulBEq α] : ∀ {a b : List α}, a.Nodup → (∀ x ∈ a, x ∈ b) → a.length ≤ b.length := by
  intro a
  induction a with
  | nil => intro b _ _; exact Nat.zero_le _
  | cons x xs ih =>
    intro b hn hb
    have hx : x ∈ b := hb x (by simp)
    obtain ⟨h1, h2⟩ := List.nodup_cons.1 hn
    have h3 := ih (b := b.erase x) h2 fun y hy => (List.mem_erase_of_ne (fun (e : y = x) => h1 (by rw [← e]; exact hy))).2 (hb y (by simp [hy]))
    rw [List.length_erase_of_mem hx] at h3
    have h4 := List.length_pos_of_mem hx
    simp only [List.length_cons]
    omega
theorem OnlyIn.len {vs : Vs} {L : List Nm} (h : OnlyIn vs L) : vs.length ≤ L.length := by
  have := nodup_len h.1 h.2
  simpa [namesV] using this
def tickP (T : Nat) (st : St) : St := if st.ticks < T then { st with ticks := st.ticks + 1 } else { st with how := tiredN }
def printP (n : Int) (st : St) : St := if 1000 ≤ st.out.length then { st with how := loudN } else { st with out := st.out ++ [n] }
/-- An expression's own part, behind its kids. -/
def selfP (call : Caller) (vs : Vs) (kind name : Nm) (num : Int) (r : List Int × St) : Int × St :=
  if r.2.over then (0, r.2)
  else if kind = xName then (getV vs name, r.2)
  else if kind = xCall then call name r.1 r.2
  else if kind = xOne then (valOf (oneV name (r.1.getD 0 0)), r.2)
  else if kind = xTwo then (valOf (doV name (r.1.getD 0 0) (r.1.getD 1 0)), r.2)
  else (num, r.2)
mutual
def evalP (call : Caller) (vs : Vs) : PExpr → St → Int × St
  | ⟨kind, num, name, kids⟩, st => if st.over then (0, st) else selfP call vs kind name num (kidsP call vs kids st)
def kidsP (call : Caller) (vs : Vs) : List PExpr → St → List Int × St
  | [], st => ([], st)
  | k :: ks, st => ((evalP call vs k st).1 :: (kidsP call vs ks (evalP call vs k st).2).1, (kidsP call vs ks (evalP call vs k st).2).2)
end
theorem evalP_eq (call : Caller) (vs : Vs) (e : PExpr) (st : St) : evalP call vs e st = if st.over then (0, st) else selfP call vs e.kind e.name e.num (kidsP call vs e.kids st) := by cases e; rw [evalP]
theorem kidsP_nil (call : Caller) (vs : Vs) (st : St) : kidsP call vs [] st = ([], st) := by rw [kidsP]
theorem kidsP_cons (call : Caller) (vs : Vs) (k : PExpr) (ks : List PExpr) (st : St) : kidsP call vs (k :: ks) st = ((evalP call vs k st).1 :: (kidsP call vs ks (evalP call vs k st).2).1, (kidsP call vs ks (evalP call vs k st).2).2) := by rw [kidsP]
/-- A frame: its variables, its answer. -/
structure Fr where
  vars : Vs
  ans : Option Int
abbrev FS := Fr × St
def stopP (s : FS) : Bool := s.2.over || s.1.ans.isSome
def loopP (T : Nat) (cond : FS → Int × St) (body : FS → FS) : Nat → FS → FS
  | 0, s => if stopP s then s else (s.1, tickP T s.2)
  | n + 1, s => if stopP s then s else if (tickP T s.2).over then (s.1, tickP T s.2)
      else if (cond (s.1, tickP T s.2)).2.over || (cond (s.1, tickP T s.2)).1 == 0 then (s.1, (cond (s.1, tickP T s.2)).2)
      else loopP T cond body n (body (s.1, (cond (s.1, tickP T s.2)).2))
mutual
def stmtP (call : Caller) (T : Nat) : PStmt → FS → FS
  | ⟨kind, name, e, th, el⟩, s =>
    if kind = sWhile then loopP T (fun s => evalP call s.1.vars e s.2) (fun s => blockP call T th s) (T - s.2.ticks) s
    else if (evalP call s.1.vars e s.2).2.over then (s.1, (evalP call s.1.vars e s.2).2)
    else if kind = sVar ∨ kind = sSet then (⟨putV s.1.vars name (evalP call s.1.vars e s.2).1, s.1.ans⟩, (evalP call s.1.vars e s.2).2)
    else if kind = sPrint then (s.1, printP (evalP call s.1.vars e s.2).1 (evalP call s.1.vars e s.2).2)
    else if kind = sReturn then (⟨s.1.vars, some (evalP call s.1.vars e s.2).1⟩, (evalP call s.1.vars e s.2).2)
    else if (evalP call s.1.vars e s.2).1 = 0 then blockP call T el (s.1, (evalP call s.1.vars e s.2).2)
    else blockP call T th (s.1, (evalP call s.1.vars e s.2).2)
def blockP (call : Caller) (T : Nat) : List PStmt → FS → FS
  | [], s => s
  | x :: xs, s => if stopP s then s else blockP call T xs (stmtP call T x s)
end
theorem stmtP_eq (call : Caller) (T : Nat) (x : PStmt) (s : FS) : stmtP call T x s =
    if x.kind = sWhile then loopP T (fun s => evalP call s.1.vars x.e s.2) (fun s => blockP call T x.th s) (T - s.2.ticks) s
    else if (evalP call s.1.vars x.e s.2).2.over then (s.1, (evalP call s.1.vars x.e s.2).2)
    else if x.kind = sVar ∨ x.kind = sSet then (⟨putV s.1.vars x.name (evalP call s.1.vars x.e s.2).1, s.1.ans⟩, (evalP call s.1.vars x.e s.2).2)
    else if x.kind = sPrint then (s.1, printP (evalP call s.1.vars x.e s.2).1 (evalP call s.1.vars x.e s.2).2)
    else if x.kind = sReturn then (⟨s.1.vars, some (evalP call s.1.vars x.e s.2).1⟩, (evalP call s.1.vars x.e s.2).2)
    else if (evalP call s.1.vars x.e s.2).1 = 0 then blockP call T x.el (s.1, (evalP call s.1.vars x.e s.2).2)
    else blockP call T x.th (s.1, (evalP call s.1.vars x.e s.2).2) := by cases x; rw [stmtP]
theorem blockP_nil (call : Caller) (T : Nat) (s : FS) : blockP call T [] s = s := by rw [blockP]
theorem blockP_cons (call : Caller) (T : Nat) (x : PStmt) (xs : List PStmt) (s : FS) : blockP call T (x :: xs) s = if stopP s then s else blockP call T xs (stmtP call T x s) := by rw [blockP]
/-- Parameters with their arguments. -/
def bindP : List Nm → List Int → Vs → Vs
  | [], _, vs => vs
  | p :: ps, l, vs => bindP ps l.tail (putV vs p (l.headD 0))
def bodyP (call : Caller) (T : Nat) (f : PFun) (args : List Int) (st : St) : Int × St := ((blockP call T f.body (⟨bindP f.params args [], none⟩, st)).1.ans.getD 0, (blockP call T f.body (⟨bindP f.params args [], none⟩, st)).2)
def findF (fs : List PFun) (n : Nm) : Option PFun := fs.find? fun f => f.name == n
def callP (fs : List PFun) (T : Nat) : Nat → Caller
  | 0, _, _, st => if st.over then (0, st) else if (tickP T st).over then (0, tickP T st) else (0, { tickP T st with how := deepN })
  | d + 1, name, args, st => if st.over then (0, st) else if (tickP T st).over then (0, tickP T st) else
      match findF fs name with
      | none => (0, tickP T st)
      | some f => bodyP (callP fs T d) T f args (tickP T st)
def St0 : St := ⟨[], [], 0⟩
/-- The outcome of a run: how, value, out, ticks. -/
def runP (fs : List PFun) (name : Nm) (args : List Int) (T : Nat) : Nm × Int × List Int × Nat :=
  if (callP fs T 40 name args St0).2.over then ((callP fs T 40 name args St0).2.how, 0, (callP fs T 40 name args St0).2.out, (callP fs T 40 name args St0).2.ticks)
  else (doneN, (callP fs T 40 name args St0).1, (callP fs T 40 name args St0).2.out, (callP fs T 40 name args St0).2.ticks)

/-! what is so of each step -/
/-- From a to b: nothing is done once it is over; what was printed stands; ticks are at most T. -/
structure Go1 (T : Nat) (a b : St) : Prop where
  stop : a.over = true → b = a
  out : a.out <+: b.out
  tick : a.ticks ≤ b.ticks
  most : a.ticks ≤ T → b.ticks ≤ T
  thousand : a.out.length ≤ 1000 → b.out.length ≤ 1000
  tired : (a.how = tiredN → T ≤ a.ticks) → b.how = tiredN → T ≤ b.ticks
theorem Go1.refl (T : Nat) (a : St) : Go1 T a a := ⟨fun _ => rfl, List.prefix_refl _, Nat.le_refl _, fun h => h, fun h => h, fun h => h⟩
theorem Go1.trans {T : Nat} {a b c : St} (h : Go1 T a b) (k : Go1 T b c) : Go1 T a c :=
  ⟨fun q => by have := h.stop q; subst this; exact k.stop q, h.out.trans k.out, Nat.le_trans h.tick k.tick, fun q => k.most (h.most q), fun q => k.thousand (h.thousand q), fun q => k.tired (h.tired q)⟩
theorem go_tick {T : Nat} {a : St} (h : a.over = false) : Go1 T a (tickP T a) := by
  unfold tickP
  split
  · exact ⟨fun q => (by rw [h] at q; cases q), List.prefix_refl _, by simp, fun _ => by simp; omega, fun q => q, fun q r => by have := q r; simp; omega⟩
  · exact ⟨fun q => (by rw [h] at q; cases q), List.prefix_refl _, Nat.le_refl _, fun q => q, fun q => q, fun _ _ => by simp; omega⟩
theorem go_print {T : Nat} {a : St} (h : a.over = false) (n : Int) : Go1 T a (printP n a) := by
  unfold printP
  split
  · exact ⟨fun q => (by rw [h] at q; cases q), List.prefix_refl _, Nat.le_refl _, fun q => q, fun q => q, fun _ r => by simp [loudN, tiredN] at r⟩
  · exact ⟨fun q => (by rw [h] at q; cases q), List.prefix_append _ _, Nat.le_refl _, fun q => q, fun _ => by simp; omega, fun q => q⟩
def GoC (T : Nat) (call : Caller) : Prop := ∀ n l st, Go1 T st (call n l st).2
theorem go_self {T : Nat} {call : Caller} (h : GoC T call) (vs : Vs) (kind name : Nm) (num : Int) (r : List Int × St) : Go1 T r.2 (selfP call vs kind name num r).2 := by
  unfold selfP
  repeat (first | exact Go1.refl _ _ | exact h _ _ _ | split)
theorem go_kids {T : Nat} {call : Caller} (vs : Vs) : ∀ (ks : List PExpr), (∀ k ∈ ks, ∀ st, Go1 T st (evalP call vs k st).2) → ∀ st, Go1 T st (kidsP call vs ks st).2 := by
  intro ks
  induction ks with
  | nil => intro _ st; rw [kidsP_nil]; exact Go1.refl _ _
  | cons k ks ih =>
    intro h st
    rw [kidsP_cons]
    exact (h k (by simp) st).trans (ih (fun x hx => h x (by simp [hx])) _)
theorem go_eval {T : Nat} {call : Caller} (h : GoC T call) (vs : Vs) : ∀ (e : PExpr) (st : St), Go1 T st (evalP call vs e st).2 := by
  intro e
  induction e using PExpr.ind with
  | h e ih =>
    intro st
    rw [evalP_eq]
    split
    · exact Go1.refl _ _
    · exact (go_kids vs e.kids ih st).trans (go_self h vs _ _ _ _)
theorem go_loop {T : Nat} {cond : FS → Int × St} {body : FS → FS} (hc : ∀ s, Go1 T s.2 (cond s).2) (hb : ∀ s, Go1 T s.2 (body s).2) : ∀ (n : Nat) (s : FS), Go1 T s.2 (loopP T cond body n s).2 := by
  intro n
  induction n with
  | zero =>
    intro s
    unfold loopP
    split
    · exact Go1.refl _ _
    · rename_i h
      have h1 : s.2.over = false := by unfold stopP at h; simp at h; exact h.1
      exact go_tick h1
  | succ n ih =>
    intro s
    unfold loopP
    split
    · exact Go1.refl _ _
    · rename_i h
      have h1 : s.2.over = false := by unfold stopP at h; simp at h; exact h.1
      have h2 := go_tick (T := T) h1
      split
      · exact h2
      · have h3 := hc (s.1, tickP T s.2)
        split
        · exact h2.trans h3
        · exact (h2.trans h3).trans ((hb (s.1, (cond (s.1, tickP T s.2)).2)).trans (ih _))
theorem go_blockL {T : Nat} {call : Caller} : ∀ (ss : List PStmt), (∀ x ∈ ss, ∀ s, Go1 T s.2 (stmtP call T x s).2) → ∀ s, Go1 T s.2 (blockP call T ss s).2 := by
  intro ss
  induction ss with
  | nil => intro _ s; rw [blockP_nil]; exact Go1.refl _ _
  | cons x xs ih =>
    intro h s
    rw [blockP_cons]
    split
    · exact Go1.refl _ _
    · exact (h x (by simp) s).trans (ih (fun y hy => h y (by simp [hy])) _)
theorem go_stmt {T : Nat} {call : Caller} (h : GoC T call) : ∀ (x : PStmt) (s : FS), Go1 T s.2 (stmtP call T x s).2 := by
  intro x
  induction x using PStmt.ind with
  | h x iht ihl =>
    intro s
    have h1 := go_eval h s.1.vars x.e s.2
    rw [stmtP_eq]
    split
    · exact go_loop (fun s => go_eval h _ _ _) (fun s => go_blockL x.th iht s) _ _
    · split
      · exact h1
      · rename_i h2
        simp only [Bool.not_eq_true] at h2
        split
        · exact h1
        · split
          · exact h1.trans (go_print h2 _)
          · split
            · exact h1
            · split
              · exact h1.trans (go_blockL x.el ihl (s.1, _))
              · exact h1.trans (go_blockL x.th iht (s.1, _))
theorem go_block {T : Nat} {call : Caller} (h : GoC T call) (ss : List PStmt) (s : FS) : Go1 T s.2 (blockP call T ss s).2 := go_blockL ss (fun x _ => go_stmt h x) s
theorem go_call (fs : List PFun) (T : Nat) : ∀ d, GoC T (callP fs T d) := by
  intro d
  induction d with
  | zero =>
    intro n l st
    unfold callP
    split
    · exact Go1.refl _ _
    · rename_i h
      simp only [Bool.not_eq_true] at h
      have h2 := go_tick (T := T) h
      split
      · exact h2
      · rename_i h3
        exact ⟨fun q => (by rw [h] at q; cases q), h2.out, h2.tick, h2.most, h2.thousand, fun _ r => by simp [deepN, tiredN] at r⟩
  | succ d ih =>
    intro n l st
    unfold callP
    split
    · exact Go1.refl _ _
    · rename_i h
      simp only [Bool.not_eq_true] at h
      have h2 := go_tick (T := T) h
      split
      · exact h2
      · split
        · exact h2
        · rename_i f _
          exact h2.trans (go_block ih f.body (⟨bindP f.params l [], none⟩, tickP T st))
end Go.Proofs.YteifmgcbafemeaaDoor

namespace Go.Proofs.YteifmgcbafemeaaDoor
open Go.RowKit

/-! variables and calls, in plain Lean -/
def pushN (xs : List Nm) (x : Nm) : List Nm := if xs.contains x then xs else xs ++ [x]
mutual
def callE : PExpr → List Nm → List Nm
  | ⟨kind, _, name, kids⟩, xs => if kind = xCall then pushN (callK kids xs) name else callK kids xs
def callK : List PExpr → List Nm → List Nm
  | [], xs => xs
  | k :: ks, xs => callK ks (callE k xs)
end
theorem callE_eq (e : PExpr) (xs : List Nm) : callE e xs = if e.kind = xCall then pushN (callK e.kids xs) e.name else callK e.kids xs := by cases e; rw [callE]
theorem callK_nil (xs : List Nm) : callK [] xs = xs := by rw [callK]
theorem callK_cons (k : PExpr) (ks : List PExpr) (xs : List Nm) : callK (k :: ks) xs = callK ks (callE k xs) := by rw [callK]
def stepV (s : PStmt) (xs : List Nm) : List Nm := if s.kind = sVar then xs ++ [s.name] else xs
def stepC (s : PStmt) (xs : List Nm) : List Nm := callE s.e xs
mutual
def walkT (σ : PStmt → List Nm → List Nm) : PStmt → List Nm → List Nm
  | ⟨kind, name, e, th, el⟩, xs => walkS σ el (walkS σ th (σ ⟨kind, name, e, th, el⟩ xs))
def walkS (σ : PStmt → List Nm → List Nm) : List PStmt → List Nm → List Nm
  | [], xs => xs
  | s :: ss, xs => walkS σ ss (walkT σ s xs)
end
theorem walkT_eq (σ : PStmt → List Nm → List Nm) (s : PStmt) (xs : List Nm) : walkT σ s xs = walkS σ s.el (walkS σ s.th (σ s xs)) := by cases s; rw [walkT]
theorem walkS_nil (σ : PStmt → List Nm → List Nm) (xs : List Nm) : walkS σ [] xs = xs := by rw [walkS]
theorem walkS_cons (σ : PStmt → List Nm → List Nm) (s : PStmt) (ss : List PStmt) (xs : List Nm) : walkS σ (s :: ss) xs = walkS σ ss (walkT σ s xs) := by rw [walkS]
def varsP (f : PFun) : List Nm := walkS stepV f.body f.params
def callsP (f : PFun) : List Nm := walkS stepC f.body []

/-! how many -/
mutual
def cntE : PExpr → Nat
  | ⟨_, _, _, kids⟩ => 1 + cntK kids
def cntK : List PExpr → Nat
  | [] => 0
  | k :: ks => cntE k + cntK ks
end
theorem cntE_eq (e : PExpr) : cntE e = 1 + cntK e.kids := by cases e; rw [cntE]
theorem cntK_nil : cntK [] = 0 := by rw [cntK]
theorem cntK_cons (k : PExpr) (ks : List PExpr) : cntK (k :: ks) = cntE k + cntK ks := by rw [cntK]
mutual
def cntT : PStmt → Nat
  | ⟨_, _, e, th, el⟩ => 1 + cntE e + cntS th + cntS el
def cntS : List PStmt → Nat
  | [] => 0
  | s :: ss => cntT s + cntS ss
end
theorem cntT_eq (s : PStmt) : cntT s = 1 + cntE s.e + cntS s.th + cntS s.el := by cases s; rw [cntT]
theorem cntS_nil : cntS [] = 0 := by rw [cntS]
theorem cntS_cons (s : PStmt) (ss : List PStmt) : cntS (s :: ss) = cntT s + cntS ss := by rw [cntS]
theorem cntK_le {d : Nat} : ∀ (ks : List PExpr) (n : Nat), (∀ k ∈ ks, szE k d < 1000 → cntE k ≤ szE k d) → szK ks d n < 1000 → n + cntK ks ≤ szK ks d n := by
  intro ks
  induction ks with
  | nil => intro n _ _; rw [cntK_nil, szK_nil]; omega
  | cons k ks ih =>
    intro n hk h
    have hn1 : n < 1000 := by have := szK_ge (k :: ks) d n; omega
    rw [szK_cons, if_pos hn1] at h ⊢
    have h1 := szK_ge ks d (n + szE k d)
    have h2 := hk k (by simp) (by omega)
    have h3 := ih (n + szE k d) (fun x hx => hk x (by simp [hx])) h
    rw [cntK_cons]; omega
theorem cntE_le : ∀ (e : PExpr) (d : Nat), szE e d < 1000 → cntE e ≤ szE e d := by
  intro e
  induction e using PExpr.ind with
  | h e ih =>
    intro d h
    rw [szE_eq] at h ⊢
    split at h
    · omega
    · rename_i hc
      rw [if_neg hc, cntE_eq]
      exact cntK_le e.kids 1 (fun k hk => ih k hk (d + 1)) h
theorem cntS_le {d : Nat} : ∀ (ss : List PStmt) (n : Nat), (∀ s ∈ ss, szT s d < 1000 → cntT s ≤ szT s d) → szL ss d n < 1000 → n + cntS ss ≤ szL ss d n := by
  intro ss
  induction ss with
  | nil => intro n _ _; rw [cntS_nil, szL_nil]; omega
  | cons s ss ih =>
    intro n hk h
    have hsm := szL_small _ _ _ h s (by simp)
    have hn1 : n < 1000 := by rw [szL_cons] at h; split at h <;> omega
    rw [szL_cons, if_pos hn1] at h ⊢
    rw [if_neg (by omega)] at h ⊢
    have h2 := hk s (by simp) hsm.2.2
    have h3 := ih (n + szT s d) (fun x hx => hk x (by simp [hx])) h
    rw [cntS_cons]; omega
theorem cntT_le : ∀ (s : PStmt) (d : Nat), szT s d < 1000 → cntT s ≤ szT s d := by
  intro s
  induction s using PStmt.ind with
  | h s iht ihl =>
    intro d h
    rw [szT_eq] at h ⊢
    have h0 := cntE_le s.e 0 (by omega)
    obtain ⟨_, q1⟩ := szS_small (ss := s.th) (d := d + 1) (by omega)
    obtain ⟨_, q2⟩ := szS_small (ss := s.el) (d := d + 1) (by omega)
    have h1 := cntS_le s.th 0 (fun k hk => iht k hk (d + 1)) q1
    have h2 := cntS_le s.el 0 (fun k hk => ihl k hk (d + 1)) q2
    have e1 : szS s.th (d + 1) = szL s.th (d + 1) 0 := by
      have : szS s.th (d + 1) < 1000 := by omega
      unfold szS at this ⊢; split at this <;> rename_i hc
      · omega
      · rw [if_neg hc]
    have e2 : szS s.el (d + 1) = szL s.el (d + 1) 0 := by
      have : szS s.el (d + 1) < 1000 := by omega
      unfold szS at this ⊢; split at this <;> rename_i hc
      · omega
      · rw [if_neg hc]
    rw [cntT_eq]; omega
theorem cntB_le {ss : List PStmt} (h : szS ss 0 < 1000) : cntS ss ≤ szS ss 0 := by
  obtain ⟨_, q1⟩ := szS_small h
  have h1 := cntS_le ss 0 (fun k _ => cntT_le k 0) q1
  unfold szS at h ⊢
  split at h <;> rename_i hc
  · omega
  · rw [if_neg hc]; omega
theorem pushN_len (xs : List Nm) (x : Nm) : (pushN xs x).length ≤ xs.length + 1 := by unfold pushN; split <;> simp
theorem callK_len : ∀ (ks : List PExpr) (xs : List Nm), (∀ k ∈ ks, ∀ ys, (callE k ys).length ≤ ys.length + cntE k) → (callK ks xs).length ≤ xs.length + cntK ks := by
  intro ks
  induction ks with
  | nil => intro xs _; rw [callK_nil, cntK_nil]; omega
  | cons k ks ih =>
    intro xs h
    rw [callK_cons, cntK_cons]
    have h1 := h k (by simp) xs
    have h2 := ih (callE k xs) fun x hx => h x (by simp [hx])
    omega
theorem callE_len : ∀ (e : PExpr) (xs : List Nm), (callE e xs).length ≤ xs.length + cntE e := by
  intro e
  induction e using PExpr.ind with
  | h e ih =>
    intro xs
    rw [callE_eq, cntE_eq]
    have h1 := callK_len e.kids xs ih
    have h2 := pushN_len (callK e.kids xs) e.name
    split <;> omega
/-- A step adds no more than its statement holds. -/
def StepOk (σ : PStmt → List Nm → List Nm) : Prop := ∀ s xs, (σ s xs).length ≤ xs.length + 1 + cntE s.e
theorem stepV_ok : StepOk stepV := fun s xs => by
  unfold stepV; split
  · simp only [List.length_append, List.length_cons, List.length_nil]; omega
  · omega
theorem stepC_ok : StepOk stepC := fun s xs => by have := callE_len s.e xs; unfold stepC; omega
theorem walkS_len {σ : PStmt → List Nm → List Nm} : ∀ (ss : List PStmt) (xs : List Nm), (∀ s ∈ ss, ∀ ys, (walkT σ s ys).length ≤ ys.length + cntT s) → (walkS σ ss xs).length ≤ xs.length + cntS ss := by
  intro ss
  induction ss with
  | nil => intro xs _; rw [walkS_nil, cntS_nil]; omega
  | cons s ss ih =>
    intro xs h
    rw [walkS_cons, cntS_cons]
    have h1 := h s (by simp) xs
    have h2 := ih (walkT σ s xs) fun x hx => h x (by simp [hx])
    omega
theorem walkT_len {σ : PStmt → List Nm → List Nm} (hσ : StepOk σ) : ∀ (s : PStmt) (xs : List Nm), (walkT σ s xs).length ≤ xs.length + cntT s := by
  intro s
  induction s using PStmt.ind with
  | h s iht ihl =>
    intro xs
    rw [walkT_eq, cntT_eq]
    have h0 := hσ s xs
    have h1 := walkS_len s.th (σ s xs) iht
    have h2 := walkS_len s.el (walkS σ s.th (σ s xs)) ihl
    omega
theorem walkB_len {σ : PStmt → List Nm → List Nm} (hσ : StepOk σ) (ss : List PStmt) (xs : List Nm) : (walkS σ ss xs).length ≤ xs.length + cntS ss := walkS_len ss xs fun s _ => walkT_len hσ s
end Go.Proofs.YteifmgcbafemeaaDoor

namespace Go.Proofs.YteifmgcbafemeaaDoor
open Go.RowKit

/-! laws of what is well -/
mutual
def allE : PExpr → List Nm
  | ⟨kind, _, name, kids⟩ => allK kids ++ if kind = xCall then [name] else []
def allK : List PExpr → List Nm
  | [] => []
  | k :: ks => allE k ++ allK ks
end
theorem allE_eq (e : PExpr) : allE e = allK e.kids ++ if e.kind = xCall then [e.name] else [] := by cases e; rw [allE]
theorem allK_nil : allK [] = [] := by rw [allK]
theorem allK_cons (k : PExpr) (ks : List PExpr) : allK (k :: ks) = allE k ++ allK ks := by rw [allK]
mutual
def allT : PStmt → List Nm
  | ⟨_, _, e, th, el⟩ => allE e ++ allS th ++ allS el
def allS : List PStmt → List Nm
  | [] => []
  | s :: ss => allT s ++ allS ss
end
theorem allT_eq (s : PStmt) : allT s = allE s.e ++ allS s.th ++ allS s.el := by cases s; rw [allT]
theorem allS_nil : allS [] = [] := by rw [allS]
theorem allS_cons (s : PStmt) (ss : List PStmt) : allS (s :: ss) = allT s ++ allS ss := by rw [allS]
theorem callK_fold : ∀ (ks : List PExpr) (xs : List Nm), (∀ k ∈ ks, ∀ ys, callE k ys = (allE k).foldl pushN ys) → callK ks xs = (allK ks).foldl pushN xs := by
  intro ks
  induction ks with
  | nil => intro xs _; rw [callK_nil, allK_nil]; rfl
  | cons k ks ih =>
    intro xs h
    rw [callK_cons, allK_cons, List.foldl_append, h k (by simp), ih _ fun x hx => h x (by simp [hx])]
theorem callE_fold : ∀ (e : PExpr) (xs : List Nm), callE e xs = (allE e).foldl pushN xs := by
  intro e
  induction e using PExpr.ind with
  | h e ih =>
    intro xs
    rw [callE_eq, allE_eq, List.foldl_append, callK_fold e.kids xs ih]
    split <;> rfl
theorem walkS_fold : ∀ (ss : List PStmt) (xs : List Nm), (∀ s ∈ ss, ∀ ys, walkT stepC s ys = (allT s).foldl pushN ys) → walkS stepC ss xs = (allS ss).foldl pushN xs := by
  intro ss
  induction ss with
  | nil => intro xs _; rw [walkS_nil, allS_nil]; rfl
  | cons s ss ih =>
    intro xs h
    rw [walkS_cons, allS_cons, List.foldl_append, h s (by simp), ih _ fun x hx => h x (by simp [hx])]
theorem walkT_fold : ∀ (s : PStmt) (xs : List Nm), walkT stepC s xs = (allT s).foldl pushN xs := by
  intro s
  induction s using PStmt.ind with
  | h s iht ihl =>
    intro xs
    rw [walkT_eq, allT_eq, List.foldl_append, List.foldl_append, walkS_fold s.th _ iht, walkS_fold s.el _ ihl]
    unfold stepC
    rw [callE_fold]
theorem callsP_fold (f : PFun) : callsP f = (allS f.body).foldl pushN [] := walkS_fold f.body [] fun s _ => walkT_fold s
theorem mem_push {xs : List Nm} {x y : Nm} : y ∈ pushN xs x ↔ y ∈ xs ∨ y = x := by
  unfold pushN
  split
  · rename_i h
    have := List.contains_iff_mem.1 h
    constructor
    · exact .inl
    · rintro (q | rfl)
      · exact q
      · exact this
  · simp
theorem mem_pushes : ∀ (l xs : List Nm) (y : Nm), y ∈ l.foldl pushN xs ↔ y ∈ xs ∨ y ∈ l := by
  intro l
  induction l with
  | nil => intro xs y; simp
  | cons x l ih =>
    intro xs y
    rw [List.foldl_cons, ih, mem_push, List.mem_cons, or_assoc]
theorem nodup_push {xs : List Nm} {x : Nm} (h : xs.Nodup) : (pushN xs x).Nodup := by
  unfold pushN
  split
  · exact h
  · rename_i hc
    rw [List.nodup_append]
    refine ⟨h, by simp, ?_⟩
    intro a ha b hb e
    simp only [List.mem_singleton] at hb
    subst hb; subst e
    exact hc (List.contains_iff_mem.2 ha)
theorem nodup_pushes : ∀ (l xs : List Nm), xs.Nodup → (l.foldl pushN xs).Nodup := by
  intro l
  induction l with
  | nil => intro xs h; exact h
  | cons x l ih => intro xs h; exact ih _ (nodup_push h)
theorem callsP_nodup (f : PFun) : (callsP f).Nodup := by rw [callsP_fold]; exact nodup_pushes _ _ (by simp)
theorem callsP_mem (f : PFun) (x : Nm) : x ∈ callsP f ↔ x ∈ allS f.body := by rw [callsP_fold, mem_pushes]; simp

/-! what a table must have -/
theorem kidsC_ok {t : Tab} {vis : List Nm} : ∀ (ks : List PExpr), kidsC t vis ks = 0 ↔ ∀ k ∈ ks, exprC t vis k = 0 := by
  intro ks
  induction ks with
  | nil => rw [kidsC_nil]; simp
  | cons k ks ih =>
    rw [kidsC_cons]
    by_cases h : exprC t vis k = 0
    · rw [if_pos h, ih]; simp [h]
    · rw [if_neg h]; simp [h]
theorem callC_ok {t : Tab} {n : Nm} {k : Nat} : callC t n k = 0 ↔ argsOf t n = some k := by
  unfold callC
  cases h : argsOf t n with
  | none => simp
  | some m => by_cases hk : m = k <;> simp [hk]
theorem exprC_there {t : Tab} {vis : List Nm} : ∀ e : PExpr, exprC t vis e = 0 → ∀ x ∈ allE e, ∃ m, argsOf t x = some m := by
  intro e
  induction e using PExpr.ind with
  | h e ih =>
    intro h x hx
    rw [exprC_eq] at h
    split at h
    · split at h
      · rename_i hk
        rw [allE_eq, List.mem_append] at hx
        rcases hx with hx | hx
        · have hall := (kidsC_ok e.kids).1 hk
          have : ∀ (ks : List PExpr), (∀ k ∈ ks, k ∈ e.kids) → x ∈ allK ks → ∃ k ∈ ks, x ∈ allE k := by
            intro ks
            induction ks with
            | nil => intro _ hx; rw [allK_nil] at hx; cases hx
            | cons k ks ihk =>
              intro hs hx
              rw [allK_cons, List.mem_append] at hx
              rcases hx with hx | hx
              · exact ⟨k, by simp, hx⟩
              · obtain ⟨k', h1, h2⟩ := ihk (fun y hy => hs y (by simp [hy])) hx
                exact ⟨k', by simp [h1], h2⟩
          obtain ⟨k, h1, h2⟩ := this e.kids (fun _ h => h) hx
          exact ih k h1 (hall k h1) x h2
        · split at hx
          · rename_i hc
            simp only [List.mem_singleton] at hx
            subst hx
            unfold selfC at h
            rw [if_neg (by rw [hc]; decide), if_pos hc, callC_ok] at h
            exact ⟨_, h⟩
          · cases hx
      · rename_i hk; exact absurd h hk
    · cases h
theorem exprC_mono {t t' : Tab} {vis : List Nm} : ∀ e : PExpr, (∀ x ∈ allE e, ∀ m, argsOf t x = some m → argsOf t' x = some m) → exprC t vis e = 0 → exprC t' vis e = 0 := by
  intro e
  induction e using PExpr.ind with
  | h e ih =>
    intro ht h
    rw [exprC_eq] at h ⊢
    split at h
    · rename_i hb
      rw [if_pos hb]
      split at h
      · rename_i hk
        have hk' : kidsC t' vis e.kids = 0 := by
          rw [kidsC_ok] at hk ⊢
          intro k hkm
          refine ih k hkm (fun x hx m hm => ht x ?_ m hm) (hk k hkm)
          rw [allE_eq, List.mem_append]
          left
          have : ∀ (ks : List PExpr), k ∈ ks → x ∈ allK ks := by
            intro ks
            induction ks with
            | nil => intro q; cases q
            | cons y ys ihk =>
              intro q
              rw [allK_cons, List.mem_append]
              rcases List.mem_cons.1 q with rfl | q
              · exact .inl hx
              · exact .inr (ihk q)
          exact this _ hkm
        rw [if_pos hk']
        unfold selfC at h ⊢
        split at h
        · rename_i hn; rw [if_pos hn]; exact h
        · rename_i hn
          rw [if_neg hn]
          split at h
          · rename_i hc
            rw [if_pos hc]
            rw [callC_ok] at h ⊢
            exact ht e.name (by rw [allE_eq, if_pos hc]; simp) _ h
          · rename_i hc; rw [if_neg hc]
      · rename_i hk; exact absurd h hk
    · cases h
/-- A block that is well: what it leaves, whom it calls; it is well by another table that has whom it calls. -/
structure BlkOk (t : Tab) (ss : List PStmt) : Prop where
  vars : ∀ all vis, (blockC t ss all vis).1 = 0 → (blockC t ss all vis).2 = walkS stepV ss all
  nodup : ∀ all vis, (blockC t ss all vis).1 = 0 → all.Nodup → (blockC t ss all vis).2.Nodup
  there : ∀ all vis, (blockC t ss all vis).1 = 0 → ∀ x ∈ allS ss, ∃ m, argsOf t x = some m
  mono : ∀ t' all vis, (blockC t ss all vis).1 = 0 → (∀ x ∈ allS ss, ∀ m, argsOf t x = some m → argsOf t' x = some m) → blockC t' ss all vis = blockC t ss all vis
structure StmOk (t : Tab) (s : PStmt) : Prop where
  vars : ∀ all vis, (stmtC t s all vis).1 = 0 → (stmtC t s all vis).2.1 = walkT stepV s all
  nodup : ∀ all vis, (stmtC t s all vis).1 = 0 → all.Nodup → (stmtC t s all vis).2.1.Nodup
  there : ∀ all vis, (stmtC t s all vis).1 = 0 → ∀ x ∈ allT s, ∃ m, argsOf t x = some m
  mono : ∀ t' all vis, (stmtC t s all vis).1 = 0 → (∀ x ∈ allT s, ∀ m, argsOf t x = some m → argsOf t' x = some m) → stmtC t' s all vis = stmtC t s all vis
theorem blk_of (t : Tab) : ∀ (ss : List PStmt), (∀ s ∈ ss, StmOk t s) → BlkOk t ss := by
  intro ss
  induction ss with
  | nil =>
    intro _
    refine ⟨fun all vis _ => by rw [blockC_nil, walkS_nil], fun all vis _ h => by rw [blockC_nil]; exact h, (fun all vis _ x hx => by rw [allS_nil] at hx; cases hx), fun t' all vis _ _ => by rw [blockC_nil, blockC_nil]⟩
  | cons s ss ih =>
    intro h
    have hs := h s (by simp)
    have hb := ih fun x hx => h x (by simp [hx])
    have cut : ∀ all vis, (blockC t (s :: ss) all vis).1 = 0 → (stmtC t s all vis).1 = 0 ∧ blockC t (s :: ss) all vis = blockC t ss (stmtC t s all vis).2.1 (stmtC t s all vis).2.2 := by
      intro all vis h0
      rw [blockC_cons] at h0 ⊢
      split at h0
      · rename_i hz; exact ⟨hz, by rw [if_pos hz]⟩
      · rename_i hz; exact absurd h0 hz
    refine ⟨fun all vis h0 => ?_, fun all vis h0 hn => ?_, fun all vis h0 x hx => ?_, fun t' all vis h0 ht => ?_⟩
    all_goals
      obtain ⟨hz, he⟩ := cut all vis h0
      rw [he] at h0
    · rw [he, hb.vars _ _ h0, hs.vars _ _ hz, walkS_cons]
    · rw [he]; exact hb.nodup _ _ h0 (hs.nodup _ _ hz hn)
    · rw [allS_cons, List.mem_append] at hx
      rcases hx with hx | hx
      · exact hs.there _ _ hz x hx
      · exact hb.there _ _ h0 x hx
    · have e1 := hs.mono t' all vis hz fun x hx => ht x (by rw [allS_cons, List.mem_append]; exact .inl hx)
      rw [he, blockC_cons, e1, if_pos hz]
      exact hb.mono t' _ _ h0 fun x hx => ht x (by rw [allS_cons, List.mem_append]; exact .inr hx)
theorem nodup_snoc {l : List Nm} {x : Nm} (h : l.Nodup) (hc : l.contains x = false) : (l ++ [x]).Nodup := by
  have := nodup_push (x := x) h
  unfold pushN at this
  rwa [if_neg (by rw [hc]; decide)] at this
theorem shaped_var {name : Nm} {t l : Nat} (h : shapedB sVar name t l = true) : t = 0 ∧ l = 0 := by
  unfold shapedB at h
  rw [if_pos (.inl rfl)] at h
  simp only [Bool.and_eq_true, decide_eq_true_eq] at h
  exact ⟨h.1.2, h.2⟩
theorem stm_of (t : Tab) (s : PStmt) (hT : BlkOk t s.th) (hL : BlkOk t s.el) : StmOk t s := by
  have sh0 : ∀ all vis, (stmtC t s all vis).1 = 0 → shapedB s.kind s.name s.th.length s.el.length = true ∧ exprC t vis s.e = 0 := by
    intro all vis h0
    rw [stmtC_eq] at h0
    split at h0
    · rename_i h1
      split at h0
      · rename_i h2; exact ⟨h1, h2⟩
      · rename_i h2; exact absurd h0 h2
    · cases h0
  by_cases hk : s.kind = sVar
  · have cut : ∀ all vis, (stmtC t s all vis).1 = 0 → exprC t vis s.e = 0 ∧ s.th = [] ∧ s.el = [] ∧ all.contains s.name = false ∧ ∀ t', exprC t' vis s.e = 0 → stmtC t' s all vis = (0, all ++ [s.name], vis ++ [s.name]) := by
      intro all vis h0
      obtain ⟨h1, h2⟩ := sh0 all vis h0
      have h3 := h1
      rw [hk] at h3
      obtain ⟨l1, l2⟩ := shaped_var h3
      rw [stmtC_eq, if_pos h1, if_pos h2, if_pos hk] at h0
      unfold addC at h0
      split at h0
      · cases h0
      · rename_i hc
        have hc' : all.contains s.name = false := by simpa using hc
        split at h0
        · cases h0
        · rename_i hf
          refine ⟨h2, List.length_eq_zero_iff.1 l1, List.length_eq_zero_iff.1 l2, hc', fun t' he => ?_⟩
          rw [stmtC_eq, if_pos h1, if_pos he, if_pos hk]
          unfold addC
          rw [if_neg hc, if_neg hf]
    refine ⟨fun all vis h0 => ?_, fun all vis h0 hn => ?_, fun all vis h0 x hx => ?_, fun t' all vis h0 ht => ?_⟩
    all_goals obtain ⟨he, e1, e2, hc, hs⟩ := cut all vis h0
    · rw [hs t he, walkT_eq, e1, e2, walkS_nil, walkS_nil]; unfold stepV; rw [if_pos hk]
    · rw [hs t he]; exact nodup_snoc hn hc
    · rw [allT_eq, e1, e2, allS_nil] at hx
      simp only [List.append_nil] at hx
      exact exprC_there s.e he x hx
    · rw [hs t he, hs t' (exprC_mono s.e (fun x hx => ht x (by rw [allT_eq]; simp [hx])) he)]
  · have cut : ∀ all vis, (stmtC t s all vis).1 = 0 → exprC t vis s.e = 0 ∧ (blockC t s.th all vis).1 = 0 ∧ (blockC t s.el (blockC t s.th all vis).2 vis).1 = 0 ∧
        ∀ t', exprC t' vis s.e = 0 → blockC t' s.th all vis = blockC t s.th all vis → blockC t' s.el (blockC t s.th all vis).2 vis = blockC t s.el (blockC t s.th all vis).2 vis → stmtC t' s all vis = (0, (blockC t s.el (blockC t s.th all vis).2 vis).2, vis) := by
      intro all vis h0
      obtain ⟨h1, h2⟩ := sh0 all vis h0
      rw [stmtC_eq, if_pos h1, if_pos h2, if_neg hk] at h0
      split at h0
      · cases h0
      · rename_i hst
        split at h0
        · rename_i hz
          refine ⟨h2, hz, h0, fun t' he q1 q2 => ?_⟩
          rw [stmtC_eq, if_pos h1, if_pos he, if_neg hk, if_neg hst, q1, if_pos hz, q2, h0]
        · rename_i hz; exact absurd h0 hz
    have hsv : ∀ xs, stepV s xs = xs := fun xs => by unfold stepV; rw [if_neg hk]
    refine ⟨fun all vis h0 => ?_, fun all vis h0 hn => ?_, fun all vis h0 x hx => ?_, fun t' all vis h0 ht => ?_⟩
    all_goals obtain ⟨he, z1, z2, hs⟩ := cut all vis h0
    · rw [hs t he rfl rfl, walkT_eq, hsv]
      show (blockC t s.el (blockC t s.th all vis).2 vis).2 = _
      rw [hL.vars _ _ z2, hT.vars _ _ z1]
    · rw [hs t he rfl rfl]
      exact hL.nodup _ _ z2 (hT.nodup _ _ z1 hn)
    · rw [allT_eq, List.mem_append, List.mem_append] at hx
      rcases hx with (hx | hx) | hx
      · exact exprC_there s.e he x hx
      · exact hT.there _ _ z1 x hx
      · exact hL.there _ _ z2 x hx
    · rw [hs t he rfl rfl]
      exact hs t' (exprC_mono s.e (fun x hx => ht x (by rw [allT_eq]; simp [hx])) he) (hT.mono t' _ _ z1 fun x hx => ht x (by rw [allT_eq]; simp [hx])) (hL.mono t' _ _ z2 fun x hx => ht x (by rw [allT_eq]; simp [hx]))
theorem stm_any (t : Tab) : ∀ s : PStmt, StmOk t s := by
  intro s
  induction s using PStmt.ind with
  | h s iht ihl => exact stm_of t s (blk_of t _ iht) (blk_of t _ ihl)
theorem blk_any (t : Tab) (ss : List PStmt) : BlkOk t ss := blk_of t ss fun s _ => stm_any t s

/-! programs -/
theorem progFrom_ok (t : Tab) : ∀ (rest a : List PFun), (progFrom t a rest).1 = 0 ↔ ∀ i (hi : i < rest.length), funC t (a ++ rest.take i) rest[i] = 0 := by
  intro rest
  induction rest with
  | nil => intro a; simp [progFrom]
  | cons f rest ih =>
    intro a
    rw [progFrom]
    by_cases h : funC t a f = 0
    · rw [if_pos h, ih]
      constructor
      · intro q i hi
        cases i with
        | zero => simpa using h
        | succ i => simpa using q i (by simpa using hi)
      · intro q i hi
        have := q (i + 1) (by simpa using hi)
        simp only [List.getElem_cons_succ] at this
        simpa using this
    · rw [if_neg h]
      constructor
      · intro q; exact absurd q h
      · intro q
        have := q 0 (by simp)
        simp only [List.getElem_cons_zero] at this
        exact absurd (by simpa using this) h
theorem progFrom_zero (t : Tab) : ∀ (rest a : List PFun), (progFrom t a rest).1 = 0 → progFrom t a rest = (0, -1) := by
  intro rest
  induction rest with
  | nil => intro a _; rw [progFrom]
  | cons f rest ih =>
    intro a h
    rw [progFrom] at h ⊢
    split at h
    · rename_i hz; rw [if_pos hz]; exact ih _ h
    · rename_i hz; exact absurd h hz
theorem progC_ok {fs : List PFun} : (progC fs).1 = 0 ↔ fs.length ≤ 8 ∧ ∀ i (hi : i < fs.length), funC (tabOf fs) (fs.take i) fs[i] = 0 := by
  unfold progC
  by_cases h : 8 < fs.length
  · rw [if_pos h]; simp; omega
  · rw [if_neg h, progFrom_ok]
    constructor
    · intro q; exact ⟨by omega, fun i hi => by simpa using q i hi⟩
    · intro q i hi; simpa using q.2 i hi
theorem progC_code (fs : List PFun) : (progC fs).1 ≤ 10 := by
  unfold progC
  split
  · simp
  · have : ∀ (rest a : List PFun), (progFrom (tabOf fs) a rest).1 ≤ 10 := by
      intro rest
      induction rest with
      | nil => intro a; rw [progFrom]; omega
      | cons f rest ih =>
        intro a
        rw [progFrom]
        split
        · exact ih _
        · exact funC_code _ _ _
    exact this _ _
theorem funC_ok {t : Tab} {a : List PFun} {f : PFun} : funC t a f = 0 ↔ namesC f a = 0 ∧ (blockC t f.body f.params f.params).1 = 0 := by
  unfold funC
  by_cases h : namesC f a = 0
  · rw [if_pos h]; simp [h]
  · rw [if_neg h]; simp [h]
theorem namesC_ok {f : PFun} {a : List PFun} : namesC f a = 0 ↔ (nmOk f.name && f.params.all nmOk) = true ∧ (a.any fun g => g.name == f.name) = false ∧ f.params.length ≤ 4 ∧ dupC [] f.params = false := by
  unfold namesC
  by_cases h1 : (nmOk f.name && f.params.all nmOk) = true
  · rw [if_pos h1]
    cases h2 : a.any fun g => g.name == f.name
    · rw [if_neg (by decide)]
      by_cases h3 : 4 < f.params.length
      · rw [if_pos h3]; simp; omega
      · rw [if_neg h3]
        cases h4 : dupC [] f.params
        · simp [h1]; omega
        · simp
    · simp
  · rw [if_neg h1]; simp only [h1]; simp
theorem dupC_nodup : ∀ (ps own : List Nm), own.Nodup → dupC own ps = false → (own ++ ps).Nodup := by
  intro ps
  induction ps with
  | nil => intro own h _; simpa using h
  | cons p ps ih =>
    intro own h hd
    rw [dupC, Bool.or_eq_false_iff] at hd
    have := ih (own ++ [p]) (nodup_snoc h hd.1) hd.2
    simpa using this
theorem argsOf_there {fs : List PFun} {x : Nm} {m : Nat} (h : argsOf (tabOf fs) x = some m) : ∃ f ∈ fs, f.name = x := by
  unfold argsOf at h
  cases hf : (tabOf fs).find? fun f => f.1 == x with
  | none => rw [hf] at h; cases h
  | some y =>
    have h1 := List.mem_of_find?_eq_some hf
    have h2 := List.find?_some hf
    unfold tabOf at h1
    obtain ⟨f, h3, rfl⟩ := List.mem_map.1 h1
    exact ⟨f, h3, by simpa using h2⟩
/-- What a program that is well has. -/
theorem prog_fun {fs : List PFun} (h : (progC fs).1 = 0) {f : PFun} (hf : f ∈ fs) :
    (varsP f).length ≤ 12 ∧ f.params.length ≤ (varsP f).length ∧ (varsP f).Nodup ∧ ∀ x ∈ callsP f, ∃ g ∈ fs, g.name = x := by
  obtain ⟨i, hi, e⟩ := List.mem_iff_getElem.1 hf
  subst e
  obtain ⟨h1, h2⟩ := funC_ok.1 ((progC_ok.1 h).2 i hi)
  obtain ⟨_, _, h3, h4⟩ := namesC_ok.1 h1
  have hb := blk_any (tabOf fs) fs[i].body
  have hv := hb.vars _ _ h2
  have hl := leftB_any (tabOf fs) fs[i].body fs[i].params fs[i].params
  have hn : fs[i].params.Nodup := by simpa using dupC_nodup fs[i].params [] (by simp) h4
  have e : varsP fs[i] = (blockC (tabOf fs) fs[i].body fs[i].params fs[i].params).2 := hv.symm
  rw [e]
  refine ⟨hl.2.1 (by omega), hl.2.2, hb.nodup _ _ h2 hn, fun x hx => ?_⟩
  obtain ⟨m, hm⟩ := hb.there _ _ h2 x ((callsP_mem _ _).1 hx)
  exact argsOf_there hm
theorem argsOf_app {fs : List PFun} {g : PFun} {x : Nm} {m : Nat} (h : argsOf (tabOf fs) x = some m) : argsOf (tabOf (fs ++ [g])) x = some m := by
  unfold argsOf tabOf at *
  rw [List.map_append, List.find?_append]
  cases hf : (fs.map fun f => (f.name, f.params.length)).find? fun f => f.1 == x with
  | none => rw [hf] at h; cases h
  | some y => rw [hf] at h; exact h
/-- One function more, of a new name. -/
theorem prog_more {fs : List PFun} (h : (progC fs).1 = 0) (hl : fs.length < 8) {name : Nm} (hn : nmOk name = true) (hnew : ∀ f ∈ fs, f.name ≠ name) : (progC (fs ++ [⟨name, [], []⟩])).1 = 0 := by
  rw [progC_ok] at h ⊢
  refine ⟨by simp; omega, fun i hi => ?_⟩
  by_cases hlt : i < fs.length
  · rw [List.getElem_append_left hlt, List.take_append_of_le_length (Nat.le_of_lt hlt)]
    obtain ⟨h1, h2⟩ := funC_ok.1 (h.2 i hlt)
    rw [funC_ok]
    refine ⟨h1, ?_⟩
    rw [(blk_any (tabOf fs) fs[i].body).mono _ _ _ h2 fun x _ m hm => argsOf_app hm]
    exact h2
  · have hi' : i = fs.length := by simp at hi; omega
    subst hi'
    rw [funC_ok, namesC_ok]
    simp only [List.getElem_append_right (Nat.le_refl _), Nat.sub_self, List.getElem_cons_zero, List.all_nil, Bool.and_true, List.length_nil, dupC]
    refine ⟨⟨hn, ?_, by omega, (by trivial)⟩, by rw [blockC_nil]⟩
    rw [List.take_append_of_le_length (Nat.le_refl _), List.take_length]
    rw [List.any_eq_false]
    intro f hf
    simpa using hnew f hf
theorem argsOf_less {fs : List PFun} {g : PFun} {x : Nm} {m : Nat} (h : argsOf (tabOf (fs ++ [g])) x = some m) (hx : x ≠ g.name) : argsOf (tabOf fs) x = some m := by
  unfold argsOf tabOf at *
  rw [List.map_append, List.find?_append] at h
  cases hf : (fs.map fun f => (f.name, f.params.length)).find? fun f => f.1 == x with
  | none =>
    rw [hf] at h
    have : (g.name == x) = false := by rw [beq_eq_false_iff_ne]; exact fun e => hx e.symm
    simp [this] at h
  | some y => rw [hf] at h; exact h
/-- The last function less, that nobody calls. -/
theorem prog_less {fs : List PFun} {g : PFun} (h : (progC (fs ++ [g])).1 = 0) (hc : ∀ f ∈ fs, g.name ∉ callsP f) : (progC fs).1 = 0 := by
  rw [progC_ok] at h ⊢
  refine ⟨by have := h.1; simp at this; omega, fun i hi => ?_⟩
  have h0 := h.2 i (by simp; omega)
  rw [List.getElem_append_left hi, List.take_append_of_le_length (Nat.le_of_lt hi)] at h0
  obtain ⟨h1, h2⟩ := funC_ok.1 h0
  rw [funC_ok]
  refine ⟨h1, ?_⟩
  rw [(blk_any (tabOf (fs ++ [g])) fs[i].body).mono (tabOf fs) _ _ h2 fun x hx m hm => argsOf_less hm fun e => hc fs[i] (List.getElem_mem hi) ((callsP_mem _ _).2 (e ▸ hx))]
  exact h2
end Go.Proofs.YteifmgcbafemeaaDoor

namespace Go.Proofs.YteifmgcbafemeaaDoor
open Go.RowKit

/-! what a program that is well has, for its run -/
/-- An expression: small, bare, whom it calls has so many parameters. -/
inductive WfE (t : Tab) : PExpr → Prop
  | mk (e : PExpr) (hs : e.kids.length ≤ 8 ∧ e.name.length ≤ 20) (hb : bareB e = true) (hc : e.kind = xCall → argsOf t e.name = some e.kids.length) (hk : ∀ k ∈ e.kids, WfE t k) : WfE t e
theorem WfE.small {t : Tab} {e : PExpr} (h : WfE t e) : e.kids.length ≤ 8 ∧ e.name.length ≤ 20 := by cases h; assumption
theorem WfE.bare {t : Tab} {e : PExpr} (h : WfE t e) : bareB e = true := by cases h; assumption
theorem WfE.call {t : Tab} {e : PExpr} (h : WfE t e) : e.kind = xCall → argsOf t e.name = some e.kids.length := by cases h; assumption
theorem WfE.kid {t : Tab} {e : PExpr} (h : WfE t e) : ∀ k ∈ e.kids, WfE t k := by cases h; assumption
theorem wfE_of {t : Tab} {vis : List Nm} : ∀ e : PExpr, SmE e → exprC t vis e = 0 → WfE t e := by
  intro e
  induction e using PExpr.ind with
  | h e ih =>
    intro hs h
    rw [exprC_eq] at h
    split at h
    · rename_i hb
      split at h
      · rename_i hk
        refine ⟨e, ⟨hs.len, hs.nameLen⟩, hb, fun hc => ?_, fun k hkm => ih k hkm (hs.kid k hkm) ((kidsC_ok e.kids).1 hk k hkm)⟩
        unfold selfC at h
        rw [if_neg (by rw [hc]; decide), if_pos hc, callC_ok] at h
        exact h
      · rename_i hk; exact absurd h hk
    · cases h
/-- A statement: small, shaped, whose names are of L. -/
inductive WfS (t : Tab) (L : List Nm) : PStmt → Prop
  | mk (s : PStmt) (hs : s.name.length ≤ 20 ∧ s.th.length ≤ 30 ∧ s.el.length ≤ 30) (hb : shapedB s.kind s.name s.th.length s.el.length = true) (he : WfE t s.e) (hn : s.kind = sVar ∨ s.kind = sSet → s.name ∈ L) (ht : ∀ k ∈ s.th, WfS t L k) (hl : ∀ k ∈ s.el, WfS t L k) : WfS t L s
section
variable {t : Tab} {L : List Nm} {s : PStmt}
theorem WfS.small (h : WfS t L s) : s.name.length ≤ 20 ∧ s.th.length ≤ 30 ∧ s.el.length ≤ 30 := by cases h; assumption
theorem WfS.shaped (h : WfS t L s) : shapedB s.kind s.name s.th.length s.el.length = true := by cases h; assumption
theorem WfS.expr (h : WfS t L s) : WfE t s.e := by cases h; assumption
theorem WfS.name (h : WfS t L s) : s.kind = sVar ∨ s.kind = sSet → s.name ∈ L := by cases h; assumption
theorem WfS.kidT (h : WfS t L s) : ∀ k ∈ s.th, WfS t L k := by cases h; assumption
theorem WfS.kidL (h : WfS t L s) : ∀ k ∈ s.el, WfS t L k := by cases h; assumption
end
def SubN (a b : List Nm) : Prop := ∀ y ∈ a, y ∈ b
theorem SubN.refl (a : List Nm) : SubN a a := fun _ h => h
theorem SubN.trans {a b c : List Nm} (h : SubN a b) (k : SubN b c) : SubN a c := fun y hy => k y (h y hy)
structure StmWf (t : Tab) (s : PStmt) (all vis : List Nm) : Prop where
  wf : WfS t (stmtC t s all vis).2.1 s
  mono : SubN all (stmtC t s all vis).2.1
  vis : SubN (stmtC t s all vis).2.2 (stmtC t s all vis).2.1
structure BlkWf (t : Tab) (ss : List PStmt) (all vis : List Nm) : Prop where
  wf : ∀ s ∈ ss, WfS t (blockC t ss all vis).2 s
  mono : SubN all (blockC t ss all vis).2
theorem WfS.wide {t : Tab} {L L' : List Nm} (hL : SubN L L') : ∀ s : PStmt, WfS t L s → WfS t L' s := by
  intro s
  induction s using PStmt.ind with
  | h s iht ihl => intro h; exact ⟨s, h.small, h.shaped, h.expr, fun q => hL _ (h.name q), fun k hk => iht k hk (h.kidT k hk), fun k hk => ihl k hk (h.kidL k hk)⟩
theorem blkWf_of {t : Tab} : ∀ (ss : List PStmt), (∀ s ∈ ss, SmS s ∧ ∀ all vis, (stmtC t s all vis).1 = 0 → SubN vis all → StmWf t s all vis) → ∀ all vis, (blockC t ss all vis).1 = 0 → SubN vis all → BlkWf t ss all vis := by
  intro ss
  induction ss with
  | nil => intro _ all vis _ _; exact ⟨fun s hs => (by cases hs), by rw [blockC_nil]; exact SubN.refl _⟩
  | cons s ss ih =>
    intro h all vis h0 hv
    rw [blockC_cons] at h0
    split at h0
    · rename_i hz
      have h1 := (h s (by simp)).2 all vis hz hv
      have h2 := ih (fun x hx => h x (by simp [hx])) _ _ h0 h1.vis
      have e : blockC t (s :: ss) all vis = blockC t ss (stmtC t s all vis).2.1 (stmtC t s all vis).2.2 := by rw [blockC_cons, if_pos hz]
      refine ⟨fun x hx => ?_, ?_⟩
      · rw [e]
        rcases List.mem_cons.1 hx with rfl | hx
        · exact h1.wf.wide h2.mono
        · exact h2.wf x hx
      · rw [e]; exact h1.mono.trans h2.mono
    · rename_i hz; exact absurd h0 hz
theorem stmWf_of {t : Tab} (s : PStmt) (hs : SmS s) (hT : ∀ all vis, (blockC t s.th all vis).1 = 0 → SubN vis all → BlkWf t s.th all vis) (hL : ∀ all vis, (blockC t s.el all vis).1 = 0 → SubN vis all → BlkWf t s.el all vis) (all vis : List Nm) (h : (stmtC t s all vis).1 = 0) (hv : SubN vis all) : StmWf t s all vis := by
  have hsm : s.name.length ≤ 20 ∧ s.th.length ≤ 30 ∧ s.el.length ≤ 30 := ⟨hs.name, hs.lenT, hs.lenL⟩
  rw [stmtC_eq] at h
  by_cases hb : shapedB s.kind s.name s.th.length s.el.length = true
  · rw [if_pos hb] at h
    by_cases he : exprC t vis s.e = 0
    · rw [if_pos he] at h
      have hw := wfE_of s.e hs.expr he
      by_cases hk : s.kind = sVar
      · rw [if_pos hk] at h
        have e : stmtC t s all vis = addC s.name all vis := by rw [stmtC_eq, if_pos hb, if_pos he, if_pos hk]
        have h2 := hb
        rw [hk] at h2
        obtain ⟨h3, h4⟩ := shaped_var h2
        have e2 : addC s.name all vis = (0, all ++ [s.name], vis ++ [s.name]) := by
          unfold addC at h ⊢
          split
          · rename_i q; rw [if_pos q] at h; cases h
          · rename_i q
            rw [if_neg q] at h
            split
            · rename_i q2; rw [if_pos q2] at h; cases h
            · rfl
        refine ⟨?_, ?_, ?_⟩
        · rw [e, e2]
          exact ⟨s, hsm, hb, hw, fun _ => by simp, fun k hk => (by rw [List.length_eq_zero_iff.1 h3] at hk; cases hk), fun k hk => (by rw [List.length_eq_zero_iff.1 h4] at hk; cases hk)⟩
        · rw [e, e2]; intro y hy; simp [hy]
        · rw [e, e2]; intro y hy
          simp only [List.mem_append, List.mem_singleton] at hy ⊢
          rcases hy with hy | hy
          · exact .inl (hv y hy)
          · exact .inr hy
      · rw [if_neg hk] at h
        by_cases hset : s.kind = sSet ∧ vis.contains s.name = false
        · rw [if_pos hset] at h; cases h
        · rw [if_neg hset] at h
          by_cases hz : (blockC t s.th all vis).1 = 0
          · rw [if_pos hz] at h
            have h1 := hT all vis hz hv
            have h2 := hL (blockC t s.th all vis).2 vis h (hv.trans h1.mono)
            have e : stmtC t s all vis = ((blockC t s.el (blockC t s.th all vis).2 vis).1, (blockC t s.el (blockC t s.th all vis).2 vis).2, vis) := by
              rw [stmtC_eq, if_pos hb, if_pos he, if_neg hk, if_neg hset, if_pos hz]
            have hm := h1.mono.trans h2.mono
            refine ⟨?_, ?_, ?_⟩
            · rw [e]
              refine ⟨s, hsm, hb, hw, fun q => ?_, fun k hkm => (h1.wf k hkm).wide h2.mono, fun k hkm => h2.wf k hkm⟩
              rcases q with q | q
              · exact absurd q hk
              · have : vis.contains s.name = true := by
                  cases hc : vis.contains s.name
                  · exact absurd ⟨q, hc⟩ hset
                  · rfl
                exact hm _ (hv _ (by simpa using this))
            · rw [e]; exact hm
            · rw [e]; exact hv.trans hm
          · rw [if_neg hz] at h; exact absurd h hz
    · rw [if_neg he] at h; exact absurd h he
  · rw [if_neg hb] at h; cases h
theorem stmWf_any {t : Tab} : ∀ s : PStmt, SmS s → ∀ all vis, (stmtC t s all vis).1 = 0 → SubN vis all → StmWf t s all vis := by
  intro s
  induction s using PStmt.ind with
  | h s iht ihl =>
    intro hs
    exact stmWf_of s hs (blkWf_of s.th fun k hk => ⟨hs.kidT k hk, iht k hk (hs.kidT k hk)⟩) (blkWf_of s.el fun k hk => ⟨hs.kidL k hk, ihl k hk (hs.kidL k hk)⟩)
/-- A function: small; its names are of L. -/
structure WfF (t : Tab) (f : PFun) : Prop where
  small : SmF f
  four : f.params.length ≤ 4
  body : ∃ L : List Nm, L.length ≤ 12 ∧ SubN f.params L ∧ ∀ s ∈ f.body, WfS t L s
theorem wfF_of {t : Tab} {a : List PFun} {f : PFun} (hs : SmF f) (h : funC t a f = 0) : WfF t f := by
  obtain ⟨h1, h2⟩ := funC_ok.1 h
  obtain ⟨_, _, h3, _⟩ := namesC_ok.1 h1
  have hb := blkWf_of f.body (fun s hm => ⟨hs.stmts s hm, stmWf_any s (hs.stmts s hm)⟩) f.params f.params h2 (SubN.refl _)
  have hl := leftB_any t f.body f.params f.params
  exact ⟨hs, h3, _, hl.2.1 (by omega), hb.mono, hb.wf⟩
theorem wfF_prog {fs : List PFun} (hs : ∀ f ∈ fs, SmF f) (h : (progC fs).1 = 0) : ∀ f ∈ fs, WfF (tabOf fs) f := fun f hf => by
  obtain ⟨i, hi, e⟩ := List.mem_iff_getElem.1 hf
  subst e
  exact wfF_of (hs _ hf) ((progC_ok.1 h).2 i hi)
/-- Whom the table has is there. -/
theorem find_there {fs : List PFun} {n : Nm} {k : Nat} (h : argsOf (tabOf fs) n = some k) : ∃ f, findF fs n = some f ∧ f ∈ fs ∧ f.name = n ∧ f.params.length = k := by
  unfold argsOf tabOf findF at *
  induction fs with
  | nil => cases h
  | cons f fs ih =>
    rw [List.map_cons, List.find?_cons] at h
    rw [List.find?_cons]
    by_cases hf : (f.name == n) = true
    · have hf' : f.name = n := by simpa using hf
      simp only [hf, Option.map_some, Option.some.injEq] at h
      simp only [hf]
      exact ⟨f, rfl, by simp, hf', h⟩
    · simp only [Bool.not_eq_true] at hf
      simp only [hf] at h ⊢
      obtain ⟨g, h1, h2, h3⟩ := ih h
      exact ⟨g, h1, by simp [h2], h3⟩
end Go.Proofs.YteifmgcbafemeaaDoor
