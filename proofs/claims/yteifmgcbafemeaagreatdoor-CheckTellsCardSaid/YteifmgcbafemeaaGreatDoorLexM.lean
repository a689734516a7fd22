import Derived.Test.YteifmgcbafemeaaGreatDoorBase
namespace Go.Proofs.YteifmgcbafemeaaGreatDoor
open Go.RowKit

/-! the words of a text, in plain Lean -/
def isLetter (c : UInt8) : Bool := decide ((97 : Int) ≤ c.toNat) && decide ((c.toNat : Int) ≤ 122)
def isDigit (c : UInt8) : Bool := decide ((48 : Int) ≤ c.toNat) && decide ((c.toNat : Int) ≤ 57)
def isBlank (c : UInt8) : Bool := ((c.toNat : Int) == 32) || ((c.toNat : Int) == 9) || ((c.toNat : Int) == 10)
def alnum (c : UInt8) : Bool := isLetter c || isDigit c
def wordsB : List (List UInt8) := [[102, 110], [118, 97, 114], [105, 102], [101, 108, 115, 101], [119, 104, 105, 108, 101], [114, 101, 116, 117, 114, 110], [112, 114, 105, 110, 116]]
def twosB : List (List UInt8) := [[60, 60], [62, 62], [60, 61], [61, 61], [33, 61]]
def onesB : List UInt8 := [43, 45, 42, 47, 37, 38, 124, 94, 60, 33, 61, 40, 41, 123, 125, 44, 59]
def kWord : List UInt8 := [119, 111, 114, 100]
def kName : List UInt8 := [110, 97, 109, 101]
def kNumber : List UInt8 := [110, 117, 109, 98, 101, 114]
def kSign : List UInt8 := [115, 105, 103, 110]
/-- How far a text goes on with bytes that are so. -/
def spanL (p : UInt8 → Bool) : List UInt8 → Nat
  | [] => 0
  | c :: l => if p c then spanL p l + 1 else 0
theorem spanL_le (p : UInt8 → Bool) : ∀ l, spanL p l ≤ l.length := by
  intro l; induction l with
  | nil => simp [spanL]
  | cons c l ih => simp only [spanL, List.length_cons]; split <;> omega
structure Tok where
  kind : List UInt8
  text : List UInt8
  pos : Nat
  deriving DecidableEq
/-- The token at the head of a text that is not empty: its kind, its length, is it one? -/
def tokAt (l : List UInt8) : List UInt8 × Nat × Bool :=
  match l with
  | [] => (kSign, 0, false)
  | c :: _ =>
    if isLetter c then
      let n := spanL alnum l
      if wordsB.any (fun x => x == l.take n) then (kWord, n, true) else (kName, n, decide (n ≤ 8))
    else if isDigit c then
      let n := spanL isDigit l
      (kNumber, n, decide (n ≤ 18) && (decide (n = 1) || c != 48) && (match l.drop n with | [] => true | d :: _ => !isLetter d))
    else if twosB.any (fun x => x == l.take 2) then (kSign, 2, true)
    else (kSign, 1, onesB.any (fun x => x == c))
/-- Tokens from a place on; or the place of the first that is none. -/
def lexL : Nat → List UInt8 → Nat → List Tok × Option Nat
  | 0, _, _ => ([], none)
  | f + 1, l, k =>
    let b := spanL isBlank l
    let r := l.drop b
    if r = [] then ([], none)
    else
      let t := tokAt r
      if t.2.2 then
        let q := lexL f (r.drop t.2.1) (k + b + t.2.1)
        (⟨t.1, r.take t.2.1, k + b⟩ :: q.1, q.2)
      else ([], some (k + b))
end Go.Proofs.YteifmgcbafemeaaGreatDoor
