import Derived.Test.YtddilnibglcabaaDoorLexM
namespace Go.Proofs.YtddilnibglcabaaDoor
open Go.RowKit

theorem spanL_pos {p : UInt8 → Bool} {c : UInt8} {l : List UInt8} (h : p c = true) : 0 < spanL p (c :: l) := by simp only [spanL, h, if_true]; omega
theorem tokAt_letter (c : UInt8) (l : List UInt8) (h : isLetter c = true) : tokAt (c :: l) = (if wordsB.any (fun x => x == (c :: l).take (spanL alnum (c :: l))) then kWord else kName, spanL alnum (c :: l), wordsB.any (fun x => x == (c :: l).take (spanL alnum (c :: l))) || decide (spanL alnum (c :: l) ≤ 8)) := by
  unfold tokAt
  simp only [h, if_true]
  cases wordsB.any (fun x => x == (c :: l).take (spanL alnum (c :: l))) <;> rfl
def numL (c : UInt8) (l : List UInt8) (n : Nat) : Bool := decide (n ≤ 18) && (decide (n = 1) || c != 48) && (match l.drop n with | [] => true | d :: _ => !isLetter d)
theorem tokAt_digit (c : UInt8) (l : List UInt8) (h : isLetter c = false) (hd : isDigit c = true) : tokAt (c :: l) = (kNumber, spanL isDigit (c :: l), numL c (c :: l) (spanL isDigit (c :: l))) := by
  unfold tokAt
  simp only [h, hd, if_true]
  rfl
theorem tokAt_sign (c : UInt8) (l : List UInt8) (h : isLetter c = false) (hd : isDigit c = false) : tokAt (c :: l) = (kSign, if twosB.any (fun x => x == (c :: l).take 2) then 2 else 1, twosB.any (fun x => x == (c :: l).take 2) || onesB.any (fun x => x == c)) := by
  unfold tokAt
  simp only [h, hd]
  cases twosB.any (fun x => x == (c :: l).take 2) <;> rfl
theorem twos_len {t : List UInt8} (h : twosB.any (fun x => x == t) = true) : t.length = 2 := by
  rw [List.any_eq_true] at h
  obtain ⟨x, hx, he⟩ := h
  rw [beq_iff_eq] at he
  subst he
  revert x
  decide
theorem tokAt_bounds (c : UInt8) (l : List UInt8) : 0 < (tokAt (c :: l)).2.1 ∧ (tokAt (c :: l)).2.1 ≤ (c :: l).length := by
  cases h : isLetter c
  · cases hd : isDigit c
    · rw [tokAt_sign c l h hd]
      show 0 < (if _ then 2 else 1) ∧ (if _ then 2 else 1) ≤ _
      split
      · rename_i ht
        have := twos_len ht
        rw [List.length_take] at this
        omega
      · simp
    · rw [tokAt_digit c l h hd]
      exact ⟨spanL_pos hd, spanL_le _ _⟩
  · rw [tokAt_letter c l h]
    exact ⟨spanL_pos (by unfold alnum; rw [h]; rfl), spanL_le _ _⟩
/-- The tokens of a text that begins at the place k. -/
def lexA (l : List UInt8) (k : Nat) : List Tok × Option Nat := lexL (l.length + 1) l k
theorem lexL_fuel : ∀ (f g : Nat) (l : List UInt8) (k : Nat), l.length < f → l.length < g → lexL f l k = lexL g l k := by
  intro f
  induction f with
  | zero => intro g l k h; omega
  | succ f ih =>
    intro g l k h hg
    obtain ⟨g, rfl⟩ : ∃ g', g = g' + 1 := ⟨g - 1, by omega⟩
    simp only [lexL]
    cases hr : l.drop (spanL isBlank l) with
    | nil => rfl
    | cons c r =>
      have hl : (c :: r).length ≤ l.length := by rw [← hr, List.length_drop]; omega
      have hb := tokAt_bounds c r
      rw [ih g ((c :: r).drop (tokAt (c :: r)).2.1) _ (by rw [List.length_drop]; omega) (by rw [List.length_drop]; omega)]
theorem lexA_nil (l : List UInt8) (k : Nat) (h : l.drop (spanL isBlank l) = []) : lexA l k = ([], none) := by
  unfold lexA; simp only [lexL, h, if_true]
theorem lexA_bad (l : List UInt8) (k : Nat) (c : UInt8) (r : List UInt8) (h : l.drop (spanL isBlank l) = c :: r) (ht : (tokAt (c :: r)).2.2 = false) : lexA l k = ([], some (k + spanL isBlank l)) := by
  unfold lexA; simp only [lexL, h, ht, reduceCtorEq, if_false, Bool.false_eq_true]
theorem lexA_tok (l : List UInt8) (k : Nat) (c : UInt8) (r : List UInt8) (h : l.drop (spanL isBlank l) = c :: r) (ht : (tokAt (c :: r)).2.2 = true) :
    lexA l k = (⟨(tokAt (c :: r)).1, (c :: r).take (tokAt (c :: r)).2.1, k + spanL isBlank l⟩ :: (lexA ((c :: r).drop (tokAt (c :: r)).2.1) (k + spanL isBlank l + (tokAt (c :: r)).2.1)).1, (lexA ((c :: r).drop (tokAt (c :: r)).2.1) (k + spanL isBlank l + (tokAt (c :: r)).2.1)).2) := by
  have hb := tokAt_bounds c r
  have hl : (c :: r).length ≤ l.length := by rw [← h, List.length_drop]; omega
  unfold lexA
  rw [lexL_fuel (((c :: r).drop (tokAt (c :: r)).2.1).length + 1) l.length _ _ (by omega) (by rw [List.length_drop]; omega)]
  simp only [lexL, h, ht, reduceCtorEq, if_false, if_true]
/-- No more tokens than bytes. -/
theorem lexA_len : ∀ (n : Nat) (l : List UInt8) (k : Nat), l.length ≤ n → (lexA l k).1.length ≤ l.length := by
  intro n
  induction n with
  | zero =>
    intro l k h
    have : l = [] := List.length_eq_zero_iff.1 (by omega)
    subst this
    rw [lexA_nil [] k rfl]; simp
  | succ n ih =>
    intro l k h
    cases hr : l.drop (spanL isBlank l) with
    | nil => rw [lexA_nil l k hr]; simp
    | cons c r =>
      cases ht : (tokAt (c :: r)).2.2
      · rw [lexA_bad l k c r hr ht]; simp
      · have hb := tokAt_bounds c r
        have hl : (c :: r).length ≤ l.length := by rw [← hr, List.length_drop]; omega
        rw [lexA_tok l k c r hr ht]
        have := ih ((c :: r).drop (tokAt (c :: r)).2.1) (k + spanL isBlank l + (tokAt (c :: r)).2.1) (by rw [List.length_drop]; omega)
        rw [List.length_drop] at this
        simp only [List.length_cons] at *
        omega
end Go.Proofs.YtddilnibglcabaaDoor
