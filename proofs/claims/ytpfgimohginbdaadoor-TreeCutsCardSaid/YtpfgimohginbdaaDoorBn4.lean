import Derived.Lay
import Derived.Test.YtpfgimohginbdaaDoorBn2
import Derived.Test.YtpfgimohginbdaaDoorBn3
set_option linter.unusedVariables false
set_option linter.unusedSimpArgs false
namespace Go.Proofs.YtpfgimohginbdaaDoor
open Go.ChangeShapes Go.WideShapes Go.ChangeAt Go.RowKit

theorem vars_init {P : Program} {W : World} : ∀ (l m : List (String × DataW Unit)) (ps : List MemPlace), DataW.LaidVars P W (l ++ m) ps → ∃ q r, ps = q ++ r ∧ DataW.LaidVars P W l q := by
  intro l
  induction l with
  | nil => intro m ps _; exact ⟨[], ps, rfl, rfl⟩
  | cons x l ih =>
    intro m ps h
    obtain ⟨n, d⟩ := x
    obtain ⟨g, t, cs, fuel, p, q, h1, h2, h3, h4, hq, rfl⟩ := h
    obtain ⟨q1, r, rfl, hq1⟩ := ih m q hq
    exact ⟨MemPlace.row ⟨g, 0, none⟩ cs.size ++ p ++ q1, r, by simp [List.append_assoc], g, t, cs, fuel, p, q1, h1, h2, h3, h4, hq1, rfl⟩
theorem laid_init {P : Program} {W : World} {l m : List (String × DataW Unit)} (h : laidMet P (l ++ m) W) : laidMet P l W := by
  obtain ⟨ps, hv, hnd, hrows⟩ := h
  obtain ⟨q, r, rfl, hq⟩ := vars_init l m ps hv
  exact ⟨q, hq, hnd.sublist (List.sublist_append_left _ _), fun b off hp => hrows b off (List.mem_append_left _ hp)⟩
theorem laid_rest {P : Program} {x : String × DataW Unit} {l : List (String × DataW Unit)} {W : World} (h : laidMet P (x :: l) W) : laidMet P l W := by
  obtain ⟨ps, ⟨g, t, cs, fuel, p, q, _, _, _, _, hq, rfl⟩, hnd, hrows⟩ := h
  exact ⟨q, hq, hnd.sublist (List.sublist_append_right _ _), fun b off hp => hrows b off (List.mem_append_right _ hp)⟩
theorem mem_heap (w : World) (args : Array Value) : ((w.forCall (fun _ _ => 0) ⟨#[], args, []⟩).memory).heap = w.heap := rfl
theorem laidMet_over {P : Program} {w0 w' : World} {laid : List (String × DataW Unit)} (hh : w'.heap = (w0.layVars P laid).heap) (hf : w0.layFits P laid [] = true) (hi : w0.layIfaces P laid w' = true) : laidMet P laid w' := by
  have e1 : (laid.filter fun x => (laid.map (·.1)).contains x.1) = laid := List.filter_eq_self.2 fun x hx => List.contains_iff_mem.2 (List.mem_map.2 ⟨x, hx, rfl⟩)
  have e2 : (laid.filter fun x => !(laid.map (·.1)).contains x.1) = [] := List.filter_eq_nil_iff.2 fun x hx => by rw [List.contains_iff_mem.2 (List.mem_map.2 ⟨x, hx, rfl⟩)]; simp
  exact laidMet_layVars (w0 := w0) (laid.map (·.1)) [] (by rw [e1]; exact hh) (by rw [e1]; exact hf) (by rw [e1]; exact hi) (by rw [e2]; exact LaidIn.none)
def errList4 : List (String × Nat × List UInt8) := [("kelpforest/api.ErrText", 1, [107, 101, 108, 112, 102, 111, 114, 101, 115, 116, 58, 32, 116, 101, 120, 116]),
  ("kelpforest/api.ErrBound", 0, [107, 101, 108, 112, 102, 111, 114, 101, 115, 116, 58, 32, 98, 111, 117, 110, 100]),
  ("kelpforest/api.ErrFull", 2, [107, 101, 108, 112, 102, 111, 114, 101, 115, 116, 58, 32, 102, 117, 108, 108]),
  ("kelpforest/api.ErrDeep", 3, [107, 101, 108, 112, 102, 111, 114, 101, 115, 116, 58, 32, 100, 101, 101, 112])]
theorem laid_of_parts {W : World} (h : laidMet Tryd.prog (errList4.map fun x => (x.1, errD x.2.2)) W) : ∃ E, Laid E W := by
  obtain ⟨L, h1, h2, h3⟩ := errs_at errList4 (by
    intro x hx
    simp only [errList4, List.mem_cons, List.not_mem_nil, or_false] at hx
    rcases hx with rfl | rfl | rfl | rfl
    all_goals exact ⟨by kernel_rfl, by kernel_rfl⟩) h
  have h4 : L.length = 4 := h1
  have hg : ∀ i, i < 4 → L[i]? = some (L.getD i default) := fun i hi => by
    rw [List.getElem?_eq_getElem (by omega), List.getD_eq_getElem?_getD, List.getElem?_eq_getElem (by omega)]; rfl
  exact ⟨fun i => L.getD (if i = 0 then 0 else if i = 1 then 1 else if i = 7 then 2 else 3) default, (h3 0 _ _ rfl (hg 0 (by decide))).1, (h3 1 _ _ rfl (hg 1 (by decide))).1, (h3 2 _ _ rfl (hg 2 (by decide))).1, (h3 3 _ _ rfl (hg 3 (by decide))).1⟩
theorem laid_tree {W : World} (h : laidMet Tryd.prog (("math/bits.deBruijn32tab", Rows.laid_math_bits_deBruijn32tab) :: ("math/bits.deBruijn64tab", Rows.laid_math_bits_deBruijn64tab) :: ("internal/strconv.uint64pow10", Rows.laid_internal_strconv_uint64pow10) :: (errList4.map (fun x => (x.1, errD x.2.2)) ++ [("strconv.ErrRange", Rows.laid_strconv_ErrRange), ("strconv.ErrSyntax", Rows.laid_strconv_ErrSyntax)])) W) : ∃ E, Laid E W :=
  laid_of_parts (laid_init (laid_rest (laid_rest (laid_rest h))))
end Go.Proofs.YtpfgimohginbdaaDoor

namespace Go.Proofs.YtpfgimohginbdaaDoor
open Go.RowKit

/-! the words of a text, in plain Lean -/
def isLetter (c : UInt8) : Bool := decide ((97 : Int) ≤ c.toNat) && decide ((c.toNat : Int) ≤ 122)
def isDigit (c : UInt8) : Bool := decide ((48 : Int) ≤ c.toNat) && decide ((c.toNat : Int) ≤ 57)
def isBlank (c : UInt8) : Bool := ((c.toNat : Int) == 32) || ((c.toNat : Int) == 9) || ((c.toNat : Int) == 10)
def alnum (c : UInt8) : Bool := isLetter c || isDigit c
def wordsB : List (List UInt8) := [[102, 110], [118, 97, 114], [105, 102], [101, 108, 115, 101], [119, 104, 105, 108, 101], [114, 101, 116, 117, 114, 110], [112, 114, 105, 110, 116]]
def twosB : List (List UInt8) := [[60, 60], [62, 62], [60, 61], [61, 61], [33, 61]]
def onesB : List UInt8 := [43, 45, 42, 47, 37, 38, 124, 94, 60, 33, 61, 40, 41, 123, 125, 44, 59]
def kWord : List UInt8 := [119, 111, 114, 100]
def kName : List UInt8 := [110, 97, 109, 101]
def kNumber : List UInt8 := [110, 117, 109, 98, 101, 114]
def kSign : List UInt8 := [115, 105, 103, 110]
/-- How far a text goes on with bytes that are so. -/
def spanL (p : UInt8 → Bool) : List UInt8 → Nat
  | [] => 0
  | c :: l => if p c then spanL p l + 1 else 0
theorem spanL_le (p : UInt8 → Bool) : ∀ l, spanL p l ≤ l.length := by
  intro l; induction l with
  | nil => simp [spanL]
  | cons c l ih => simp only [spanL, List.length_cons]; split <;> omega
structure Tok where
  kind : List UInt8
  text : List UInt8
  pos : Nat
  deriving DecidableEq
/-- The token at the head of a text that is not empty: its kind, its length, is it one? -/
def tokAt (l : List UInt8) : List UInt8 × Nat × Bool :=
  match l with
  | [] => (kSign, 0, false)
  | c :: _ =>
    if isLetter c then
      let n := spanL alnum l
      if wordsB.any (fun x => x == l.take n) then (kWord, n, true) else (kName, n, decide (n ≤ 8))
    else if isDigit c then
      let n := spanL isDigit l
      (kNumber, n, decide (n ≤ 18) && (decide (n = 1) || c != 48) && (match l.drop n with | [] => true | d :: _ => !isLetter d))
    else if twosB.any (fun x => x == l.take 2) then (kSign, 2, true)
    else (kSign, 1, onesB.any (fun x => x == c))
/-- Tokens from a place on; or the place of the first that is none. -/
def lexL : Nat → List UInt8 → Nat → List Tok × Option Nat
  | 0, _, _ => ([], none)
  | f + 1, l, k =>
    let b := spanL isBlank l
    let r := l.drop b
    if r = [] then ([], none)
    else
      let t := tokAt r
      if t.2.2 then
        let q := lexL f (r.drop t.2.1) (k + b + t.2.1)
        (⟨t.1, r.take t.2.1, k + b⟩ :: q.1, q.2)
      else ([], some (k + b))
end Go.Proofs.YtpfgimohginbdaaDoor

namespace Go.Proofs.YtpfgimohginbdaaDoor
open Go.RowKit

theorem spanL_pos {p : UInt8 → Bool} {c : UInt8} {l : List UInt8} (h : p c = true) : 0 < spanL p (c :: l) := by simp only [spanL, h, if_true]; omega
theorem tokAt_letter (c : UInt8) (l : List UInt8) (h : isLetter c = true) : tokAt (c :: l) = (if wordsB.any (fun x => x == (c :: l).take (spanL alnum (c :: l))) then kWord else kName, spanL alnum (c :: l), wordsB.any (fun x => x == (c :: l).take (spanL alnum (c :: l))) || decide (spanL alnum (c :: l) ≤ 8)) := by
  unfold tokAt
  simp only [h, if_true]
  cases wordsB.any (fun x => x == (c :: l).take (spanL alnum (c :: l))) <;> rfl
def numL (c : UInt8) (l : List UInt8) (n : Nat) : Bool := decide (n ≤ 18) && (decide (n = 1) || c != 48) && (match l.drop n with | [] => true | d :: _ => !isLetter d)
theorem tokAt_digit (c : UInt8) (l : List UInt8) (h : isLetter c = false) (hd : isDigit c = true) : tokAt (c :: l) = (kNumber, spanL isDigit (c :: l), numL c (c :: l) (spanL isDigit (c :: l))) := by
  unfold tokAt
  simp only [h, hd, if_true]
  rfl
theorem tokAt_sign (c : UInt8) (l : List UInt8) (h : isLetter c = false) (hd : isDigit c = false) : tokAt (c :: l) = (kSign, if twosB.any (fun x => x == (c :: l).take 2) then 2 else 1, twosB.any (fun x => x == (c :: l).take 2) || onesB.any (fun x => x == c)) := by
  unfold tokAt
  simp only [h, hd]
  cases twosB.any (fun x => x == (c :: l).take 2) <;> rfl
theorem twos_len {t : List UInt8} (h : twosB.any (fun x => x == t) = true) : t.length = 2 := by
  rw [List.any_eq_true] at h
  obtain ⟨x, hx, he⟩ := h
  rw [beq_iff_eq] at he
  subst he
  revert x
  decide
theorem tokAt_bounds (c : UInt8) (l : List UInt8) : 0 < (tokAt (c :: l)).2.1 ∧ (tokAt (c :: l)).2.1 ≤ (c :: l).length := by
  cases h : isLetter c
  · cases hd : isDigit c
    · rw [tokAt_sign c l h hd]
      show 0 < (if _ then 2 else 1) ∧ (if _ then 2 else 1) ≤ _
      split
      · rename_i ht
        have := twos_len ht
        rw [List.length_take] at this
        omega
      · simp
    · rw [tokAt_digit c l h hd]
      exact ⟨spanL_pos hd, spanL_le _ _⟩
  · rw [tokAt_letter c l h]
    exact ⟨spanL_pos (by unfold alnum; rw [h]; rfl), spanL_le _ _⟩
/-- The tokens of a text that begins at the place k. -/
def lexA (l : List UInt8) (k : Nat) : List Tok × Option Nat := lexL (l.length + 1) l k
theorem lexL_fuel : ∀ (f g : Nat) (l : List UInt8) (k : Nat), l.length < f → l.length < g → lexL f l k = lexL g l k := by
  intro f
  induction f with
  | zero => intro g l k h; omega
  | succ f ih =>
    intro g l k h hg
    obtain ⟨g, rfl⟩ : ∃ g', g = g' + 1 := ⟨g - 1, by omega⟩
    simp only [lexL]
    cases hr : l.drop (spanL isBlank l) with
    | nil => rfl
    | cons c r =>
      have hl : (c :: r).length ≤ l.length := by rw [← hr, List.length_drop]; omega
      have hb := tokAt_bounds c r
      rw [ih g ((c :: r).drop (tokAt (c :: r)).2.1) _ (by rw [List.length_drop]; omega) (by rw [List.length_drop]; omega)]
theorem lexA_nil (l : List UInt8) (k : Nat) (h : l.drop (spanL isBlank l) = []) : lexA l k = ([], none) := by
  unfold lexA; simp only [lexL, h, if_true]
theorem lexA_bad (l : List UInt8) (k : Nat) (c : UInt8) (r : List UInt8) (h : l.drop (spanL isBlank l) = c :: r) (ht : (tokAt (c :: r)).2.2 = false) : lexA l k = ([], some (k + spanL isBlank l)) := by
  unfold lexA; simp only [lexL, h, ht, reduceCtorEq, if_false, Bool.false_eq_true]
theorem lexA_tok (l : List UInt8) (k : Nat) (c : UInt8) (r : List UInt8) (h : l.drop (spanL isBlank l) = c :: r) (ht : (tokAt (c :: r)).2.2 = true) :
    lexA l k = (⟨(tokAt (c :: r)).1, (c :: r).take (tokAt (c :: r)).2.1, k + spanL isBlank l⟩ :: (lexA ((c :: r).drop (tokAt (c :: r)).2.1) (k + spanL isBlank l + (tokAt (c :: r)).2.1)).1, (lexA ((c :: r).drop (tokAt (c :: r)).2.1) (k + spanL isBlank l + (tokAt (c :: r)).2.1)).2) := by
  have hb := tokAt_bounds c r
  have hl : (c :: r).length ≤ l.length := by rw [← h, List.length_drop]; omega
  unfold lexA
  rw [lexL_fuel (((c :: r).drop (tokAt (c :: r)).2.1).length + 1) l.length _ _ (by omega) (by rw [List.length_drop]; omega)]
  simp only [lexL, h, ht, reduceCtorEq, if_false, if_true]
/-- No more tokens than bytes. -/
theorem lexA_len : ∀ (n : Nat) (l : List UInt8) (k : Nat), l.length ≤ n → (lexA l k).1.length ≤ l.length := by
  intro n
  induction n with
  | zero =>
    intro l k h
    have : l = [] := List.length_eq_zero_iff.1 (by omega)
    subst this
    rw [lexA_nil [] k rfl]; simp
  | succ n ih =>
    intro l k h
    cases hr : l.drop (spanL isBlank l) with
    | nil => rw [lexA_nil l k hr]; simp
    | cons c r =>
      cases ht : (tokAt (c :: r)).2.2
      · rw [lexA_bad l k c r hr ht]; simp
      · have hb := tokAt_bounds c r
        have hl : (c :: r).length ≤ l.length := by rw [← hr, List.length_drop]; omega
        rw [lexA_tok l k c r hr ht]
        have := ih ((c :: r).drop (tokAt (c :: r)).2.1) (k + spanL isBlank l + (tokAt (c :: r)).2.1) (by rw [List.length_drop]; omega)
        rw [List.length_drop] at this
        simp only [List.length_cons] at *
        omega
end Go.Proofs.YtpfgimohginbdaaDoor

namespace Go.Proofs.YtpfgimohginbdaaDoor
open Go.RowKit

/-! tokens of a text are as the parsers want them -/
theorem spanL_all {p : UInt8 → Bool} : ∀ l : List UInt8, ∀ x ∈ l.take (spanL p l), p x = true := by
  intro l
  induction l with
  | nil => intro x hx; simp [spanL] at hx
  | cons c l ih =>
    intro x hx
    unfold spanL at hx
    split at hx
    · rename_i hc
      rw [List.take_succ_cons] at hx
      rcases List.mem_cons.1 hx with rfl | h
      · exact hc
      · exact ih x h
    · simp at hx
structure TkO (t : Tok) : Prop where
  num : t.kind = kNumber → 0 < t.text.length ∧ t.text.length ≤ 18 ∧ ∀ x ∈ t.text, 48 ≤ x.toNat ∧ x.toNat ≤ 57
  nam : t.kind = kName → t.text ≠ []
  sgn : t.kind = kSign → t.text ∉ wordsB
  wrd : t.kind = kWord → t.text ∈ wordsB
  brn : t.kind = kName → t.text ≠ [123] ∧ t.text ≠ [125]
theorem any_mem {x : List UInt8} {l : List (List UInt8)} (h : l.any (fun y => y == x) = true) : x ∈ l := by
  rw [List.any_eq_true] at h
  obtain ⟨y, hy, he⟩ := h
  rw [beq_iff_eq] at he
  subst he
  exact hy
theorem twos_words : ∀ x ∈ twosB, x ∉ wordsB := by decide
theorem words_len : ∀ x ∈ wordsB, 2 ≤ x.length := by decide
theorem tokAt_ok (c : UInt8) (r : List UInt8) (k : Nat) (ht : (tokAt (c :: r)).2.2 = true) : TkO ⟨(tokAt (c :: r)).1, (c :: r).take (tokAt (c :: r)).2.1, k⟩ := by
  cases h : isLetter c
  · cases hd : isDigit c
    · rw [tokAt_sign c r h hd] at ht ⊢
      refine ⟨fun e => absurd (show kSign = kNumber from e) (by decide), fun e => absurd (show kSign = kName from e) (by decide), fun _ => ?_, fun e => absurd (show kSign = kWord from e) (by decide), fun e => absurd (show kSign = kName from e) (by decide)⟩
      show (c :: r).take (if _ then 2 else 1) ∉ wordsB
      cases hb : twosB.any (fun x => x == (c :: r).take 2)
      · rw [if_neg (by decide)]
        intro hm
        have := words_len _ hm
        simp at this
      · rw [if_pos rfl]
        exact twos_words _ (any_mem hb)
    · rw [tokAt_digit c r h hd] at ht ⊢
      refine ⟨fun _ => ?_, fun e => absurd (show kNumber = kName from e) (by decide), fun e => absurd (show kNumber = kSign from e) (by decide), fun e => absurd (show kNumber = kWord from e) (by decide), fun e => absurd (show kNumber = kName from e) (by decide)⟩
      have h1 : 0 < spanL isDigit (c :: r) := spanL_pos hd
      have h2 := spanL_le isDigit (c :: r)
      have h3 : spanL isDigit (c :: r) ≤ 18 := by
        have ht' : numL c (c :: r) (spanL isDigit (c :: r)) = true := ht
        unfold numL at ht'
        simp only [Bool.and_eq_true, decide_eq_true_eq] at ht'
        exact ht'.1.1
      refine ⟨?_, ?_, fun x hx => ?_⟩
      · show 0 < ((c :: r).take (spanL isDigit (c :: r))).length
        rw [List.length_take]; omega
      · show ((c :: r).take (spanL isDigit (c :: r))).length ≤ 18
        rw [List.length_take]; omega
      · have := spanL_all (c :: r) x hx
        unfold isDigit at this
        simp only [Bool.and_eq_true, decide_eq_true_eq] at this
        omega
  · rw [tokAt_letter c r h] at ht ⊢
    have h1 : 0 < spanL alnum (c :: r) := spanL_pos (by unfold alnum; rw [h]; rfl)
    have h2 := spanL_le alnum (c :: r)
    have hne : (c :: r).take (spanL alnum (c :: r)) ≠ [] := by
      intro e
      have := congrArg List.length e
      rw [List.length_take] at this
      simp only [List.length_nil] at this
      omega
    have hbr : (c :: r).take (spanL alnum (c :: r)) ≠ [123] ∧ (c :: r).take (spanL alnum (c :: r)) ≠ [125] := by
      have hc : ∃ y, (c :: r).take (spanL alnum (c :: r)) = c :: y := by
        cases hs : spanL alnum (c :: r) with
        | zero => omega
        | succ n => exact ⟨_, List.take_succ_cons⟩
      obtain ⟨y, hy⟩ := hc
      rw [hy]
      constructor
      · intro e
        injection e with e _
        subst e
        revert h; decide
      · intro e
        injection e with e _
        subst e
        revert h; decide
    cases hb : wordsB.any (fun x => x == (c :: r).take (spanL alnum (c :: r)))
    · refine ⟨fun e => ?_, fun _ => hne, fun e => ?_, fun e => ?_, fun e => ?_⟩
      · simp at e; exact absurd e (by decide)
      · simp at e; exact absurd e (by decide)
      · simp at e; exact absurd e (by decide)
      · exact hbr
    · refine ⟨fun e => ?_, fun _ => hne, fun e => ?_, fun _ => any_mem hb, fun e => hbr⟩
      · simp at e; exact absurd e (by decide)
      · simp at e; exact absurd e (by decide)
theorem lexA_ok : ∀ (n : Nat) (l : List UInt8) (k : Nat), l.length ≤ n → ∀ t ∈ (lexA l k).1, TkO t := by
  intro n
  induction n with
  | zero =>
    intro l k h t ht
    have : l = [] := List.length_eq_zero_iff.1 (by omega)
    subst this
    rw [lexA_nil [] k rfl] at ht
    exact absurd ht List.not_mem_nil
  | succ n ih =>
    intro l k h t ht
    cases hr : l.drop (spanL isBlank l) with
    | nil => rw [lexA_nil l k hr] at ht; exact absurd ht List.not_mem_nil
    | cons c r =>
      cases hq : (tokAt (c :: r)).2.2
      · rw [lexA_bad l k c r hr hq] at ht; exact absurd ht List.not_mem_nil
      · have hb := tokAt_bounds c r
        have hl : (c :: r).length ≤ l.length := by rw [← hr, List.length_drop]; omega
        rw [lexA_tok l k c r hr hq] at ht
        rcases List.mem_cons.1 ht with rfl | h1
        · exact tokAt_ok c r _ hq
        · exact ih _ _ (by rw [List.length_drop]; omega) t h1
end Go.Proofs.YtpfgimohginbdaaDoor
