import Derived.Test.YtddilnibglcabaaDoorLexP
namespace Go.Proofs.YtddilnibglcabaaDoor
open Go.RowKit

/-! two texts, one behind the other; tokens written anew: plain Lean -/
theorem spanL_app {p : UInt8 → Bool} {d : UInt8} (hd : p d = false) : ∀ (l r : List UInt8), spanL p (l ++ d :: r) = spanL p l := by
  intro l
  induction l with
  | nil => intro r; simp [spanL, hd]
  | cons c l ih => intro r; simp only [List.cons_append, spanL, ih]
theorem spanL_app_lt {p : UInt8 → Bool} : ∀ (l r : List UInt8), spanL p l < l.length → spanL p (l ++ r) = spanL p l := by
  intro l
  induction l with
  | nil => intro r h; simp at h
  | cons c l ih =>
    intro r h
    simp only [List.cons_append, spanL] at h ⊢
    by_cases hc : p c = true
    · rw [if_pos hc] at h ⊢; rw [if_pos hc, ih r (by simp at h; omega)]
    · rw [if_neg hc, if_neg hc]
theorem spanL_app_all {p : UInt8 → Bool} : ∀ (l r : List UInt8), spanL p l = l.length → spanL p (l ++ r) = l.length + spanL p r := by
  intro l
  induction l with
  | nil => intro r _; simp
  | cons c l ih =>
    intro r h
    simp only [List.cons_append, spanL] at h ⊢
    by_cases hc : p c = true
    · rw [if_pos hc] at h ⊢; rw [ih r (by simp at h; omega)]; simp; omega
    · rw [if_neg hc] at h; simp at h
theorem blank_not {d : UInt8} (h : isBlank d = true) : isLetter d = false ∧ isDigit d = false ∧ d ≠ 60 ∧ d ≠ 61 ∧ d ≠ 62 := by
  have H : ∀ n : Fin 256, isBlank (UInt8.ofNat n.val) = true → isLetter (UInt8.ofNat n.val) = false ∧ isDigit (UInt8.ofNat n.val) = false ∧ UInt8.ofNat n.val ≠ 60 ∧ UInt8.ofNat n.val ≠ 61 ∧ UInt8.ofNat n.val ≠ 62 := by decide +kernel
  have := H ⟨d.toNat, d.toNat_lt⟩
  rw [show UInt8.ofNat d.toNat = d from UInt8.ofNat_toNat] at this
  exact this h
theorem twos_blank {c d : UInt8} (h : isBlank d = true) : twosB.any (fun x => x == [c, d]) = false := by
  obtain ⟨-, -, h0, h1, h2⟩ := blank_not h
  simp only [twosB, List.any_cons, List.any_nil, Bool.or_false, Bool.or_eq_false_iff, beq_eq_false_iff_ne, ne_eq, List.cons.injEq, and_true, not_and]
  exact ⟨fun _ e => h0 e.symm, fun _ e => h2 e.symm, fun _ e => h1 e.symm, fun _ e => h1 e.symm, fun _ e => h1 e.symm⟩
theorem twos_one {c : UInt8} : twosB.any (fun x => x == [c]) = false := by
  rw [Bool.eq_false_iff]; intro h; have := twos_len h; simp at this
theorem tokAt_app {d : UInt8} (h : isBlank d = true) (c : UInt8) (l r : List UInt8) : tokAt (c :: l ++ d :: r) = tokAt (c :: l) := by
  obtain ⟨h1, h2, -, -, -⟩ := blank_not h
  have h3 : alnum d = false := by unfold alnum; rw [h1, h2]; rfl
  have e : c :: l ++ d :: r = c :: (l ++ d :: r) := rfl
  cases hl : isLetter c
  · cases hd : isDigit c
    · rw [e, tokAt_sign c _ hl hd, tokAt_sign c _ hl hd]
      cases l with
      | nil => rw [List.nil_append, show (c :: d :: r).take 2 = [c, d] from rfl, show [c].take 2 = [c] from rfl, twos_blank h, twos_one]
      | cons a l => rw [show (c :: (a :: l ++ d :: r)).take 2 = [c, a] from rfl, show (c :: a :: l).take 2 = [c, a] from rfl]
    · rw [e, tokAt_digit c _ hl hd, tokAt_digit c _ hl hd, ← e, spanL_app h2]
      have hn := spanL_le isDigit (c :: l)
      refine congrArg (fun b => (kNumber, _, b)) ?_
      unfold numL
      congr 1
      by_cases hq : spanL isDigit (c :: l) < (c :: l).length
      · rw [List.drop_append_of_le_length (Nat.le_of_lt hq), List.drop_eq_getElem_cons hq]; rfl
      · have hq' : spanL isDigit (c :: l) = (c :: l).length := by omega
        rw [hq', List.drop_length, List.drop_left]
        simp [h1]
  · rw [e, tokAt_letter c _ hl, tokAt_letter c _ hl, ← e, spanL_app h3, List.take_append_of_le_length (spanL_le _ _)]
def shiftT (k : Nat) (t : Tok) : Tok := ⟨t.kind, t.text, t.pos + k⟩
theorem lexA_shift : ∀ (n : Nat) (l : List UInt8) (j k : Nat), l.length ≤ n → lexA l (j + k) = ((lexA l j).1.map (shiftT k), (lexA l j).2.map (· + k)) := by
  intro n
  induction n with
  | zero =>
    intro l j k h
    have : l = [] := List.length_eq_zero_iff.1 (by omega)
    subst this
    rw [lexA_nil [] _ rfl, lexA_nil [] _ rfl]; rfl
  | succ n ih =>
    intro l j k h
    cases hr : l.drop (spanL isBlank l) with
    | nil => rw [lexA_nil l _ hr, lexA_nil l _ hr]; rfl
    | cons c r =>
      cases ht : (tokAt (c :: r)).2.2
      · rw [lexA_bad l _ c r hr ht, lexA_bad l _ c r hr ht]; simp; omega
      · have hb := tokAt_bounds c r
        have hl : (c :: r).length ≤ l.length := by rw [← hr, List.length_drop]; omega
        rw [lexA_tok l _ c r hr ht, lexA_tok l _ c r hr ht]
        have := ih ((c :: r).drop (tokAt (c :: r)).2.1) (j + spanL isBlank l + (tokAt (c :: r)).2.1) k (by rw [List.length_drop]; omega)
        rw [show j + k + spanL isBlank l + (tokAt (c :: r)).2.1 = j + spanL isBlank l + (tokAt (c :: r)).2.1 + k by omega, this]
        simp only [List.map_cons, shiftT]
        rw [show j + k + spanL isBlank l = j + spanL isBlank l + k by omega]
theorem lexA_blanks {l : List UInt8} (h : spanL isBlank l = l.length) (d : UInt8) (hd : isBlank d = true) (t : List UInt8) (k : Nat) : lexA (l ++ d :: t) k = lexA t (k + l.length + 1) := by
  have hs : spanL isBlank (l ++ d :: t) = l.length + 1 + spanL isBlank t := by
    rw [spanL_app_all l _ h]; simp only [spanL, hd, if_true]; omega
  have hdr : (l ++ d :: t).drop (spanL isBlank (l ++ d :: t)) = t.drop (spanL isBlank t) := by
    rw [hs, show l.length + 1 + spanL isBlank t = l.length + (1 + spanL isBlank t) by omega, ← List.drop_drop, List.drop_left, Nat.add_comm 1, List.drop_succ_cons]
  cases hr : t.drop (spanL isBlank t) with
  | nil => rw [lexA_nil _ _ (hdr.trans hr), lexA_nil _ _ hr]
  | cons c r =>
    have e : k + spanL isBlank (l ++ d :: t) = k + l.length + 1 + spanL isBlank t := by omega
    cases ht : (tokAt (c :: r)).2.2
    · rw [lexA_bad _ _ _ _ (hdr.trans hr) ht, lexA_bad _ _ _ _ hr ht, e]
    · rw [lexA_tok _ _ _ _ (hdr.trans hr) ht, lexA_tok _ _ _ _ hr ht, e]
/-- A text, a blank, another text. -/
theorem lexA_join (d : UInt8) (hd : isBlank d = true) (t : List UInt8) : ∀ (n : Nat) (l : List UInt8) (k : Nat), l.length ≤ n →
    ((lexA l k).2 = none → lexA (l ++ d :: t) k = ((lexA l k).1 ++ (lexA t (k + l.length + 1)).1, (lexA t (k + l.length + 1)).2)) ∧
    (∀ p, (lexA l k).2 = some p → (lexA (l ++ d :: t) k).2 = some p) := by
  intro n
  induction n with
  | zero =>
    intro l k h
    have : l = [] := List.length_eq_zero_iff.1 (by omega)
    subst this
    rw [lexA_nil [] _ rfl, lexA_blanks (l := []) rfl d hd t k]
    exact ⟨fun _ => rfl, fun p h => by cases h⟩
  | succ n ih =>
    intro l k h
    cases hr : l.drop (spanL isBlank l) with
    | nil =>
      have hs : spanL isBlank l = l.length := by
        have := congrArg List.length hr
        have := spanL_le isBlank l
        rw [List.length_drop] at *
        simp at *; omega
      rw [lexA_nil l _ hr, lexA_blanks hs d hd t k]
      exact ⟨fun _ => rfl, fun p h => by cases h⟩
    | cons c r =>
      have hlt : spanL isBlank l < l.length := by
        have := congrArg List.length hr
        rw [List.length_drop] at this
        simp at this; omega
      have hs : spanL isBlank (l ++ d :: t) = spanL isBlank l := spanL_app_lt l _ hlt
      have hr' : (l ++ d :: t).drop (spanL isBlank (l ++ d :: t)) = c :: (r ++ d :: t) := by
        rw [hs, List.drop_append_of_le_length (Nat.le_of_lt hlt), hr]; rfl
      have hT : tokAt (c :: (r ++ d :: t)) = tokAt (c :: r) := tokAt_app hd c r t
      have hb := tokAt_bounds c r
      have hl : (c :: r).length ≤ l.length := by rw [← hr, List.length_drop]; omega
      cases ht : (tokAt (c :: r)).2.2
      · rw [lexA_bad l _ c r hr ht, lexA_bad _ _ _ _ hr' (by rw [hT]; exact ht), hs]
        exact ⟨fun h => (by cases h), fun p h => h⟩
      · rw [lexA_tok l _ c r hr ht, lexA_tok _ _ _ _ hr' (by rw [hT]; exact ht), hT, hs]
        have e1 : (c :: (r ++ d :: t)).drop (tokAt (c :: r)).2.1 = (c :: r).drop (tokAt (c :: r)).2.1 ++ d :: t := by
          rw [show c :: (r ++ d :: t) = (c :: r) ++ d :: t from rfl, List.drop_append_of_le_length hb.2]
        have e2 : (c :: (r ++ d :: t)).take (tokAt (c :: r)).2.1 = (c :: r).take (tokAt (c :: r)).2.1 := by
          rw [show c :: (r ++ d :: t) = (c :: r) ++ d :: t from rfl, List.take_append_of_le_length hb.2]
        rw [e1, e2]
        have hi := ih ((c :: r).drop (tokAt (c :: r)).2.1) (k + spanL isBlank l + (tokAt (c :: r)).2.1) (by rw [List.length_drop]; omega)
        have hk : k + spanL isBlank l + (tokAt (c :: r)).2.1 + ((c :: r).drop (tokAt (c :: r)).2.1).length + 1 = k + l.length + 1 := by
          have h5 : (c :: r).length = l.length - spanL isBlank l := by rw [← hr, List.length_drop]
          have h6 : ((c :: r).drop (tokAt (c :: r)).2.1).length = (c :: r).length - (tokAt (c :: r)).2.1 := List.length_drop
          omega
        rw [hk] at hi
        refine ⟨fun hn => ?_, fun p hp => hi.2 p hp⟩
        have := hi.1 hn
        rw [this]; rfl
/-- The tokens stand in the text, in order, from a place on. -/
def InText (full : List UInt8) : Nat → List Tok → Prop
  | _, [] => True
  | k, t :: ts => k ≤ t.pos ∧ t.pos + t.text.length ≤ full.length ∧ (∃ c r, t.text = c :: r ∧ isBlank c = false) ∧ (full.drop t.pos).take t.text.length = t.text ∧ tokAt t.text = (t.kind, t.text.length, true) ∧ InText full (t.pos + t.text.length) ts
theorem spanL_stop {p : UInt8 → Bool} : ∀ (l : List UInt8) (c : UInt8) (r : List UInt8), l.drop (spanL p l) = c :: r → p c = false := by
  intro l
  induction l with
  | nil => intro c r h; simp [spanL] at h
  | cons a l ih =>
    intro c r h
    simp only [spanL] at h
    by_cases ha : p a = true
    · rw [if_pos ha, List.drop_succ_cons] at h; exact ih c r h
    · rw [if_neg ha, List.drop_zero] at h
      obtain ⟨rfl, rfl⟩ := List.cons.inj h
      simpa using ha
theorem spanL_take {p : UInt8 → Bool} : ∀ (l : List UInt8), spanL p (l.take (spanL p l)) = spanL p l := by
  intro l
  induction l with
  | nil => rfl
  | cons a l ih =>
    simp only [spanL]
    by_cases ha : p a = true
    · rw [if_pos ha, List.take_succ_cons]; simp only [spanL]; rw [if_pos ha, ih]
    · rw [if_neg ha]; rfl
/-- A token alone is that token. -/
theorem tokAt_self (c : UInt8) (r : List UInt8) (h : (tokAt (c :: r)).2.2 = true) : tokAt ((c :: r).take (tokAt (c :: r)).2.1) = ((tokAt (c :: r)).1, (tokAt (c :: r)).2.1, true) := by
  have hb := tokAt_bounds c r
  cases hl : isLetter c
  · cases hd : isDigit c
    · rw [tokAt_sign c r hl hd] at h hb ⊢
      simp only at h hb ⊢
      cases h2 : twosB.any (fun x => x == (c :: r).take 2)
      · rw [h2, Bool.false_or] at h
        simp only [Bool.false_eq_true, if_false]
        rw [show (c :: r).take 1 = [c] from rfl, tokAt_sign c [] hl hd, show [c].take 2 = [c] from rfl, twos_one, h]; rfl
      · have h3 := twos_len h2
        cases r with
        | nil => simp at h3
        | cons a r =>
          simp only [if_true]
          rw [show (c :: a :: r).take 2 = [c, a] from rfl] at h2 ⊢
          rw [tokAt_sign c [a] hl hd, show [c, a].take 2 = [c, a] from rfl, h2]; rfl
    · rw [tokAt_digit c r hl hd] at h hb ⊢
      simp only at h hb ⊢
      obtain ⟨n, hn⟩ : ∃ n, spanL isDigit (c :: r) = n + 1 := ⟨spanL isDigit (c :: r) - 1, by omega⟩
      have ht := spanL_take (p := isDigit) (c :: r)
      rw [hn, List.take_succ_cons] at ht ⊢
      rw [tokAt_digit c _ hl hd, ht]
      rw [hn] at h
      refine congrArg (fun b => (kNumber, n + 1, b)) ?_
      unfold numL at h ⊢
      rw [Bool.and_eq_true, Bool.and_eq_true] at h
      rw [h.1.1, h.1.2]
      have : (c :: r.take n).drop (n + 1) = [] := List.drop_eq_nil_of_le (by simp; omega)
      rw [this]; rfl
  · rw [tokAt_letter c r hl] at h hb ⊢
    simp only at h hb ⊢
    obtain ⟨n, hn⟩ : ∃ n, spanL alnum (c :: r) = n + 1 := ⟨spanL alnum (c :: r) - 1, by omega⟩
    have ht := spanL_take (p := alnum) (c :: r)
    rw [hn] at h
    rw [hn, List.take_succ_cons] at ht ⊢
    have hq : (c :: r.take n).take (n + 1) = c :: r.take n := by rw [List.take_succ_cons, List.take_take, Nat.min_self]
    rw [tokAt_letter c _ hl, ht, hq]
    rw [List.take_succ_cons] at h
    rw [h]
theorem lexA_in (full : List UInt8) : ∀ (n : Nat) (l : List UInt8) (k : Nat), l.length ≤ n → full.drop k = l → InText full k (lexA l k).1 := by
  intro n
  induction n with
  | zero =>
    intro l k h _
    have : l = [] := List.length_eq_zero_iff.1 (by omega)
    subst this
    rw [lexA_nil [] _ rfl]; trivial
  | succ n ih =>
    intro l k h hf
    cases hr : l.drop (spanL isBlank l) with
    | nil => rw [lexA_nil l _ hr]; trivial
    | cons c r =>
      cases ht : (tokAt (c :: r)).2.2
      · rw [lexA_bad l _ c r hr ht]; trivial
      · have hb := tokAt_bounds c r
        have hl : (c :: r).length ≤ l.length := by rw [← hr, List.length_drop]; omega
        have hfd : full.drop (k + spanL isBlank l) = c :: r := by rw [← List.drop_drop, hf, hr]
        have hlen : (c :: r).length = full.length - (k + spanL isBlank l) := by rw [← hfd, List.length_drop]
        have htl : ((c :: r).take (tokAt (c :: r)).2.1).length = (tokAt (c :: r)).2.1 := by rw [List.length_take]; omega
        rw [lexA_tok l _ c r hr ht]
        refine ⟨by simp, by simp only [htl]; omega, ?_, ?_, ?_, ?_⟩
        · obtain ⟨m, hm⟩ : ∃ m, (tokAt (c :: r)).2.1 = m + 1 := ⟨(tokAt (c :: r)).2.1 - 1, by omega⟩
          simp only [hm, List.take_succ_cons]
          exact ⟨c, _, rfl, spanL_stop l c r hr⟩
        · simp only [htl, hfd]
        · simp only [htl]; exact tokAt_self c r ht
        · simp only [htl]
          exact ih _ _ (by rw [List.length_drop]; omega) (by rw [← List.drop_drop, hfd])
def joinB : List (List UInt8) → List UInt8
  | [] => []
  | [x] => x
  | x :: y :: r => x ++ 32 :: joinB (y :: r)
def bareT (t : Tok) : List UInt8 × List UInt8 := (t.kind, t.text)
theorem lexA_joined (full : List UInt8) : ∀ (ts : List Tok) (j k : Nat), InText full j ts → (lexA (joinB (ts.map (·.text))) k).2 = none ∧ (lexA (joinB (ts.map (·.text))) k).1.map bareT = ts.map bareT := by
  intro ts
  induction ts with
  | nil => intro j k _; rw [show joinB (([] : List Tok).map (·.text)) = [] from rfl, lexA_nil [] _ rfl]; exact ⟨rfl, rfl⟩
  | cons t ts ih =>
    intro j k h
    obtain ⟨-, -, ⟨c, r, ht, hc⟩, -, htok, hrest⟩ := h
    have h0 : ∀ x : List UInt8, spanL isBlank (c :: x) = 0 := fun x => by simp [spanL, hc]
    cases ts with
    | nil =>
      rw [show joinB (([t] : List Tok).map (·.text)) = t.text from rfl]
      rw [ht] at htok ⊢
      have hd : (c :: r).drop (spanL isBlank (c :: r)) = c :: r := by rw [h0]; rfl
      rw [lexA_tok _ _ c r hd (by rw [htok])]
      have e : (c :: r).drop (tokAt (c :: r)).2.1 = [] := by rw [htok]; simp
      rw [e, lexA_nil [] _ rfl, htok]
      refine ⟨rfl, ?_⟩
      simp [bareT, ht]
    | cons u us =>
      have e0 : joinB ((t :: u :: us).map (·.text)) = t.text ++ 32 :: joinB ((u :: us).map (·.text)) := rfl
      rw [e0]
      have hj : isBlank 32 = true := by decide
      rw [ht] at htok ⊢
      have hd : (c :: (r ++ 32 :: joinB ((u :: us).map (·.text)))).drop (spanL isBlank (c :: (r ++ 32 :: joinB ((u :: us).map (·.text))))) = c :: (r ++ 32 :: joinB ((u :: us).map (·.text))) := by rw [h0]; rfl
      have hT : tokAt (c :: (r ++ 32 :: joinB ((u :: us).map (·.text)))) = tokAt (c :: r) := tokAt_app hj c r _
      rw [show (c :: r) ++ 32 :: joinB ((u :: us).map (·.text)) = c :: (r ++ 32 :: joinB ((u :: us).map (·.text))) from rfl, lexA_tok _ _ _ _ hd (by rw [hT, htok]), hT, htok]
      have e1 : (c :: (r ++ 32 :: joinB ((u :: us).map (·.text)))).drop (c :: r).length = 32 :: joinB ((u :: us).map (·.text)) := by
        rw [show c :: (r ++ 32 :: joinB ((u :: us).map (·.text))) = (c :: r) ++ 32 :: joinB ((u :: us).map (·.text)) from rfl, List.drop_left]
      have e2 : (c :: (r ++ 32 :: joinB ((u :: us).map (·.text)))).take (c :: r).length = c :: r := by
        rw [show c :: (r ++ 32 :: joinB ((u :: us).map (·.text))) = (c :: r) ++ 32 :: joinB ((u :: us).map (·.text)) from rfl, List.take_left]
      simp only [e1, e2]
      have hb := lexA_blanks (l := []) rfl 32 hj (joinB ((u :: us).map (·.text))) (k + spanL isBlank (c :: (r ++ 32 :: joinB ((u :: us).map (·.text)))) + (c :: r).length)
      rw [List.nil_append] at hb
      rw [hb]
      have := ih (t.pos + t.text.length) (k + spanL isBlank (c :: (r ++ 32 :: joinB ((u :: us).map (·.text)))) + (c :: r).length + ([] : List UInt8).length + 1) (by rw [ht] at hrest; rw [ht]; exact hrest)
      refine ⟨this.1, ?_⟩
      show bareT _ :: List.map bareT _ = bareT t :: List.map bareT (u :: us)
      rw [this.2]
      simp [bareT, ht]
/-- How long the tokens' texts are together. -/
theorem joinB_len (full : List UInt8) : ∀ (ts : List Tok) (j : Nat), j ≤ full.length → InText full j ts → (joinB (ts.map (·.text))).length ≤ 2 * (full.length - j) := by
  intro ts
  induction ts with
  | nil => intro j _ _; simp [joinB]
  | cons t ts ih =>
    intro j hj h
    obtain ⟨h1, h2, ⟨c, r, ht, -⟩, -, -, hrest⟩ := h
    have hp : 0 < t.text.length := by rw [ht]; simp
    have := ih (t.pos + t.text.length) h2 hrest
    cases ts with
    | nil => simp only [List.map_cons, List.map_nil, joinB]; omega
    | cons u us =>
      have e0 : joinB ((t :: u :: us).map (·.text)) = t.text ++ 32 :: joinB ((u :: us).map (·.text)) := rfl
      rw [e0, List.length_append, List.length_cons]
      omega
end Go.Proofs.YtddilnibglcabaaDoor
