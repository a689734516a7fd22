import Derived.Test.YtpfgimohginbdaaDoorBn26
import Derived.Test.YtpfgimohginbdaaDoorBn4
set_option linter.unusedVariables false
set_option linter.unusedSimpArgs false
namespace Go.Proofs.YtpfgimohginbdaaDoor
open Go.RowKit

/-! both parsers make the same -/
structure RelP {α : Type} (a b : α) (s s' : PSt) : Prop where
  err : s.err = s'.err
  same : s.err = none → s = s' ∧ a = b
theorem RelP.refl {α : Type} (a : α) (s : PSt) : RelP a a s s := ⟨rfl, fun _ => ⟨rfl, rfl⟩⟩
theorem RelP.bad {α : Type} {a b : α} {s : PSt} (h : s.err ≠ none) : RelP a b s s := ⟨rfl, fun e => absurd e h⟩
theorem isP_err {l : List Tok} {s : PSt} {x : List UInt8} (h : s.err ≠ none) : isP l s x = false := by
  unfold isP
  cases he : s.err with
  | none => exact absurd he h
  | some z => rfl
theorem takeP_err {l : List Tok} {s : PSt} {x : List UInt8} (h : s.err ≠ none) : takeP l x s = s := by
  unfold takeP
  rw [isP_err h, if_neg (by decide), failP_old h]
theorem ofB_err {l : List Tok} {s : PSt} {x : List UInt8} (h : s.err ≠ none) : ofB l x s = false := by
  unfold ofB
  cases he : s.err with
  | none => exact absurd he h
  | some z => rfl
theorem ofP_err {l : List Tok} {s : PSt} {x : List UInt8} (h : s.err ≠ none) : ofP l x s = ([], s) := by
  unfold ofP
  rw [ofB_err h, if_neg (by decide), failP_old h]
theorem opP_err {l : List Tok} {s : PSt} {lv : Nat} (h : s.err ≠ none) : opP l lv s = false := by
  unfold opP
  cases he : s.err with
  | none => exact absurd he h
  | some z => rfl
theorem levR_err {l : List Tok} {s : PSt} (h : s.err ≠ none) : levR l s = none := by
  unfold levR
  rw [if_neg (fun e => h (none_of e))]
theorem RelP.take {α : Type} {a b : α} {s s' : PSt} (l : List Tok) (x : List UInt8) (h : RelP a b s s') : RelP a b (takeP l x s) (takeP l x s') := by
  cases he : s.err with
  | none =>
    obtain ⟨rfl, rfl⟩ := h.same he
    exact RelP.refl _ _
  | some z =>
    have h1 : s.err ≠ none := by rw [he]; simp
    have h2 : s'.err ≠ none := by rw [← h.err]; exact h1
    rw [takeP_err h1, takeP_err h2]
    exact h
theorem RelP.up {α : Type} {a b : α} {s s' : PSt} (h : RelP a b s s') : RelP a b s.up s'.up :=
  ⟨h.err, fun e => ⟨by rw [(h.same e).1], (h.same e).2⟩⟩
theorem RelP.map {α β : Type} {a b : α} {s s' : PSt} (f : α → β) (h : RelP a b s s') : RelP (f a) (f b) s s' := ⟨h.err, fun e => ⟨(h.same e).1, by rw [(h.same e).2]⟩⟩
theorem RelP.isP {α : Type} {a b : α} {s s' : PSt} (l : List Tok) (x : List UInt8) (h : RelP a b s s') : Go.Proofs.YtpfgimohginbdaaDoor.isP l s x = Go.Proofs.YtpfgimohginbdaaDoor.isP l s' x := by
  cases he : s.err with
  | none => rw [(h.same he).1]
  | some z => rw [isP_err (by rw [he]; simp), isP_err (by rw [← h.err, he]; simp)]
theorem lev_op {x : List UInt8} {lv : Nat} (h : (levelsB.getD lv []).contains x = true) : levN x = some lv := by
  have h1 : ∀ lv, lv < 8 → ∀ x ∈ levelsB.getD lv [], levN x = some lv := by decide
  by_cases hl : lv < 8
  · exact h1 lv hl x (by simpa using h)
  · rw [List.getD_eq_getElem?_getD, List.getElem?_eq_none (by show 8 ≤ lv; omega)] at h
    simp at h
theorem op_lev {x : List UInt8} {lv : Nat} (h : levN x = some lv) : (levelsB.getD lv []).contains x = true := by
  unfold levN at h
  obtain ⟨h1, h2, -⟩ := List.findIdx?_eq_some_iff_getElem.1 h
  rw [List.getD_eq_getElem?_getD, List.getElem?_eq_getElem h1]
  exact h2
theorem op_levR {l : List Tok} {s : PSt} {lv : Nat} : opP l lv s = true ↔ levR l s = some lv := by
  constructor
  · intro h
    obtain ⟨he, t, h1, h2, h3, -⟩ := opP_some h
    unfold levR
    rw [he, h1]
    simp only [Option.isNone_none, if_true]
    rw [h2]
    simp only [beq_self_eq_true, if_true]
    exact lev_op h3
  · intro h
    obtain ⟨he, t, k, h1, h2, h3, h4, -, -⟩ := lev_some (l := l) (s := s) (lv := 0) (by rw [h]; rfl)
    rw [h] at h4
    cases h4
    unfold opP
    rw [he, h1]
    simp only [Option.isNone_none, Bool.true_and]
    rw [h2]
    simp only [beq_self_eq_true, Bool.true_and]
    exact op_lev h3
/-- Behind a loop there is no op of its level, or more. -/
theorem loop_end {l : List Tok} : ∀ (m lv : Nat) (e : PExpr) (s : PSt) (r : PExpr × PSt), loopR l m lv e s = some r → leB lv (levR l r.2) = false := by
  intro m
  induction m with
  | zero => intro lv e s r h; rw [loopR] at h; cases h
  | succ m ih =>
    intro lv e s r h
    rw [loopR] at h
    by_cases ho : leB lv (levR l s) = true
    · rw [if_pos ho] at h
      cases hx : exprR l m ((levR l s).getD 0 + 1) s.step with
      | none => rw [hx] at h; cases h
      | some p => rw [hx] at h; exact ih _ _ _ _ h
    · rw [if_neg ho] at h
      cases h
      simpa using ho
theorem expr_end {l : List Tok} {m lv : Nat} {s : PSt} {e : PExpr} {s1 : PSt} (h : exprR l m lv s = some (e, s1)) : leB lv (levR l s1) = false := by
  cases m with
  | zero => rw [exprR] at h; cases h
  | succ m =>
    rw [exprR] at h
    cases hx : aheadR l m s with
    | none => rw [hx] at h; cases h
    | some p => rw [hx] at h; exact loop_end _ _ _ _ _ h
/-- A loop of a level is one of the level above it, and goes on. -/
theorem loop_split {l : List Tok} : ∀ (m lv : Nat) (a : PExpr) (s : PSt) (r : PExpr × PSt), loopR l m lv a s = some r → ∃ e1 s1 m1, loopR l m (lv + 1) a s = some (e1, s1) ∧ loopR l m1 lv e1 s1 = some r := by
  intro m
  induction m with
  | zero => intro lv a s r h; rw [loopR] at h; cases h
  | succ m ih =>
    intro lv a s r h
    by_cases ho : leB (lv + 1) (levR l s) = true
    · have ho2 : leB lv (levR l s) = true := by
        cases hl : levR l s with
        | none => rw [hl] at ho; cases ho
        | some k => rw [hl] at ho; simp [leB] at ho ⊢; omega
      rw [loopR, if_pos ho2] at h
      rw [loopR, if_pos ho]
      cases hx : exprR l m ((levR l s).getD 0 + 1) s.step with
      | none => rw [hx] at h; cases h
      | some p => rw [hx] at h; exact ih _ _ _ _ h
    · refine ⟨a, s, m + 1, ?_, h⟩
      rw [loopR, if_neg ho]
structure EqE (l : List Tok) (n : Nat) : Prop where
  expr : ∀ m lv s e s1 e' s1', lv ≤ 8 → exprF l n lv s = some (e, s1) → exprR l m lv s = some (e', s1') → RelP e e' s1 s1'
  one : ∀ m s e s1 e' s1', oneF l n s = some (e, s1) → aheadR l m s = some (e', s1') → RelP e e' s1 s1'
  atom : ∀ m s e s1 e' s1', ¬ (isP l s [45] = true ∨ isP l s [33] = true) → atomF l n s = some (e, s1) → aheadR l m s = some (e', s1') → RelP e e' s1 s1'
  inner : ∀ m s e s1 e' s1', innerF l n s = some (e, s1) → (if (nestP s).err.isNone = true then (match exprR l m 0 (nestP s).step with | none => none | some (e, s1) => some (e, (takeP l [41] s1).up)) else some (zeroE, nestP s)) = some (e', s1') → RelP e e' s1 s1'
  list : ∀ m s e s1 e' s1', s.err = none → listF l n s = some (e, s1) → argsR l m s = some (e', s1') → RelP e e' s1 s1'
  args : ∀ m ks s e s1 e' s1', argsF l n ks s = some (e, s1) → (if isP l s [44] = true then argsL l m ks s.step else some (ks, takeP l [41] s)) = some (e', s1') → RelP e e' s1 s1'
  ops : ∀ m lv a s e s1 e' s1', lv < 8 → leB (lv + 1) (levR l s) = false → opsF l n lv a s = some (e, s1) → loopR l m lv a s = some (e', s1') → RelP e e' s1 s1'
theorem ops_err {l : List Tok} {n lv : Nat} {a : PExpr} {s : PSt} {r : PExpr × PSt} (he : s.err ≠ none) (h : opsF l n lv a s = some r) : r = (a, s) := by
  cases n with
  | zero => rw [opsF] at h; cases h
  | succ n => rw [opsF, opP_err he, if_neg (by decide)] at h; cases h; rfl
theorem loop_err {l : List Tok} {n lv : Nat} {a : PExpr} {s : PSt} {r : PExpr × PSt} (he : s.err ≠ none) (h : loopR l n lv a s = some r) : r = (a, s) := by
  cases n with
  | zero => rw [loopR] at h; cases h
  | succ n => rw [loopR, levR_err he, if_neg (show ¬ leB lv none = true by simp [leB])] at h; cases h; rfl
theorem eq_expr (l : List Tok) : ∀ n, EqE l n := by
  intro n
  induction n with
  | zero =>
    refine ⟨?_, ?_, ?_, ?_, ?_, ?_, ?_⟩
    · intro m lv s e s1 e' s1' _ h; rw [exprF] at h; cases h
    · intro m s e s1 e' s1' h; rw [oneF] at h; cases h
    · intro m s e s1 e' s1' _ h; rw [atomF] at h; cases h
    · intro m s e s1 e' s1' h; rw [innerF] at h; cases h
    · intro m s e s1 e' s1' _ h; rw [listF] at h; cases h
    · intro m ks s e s1 e' s1' h; rw [argsF] at h; cases h
    · intro m lv a s e s1 e' s1' _ _ h; rw [opsF] at h; cases h
  | succ n ih =>
    refine ⟨?_, ?_, ?_, ?_, ?_, ?_, ?_⟩
    · intro m lv s e s1 e' s1' hlv h h'
      rw [exprF] at h
      cases m with
      | zero => rw [exprR] at h'; cases h'
      | succ m =>
        have h9 := h'
        rw [exprR] at h'
        cases ha : aheadR l m s with
        | none => rw [ha] at h'; cases h'
        | some p =>
          obtain ⟨a, sa⟩ := p
          rw [ha] at h'
          simp only at h'
          by_cases h8 : lv = 8
          · rw [if_pos h8] at h
            have hr := ih.one m s e s1 a sa h ha
            subst h8
            cases m with
            | zero => rw [loopR] at h'; cases h'
            | succ m =>
              have hno : leB 8 (levR l sa) = false := by
                cases hl : levR l sa with
                | none => rfl
                | some k => have := lev_le hl; simp [leB]; omega
              rw [loopR, hno, if_neg (by decide)] at h'
              cases h'
              exact hr
          · rw [if_neg h8] at h
            cases hx : exprF l n (lv + 1) s with
            | none => rw [hx] at h; cases h
            | some p1 =>
              obtain ⟨e1, t1⟩ := p1
              rw [hx] at h
              simp only at h
              obtain ⟨e2, t2, m1, hl1, hl2⟩ := loop_split m lv a sa _ h'
              have hE : exprR l (m + 1) (lv + 1) s = some (e2, t2) := by rw [exprR, ha]; exact hl1
              have hr := ih.expr (m + 1) (lv + 1) s e1 t1 e2 t2 (by omega) hx hE
              cases he : t1.err with
              | none =>
                obtain ⟨rfl, rfl⟩ := hr.same he
                exact ih.ops m1 lv e1 t1 e s1 e' s1' (by omega) (expr_end hE) h hl2
              | some z =>
                have h1 : t1.err ≠ none := by rw [he]; simp
                have h2 : t2.err ≠ none := by rw [← hr.err]; exact h1
                have q1 := ops_err h1 h
                have q2 := loop_err h2 hl2
                cases q1
                cases q2
                exact ⟨hr.err, fun e => absurd e h1⟩
    · intro m s e s1 e' s1' h h'
      rw [oneF] at h
      by_cases ho : isP l s [45] = true ∨ isP l s [33] = true
      · rw [if_pos ho] at h
        cases m with
        | zero => rw [aheadR] at h'; cases h'
        | succ m =>
          rw [aheadR, if_pos ho] at h'
          by_cases hne : (nestP s).err.isNone = true
          · rw [if_pos hne] at h h'
            cases hx : oneF l n (nestP s).step with
            | none => rw [hx] at h; cases h
            | some p =>
              cases hy : aheadR l m (nestP s).step with
              | none => rw [hy] at h'; cases h'
              | some p' =>
                rw [hx] at h
                rw [hy] at h'
                have hr := ih.one m _ p.1 p.2 p'.1 p'.2 hx hy
                cases h
                cases h'
                exact (hr.map fun e => (⟨yOne, 0, txtP l s, [e]⟩ : PExpr)).up
          · rw [if_neg hne] at h h'
            cases h
            cases h'
            exact RelP.refl _ _
      · rw [if_neg ho] at h
        exact ih.atom m s e s1 e' s1' ho h h'
    · intro m s e s1 e' s1' ho h h'
      rw [atomF] at h
      cases m with
      | zero => rw [aheadR] at h'; cases h'
      | succ m =>
        rw [aheadR, if_neg ho] at h'
        by_cases h0 : (s.err.isNone && decide (s.pos < l.length)) = true
        · rw [if_pos h0] at h
          simp only [Bool.and_eq_true, decide_eq_true_eq] at h0
          by_cases h1 : isP l s [40] = true
          · rw [if_pos h1] at h h'
            exact ih.inner m s e s1 e' s1' h h'
          · rw [if_neg h1] at h h'
            by_cases h2 : ofB l kNumber s = true
            · rw [if_pos h2] at h h'
              cases h
              cases h'
              exact RelP.refl _ _
            · rw [if_neg h2] at h h'
              by_cases h3 : isP l (ofP l kName s).2 [40] = true
              · rw [if_pos h3] at h h'
                by_cases h4 : (nestP (ofP l kName s).2).err.isNone = true
                · rw [if_pos h4] at h h'
                  cases hx : listF l n (nestP (ofP l kName s).2).step with
                  | none => rw [hx] at h; cases h
                  | some p =>
                    cases hy : argsR l m (nestP (ofP l kName s).2).step with
                    | none => rw [hy] at h'; cases h'
                    | some p' =>
                      rw [hx] at h
                      rw [hy] at h'
                      have hr := ih.list m (nestP (ofP l kName s).2).step p.1 p.2 p'.1 p'.2 (none_of h4) hx hy
                      cases h
                      cases h'
                      exact (hr.map fun ks => (⟨yCall, 0, (ofP l kName s).1, ks⟩ : PExpr)).up
                · rw [if_neg h4] at h h'
                  cases h
                  cases h'
                  exact RelP.bad (some_of h4)
              · rw [if_neg h3] at h h'
                cases h
                cases h'
                exact RelP.refl _ _
        · rw [if_neg h0] at h
          cases h
          have hno : isP l s [40] = false ∧ ofB l kNumber s = false ∧ ofP l kName s = ([], failP s 1) := by
            have hx : ∀ t, l[s.pos]? = some t → s.err ≠ none := fun t ht he => h0 (by rw [he]; simpa using (List.getElem?_eq_some_iff.1 ht).1)
            refine ⟨?_, ?_, ?_⟩
            · cases hq : isP l s [40] with
              | false => rfl
              | true => obtain ⟨e, t, h1, -⟩ := isP_some hq; exact absurd e (hx t h1)
            · cases hq : ofB l kNumber s with
              | false => rfl
              | true => obtain ⟨e, t, h1, -⟩ := ofB_some hq; exact absurd e (hx t h1)
            · unfold ofP
              cases hq : ofB l kName s with
              | false => rfl
              | true => obtain ⟨e, t, h1, -⟩ := ofB_some hq; exact absurd e (hx t h1)
          rw [hno.1, hno.2.1, hno.2.2, if_neg (by decide), if_neg (by decide), isP_err failP_err, if_neg (by decide)] at h'
          cases h'
          exact RelP.bad failP_err
    · intro m s e s1 e' s1' h h'
      rw [innerF] at h
      by_cases hne : (nestP s).err.isNone = true
      · rw [if_pos hne] at h h'
        cases hx : exprF l n 0 (nestP s).step with
        | none => rw [hx] at h; cases h
        | some p =>
          cases hy : exprR l m 0 (nestP s).step with
          | none => rw [hy] at h'; cases h'
          | some p' =>
            rw [hx] at h
            rw [hy] at h'
            have hr := ih.expr m 0 _ p.1 p.2 p'.1 p'.2 (by omega) hx hy
            cases h
            cases h'
            exact (hr.take l [41]).up
      · rw [if_neg hne] at h h'
        cases h
        cases h'
        exact RelP.refl _ _
    · intro m s e s1 e' s1' he h h'
      rw [listF] at h
      cases m with
      | zero => rw [argsR] at h'; cases h'
      | succ m =>
        rw [argsR] at h'
        by_cases h1 : isP l s [41] = true
        · rw [if_pos h1] at h h'
          cases h
          cases h'
          exact RelP.refl _ _
        · rw [if_neg h1] at h h'
          cases m with
          | zero => rw [argsL] at h'; cases h'
          | succ m =>
            rw [argsL, if_pos (show s.err.isNone = true by rw [he]; rfl)] at h'
            cases hx : exprF l n 0 s with
            | none => rw [hx] at h; cases h
            | some p =>
              cases hy : exprR l m 0 s with
              | none => rw [hy] at h'; cases h'
              | some p' =>
                rw [hx] at h
                rw [hy] at h'
                simp only at h h'
                have hr := ih.expr m 0 _ p.1 p.2 p'.1 p'.2 (by omega) hx hy
                cases hz : p.2.err with
                | none =>
                  obtain ⟨q1, q2⟩ := hr.same hz
                  rw [← q1, ← q2] at h'
                  exact ih.args m [p.1] p.2 e s1 e' s1' h h'
                | some z =>
                  have k1 : p.2.err ≠ none := by rw [hz]; simp
                  have k2 : p'.2.err ≠ none := by rw [← hr.err]; exact k1
                  rw [isP_err k2, if_neg (by decide), takeP_err k2] at h'
                  cases h'
                  cases n with
                  | zero => rw [argsF] at h; cases h
                  | succ n =>
                    rw [argsF, isP_err k1, if_neg (by decide), takeP_err k1] at h
                    cases h
                    exact ⟨hr.err, fun e => absurd e k1⟩
    · intro m ks s e s1 e' s1' h h'
      rw [argsF] at h
      by_cases h1 : isP l s [44] = true
      · rw [if_pos h1] at h h'
        obtain ⟨he, -⟩ := isP_some h1
        cases m with
        | zero => rw [argsL] at h'; cases h'
        | succ m =>
          rw [argsL, if_pos (show s.step.err.isNone = true by show s.err.isNone = true; rw [he]; rfl)] at h'
          cases hx : exprF l n 0 s.step with
          | none => rw [hx] at h; cases h
          | some p =>
            cases hy : exprR l m 0 s.step with
            | none => rw [hy] at h'; cases h'
            | some p' =>
              rw [hx] at h
              rw [hy] at h'
              simp only at h h'
              have hr := ih.expr m 0 _ p.1 p.2 p'.1 p'.2 (by omega) hx hy
              cases hz : p.2.err with
              | none =>
                obtain ⟨q1, q2⟩ := hr.same hz
                rw [← q1, ← q2] at h'
                exact ih.args m (ks ++ [p.1]) p.2 e s1 e' s1' h h'
              | some z =>
                have k1 : p.2.err ≠ none := by rw [hz]; simp
                have k2 : p'.2.err ≠ none := by rw [← hr.err]; exact k1
                rw [isP_err k2, if_neg (by decide), takeP_err k2] at h'
                cases h'
                cases n with
                | zero => rw [argsF] at h; cases h
                | succ n =>
                  rw [argsF, isP_err k1, if_neg (by decide), takeP_err k1] at h
                  cases h
                  exact ⟨hr.err, fun e => absurd e k1⟩
      · rw [if_neg h1] at h h'
        cases h
        cases h'
        exact RelP.refl _ _
    · intro m lv a s e s1 e' s1' hlv hle h h'
      rw [opsF] at h
      cases m with
      | zero => rw [loopR] at h'; cases h'
      | succ m =>
        rw [loopR] at h'
        by_cases ho : opP l lv s = true
        · have hlev := op_levR.1 ho
          rw [if_pos ho] at h
          rw [hlev, if_pos (show leB lv (some lv) = true by simp [leB])] at h'
          simp only [Option.getD_some] at h'
          cases hx : exprF l n (lv + 1) s.step with
          | none => rw [hx] at h; cases h
          | some p =>
            cases hy : exprR l m (lv + 1) s.step with
            | none => rw [hy] at h'; cases h'
            | some p' =>
              rw [hx] at h
              rw [hy] at h'
              simp only at h h'
              have hr := ih.expr m (lv + 1) _ p.1 p.2 p'.1 p'.2 (by omega) hx hy
              cases hz : p.2.err with
              | none =>
                obtain ⟨q1, q2⟩ := hr.same hz
                have hend := expr_end (e := p'.1) (s1 := p'.2) hy
                rw [← q1] at hend
                rw [← q1, ← q2] at h'
                exact ih.ops m lv _ p.2 e s1 e' s1' hlv hend h h'
              | some z =>
                have k1 : p.2.err ≠ none := by rw [hz]; simp
                have k2 : p'.2.err ≠ none := by rw [← hr.err]; exact k1
                have q1 := ops_err k1 h
                have q2 := loop_err k2 h'
                cases q1
                cases q2
                exact ⟨hr.err, fun e => absurd e k1⟩
        · rw [if_neg ho] at h
          have hno : leB lv (levR l s) = false := by
            cases hl : levR l s with
            | none => rfl
            | some k =>
              rw [hl] at hle
              have hne : k ≠ lv := fun e => ho (op_levR.2 (by rw [hl, e]))
              simp [leB] at hle ⊢
              omega
          rw [hno, if_neg (by decide)] at h'
          cases h
          cases h'
          exact RelP.refl _ _
end Go.Proofs.YtpfgimohginbdaaDoor

namespace Go.Proofs.YtpfgimohginbdaaDoor
open Go.RowKit

/-! both parsers make the same statements, functions, programs -/
theorem eq_assign {l : List Tok} {n m : Nat} {kind : List UInt8} {s : PSt} {x x' : PStmt} {s1 s1' : PSt} (h : assignF l n kind s = some (x, s1)) (h' : assignR l m kind s = some (x', s1')) : RelP x x' s1 s1' := by
  unfold assignF at h
  unfold assignR at h'
  cases hx : exprF l n 0 (takeP l [61] (ofP l kName s).2) with
  | none => rw [hx] at h; cases h
  | some p =>
    cases hy : exprR l m 0 (takeP l [61] (ofP l kName s).2) with
    | none => rw [hy] at h'; cases h'
    | some p' =>
      rw [hx] at h
      rw [hy] at h'
      have hr := (eq_expr l n).expr m 0 _ p.1 p.2 p'.1 p'.2 (by omega) hx hy
      cases h
      cases h'
      exact ((hr.map fun e => (⟨kind, (ofP l kName s).1, e, [], []⟩ : PStmt))).take l [59]
theorem eq_tell {l : List Tok} {n m : Nat} {kind : List UInt8} {s : PSt} {x x' : PStmt} {s1 s1' : PSt} (h : tellF l n kind s = some (x, s1)) (h' : tellR l m kind s = some (x', s1')) : RelP x x' s1 s1' := by
  unfold tellF at h
  unfold tellR at h'
  cases hx : exprF l n 0 s.step with
  | none => rw [hx] at h; cases h
  | some p =>
    cases hy : exprR l m 0 s.step with
    | none => rw [hy] at h'; cases h'
    | some p' =>
      rw [hx] at h
      rw [hy] at h'
      have hr := (eq_expr l n).expr m 0 _ p.1 p.2 p'.1 p'.2 (by omega) hx hy
      cases h
      cases h'
      exact ((hr.map fun e => (⟨kind, [], e, [], []⟩ : PStmt))).take l [59]
theorem blockF_err {l : List Tok} {n : Nat} {s : PSt} {r : List PStmt × PSt} (he : s.err ≠ none) (h : blockF l n s = some r) : r = ([], s) := by
  cases n with
  | zero => rw [blockF] at h; cases h
  | succ n => rw [blockF, isP_err he, if_neg (by decide), failP_old he] at h; cases h; rfl
theorem blockR_err {l : List Tok} {n : Nat} {s : PSt} {r : List PStmt × PSt} (he : s.err ≠ none) (h : blockR l n s = some r) : r = ([], s) := by
  cases n with
  | zero => rw [blockR] at h; cases h
  | succ n => rw [blockR, isP_err he, if_neg (by decide), failP_old he] at h; cases h; rfl
theorem stmtsF_err {l : List Tok} {n : Nat} {ss : List PStmt} {s : PSt} {r : List PStmt × PSt} (he : s.err ≠ none) (h : stmtsF l n ss s = some r) : r = (ss, s) := by
  cases n with
  | zero => rw [stmtsF] at h; cases h
  | succ n => rw [stmts_err he] at h; cases h; rfl
theorem stmtsR_bad {l : List Tok} {n : Nat} {ss : List PStmt} {s : PSt} {r : List PStmt × PSt} (he : s.err ≠ none) (h : stmtsR l n ss s = some r) : r = (ss, s) := by
  cases n with
  | zero => rw [stmtsR] at h; cases h
  | succ n => rw [stmtsR_err he] at h; cases h; rfl
structure EqS (l : List Tok) (n : Nat) : Prop where
  block : ∀ m s e s1 e' s1', blockF l n s = some (e, s1) → blockR l m s = some (e', s1') → RelP e e' s1 s1'
  stmts : ∀ m ss s e s1 e' s1', stmtsF l n ss s = some (e, s1) → stmtsR l m ss s = some (e', s1') → RelP e e' (takeP l [125] s1) s1'
  stmt : ∀ m s e s1 e' s1', stmtF l n s = some (e, s1) → stmtR l m s = some (e', s1') → RelP e e' s1 s1'
  branch : ∀ m kind s e s1 e' s1', branchF l n kind s = some (e, s1) → branchR l m kind s = some (e', s1') → RelP e e' s1 s1'
theorem eq_stmt (l : List Tok) : ∀ n, EqS l n := by
  intro n
  induction n with
  | zero =>
    refine ⟨?_, ?_, ?_, ?_⟩
    · intro m s e s1 e' s1' h; rw [blockF] at h; cases h
    · intro m ss s e s1 e' s1' h; rw [stmtsF] at h; cases h
    · intro m s e s1 e' s1' h; rw [stmtF] at h; cases h
    · intro m kind s e s1 e' s1' h; rw [branchF] at h; cases h
  | succ n ih =>
    refine ⟨?_, ?_, ?_, ?_⟩
    · intro m s e s1 e' s1' h h'
      rw [blockF] at h
      cases m with
      | zero => rw [blockR] at h'; cases h'
      | succ m =>
        rw [blockR] at h'
        by_cases h1 : isP l s [123] = true
        · rw [if_pos h1] at h h'
          by_cases hne : (nestP s).err.isNone = true
          · rw [if_pos hne] at h h'
            cases hx : stmtsF l n [] (nestP s).step with
            | none => rw [hx] at h; cases h
            | some p =>
              cases hy : stmtsR l m [] (nestP s).step with
              | none => rw [hy] at h'; cases h'
              | some p' =>
                rw [hx] at h
                rw [hy] at h'
                have hr := ih.stmts m [] _ p.1 p.2 p'.1 p'.2 hx hy
                cases h
                cases h'
                exact hr.up
          · rw [if_neg hne] at h h'
            cases h
            cases h'
            exact RelP.refl _ _
        · rw [if_neg h1] at h h'
          cases h
          cases h'
          exact RelP.refl _ _
    · intro m ss s e s1 e' s1' h h'
      cases he : s.err with
      | some z =>
        have k : s.err ≠ none := by rw [he]; simp
        have q1 := stmtsF_err k h
        have q2 := stmtsR_bad k h'
        cases q1
        cases q2
        rw [takeP_err k]
        exact RelP.refl _ _
      | none =>
        have hn : s.err.isNone = true := by rw [he]; rfl
        rw [stmtsF] at h
        cases m with
        | zero => rw [stmtsR] at h'; cases h'
        | succ m =>
          rw [stmtsR, if_pos hn] at h'
          by_cases h1 : isP l s [125] = true
          · rw [if_pos h1] at h'
            rw [hn, h1, if_neg (by decide)] at h
            cases h
            cases h'
            unfold takeP
            rw [if_pos h1]
            exact RelP.refl _ _
          · rw [if_neg h1] at h'
            rw [hn, show isP l s [125] = false by simpa using h1, if_pos (by decide)] at h
            cases hx : stmtF l n s with
            | none => rw [hx] at h; cases h
            | some p =>
              cases hy : stmtR l m s with
              | none => rw [hy] at h'; cases h'
              | some p' =>
                rw [hx] at h
                rw [hy] at h'
                simp only at h h'
                have hr := ih.stmt m _ p.1 p.2 p'.1 p'.2 hx hy
                cases hz : p.2.err with
                | none =>
                  obtain ⟨q1, q2⟩ := hr.same hz
                  rw [← q1, ← q2] at h'
                  exact ih.stmts m _ p.2 e s1 e' s1' h h'
                | some z =>
                  have k1 : p.2.err ≠ none := by rw [hz]; simp
                  have k2 : p'.2.err ≠ none := by rw [← hr.err]; exact k1
                  have q1 := stmtsF_err k1 h
                  have q2 := stmtsR_bad k2 h'
                  cases q1
                  cases q2
                  rw [takeP_err k1]
                  exact ⟨hr.err, fun e => absurd e k1⟩
    · intro m s e s1 e' s1' h h'
      rw [stmtF] at h
      cases m with
      | zero => rw [stmtR] at h'; cases h'
      | succ m =>
        rw [stmtR] at h'
        by_cases h1 : isP l s zIf = true
        · rw [if_pos h1] at h h'; exact ih.branch m _ _ _ _ _ _ h h'
        · rw [if_neg h1] at h h'
          by_cases h2 : isP l s zWhile = true
          · rw [if_pos h2] at h h'; exact ih.branch m _ _ _ _ _ _ h h'
          · rw [if_neg h2] at h h'
            by_cases h3 : isP l s zReturn = true
            · rw [if_pos h3] at h h'; exact eq_tell h h'
            · rw [if_neg h3] at h h'
              by_cases h4 : isP l s zPrint = true
              · rw [if_pos h4] at h h'; exact eq_tell h h'
              · rw [if_neg h4] at h h'
                by_cases h5 : isP l s zVar = true
                · rw [if_pos h5] at h h'; exact eq_assign h h'
                · rw [if_neg h5] at h h'; exact eq_assign h h'
    · intro m kind s e s1 e' s1' h h'
      rw [branchF] at h
      cases m with
      | zero => rw [branchR] at h'; cases h'
      | succ m =>
        rw [branchR] at h'
        cases hx : exprF l n 0 s.step with
        | none => rw [hx] at h; cases h
        | some p =>
          cases hy : exprR l m 0 s.step with
          | none => rw [hy] at h'; cases h'
          | some p' =>
            rw [hx] at h
            rw [hy] at h'
            simp only at h h'
            have hr := (eq_expr l n).expr m 0 _ p.1 p.2 p'.1 p'.2 (by omega) hx hy
            cases hb : blockF l n p.2 with
            | none => rw [hb] at h; cases h
            | some b =>
              cases hb' : blockR l m p'.2 with
              | none => rw [hb'] at h'; cases h'
              | some b' =>
                rw [hb] at h
                rw [hb'] at h'
                simp only at h h'
                have hrb : RelP b.1 b'.1 b.2 b'.2 ∧ (b.2.err = none → p.1 = p'.1) := by
                  cases hz : p.2.err with
                  | none =>
                    obtain ⟨q1, q2⟩ := hr.same hz
                    rw [← q1] at hb'
                    exact ⟨ih.block m _ b.1 b.2 b'.1 b'.2 hb hb', fun _ => q2⟩
                  | some z =>
                    have k1 : p.2.err ≠ none := by rw [hz]; simp
                    have k2 : p'.2.err ≠ none := by rw [← hr.err]; exact k1
                    have q1 := blockF_err k1 hb
                    have q2 := blockR_err k2 hb'
                    rw [q1, q2]
                    exact ⟨⟨hr.err, fun e => absurd e k1⟩, fun e => absurd e k1⟩
                rw [hrb.1.isP l zElse] at h
                by_cases h3 : ((kind == zIf) && isP l b'.2 zElse) = true
                · rw [if_pos h3] at h h'
                  have h4 := (Bool.and_eq_true _ _ ▸ h3 : _ ∧ _).2
                  have he4 := (isP_some h4).1
                  have he5 : b.2.err = none := hrb.1.err.trans he4
                  obtain ⟨q1, q2⟩ := hrb.1.same he5
                  rw [← q1, ← q2] at h'
                  rw [← hrb.2 he5] at h'
                  cases hc : blockF l n b.2.step with
                  | none => rw [hc] at h; cases h
                  | some c =>
                    cases hc' : blockR l m b.2.step with
                    | none => rw [hc'] at h'; cases h'
                    | some c' =>
                      rw [hc] at h
                      rw [hc'] at h'
                      have hr2 := ih.block m _ c.1 c.2 c'.1 c'.2 hc hc'
                      cases h
                      cases h'
                      exact hr2.map fun el => (⟨kind, [], p.1, b.1, el⟩ : PStmt)
                · rw [if_neg h3] at h h'
                  cases h
                  cases h'
                  exact ⟨hrb.1.err, fun e => ⟨(hrb.1.same e).1, by rw [hrb.2 e, (hrb.1.same e).2]⟩⟩
theorem eq_names (l : List Tok) : ∀ (n m : Nat) (ps : List (List UInt8)) (s : PSt) (e s1 e' s1'), s.err = none → namesF l n (ps ++ [(ofP l kName s).1]) (ofP l kName s).2 = some (e, s1) → namesR l m ps s = some (e', s1') → RelP e e' s1 s1' := by
  intro n
  induction n with
  | zero => intro m ps s e s1 e' s1' _ h; rw [namesF] at h; cases h
  | succ n ih =>
    intro m ps s e s1 e' s1' he h h'
    rw [namesF] at h
    cases m with
    | zero => rw [namesR] at h'; cases h'
    | succ m =>
      rw [namesR, if_pos (by rw [he]; rfl)] at h'
      by_cases h1 : isP l (ofP l kName s).2 [44] = true
      · rw [if_pos h1] at h h'
        exact ih m (ps ++ [(ofP l kName s).1]) (ofP l kName s).2.step e s1 e' s1' (isP_some h1).1 h h'
      · rw [if_neg h1] at h h'
        cases h
        cases h'
        exact RelP.refl _ _
theorem eq_params {l : List Tok} {n m : Nat} {s : PSt} {e e' : List (List UInt8)} {s1 s1' : PSt} (h : (if s.err.isNone = true then paramsF l n s else some ([], s)) = some (e, s1)) (h' : paramsR l m s = some (e', s1')) : RelP e e' s1 s1' := by
  unfold paramsR at h'
  by_cases he : s.err.isNone = true
  · rw [if_pos he] at h h'
    unfold paramsF at h
    by_cases h1 : isP l s [41] = true
    · rw [if_pos h1] at h h'
      cases h
      cases h'
      exact RelP.refl _ _
    · rw [if_neg h1] at h h'
      exact eq_names l n m [] s e s1 e' s1' (none_of he) h h'
  · rw [if_neg he] at h h'
    cases h
    cases h'
    exact RelP.refl _ _
theorem eq_fun {l : List Tok} {n m : Nat} {s : PSt} {f f' : PFun} {s1 s1' : PSt} (h : funF l n s = some (f, s1)) (h' : funR l m s = some (f', s1')) : RelP f f' s1 s1' := by
  unfold funF at h
  unfold funR at h'
  cases hx : (if (headP l s).2.err.isNone = true then paramsF l n (headP l s).2 else some ([], (headP l s).2)) with
  | none => rw [hx] at h; cases h
  | some p =>
    cases hy : paramsR l m (headP l s).2 with
    | none => rw [hy] at h'; cases h'
    | some p' =>
      rw [hx] at h
      rw [hy] at h'
      simp only at h h'
      have hr := eq_params (e := p.1) (s1 := p.2) (e' := p'.1) (s1' := p'.2) hx hy
      cases hb : blockF l n p.2 with
      | none => rw [hb] at h; cases h
      | some b =>
        cases hb' : blockR l m p'.2 with
        | none => rw [hb'] at h'; cases h'
        | some b' =>
          rw [hb] at h
          rw [hb'] at h'
          cases h
          cases h'
          cases hz : p.2.err with
          | none =>
            obtain ⟨q1, q2⟩ := hr.same hz
            rw [← q1] at hb'
            rw [← q2]
            exact ((eq_stmt l n).block m _ b.1 b.2 b'.1 b'.2 hb hb').map fun x => (⟨(headP l s).1, p.1, x⟩ : PFun)
          | some z =>
            have k1 : p.2.err ≠ none := by rw [hz]; simp
            have k2 : p'.2.err ≠ none := by rw [← hr.err]; exact k1
            have q1 := blockF_err k1 hb
            have q2 := blockR_err k2 hb'
            rw [q1, q2]
            exact ⟨hr.err, fun e => absurd e k1⟩
theorem parseF_err {l : List Tok} {n : Nat} {fs : List PFun} {s : PSt} {r : List PFun × PSt} (he : s.err ≠ none) (h : parseF l n fs s = some r) : r = (fs, s) := by
  cases n with
  | zero => rw [parseF] at h; cases h
  | succ n => rw [parseF, if_neg (fun e => by simp only [Bool.and_eq_true] at e; exact he (none_of e.1))] at h; cases h; rfl
theorem parseR_err {l : List Tok} {n : Nat} {fs : List PFun} {s : PSt} {r : List PFun × PSt} (he : s.err ≠ none) (h : parseR l n fs s = some r) : r = (fs, s) := by
  cases n with
  | zero => rw [parseR] at h; cases h
  | succ n => rw [parseR, if_neg (fun e => by simp only [Bool.and_eq_true] at e; exact he (none_of e.1))] at h; cases h; rfl
theorem eq_parse (l : List Tok) : ∀ (n m : Nat) (fs : List PFun) (s : PSt) (e s1 e' s1'), parseF l n fs s = some (e, s1) → parseR l m fs s = some (e', s1') → RelP e e' s1 s1' := by
  intro n
  induction n with
  | zero => intro m fs s e s1 e' s1' h; rw [parseF] at h; cases h
  | succ n ih =>
    intro m fs s e s1 e' s1' h h'
    rw [parseF] at h
    cases m with
    | zero => rw [parseR] at h'; cases h'
    | succ m =>
      rw [parseR] at h'
      by_cases h1 : (s.err.isNone && decide (s.pos < l.length)) = true
      · rw [if_pos h1] at h h'
        cases hx : funF l n s with
        | none => rw [hx] at h; cases h
        | some p =>
          cases hy : funR l m s with
          | none => rw [hy] at h'; cases h'
          | some p' =>
            rw [hx] at h
            rw [hy] at h'
            simp only at h h'
            have hr := eq_fun (f := p.1) (s1 := p.2) (f' := p'.1) (s1' := p'.2) hx hy
            cases hz : p.2.err with
            | none =>
              obtain ⟨q1, q2⟩ := hr.same hz
              rw [← q1, ← q2] at h'
              exact ih m _ _ e s1 e' s1' h h'
            | some z =>
              have k1 : p.2.err ≠ none := by rw [hz]; simp
              have k2 : p'.2.err ≠ none := by rw [← hr.err]; exact k1
              have q1 := parseF_err k1 h
              have q2 := parseR_err k2 h'
              cases q1
              cases q2
              exact ⟨hr.err, fun e => absurd e k1⟩
      · rw [if_neg h1] at h h'
        cases h
        cases h'
        exact RelP.refl _ _
/-! the reference's program ends -/
theorem tot_namesR (l : List Tok) : ∀ n ps s, s.pos ≤ l.length → l.length - s.pos + 1 ≤ n → ∃ e s', namesR l n ps s = some (e, s') ∧ Went l s s' := by
  intro n
  induction n with
  | zero => intro ps s _ h; omega
  | succ n ih =>
    intro ps s hp hn
    rw [namesR]
    by_cases he : s.err.isNone = true
    · rw [if_pos he]
      have hw := ofP_went (l := l) (x := kName) hp
      have := went_len hw
      by_cases h1 : isP l (ofP l kName s).2 [44] = true
      · rw [if_pos h1]
        obtain ⟨he3, t, -, -, hp3, -⟩ := isP_some h1
        have hs := step_len hp3
        obtain ⟨e2, s2, h3, a2⟩ := ih (ps ++ [(ofP l kName s).1]) (ofP l kName s).2.step hs.1 (by omega)
        exact ⟨_, _, h3, hw.trans ((went_step hp3 he3).trans a2)⟩
      · rw [if_neg h1]
        exact ⟨_, _, rfl, hw.trans (takeP_went hw.hi)⟩
    · rw [if_neg he]
      exact ⟨_, _, rfl, Went.refl hp⟩
theorem tot_funR {l : List Tok} {n : Nat} {s : PSt} (hp : s.pos ≤ l.length) (hn : 40 * (l.length - s.pos) + 6 ≤ n) : ∃ f s', funR l n s = some (f, s') ∧ Adv l s s' := by
  have hh := headP_went (l := l) hp
  have hps : ∃ ps s1, paramsR l n (headP l s).2 = some (ps, s1) ∧ Went l (headP l s).2 s1 := by
    unfold paramsR
    by_cases he : (headP l s).2.err.isNone = true
    · rw [if_pos he]
      by_cases h1 : isP l (headP l s).2 [41] = true
      · rw [if_pos h1]
        obtain ⟨he3, t, -, -, hp3, -⟩ := isP_some h1
        exact ⟨_, _, rfl, went_step hp3 he3⟩
      · rw [if_neg h1]
        have := went_len hh.w
        obtain ⟨e2, s2, h3, a2⟩ := tot_namesR l n [] (headP l s).2 hh.w.hi (by omega)
        exact ⟨_, _, h3, a2⟩
    · rw [if_neg he]
      exact ⟨_, _, rfl, Went.refl hh.w.hi⟩
  obtain ⟨ps, s1, h1, a1⟩ := hps
  unfold funR
  rw [h1]
  simp only
  have := went_len a1
  have := went_len hh.w
  obtain ⟨b, s2, h2, a2⟩ := (tot_stmtR l n).block s1 a1.hi (by omega)
  rw [h2]
  exact ⟨_, _, rfl, hh.then (a1.trans a2.w)⟩
theorem tot_parseR (l : List Tok) : ∀ n fs s, s.pos ≤ l.length → 40 * (l.length - s.pos) + 10 ≤ n → ∃ e s', parseR l n fs s = some (e, s') := by
  intro n
  induction n with
  | zero => intro fs s _ h; omega
  | succ n ih =>
    intro fs s hp hn
    rw [parseR]
    by_cases h1 : (s.err.isNone && decide (s.pos < l.length)) = true
    · rw [if_pos h1]
      have h0 := h1
      simp only [Bool.and_eq_true, decide_eq_true_eq] at h0
      obtain ⟨f, s1, h2, a1⟩ := tot_funR (l := l) (n := n) hp (by omega)
      rw [h2]
      simp only
      cases he1 : s1.err with
      | some z =>
        obtain ⟨n, rfl⟩ : ∃ k, n = k + 1 := ⟨n - 1, by omega⟩
        refine ⟨fs ++ [f], s1, ?_⟩
        rw [parseR, if_neg]
        intro h
        simp only [Bool.and_eq_true] at h
        have := none_of h.1
        rw [he1] at this; cases this
      | none =>
        have hlt := a1.adv he1
        have := a1.w.hi
        exact ih (fs ++ [f]) s1 a1.w.hi (by omega)
    · rw [if_neg h1]
      exact ⟨_, _, rfl⟩
def parseQ (l : List Tok) : List PFun × PSt := (parseR l (40 * l.length + 10) [] s0P).getD ([], s0P)
theorem parseQ_eq (l : List Tok) : parseR l (40 * l.length + 10) [] s0P = some (parseQ l) := by
  obtain ⟨e, s, h⟩ := tot_parseR l (40 * l.length + 10) [] s0P (Nat.zero_le _) (by show 40 * (l.length - 0) + 10 ≤ _; omega)
  unfold parseQ
  rw [h]; rfl
theorem parse_same (l : List Tok) : RelP (parseP l).1 (parseQ l).1 (parseP l).2 (parseQ l).2 := eq_parse l _ _ _ _ _ _ _ _ (parseP_eq l) (parseQ_eq l)
end Go.Proofs.YtpfgimohginbdaaDoor

namespace Go.Proofs.YtpfgimohginbdaaDoor
open Go.RowKit

/-! parsing hangs only on the tokens that it goes over, and on the next one -/
def PSt.dn (a : Nat) (s : PSt) : PSt := { s with pos := s.pos - a }
structure Ag (l l2 : List Tok) (a m : Nat) : Prop where
  at_ : ∀ k, a ≤ k → k < m → l[k]? = l2[k - a]?
section
variable {l l2 : List Tok} {a m : Nat} {s s' : PSt}
theorem isP_dn (A : Ag l l2 a m) (ha : a ≤ s.pos) (hm : s.pos < m) (x : List UInt8) : isP l2 (s.dn a) x = isP l s x := by
  unfold isP
  rw [A.at_ s.pos ha hm]; rfl
theorem ofB_dn (A : Ag l l2 a m) (ha : a ≤ s.pos) (hm : s.pos < m) (x : List UInt8) : ofB l2 x (s.dn a) = ofB l x s := by
  unfold ofB
  rw [A.at_ s.pos ha hm]; rfl
theorem txtP_dn (A : Ag l l2 a m) (ha : a ≤ s.pos) (hm : s.pos < m) : txtP l2 (s.dn a) = txtP l s := by
  unfold txtP
  rw [A.at_ s.pos ha hm]; rfl
theorem levR_dn (A : Ag l l2 a m) (ha : a ≤ s.pos) (hm : s.pos < m) : levR l2 (s.dn a) = levR l s := by
  unfold levR
  rw [A.at_ s.pos ha hm]; rfl
theorem step_dn (ha : a ≤ s.pos) : (s.dn a).step = s.step.dn a := by
  unfold PSt.dn PSt.step
  simp only
  rw [show s.pos - a + 1 = s.pos + 1 - a by omega]
theorem ofP_dn (A : Ag l l2 a m) (ha : a ≤ s.pos) (hm : s.pos < m) {x : List UInt8} (he : (ofP l x s).2.err = none) : ofP l2 x (s.dn a) = ((ofP l x s).1, (ofP l x s).2.dn a) := by
  obtain ⟨h1, h2⟩ := ofP_next he
  rw [h2]
  unfold ofP
  rw [ofB_dn A ha hm, if_pos h1, txtP_dn A ha hm, step_dn ha]
theorem takeP_dn (A : Ag l l2 a m) (ha : a ≤ s.pos) (hm : s.pos < m) {x : List UInt8} (he : (takeP l x s).err = none) : takeP l2 x (s.dn a) = (takeP l x s).dn a := by
  obtain ⟨h1, h2⟩ := takeP_next he
  rw [h2]
  unfold takeP
  rw [isP_dn A ha hm, if_pos h1, step_dn ha]
theorem nest_dn (he : (nestP s).err = none) : nestP (s.dn a) = (nestP s).dn a := by
  obtain ⟨h1, h2, h3⟩ := nestP_ok he
  rw [h3]
  unfold nestP
  rw [if_neg (by show ¬ 12 < s.deep + 1; omega)]
  rfl
theorem nest_dn_none (hn : (nestP s).err.isNone = true) : (nestP (s.dn a)).err.isNone = true := by
  rw [nest_dn (none_of hn)]; exact hn
end
structure SimE (l l2 : List Tok) (a m n : Nat) : Prop where
  expr : ∀ lv s e s', s.pos ≤ l.length → a ≤ s.pos → exprR l n lv s = some (e, s') → s'.err = none → s'.pos < m → exprR l2 n lv (s.dn a) = some (e, s'.dn a)
  loop : ∀ lv b s e s', s.pos ≤ l.length → a ≤ s.pos → loopR l n lv b s = some (e, s') → s'.err = none → s'.pos < m → loopR l2 n lv b (s.dn a) = some (e, s'.dn a)
  ahead : ∀ s e s', s.pos ≤ l.length → a ≤ s.pos → aheadR l n s = some (e, s') → s'.err = none → s'.pos < m → aheadR l2 n (s.dn a) = some (e, s'.dn a)
  args : ∀ s e s', s.pos ≤ l.length → a ≤ s.pos → argsR l n s = some (e, s') → s'.err = none → s'.pos < m → argsR l2 n (s.dn a) = some (e, s'.dn a)
  argl : ∀ ks s e s', s.pos ≤ l.length → a ≤ s.pos → argsL l n ks s = some (e, s') → s'.err = none → s'.pos < m → argsL l2 n ks (s.dn a) = some (e, s'.dn a)
theorem sim_expr {l l2 : List Tok} {a m : Nat} (A : Ag l l2 a m) : ∀ n, SimE l l2 a m n := by
  intro n
  induction n with
  | zero =>
    refine ⟨?_, ?_, ?_, ?_, ?_⟩
    · intro lv s e s' _ _ h; rw [exprR] at h; cases h
    · intro lv b s e s' _ _ h; rw [loopR] at h; cases h
    · intro s e s' _ _ h; rw [aheadR] at h; cases h
    · intro s e s' _ _ h; rw [argsR] at h; cases h
    · intro ks s e s' _ _ h; rw [argsL] at h; cases h
  | succ n ih =>
    have W := went_exprR l n
    have W1 := went_exprR l (n + 1)
    refine ⟨?_, ?_, ?_, ?_, ?_⟩
    · intro lv s e s' hp ha h he hm
      rw [exprR] at h ⊢
      cases hx : aheadR l n s with
      | none => rw [hx] at h; cases h
      | some p =>
        obtain ⟨e1, s1⟩ := p
        rw [hx] at h
        have w1 := W.ahead s e1 s1 hp hx
        have w2 := W.loop lv e1 s1 e s' w1.hi h
        have h1 := w1.lo
        have h2 := w2.lo
        rw [ih.ahead s e1 s1 hp ha hx (w2.ok he).2 (by omega)]
        exact ih.loop lv e1 s1 e s' w1.hi (by omega) h he hm
    · intro lv b s e s' hp ha h he hm
      have w0 := W1.loop lv b s e s' hp h
      have h0 := w0.lo
      rw [loopR] at h ⊢
      rw [levR_dn A ha (by omega), txtP_dn A ha (by omega)]
      by_cases ho : leB lv (levR l s) = true
      · rw [if_pos ho] at h ⊢
        obtain ⟨-, -, -, -, -, -, -, -, hlt⟩ := lev_some ho
        rw [step_dn ha]
        cases hx : exprR l n ((levR l s).getD 0 + 1) s.step with
        | none => rw [hx] at h; cases h
        | some p =>
          obtain ⟨e1, s1⟩ := p
          rw [hx] at h
          have hs : s.step.pos ≤ l.length := hlt
          have hs2 : s.step.pos = s.pos + 1 := rfl
          have w1 := W.expr _ _ e1 s1 hs hx
          have w2 := W.loop lv _ s1 e s' w1.hi h
          have h1 := w1.lo
          have h2 := w2.lo
          rw [ih.expr _ _ e1 s1 hs (by omega) hx (w2.ok he).2 (by omega)]
          exact ih.loop lv _ s1 e s' w1.hi (by omega) h he hm
      · rw [if_neg ho] at h ⊢
        cases h; rfl
    · intro s e s' hp ha h he hm
      have w0 := W1.ahead s e s' hp h
      have h0 := w0.lo
      have hsm : s.pos < m := by omega
      rw [aheadR] at h ⊢
      rw [isP_dn A ha hsm, isP_dn A ha hsm, isP_dn A ha hsm, ofB_dn A ha hsm, txtP_dn A ha hsm]
      by_cases ho : isP l s [45] = true ∨ isP l s [33] = true
      · rw [if_pos ho] at h ⊢
        have hlt : s.pos < l.length := by
          rcases ho with ho | ho
          · obtain ⟨-, t, -, -, hp, -⟩ := isP_some ho; exact hp
          · obtain ⟨-, t, -, -, hp, -⟩ := isP_some ho; exact hp
        have hpn := (nestP_pos s).1
        by_cases hn : (nestP s).err.isNone = true
        · rw [if_pos hn] at h
          rw [if_pos (nest_dn_none hn), nest_dn (none_of hn), step_dn (by rw [hpn]; exact ha)]
          have hs := nest_len hlt
          cases hx : aheadR l n (nestP s).step with
          | none => rw [hx] at h; cases h
          | some p =>
            obtain ⟨e1, s1⟩ := p
            rw [hx] at h
            cases h
            have hs2 : (nestP s).step.pos = s.pos + 1 := by show (nestP s).pos + 1 = _; rw [hpn]
            rw [ih.ahead _ e1 s1 hs.1 (by omega) hx he hm]
            rfl
        · rw [if_neg hn] at h
          cases h
          exact absurd he (some_of hn)
      · rw [if_neg ho] at h ⊢
        by_cases h1 : isP l s [40] = true
        · rw [if_pos h1] at h ⊢
          obtain ⟨-, t, -, -, hlt, -⟩ := isP_some h1
          have hpn := (nestP_pos s).1
          by_cases hn : (nestP s).err.isNone = true
          · rw [if_pos hn] at h
            rw [if_pos (nest_dn_none hn), nest_dn (none_of hn), step_dn (by rw [hpn]; exact ha)]
            have hs := nest_len hlt
            cases hx : exprR l n 0 (nestP s).step with
            | none => rw [hx] at h; cases h
            | some p =>
              obtain ⟨e1, s1⟩ := p
              rw [hx] at h
              cases h
              have hs2 : (nestP s).step.pos = s.pos + 1 := by show (nestP s).pos + 1 = _; rw [hpn]
              have w1 := W.expr 0 _ _ s1 hs.1 hx
              have w2 := takeP_went (l := l) (x := [41]) w1.hi
              have he2 : (takeP l [41] s1).err = none := he
              have hm2 : (takeP l [41] s1).pos < m := hm
              have h2 := w1.lo
              have h3 := w2.lo
              rw [ih.expr 0 _ _ s1 hs.1 (by omega) hx (w2.ok he2).2 (by omega)]
              simp only
              rw [takeP_dn A (by omega) (by omega) he2]
              rfl
          · rw [if_neg hn] at h
            cases h
            exact absurd he (some_of hn)
        · rw [if_neg h1] at h ⊢
          by_cases h2 : ofB l kNumber s = true
          · rw [if_pos h2] at h ⊢
            cases h
            rw [step_dn ha]
          · rw [if_neg h2] at h ⊢
            have wo := ofP_went (x := kName) hp
            have hq : (ofP l kName s).2.err = none ∧ (ofP l kName s).2.pos ≤ s'.pos := by
              by_cases h3 : isP l (ofP l kName s).2 [40] = true
              · obtain ⟨he3, t, -, -, hp3, -⟩ := isP_some h3
                rw [if_pos h3] at h
                refine ⟨he3, ?_⟩
                by_cases hn : (nestP (ofP l kName s).2).err.isNone = true
                · rw [if_pos hn] at h
                  cases hx : argsR l n (nestP (ofP l kName s).2).step with
                  | none => rw [hx] at h; cases h
                  | some p =>
                    rw [hx] at h
                    have w3 := W.args _ _ _ (nest_len hp3).1 hx
                    have h4 := w3.lo
                    have h5 : (nestP (ofP l kName s).2).step.pos = (ofP l kName s).2.pos + 1 := by show (nestP _).pos + 1 = _; rw [(nestP_pos _).1]
                    cases h
                    show _ ≤ p.2.pos
                    omega
                · rw [if_neg hn] at h
                  cases h
                  exact absurd he (some_of hn)
              · rw [if_neg h3] at h
                cases h
                exact ⟨he, Nat.le_refl _⟩
            have h6 := wo.lo
            rw [ofP_dn A ha hsm hq.1]
            simp only
            rw [isP_dn A (by omega) (by omega)]
            by_cases h3 : isP l (ofP l kName s).2 [40] = true
            · rw [if_pos h3] at h ⊢
              obtain ⟨he3, t, -, -, hp3, -⟩ := isP_some h3
              have hpn := (nestP_pos (ofP l kName s).2).1
              by_cases hn : (nestP (ofP l kName s).2).err.isNone = true
              · rw [if_pos hn] at h
                rw [if_pos (nest_dn_none hn), nest_dn (none_of hn), step_dn (by rw [hpn]; omega)]
                cases hx : argsR l n (nestP (ofP l kName s).2).step with
                | none => rw [hx] at h; cases h
                | some p =>
                  obtain ⟨e1, s1⟩ := p
                  rw [hx] at h
                  cases h
                  have hs2 : (nestP (ofP l kName s).2).step.pos = (ofP l kName s).2.pos + 1 := by show (nestP _).pos + 1 = _; rw [hpn]
                  rw [ih.args _ e1 s1 (nest_len hp3).1 (by omega) hx he hm]
                  rfl
              · rw [if_neg hn] at h
                cases h
                exact absurd he (some_of hn)
            · rw [if_neg h3] at h ⊢
              cases h; rfl
    · intro s e s' hp ha h he hm
      have w0 := W1.args s e s' hp h
      have h0 := w0.lo
      rw [argsR] at h ⊢
      rw [isP_dn A ha (by omega)]
      by_cases h1 : isP l s [41] = true
      · rw [if_pos h1] at h ⊢
        cases h
        rw [step_dn ha]
      · rw [if_neg h1] at h ⊢
        exact ih.argl [] s e s' hp ha h he hm
    · intro ks s e s' hp ha h he hm
      rw [argsL] at h ⊢
      by_cases hse : s.err.isNone = true
      · rw [if_pos hse] at h
        rw [if_pos (show (s.dn a).err.isNone = true from hse)]
        cases hx : exprR l n 0 s with
        | none => rw [hx] at h; cases h
        | some p =>
          obtain ⟨e1, s1⟩ := p
          rw [hx] at h
          simp only at h
          have w1 := W.expr 0 s e1 s1 hp hx
          have h1 := w1.lo
          by_cases h2 : isP l s1 [44] = true
          · rw [if_pos h2] at h
            obtain ⟨he2, t, -, -, hp2, -⟩ := isP_some h2
            have w2 := W.argl _ _ _ _ (show s1.step.pos ≤ l.length from hp2) h
            have h3 := w2.lo
            have h4 : s1.step.pos = s1.pos + 1 := rfl
            rw [ih.expr 0 s e1 s1 hp ha hx he2 (by omega)]
            simp only
            rw [isP_dn A (by omega) (by omega), if_pos h2, step_dn (by omega)]
            exact ih.argl _ _ e s' hp2 (by omega) h he hm
          · rw [if_neg h2] at h
            cases h
            have w2 := takeP_went (l := l) (x := [41]) w1.hi
            have h3 := w2.lo
            rw [ih.expr 0 s e1 s1 hp ha hx (w2.ok he).2 (by omega)]
            simp only
            rw [isP_dn A (by omega) (by omega), if_neg h2, takeP_dn A (by omega) (by omega) he]
      · rw [if_neg hse] at h
        cases h
        exact absurd (by rw [he]; rfl) hse
theorem sim_assign {l l2 : List Tok} {a m n : Nat} (A : Ag l l2 a m) {kind : List UInt8} {s s' : PSt} {x : PStmt} (hp : s.pos ≤ l.length) (ha : a ≤ s.pos) (h : assignR l n kind s = some (x, s')) (he : s'.err = none) (hm : s'.pos < m) : assignR l2 n kind (s.dn a) = some (x, s'.dn a) := by
  unfold assignR at h ⊢
  have w1 := ofP_went (x := kName) hp
  have w2 := takeP_went (l := l) (x := [61]) w1.hi
  cases hx : exprR l n 0 (takeP l [61] (ofP l kName s).2) with
  | none => rw [hx] at h; cases h
  | some p =>
    obtain ⟨e1, s1⟩ := p
    rw [hx] at h
    cases h
    have w3 := (went_exprR l n).expr 0 _ e1 s1 w2.hi hx
    have w4 := takeP_went (l := l) (x := [59]) w3.hi
    have e3 := (w4.ok he).2
    have e2 := (w3.ok e3).2
    have e1' := (w2.ok e2).2
    have h1 := w1.lo
    have h2 := w2.lo
    have h3 := w3.lo
    have h4 := w4.lo
    rw [ofP_dn A ha (by omega) e1']
    simp only
    rw [takeP_dn A (by omega) (by omega) e2, (sim_expr A n).expr 0 _ e1 s1 w2.hi (by omega) hx e3 (by omega)]
    simp only
    rw [takeP_dn A (by omega) (by omega) he]
theorem sim_tell {l l2 : List Tok} {a m n : Nat} (A : Ag l l2 a m) {kind : List UInt8} {s s' : PSt} {x : PStmt} (hp : s.pos < l.length) (ha : a ≤ s.pos) (h : tellR l n kind s = some (x, s')) (he : s'.err = none) (hm : s'.pos < m) : tellR l2 n kind (s.dn a) = some (x, s'.dn a) := by
  unfold tellR at h ⊢
  cases hx : exprR l n 0 s.step with
  | none => rw [hx] at h; cases h
  | some p =>
    obtain ⟨e1, s1⟩ := p
    rw [hx] at h
    cases h
    have hs := step_len hp
    have w3 := (went_exprR l n).expr 0 _ e1 s1 hs.1 hx
    have w4 := takeP_went (l := l) (x := [59]) w3.hi
    have e3 := (w4.ok he).2
    have h0 : s.step.pos = s.pos + 1 := rfl
    have h3 := w3.lo
    have h4 := w4.lo
    rw [step_dn ha, (sim_expr A n).expr 0 _ e1 s1 hs.1 (by omega) hx e3 (by omega)]
    simp only
    rw [takeP_dn A (by omega) (by omega) he]
/-- Statements that end well have gone on, by a brace at least. -/
theorem stmts_on {l : List Tok} : ∀ n ss s e s', s.pos ≤ l.length → stmtsR l n ss s = some (e, s') → s'.err = none → s.pos < s'.pos
  | 0, ss, s, e, s', _, h, _ => by rw [stmtsR] at h; cases h
  | n + 1, ss, s, e, s', hp, h, he => by
    rw [stmtsR] at h
    by_cases hse : s.err.isNone = true
    · rw [if_pos hse] at h
      by_cases h1 : isP l s [125] = true
      · rw [if_pos h1] at h
        cases h
        show s.pos < s.pos + 1
        omega
      · rw [if_neg h1] at h
        cases hx : stmtR l n s with
        | none => rw [hx] at h; cases h
        | some p =>
          obtain ⟨x, s1⟩ := p
          rw [hx] at h
          have a1 := (adv_stmtR l n).stmt s x s1 hp (none_of hse) hx
          have := stmts_on n _ s1 e s' a1.w.hi h he
          have := a1.w.lo
          omega
    · rw [if_neg hse] at h
      cases h
      exact absurd (by rw [he]; rfl) hse
structure SimS (l l2 : List Tok) (a m n : Nat) : Prop where
  block : ∀ s e s', s.pos ≤ l.length → a ≤ s.pos → blockR l n s = some (e, s') → s'.err = none → s'.pos ≤ m → blockR l2 n (s.dn a) = some (e, s'.dn a)
  stmts : ∀ ss s e s', s.pos ≤ l.length → a ≤ s.pos → stmtsR l n ss s = some (e, s') → s'.err = none → s'.pos ≤ m → stmtsR l2 n ss (s.dn a) = some (e, s'.dn a)
  stmt : ∀ s e s', s.pos ≤ l.length → s.err = none → a ≤ s.pos → stmtR l n s = some (e, s') → s'.err = none → s'.pos < m → stmtR l2 n (s.dn a) = some (e, s'.dn a)
  branch : ∀ k s e s', s.pos < l.length → s.err = none → a ≤ s.pos → branchR l n k s = some (e, s') → s'.err = none → s'.pos < m → branchR l2 n k (s.dn a) = some (e, s'.dn a)
theorem sim_stmt {l l2 : List Tok} {a m : Nat} (A : Ag l l2 a m) : ∀ n, SimS l l2 a m n := by
  intro n
  induction n with
  | zero =>
    refine ⟨?_, ?_, ?_, ?_⟩
    · intro s e s' _ _ h; rw [blockR] at h; cases h
    · intro ss s e s' _ _ h; rw [stmtsR] at h; cases h
    · intro s e s' _ _ _ h; rw [stmtR] at h; cases h
    · intro k s e s' _ _ _ h; rw [branchR] at h; cases h
  | succ n ih =>
    have W := adv_stmtR l n
    refine ⟨?_, ?_, ?_, ?_⟩
    · intro s e s' hp ha h he hm
      rw [blockR] at h ⊢
      by_cases h1 : isP l s [123] = true
      · rw [if_pos h1] at h
        obtain ⟨-, t, -, -, hlt, -⟩ := isP_some h1
        have hpn := (nestP_pos s).1
        by_cases hn : (nestP s).err.isNone = true
        · rw [if_pos hn] at h
          have hs := nest_len hlt
          cases hx : stmtsR l n [] (nestP s).step with
          | none => rw [hx] at h; cases h
          | some p =>
            obtain ⟨e1, s1⟩ := p
            rw [hx] at h
            cases h
            have hs2 : (nestP s).step.pos = s.pos + 1 := by show (nestP s).pos + 1 = _; rw [hpn]
            have w1 := W.stmts [] _ _ _ hs.1 hx
            have h2 := w1.lo
            have hm2 : s1.pos ≤ m := hm
            rw [isP_dn A ha (by omega), if_pos h1, if_pos (nest_dn_none hn), nest_dn (none_of hn), step_dn (by rw [hpn]; exact ha)]
            rw [ih.stmts [] _ _ s1 hs.1 (by omega) hx he hm]
            rfl
        · rw [if_neg hn] at h
          cases h
          exact absurd he (some_of hn)
      · rw [if_neg h1] at h
        cases h
        exact absurd he failP_err
    · intro ss s e s' hp ha h he hm
      have hon := stmts_on (n + 1) ss s e s' hp h he
      rw [stmtsR] at h ⊢
      by_cases hse : s.err.isNone = true
      · rw [if_pos hse] at h
        rw [if_pos (show (s.dn a).err.isNone = true from hse), isP_dn A ha (by omega)]
        by_cases h1 : isP l s [125] = true
        · rw [if_pos h1] at h ⊢
          cases h
          rw [step_dn ha]
        · rw [if_neg h1] at h ⊢
          cases hx : stmtR l n s with
          | none => rw [hx] at h; cases h
          | some p =>
            obtain ⟨x, s1⟩ := p
            rw [hx] at h
            have a1 := W.stmt s x s1 hp (none_of hse) hx
            have w2 := W.stmts _ s1 e s' a1.w.hi h
            have hon2 := stmts_on n _ s1 e s' a1.w.hi h he
            have h2 := a1.w.lo
            rw [ih.stmt s x s1 hp (none_of hse) ha hx (w2.ok he).2 (by omega)]
            exact ih.stmts _ s1 e s' a1.w.hi (by omega) h he hm
      · rw [if_neg hse] at h
        cases h
        exact absurd (by rw [he]; rfl) hse
    · intro s e s' hp hse ha h he hm
      have w0 := ((adv_stmtR l (n + 1)).stmt s e s' hp hse h).w.lo
      have hsm : s.pos < m := by omega
      rw [stmtR] at h ⊢
      rw [isP_dn A ha hsm, isP_dn A ha hsm, isP_dn A ha hsm, isP_dn A ha hsm, isP_dn A ha hsm]
      by_cases h1 : isP l s zIf = true
      · rw [if_pos h1] at h ⊢
        obtain ⟨-, t, -, -, hlt, -⟩ := isP_some h1
        exact ih.branch _ s e s' hlt hse ha h he hm
      · rw [if_neg h1] at h ⊢
        by_cases h2 : isP l s zWhile = true
        · rw [if_pos h2] at h ⊢
          obtain ⟨-, t, -, -, hlt, -⟩ := isP_some h2
          exact ih.branch _ s e s' hlt hse ha h he hm
        · rw [if_neg h2] at h ⊢
          by_cases h3 : isP l s zReturn = true
          · rw [if_pos h3] at h ⊢
            obtain ⟨-, t, -, -, hlt, -⟩ := isP_some h3
            exact sim_tell A hlt ha h he hm
          · rw [if_neg h3] at h ⊢
            by_cases h4 : isP l s zPrint = true
            · rw [if_pos h4] at h ⊢
              obtain ⟨-, t, -, -, hlt, -⟩ := isP_some h4
              exact sim_tell A hlt ha h he hm
            · rw [if_neg h4] at h ⊢
              by_cases h5 : isP l s zVar = true
              · rw [if_pos h5] at h ⊢
                obtain ⟨-, t, -, -, hlt, -⟩ := isP_some h5
                rw [step_dn ha]
                exact sim_assign (s := s.step) A hlt (by show a ≤ s.pos + 1; omega) h he hm
              · rw [if_neg h5] at h ⊢
                exact sim_assign A hp ha h he hm
    · intro k s e s' hp hse ha h he hm
      rw [branchR] at h ⊢
      have hs := step_len hp
      have h0 : s.step.pos = s.pos + 1 := rfl
      rw [step_dn ha]
      cases hx : exprR l n 0 s.step with
      | none => rw [hx] at h; cases h
      | some p =>
        obtain ⟨e1, s1⟩ := p
        rw [hx] at h
        simp only at h
        have w1 := (went_exprR l n).expr 0 _ e1 s1 hs.1 hx
        have q1 := w1.lo
        cases hy : blockR l n s1 with
        | none => rw [hy] at h; cases h
        | some p =>
          obtain ⟨th, s2⟩ := p
          rw [hy] at h
          simp only at h
          have w2 := W.block s1 th s2 w1.hi hy
          have q2 := w2.lo
          by_cases ho : ((k == zIf) && isP l s2 zElse) = true
          · rw [if_pos ho] at h
            have ho2 : isP l s2 zElse = true := (Bool.and_eq_true _ _ ▸ ho : _ ∧ _).2
            obtain ⟨he2, t, -, -, hlt, -⟩ := isP_some ho2
            cases hz : blockR l n s2.step with
            | none => rw [hz] at h; cases h
            | some p =>
              obtain ⟨el, s3⟩ := p
              rw [hz] at h
              cases h
              have w3 := W.block s2.step el _ hlt hz
              have q3 := w3.lo
              have q4 : s2.step.pos = s2.pos + 1 := rfl
              rw [(sim_expr A n).expr 0 _ e1 s1 hs.1 (by omega) hx (w2.ok he2).2 (by omega)]
              simp only
              rw [ih.block s1 th s2 w1.hi (by omega) hy he2 (by omega)]
              simp only
              rw [isP_dn A (by omega) (by omega), if_pos ho, step_dn (by omega), ih.block s2.step el _ hlt (by omega) hz he (by omega)]
          · rw [if_neg ho] at h
            cases h
            rw [(sim_expr A n).expr 0 _ e1 s1 hs.1 (by omega) hx (w2.ok he).2 (by omega)]
            simp only
            rw [ih.block s1 th _ w1.hi (by omega) hy he (by omega)]
            simp only
            rw [isP_dn A (by omega) (by omega), if_neg ho]
theorem sim_names {l l2 : List Tok} {a m : Nat} (A : Ag l l2 a m) : ∀ n ps s e s', s.pos ≤ l.length → a ≤ s.pos → namesR l n ps s = some (e, s') → s'.err = none → s'.pos < m → namesR l2 n ps (s.dn a) = some (e, s'.dn a)
  | 0, ps, s, e, s', _, _, h, _, _ => by rw [namesR] at h; cases h
  | n + 1, ps, s, e, s', hp, ha, h, he, hm => by
    rw [namesR] at h ⊢
    by_cases hse : s.err.isNone = true
    · rw [if_pos hse] at h
      rw [if_pos (show (s.dn a).err.isNone = true from hse)]
      have w1 := ofP_went (x := kName) hp
      have h1 := w1.lo
      by_cases h2 : isP l (ofP l kName s).2 [44] = true
      · rw [if_pos h2] at h
        obtain ⟨he2, t, -, -, hlt, -⟩ := isP_some h2
        have w2 := names_wentR n _ (ofP l kName s).2.step e s' hlt h
        have h3 := w2.lo
        have h4 : (ofP l kName s).2.step.pos = (ofP l kName s).2.pos + 1 := rfl
        rw [ofP_dn A ha (by omega) he2]
        simp only
        rw [isP_dn A (by omega) (by omega), if_pos h2, step_dn (by omega)]
        exact sim_names A n _ _ e s' hlt (by omega) h he hm
      · rw [if_neg h2] at h
        cases h
        have w2 := takeP_went (l := l) (x := [41]) w1.hi
        have h3 := w2.lo
        rw [ofP_dn A ha (by omega) (w2.ok he).2]
        simp only
        rw [isP_dn A (by omega) (by omega), if_neg h2, takeP_dn A (by omega) (by omega) he]
    · rw [if_neg hse] at h
      cases h
      exact absurd (by rw [he]; rfl) hse
theorem blk_on {l : List Tok} {n : Nat} {s s' : PSt} {e : List PStmt} (hp : s.pos ≤ l.length) (h : blockR l n s = some (e, s')) (he : s'.err = none) : s.pos < s'.pos ∧ isP l s [123] = true := by
  cases n with
  | zero => rw [blockR] at h; cases h
  | succ n =>
    rw [blockR] at h
    by_cases h1 : isP l s [123] = true
    · rw [if_pos h1] at h
      obtain ⟨-, t, -, -, hlt, -⟩ := isP_some h1
      by_cases hn : (nestP s).err.isNone = true
      · rw [if_pos hn] at h
        cases hx : stmtsR l n [] (nestP s).step with
        | none => rw [hx] at h; cases h
        | some p =>
          rw [hx] at h
          cases h
          have w1 := ((adv_stmtR l n).stmts [] _ _ _ (nest_len hlt).1 hx).lo
          have h2 : (nestP s).step.pos = s.pos + 1 := by show (nestP s).pos + 1 = _; rw [(nestP_pos s).1]
          refine ⟨?_, h1⟩
          show s.pos < p.2.pos
          omega
      · rw [if_neg hn] at h
        cases h
        exact absurd he (some_of hn)
    · rw [if_neg h1] at h
      cases h
      exact absurd he failP_err
theorem sim_fun {l l2 : List Tok} {a m n : Nat} (A : Ag l l2 a m) {s s' : PSt} {f : PFun} (hp : s.pos ≤ l.length) (ha : a ≤ s.pos) (h : funR l n s = some (f, s')) (he : s'.err = none) (hm : s'.pos ≤ m) : funR l2 n (s.dn a) = some (f, s'.dn a) := by
  unfold funR at h ⊢
  have w1 := takeP_went (l := l) (x := zFn) hp
  have w2 := ofP_went (l := l) (x := kName) w1.hi
  have w3 := takeP_went (l := l) (x := [40]) w2.hi
  cases hq : paramsR l n (headP l s).2 with
  | none => rw [hq] at h; cases h
  | some p =>
    obtain ⟨ps, s1⟩ := p
    rw [hq] at h
    simp only at h
    have w4 := params_wentR (show (headP l s).2.pos ≤ l.length from w3.hi) hq
    cases hx : blockR l n s1 with
    | none => rw [hx] at h; cases h
    | some q =>
      obtain ⟨b, s2⟩ := q
      rw [hx] at h
      cases h
      have hon := (blk_on w4.hi hx he).1
      have w5 := (adv_stmtR l n).block s1 b _ w4.hi hx
      have e4 := (w5.ok he).2
      have e3 : (takeP l [40] (ofP l kName (takeP l zFn s)).2).err = none := (w4.ok e4).2
      have e2 := (w3.ok e3).2
      have e1 := (w2.ok e2).2
      have h1 := w1.lo
      have h2 := w2.lo
      have h3 := w3.lo
      have h4 : (takeP l [40] (ofP l kName (takeP l zFn s)).2).pos ≤ s1.pos := w4.lo
      have hh : headP l2 (s.dn a) = ((headP l s).1, (headP l s).2.dn a) := by
        unfold headP
        rw [takeP_dn A ha (by omega) e1, ofP_dn A (by omega) (by omega) e2]
        simp only
        rw [takeP_dn A (by omega) (by omega) e3]
      rw [hh]
      simp only
      have hpr : paramsR l2 n ((headP l s).2.dn a) = some (ps, s1.dn a) := by
        unfold paramsR at hq ⊢
        have hn : (headP l s).2.err.isNone = true := by show (takeP l [40] _).err.isNone = true; rw [e3]; rfl
        rw [if_pos hn] at hq
        rw [if_pos (show ((headP l s).2.dn a).err.isNone = true from hn), isP_dn A (by show a ≤ (takeP l [40] _).pos; omega) (by show (takeP l [40] _).pos < m; omega)]
        by_cases h5 : isP l (headP l s).2 [41] = true
        · rw [if_pos h5] at hq ⊢
          cases hq
          rw [step_dn (by show a ≤ (takeP l [40] _).pos; omega)]
        · rw [if_neg h5] at hq ⊢
          exact sim_names A n [] _ ps s1 w3.hi (by show a ≤ (takeP l [40] _).pos; omega) hq e4 (by omega)
      rw [hpr]
      simp only
      rw [(sim_stmt A n).block s1 b _ w4.hi (by omega) hx he hm]
end Go.Proofs.YtpfgimohginbdaaDoor

namespace Go.Proofs.YtpfgimohginbdaaDoor
open Go.RowKit

/-! braces of what is parsed -/
def txA (l : List Tok) (k : Nat) : List UInt8 := ((l[k]?).map (·.text)).getD []
def brD (x : List UInt8) : Int := if x = [123] then 1 else if x = [125] then -1 else 0
def dptN (l : List Tok) (i : Nat) : Nat → Int
  | 0 => 0
  | n + 1 => dptN l i n + brD (txA l (i + n))
def dpt (l : List Tok) (i j : Nat) : Int := dptN l i (j - i)
theorem dpt_self (l : List Tok) (i : Nat) : dpt l i i = 0 := by unfold dpt; rw [Nat.sub_self]; rfl
theorem dpt_succ {l : List Tok} {i j : Nat} (h : i ≤ j) : dpt l i (j + 1) = dpt l i j + brD (txA l j) := by
  unfold dpt
  rw [show j + 1 - i = (j - i) + 1 by omega]
  show dptN l i (j - i) + brD (txA l (i + (j - i))) = _
  rw [show i + (j - i) = j by omega]
theorem dpt_add {l : List Tok} {i j : Nat} (h : i ≤ j) : ∀ k, j ≤ k → dpt l i k = dpt l i j + dpt l j k := by
  intro k hk
  obtain ⟨n, rfl⟩ : ∃ n, k = j + n := ⟨k - j, by omega⟩
  clear hk
  induction n with
  | zero => rw [Nat.add_zero, dpt_self]; omega
  | succ n ih =>
    rw [← Nat.add_assoc, dpt_succ (by omega), dpt_succ (by omega), ih]
    omega
def NoBr (l : List Tok) (i j : Nat) : Prop := ∀ k, i ≤ k → k < j → txA l k ≠ [123] ∧ txA l k ≠ [125]
section
variable {l : List Tok} {i j k : Nat} {s s' : PSt}
theorem NoBr.nil (l : List Tok) (i : Nat) : NoBr l i i := fun k h1 h2 => by omega
theorem NoBr.trans (h1 : NoBr l i j) (h2 : NoBr l j k) : NoBr l i k := fun n a b => by
  by_cases h : n < j
  · exact h1 n a h
  · exact h2 n (by omega) b
theorem NoBr.dpt (h : NoBr l i j) : ∀ k, i ≤ k → k ≤ j → dpt l i k = 0 := by
  intro k h1 h2
  obtain ⟨n, rfl⟩ : ∃ n, k = i + n := ⟨k - i, by omega⟩
  clear h1
  induction n with
  | zero => exact dpt_self l i
  | succ n ih =>
    rw [← Nat.add_assoc, dpt_succ (by omega), ih (by omega)]
    obtain ⟨a, b⟩ := h (i + n) (by omega) (by omega)
    unfold brD
    rw [if_neg a, if_neg b]; rfl
theorem one_nobr {x : List UInt8} (h : txA l i = x) (h1 : x ≠ [123]) (h2 : x ≠ [125]) : NoBr l i (i + 1) := fun k a b => by
  obtain rfl : k = i := by omega
  rw [h]; exact ⟨h1, h2⟩
theorem isP_txA {x : List UInt8} (h : isP l s x = true) : txA l s.pos = x := by
  obtain ⟨-, t, htk, htx, -, -⟩ := isP_some h
  unfold txA; rw [htk]; exact htx
theorem take_nobr {x : List UInt8} (he : (takeP l x s).err = none) (h1 : x ≠ [123]) (h2 : x ≠ [125]) : NoBr l s.pos (takeP l x s).pos := by
  obtain ⟨a, b⟩ := takeP_next he
  rw [b]
  exact one_nobr (isP_txA a) h1 h2
theorem of_nobr (hT : ∀ t ∈ l, TkO t) (h : ofB l kName s = true ∨ ofB l kNumber s = true) : NoBr l s.pos (s.pos + 1) := by
  rcases h with h | h
  · obtain ⟨-, t, htk, hk, -⟩ := ofB_some h
    have hx : txA l s.pos = t.text := by unfold txA; rw [htk]; rfl
    obtain ⟨a, b⟩ := (hT t (List.mem_of_getElem? htk)).brn hk
    exact one_nobr hx a b
  · obtain ⟨-, t, htk, hk, -⟩ := ofB_some h
    have hx : txA l s.pos = t.text := by unfold txA; rw [htk]; rfl
    obtain ⟨-, -, c⟩ := (hT t (List.mem_of_getElem? htk)).num hk
    refine one_nobr hx ?_ ?_
    · intro e
      have := c 123 (by rw [e]; exact List.mem_cons_self ..)
      revert this; decide
    · intro e
      have := c 125 (by rw [e]; exact List.mem_cons_self ..)
      revert this; decide
theorem ofP_nobr (hT : ∀ t ∈ l, TkO t) (he : (ofP l kName s).2.err = none) : NoBr l s.pos (ofP l kName s).2.pos := by
  obtain ⟨a, b⟩ := ofP_next he
  rw [b]
  exact of_nobr hT (.inl a)
theorem lev_nobr {lv : Nat} (h : leB lv (levR l s) = true) : NoBr l s.pos (s.pos + 1) := by
  obtain ⟨-, t, k, htk, -, hn, -, -, -⟩ := lev_some h
  have hx : txA l s.pos = t.text := by unfold txA; rw [htk]; rfl
  refine one_nobr hx ?_ ?_
  · intro e
    rw [e] at hn
    revert hn
    have : levN [123] = none := by decide
    rw [this]; intro q; cases q
  · intro e
    rw [e] at hn
    revert hn
    have : levN [125] = none := by decide
    rw [this]; intro q; cases q
end
structure NbE (l : List Tok) (n : Nat) : Prop where
  expr : ∀ lv s e s', s.pos ≤ l.length → exprR l n lv s = some (e, s') → s'.err = none → NoBr l s.pos s'.pos
  loop : ∀ lv b s e s', s.pos ≤ l.length → loopR l n lv b s = some (e, s') → s'.err = none → NoBr l s.pos s'.pos
  ahead : ∀ s e s', s.pos ≤ l.length → aheadR l n s = some (e, s') → s'.err = none → NoBr l s.pos s'.pos
  args : ∀ s e s', s.pos ≤ l.length → argsR l n s = some (e, s') → s'.err = none → NoBr l s.pos s'.pos
  argl : ∀ ks s e s', s.pos ≤ l.length → argsL l n ks s = some (e, s') → s'.err = none → NoBr l s.pos s'.pos
theorem nest_step_pos (s : PSt) : (nestP s).step.pos = s.pos + 1 := by show (nestP s).pos + 1 = _; rw [(nestP_pos s).1]
theorem nb_expr {l : List Tok} (hT : ∀ t ∈ l, TkO t) : ∀ n, NbE l n := by
  intro n
  induction n with
  | zero =>
    refine ⟨?_, ?_, ?_, ?_, ?_⟩
    · intro lv s e s' _ h; rw [exprR] at h; cases h
    · intro lv b s e s' _ h; rw [loopR] at h; cases h
    · intro s e s' _ h; rw [aheadR] at h; cases h
    · intro s e s' _ h; rw [argsR] at h; cases h
    · intro ks s e s' _ h; rw [argsL] at h; cases h
  | succ n ih =>
    have W := went_exprR l n
    refine ⟨?_, ?_, ?_, ?_, ?_⟩
    · intro lv s e s' hp h he
      rw [exprR] at h
      cases hx : aheadR l n s with
      | none => rw [hx] at h; cases h
      | some p =>
        obtain ⟨e1, s1⟩ := p
        rw [hx] at h
        have w1 := W.ahead s e1 s1 hp hx
        have w2 := W.loop lv e1 s1 e s' w1.hi h
        exact (ih.ahead s e1 s1 hp hx (w2.ok he).2).trans (ih.loop lv e1 s1 e s' w1.hi h he)
    · intro lv b s e s' hp h he
      rw [loopR] at h
      by_cases ho : leB lv (levR l s) = true
      · rw [if_pos ho] at h
        obtain ⟨-, -, -, -, -, -, -, -, hlt⟩ := lev_some ho
        cases hx : exprR l n ((levR l s).getD 0 + 1) s.step with
        | none => rw [hx] at h; cases h
        | some p =>
          obtain ⟨e1, s1⟩ := p
          rw [hx] at h
          have hs : s.step.pos ≤ l.length := hlt
          have w1 := W.expr _ _ e1 s1 hs hx
          have w2 := W.loop lv _ s1 e s' w1.hi h
          exact ((lev_nobr ho).trans (ih.expr _ _ e1 s1 hs hx (w2.ok he).2)).trans (ih.loop lv _ s1 e s' w1.hi h he)
      · rw [if_neg ho] at h
        cases h; exact NoBr.nil l _
    · intro s e s' hp h he
      rw [aheadR] at h
      by_cases ho : isP l s [45] = true ∨ isP l s [33] = true
      · rw [if_pos ho] at h
        have hq : s.pos < l.length ∧ NoBr l s.pos (s.pos + 1) := by
          rcases ho with ho | ho
          · obtain ⟨-, t, -, -, hp, -⟩ := isP_some ho; exact ⟨hp, one_nobr (isP_txA ho) (by decide) (by decide)⟩
          · obtain ⟨-, t, -, -, hp, -⟩ := isP_some ho; exact ⟨hp, one_nobr (isP_txA ho) (by decide) (by decide)⟩
        by_cases hn : (nestP s).err.isNone = true
        · rw [if_pos hn] at h
          cases hx : aheadR l n (nestP s).step with
          | none => rw [hx] at h; cases h
          | some p =>
            rw [hx] at h
            cases h
            have := ih.ahead _ _ _ (nest_len hq.1).1 hx he
            rw [nest_step_pos] at this
            exact hq.2.trans this
        · rw [if_neg hn] at h
          cases h
          exact absurd he (some_of hn)
      · rw [if_neg ho] at h
        by_cases h1 : isP l s [40] = true
        · rw [if_pos h1] at h
          obtain ⟨-, t, -, -, hlt, -⟩ := isP_some h1
          by_cases hn : (nestP s).err.isNone = true
          · rw [if_pos hn] at h
            cases hx : exprR l n 0 (nestP s).step with
            | none => rw [hx] at h; cases h
            | some p =>
              rw [hx] at h
              cases h
              have w1 := W.expr 0 _ _ _ (nest_len hlt).1 hx
              have w2 := takeP_went (l := l) (x := [41]) w1.hi
              have := ih.expr 0 _ _ _ (nest_len hlt).1 hx (w2.ok he).2
              rw [nest_step_pos] at this
              exact ((one_nobr (isP_txA h1) (by decide) (by decide)).trans this).trans (take_nobr he (by decide) (by decide))
          · rw [if_neg hn] at h
            cases h
            exact absurd he (some_of hn)
        · rw [if_neg h1] at h
          by_cases h2 : ofB l kNumber s = true
          · rw [if_pos h2] at h
            cases h
            exact of_nobr hT (.inr h2)
          · rw [if_neg h2] at h
            by_cases h3 : isP l (ofP l kName s).2 [40] = true
            · rw [if_pos h3] at h
              obtain ⟨he3, t, -, -, hp3, -⟩ := isP_some h3
              by_cases hn : (nestP (ofP l kName s).2).err.isNone = true
              · rw [if_pos hn] at h
                cases hx : argsR l n (nestP (ofP l kName s).2).step with
                | none => rw [hx] at h; cases h
                | some p =>
                  rw [hx] at h
                  cases h
                  have := ih.args _ _ _ (nest_len hp3).1 hx he
                  rw [nest_step_pos] at this
                  exact ((ofP_nobr hT he3).trans (one_nobr (isP_txA h3) (by decide) (by decide))).trans this
              · rw [if_neg hn] at h
                cases h
                exact absurd he (some_of hn)
            · rw [if_neg h3] at h
              cases h
              exact ofP_nobr hT he
    · intro s e s' hp h he
      rw [argsR] at h
      by_cases h1 : isP l s [41] = true
      · rw [if_pos h1] at h
        cases h
        exact one_nobr (isP_txA h1) (by decide) (by decide)
      · rw [if_neg h1] at h
        exact ih.argl [] s e s' hp h he
    · intro ks s e s' hp h he
      rw [argsL] at h
      by_cases hse : s.err.isNone = true
      · rw [if_pos hse] at h
        cases hx : exprR l n 0 s with
        | none => rw [hx] at h; cases h
        | some p =>
          obtain ⟨e1, s1⟩ := p
          rw [hx] at h
          simp only at h
          have w1 := W.expr 0 s e1 s1 hp hx
          by_cases h2 : isP l s1 [44] = true
          · rw [if_pos h2] at h
            obtain ⟨he2, t, -, -, hp2, -⟩ := isP_some h2
            exact ((ih.expr 0 s e1 s1 hp hx he2).trans (one_nobr (isP_txA h2) (by decide) (by decide))).trans (ih.argl _ s1.step e s' hp2 h he)
          · rw [if_neg h2] at h
            cases h
            have w2 := takeP_went (l := l) (x := [41]) w1.hi
            exact (ih.expr 0 s e1 s1 hp hx (w2.ok he).2).trans (take_nobr he (by decide) (by decide))
      · rw [if_neg hse] at h
        cases h
        exact NoBr.nil l _
theorem nb_assign {l : List Tok} (hT : ∀ t ∈ l, TkO t) {n : Nat} {kind : List UInt8} {s s' : PSt} {x : PStmt} (hp : s.pos ≤ l.length) (h : assignR l n kind s = some (x, s')) (he : s'.err = none) : NoBr l s.pos s'.pos := by
  unfold assignR at h
  have w1 := ofP_went (x := kName) hp
  have w2 := takeP_went (l := l) (x := [61]) w1.hi
  cases hx : exprR l n 0 (takeP l [61] (ofP l kName s).2) with
  | none => rw [hx] at h; cases h
  | some p =>
    obtain ⟨e1, s1⟩ := p
    rw [hx] at h
    cases h
    have w3 := (went_exprR l n).expr 0 _ e1 s1 w2.hi hx
    have w4 := takeP_went (l := l) (x := [59]) w3.hi
    have e3 := (w4.ok he).2
    have e2 := (w3.ok e3).2
    have e1' := (w2.ok e2).2
    exact (((ofP_nobr hT e1').trans (take_nobr e2 (by decide) (by decide))).trans ((nb_expr hT n).expr 0 _ e1 s1 w2.hi hx e3)).trans (take_nobr he (by decide) (by decide))
theorem nb_tell {l : List Tok} (hT : ∀ t ∈ l, TkO t) {n : Nat} {kind : List UInt8} {s s' : PSt} {x : PStmt} (hp : s.pos < l.length) (hk : isP l s kind = true) (h1 : kind ≠ [123]) (h2 : kind ≠ [125]) (h : tellR l n kind s = some (x, s')) (he : s'.err = none) : NoBr l s.pos s'.pos := by
  unfold tellR at h
  cases hx : exprR l n 0 s.step with
  | none => rw [hx] at h; cases h
  | some p =>
    obtain ⟨e1, s1⟩ := p
    rw [hx] at h
    cases h
    have hs := step_len hp
    have w3 := (went_exprR l n).expr 0 _ e1 s1 hs.1 hx
    have w4 := takeP_went (l := l) (x := [59]) w3.hi
    exact ((one_nobr (isP_txA hk) h1 h2).trans ((nb_expr hT n).expr 0 _ e1 s1 hs.1 hx (w4.ok he).2)).trans (take_nobr he (by decide) (by decide))
/-- Braces that match. -/
def Bal (l : List Tok) (i j : Nat) : Prop := dpt l i j = 0 ∧ ∀ k, i ≤ k → k ≤ j → 0 ≤ dpt l i k
/-- A block: between its braces it is one deeper at least. -/
structure Blk (l : List Tok) (i j : Nat) : Prop where
  lt : i < j
  out : dpt l i j = 0
  in_ : ∀ k, i < k → k < j → 1 ≤ dpt l i k
  last : txA l (j - 1) = [125]
theorem NoBr.bal {l : List Tok} {i j : Nat} (h : NoBr l i j) (hij : i ≤ j) : Bal l i j := ⟨h.dpt j hij (Nat.le_refl _), fun k a b => by rw [h.dpt k a b]; exact Int.le_refl _⟩
theorem Bal.trans {l : List Tok} {i j k : Nat} (h1 : Bal l i j) (h2 : Bal l j k) (hij : i ≤ j) (hjk : j ≤ k) : Bal l i k := by
  refine ⟨by rw [dpt_add hij k hjk, h1.1, h2.1]; rfl, fun n a b => ?_⟩
  by_cases h : n ≤ j
  · exact h1.2 n a h
  · rw [dpt_add hij n (by omega), h1.1]
    have := h2.2 n (by omega) b
    omega
theorem Blk.bal {l : List Tok} {i j : Nat} (h : Blk l i j) : Bal l i j := ⟨h.out, fun k a b => by
  by_cases e : k = i
  · rw [e, dpt_self]; exact Int.le_refl _
  · by_cases e2 : k = j
    · rw [e2, h.out]; exact Int.le_refl _
    · have := h.in_ k (by omega) (by omega); omega⟩
structure NbS (l : List Tok) (n : Nat) : Prop where
  block : ∀ s e s', s.pos ≤ l.length → blockR l n s = some (e, s') → s'.err = none → Blk l s.pos s'.pos
  stmts : ∀ ss s e s', s.pos ≤ l.length → stmtsR l n ss s = some (e, s') → s'.err = none → dpt l s.pos s'.pos = -1 ∧ (∀ k, s.pos ≤ k → k < s'.pos → 0 ≤ dpt l s.pos k) ∧ txA l (s'.pos - 1) = [125]
  stmt : ∀ s e s', s.pos ≤ l.length → s.err = none → stmtR l n s = some (e, s') → s'.err = none → Bal l s.pos s'.pos
  branch : ∀ k s e s', s.pos < l.length → isP l s k = true → k ≠ [123] → k ≠ [125] → branchR l n k s = some (e, s') → s'.err = none → Bal l s.pos s'.pos
theorem nb_stmt {l : List Tok} (hT : ∀ t ∈ l, TkO t) : ∀ n, NbS l n := by
  intro n
  induction n with
  | zero =>
    refine ⟨?_, ?_, ?_, ?_⟩
    · intro s e s' _ h; rw [blockR] at h; cases h
    · intro ss s e s' _ h; rw [stmtsR] at h; cases h
    · intro s e s' _ _ h; rw [stmtR] at h; cases h
    · intro k s e s' _ _ _ _ h; rw [branchR] at h; cases h
  | succ n ih =>
    have W := adv_stmtR l n
    refine ⟨?_, ?_, ?_, ?_⟩
    · intro s e s' hp h he
      rw [blockR] at h
      by_cases h1 : isP l s [123] = true
      · rw [if_pos h1] at h
        obtain ⟨-, t, -, -, hlt, -⟩ := isP_some h1
        by_cases hn : (nestP s).err.isNone = true
        · rw [if_pos hn] at h
          have hs := nest_len hlt
          cases hx : stmtsR l n [] (nestP s).step with
          | none => rw [hx] at h; cases h
          | some p =>
            obtain ⟨e1, s1⟩ := p
            rw [hx] at h
            cases h
            have hon := stmts_on n [] _ _ s1 hs.1 hx he
            obtain ⟨a, b, c⟩ := ih.stmts [] _ _ s1 hs.1 hx he
            rw [nest_step_pos] at hon a b
            have d1 : dpt l s.pos (s.pos + 1) = 1 := by rw [dpt_succ (Nat.le_refl _), dpt_self, isP_txA h1]; rfl
            refine ⟨by show s.pos < s1.pos; omega, ?_, fun k k1 k2 => ?_, c⟩
            · show dpt l s.pos s1.pos = 0
              rw [dpt_add (show s.pos ≤ s.pos + 1 by omega) s1.pos (by omega), d1, a]; rfl
            · have k2' : k < s1.pos := k2
              rw [dpt_add (show s.pos ≤ s.pos + 1 by omega) k (by omega), d1]
              have := b k (by omega) k2'
              omega
        · rw [if_neg hn] at h
          cases h
          exact absurd he (some_of hn)
      · rw [if_neg h1] at h
        cases h
        exact absurd he failP_err
    · intro ss s e s' hp h he
      rw [stmtsR] at h
      by_cases hse : s.err.isNone = true
      · rw [if_pos hse] at h
        by_cases h1 : isP l s [125] = true
        · rw [if_pos h1] at h
          cases h
          have hx := isP_txA h1
          refine ⟨?_, fun k k1 k2 => ?_, hx⟩
          · show dpt l s.pos (s.pos + 1) = -1
            rw [dpt_succ (Nat.le_refl _), dpt_self, hx]; rfl
          · have k2' : k < s.pos + 1 := k2
            obtain rfl : k = s.pos := by omega
            rw [dpt_self]; exact Int.le_refl _
        · rw [if_neg h1] at h
          cases hx : stmtR l n s with
          | none => rw [hx] at h; cases h
          | some p =>
            obtain ⟨x, s1⟩ := p
            rw [hx] at h
            have a1 := W.stmt s x s1 hp (none_of hse) hx
            have w2 := W.stmts _ s1 e s' a1.w.hi h
            have hon2 := stmts_on n _ s1 e s' a1.w.hi h he
            have h2 := a1.w.lo
            have b1 := ih.stmt s x s1 hp (none_of hse) hx (w2.ok he).2
            obtain ⟨a, b, c⟩ := ih.stmts _ s1 e s' a1.w.hi h he
            refine ⟨?_, fun k k1 k2 => ?_, c⟩
            · rw [dpt_add h2 s'.pos (by omega), b1.1, a]; rfl
            · by_cases hk : k ≤ s1.pos
              · exact b1.2 k k1 hk
              · rw [dpt_add h2 k (by omega), b1.1]
                have := b k (by omega) k2
                omega
      · rw [if_neg hse] at h
        cases h
        exact absurd (by rw [he]; rfl) hse
    · intro s e s' hp hse h he
      have w0 := ((adv_stmtR l (n + 1)).stmt s e s' hp hse h).w.lo
      rw [stmtR] at h
      by_cases h1 : isP l s zIf = true
      · rw [if_pos h1] at h
        obtain ⟨-, t, -, -, hlt, -⟩ := isP_some h1
        exact ih.branch _ s e s' hlt h1 (by decide) (by decide) h he
      · rw [if_neg h1] at h
        by_cases h2 : isP l s zWhile = true
        · rw [if_pos h2] at h
          obtain ⟨-, t, -, -, hlt, -⟩ := isP_some h2
          exact ih.branch _ s e s' hlt h2 (by decide) (by decide) h he
        · rw [if_neg h2] at h
          by_cases h3 : isP l s zReturn = true
          · rw [if_pos h3] at h
            obtain ⟨-, t, -, -, hlt, -⟩ := isP_some h3
            exact (nb_tell hT hlt h3 (by decide) (by decide) h he).bal w0
          · rw [if_neg h3] at h
            by_cases h4 : isP l s zPrint = true
            · rw [if_pos h4] at h
              obtain ⟨-, t, -, -, hlt, -⟩ := isP_some h4
              exact (nb_tell hT hlt h4 (by decide) (by decide) h he).bal w0
            · rw [if_neg h4] at h
              by_cases h5 : isP l s zVar = true
              · rw [if_pos h5] at h
                obtain ⟨-, t, -, -, hlt, -⟩ := isP_some h5
                exact ((one_nobr (isP_txA h5) (by decide) (by decide)).trans (nb_assign (s := s.step) hT hlt h he)).bal w0
              · rw [if_neg h5] at h
                exact (nb_assign hT hp h he).bal w0
    · intro k s e s' hp hk hk1 hk2 h he
      rw [branchR] at h
      have hs := step_len hp
      have h0 : s.step.pos = s.pos + 1 := rfl
      have n0 := one_nobr (isP_txA hk) hk1 hk2
      cases hx : exprR l n 0 s.step with
      | none => rw [hx] at h; cases h
      | some p =>
        obtain ⟨e1, s1⟩ := p
        rw [hx] at h
        simp only at h
        have w1 := (went_exprR l n).expr 0 _ e1 s1 hs.1 hx
        have q1 := w1.lo
        cases hy : blockR l n s1 with
        | none => rw [hy] at h; cases h
        | some p =>
          obtain ⟨th, s2⟩ := p
          rw [hy] at h
          simp only at h
          have w2 := W.block s1 th s2 w1.hi hy
          have q2 := w2.lo
          by_cases ho : ((k == zIf) && isP l s2 zElse) = true
          · rw [if_pos ho] at h
            have ho2 : isP l s2 zElse = true := (Bool.and_eq_true _ _ ▸ ho : _ ∧ _).2
            obtain ⟨he2, t, -, -, hlt, -⟩ := isP_some ho2
            cases hz : blockR l n s2.step with
            | none => rw [hz] at h; cases h
            | some p =>
              obtain ⟨el, s3⟩ := p
              rw [hz] at h
              cases h
              have w3 := W.block s2.step el _ hlt hz
              have q3 := w3.lo
              have q4 : s2.step.pos = s2.pos + 1 := rfl
              have b1 := (n0.trans ((nb_expr hT n).expr 0 _ e1 s1 hs.1 hx (w2.ok he2).2)).bal (by omega)
              have b2 := (ih.block s1 th s2 w1.hi hy he2).bal
              have b3 := (one_nobr (isP_txA ho2) (by decide) (by decide)).bal (by omega)
              have b4 := (ih.block s2.step el _ hlt hz he).bal
              exact ((b1.trans b2 (by omega) (by omega)).trans b3 (by omega) (by omega)).trans b4 (by omega) (by omega)
          · rw [if_neg ho] at h
            cases h
            have b1 := (n0.trans ((nb_expr hT n).expr 0 _ e1 s1 hs.1 hx (w2.ok he).2)).bal (by omega)
            exact b1.trans (ih.block s1 th _ w1.hi hy he).bal (by omega) (by omega)
theorem nb_names {l : List Tok} (hT : ∀ t ∈ l, TkO t) : ∀ n ps s e s', s.pos ≤ l.length → namesR l n ps s = some (e, s') → s'.err = none → NoBr l s.pos s'.pos
  | 0, ps, s, e, s', _, h, _ => by rw [namesR] at h; cases h
  | n + 1, ps, s, e, s', hp, h, he => by
    rw [namesR] at h
    by_cases hse : s.err.isNone = true
    · rw [if_pos hse] at h
      have w1 := ofP_went (x := kName) hp
      by_cases h2 : isP l (ofP l kName s).2 [44] = true
      · rw [if_pos h2] at h
        obtain ⟨he2, t, -, -, hlt, -⟩ := isP_some h2
        exact ((ofP_nobr hT he2).trans (one_nobr (isP_txA h2) (by decide) (by decide))).trans (nb_names hT n _ (ofP l kName s).2.step e s' hlt h he)
      · rw [if_neg h2] at h
        cases h
        have w2 := takeP_went (l := l) (x := [41]) w1.hi
        exact (ofP_nobr hT (w2.ok he).2).trans (take_nobr he (by decide) (by decide))
    · rw [if_neg hse] at h
      cases h
      exact NoBr.nil l _
/-- A function: no brace, then a block. -/
theorem nb_fun {l : List Tok} (hT : ∀ t ∈ l, TkO t) {n : Nat} {s s' : PSt} {f : PFun} (hp : s.pos ≤ l.length) (h : funR l n s = some (f, s')) (he : s'.err = none) : ∃ b, s.pos ≤ b ∧ NoBr l s.pos b ∧ Blk l b s'.pos := by
  unfold funR at h
  have w1 := takeP_went (l := l) (x := zFn) hp
  have w2 := ofP_went (l := l) (x := kName) w1.hi
  have w3 := takeP_went (l := l) (x := [40]) w2.hi
  cases hq : paramsR l n (headP l s).2 with
  | none => rw [hq] at h; cases h
  | some p =>
    obtain ⟨ps, s1⟩ := p
    rw [hq] at h
    simp only at h
    have w4 := params_wentR (show (headP l s).2.pos ≤ l.length from w3.hi) hq
    cases hx : blockR l n s1 with
    | none => rw [hx] at h; cases h
    | some q =>
      obtain ⟨b, s2⟩ := q
      rw [hx] at h
      cases h
      have w5 := (adv_stmtR l n).block s1 b _ w4.hi hx
      have e4 := (w5.ok he).2
      have e3 : (takeP l [40] (ofP l kName (takeP l zFn s)).2).err = none := (w4.ok e4).2
      have e2 := (w3.ok e3).2
      have e1 := (w2.ok e2).2
      have h1 := w1.lo
      have h2 := w2.lo
      have h3 := w3.lo
      have h4 : (takeP l [40] (ofP l kName (takeP l zFn s)).2).pos ≤ s1.pos := w4.lo
      refine ⟨s1.pos, by omega, ?_, (nb_stmt hT n).block s1 b _ w4.hi hx he⟩
      have n1 := ((take_nobr (l := l) (s := s) e1 (by decide) (by decide)).trans (ofP_nobr hT e2)).trans (take_nobr e3 (by decide) (by decide))
      refine n1.trans ?_
      unfold paramsR at hq
      have hn : (headP l s).2.err.isNone = true := by show (takeP l [40] _).err.isNone = true; rw [e3]; rfl
      rw [if_pos hn] at hq
      by_cases h5 : isP l (headP l s).2 [41] = true
      · rw [if_pos h5] at hq
        cases hq
        exact one_nobr (isP_txA h5) (by decide) (by decide)
      · rw [if_neg h5] at hq
        exact nb_names hT n [] _ ps s1 w3.hi hq e4
end Go.Proofs.YtpfgimohginbdaaDoor

namespace Go.Proofs.YtpfgimohginbdaaDoor
open Go.RowKit

/-! a program cut in two -/
inductive PFr (l : List Tok) : PSt → List PFun → PSt → Prop
  | nil (s : PSt) : PFr l s [] s
  | cons {s s1 s' : PSt} {f : PFun} {fs : List PFun} {n : Nat} (he : s.err = none) (hlt : s.pos < l.length) (hf : funR l n s = some (f, s1)) (h1 : s1.err = none) (ht : PFr l s1 fs s') : PFr l s (f :: fs) s'
theorem funR_det {l : List Tok} {n m : Nat} {s s1 s1' : PSt} {f f' : PFun} (hp : s.pos ≤ l.length) (h : funR l n s = some (f, s1)) (h' : funR l m s = some (f', s1')) (he : s1.err = none) : f = f' ∧ s1 = s1' := by
  obtain ⟨g, t, hg, -⟩ := tot_fun hp (n := 40 * (l.length - s.pos) + 6) (Nat.le_refl _)
  have r1 := eq_fun hg h
  have r2 := eq_fun hg h'
  have ht : t.err = none := by rw [r1.err]; exact he
  obtain ⟨a1, a2⟩ := r1.same ht
  obtain ⟨b1, b2⟩ := r2.same ht
  exact ⟨by rw [← a2, b2], by rw [← a1, b1]⟩
section
variable {l : List Tok} {s s' : PSt} {fs : List PFun}
theorem PFr.lo (h : PFr l s fs s') (hp : s.pos ≤ l.length) : s.pos ≤ s'.pos ∧ s'.pos ≤ l.length ∧ s'.deep = s.deep ∧ (s.err = none → s'.err = none) := by
  induction h with
  | nil s => exact ⟨Nat.le_refl _, hp, rfl, fun e => e⟩
  | cons he hlt hf h1 ht ih =>
    have a := fun_advR hp hf
    obtain ⟨i1, i2, i3, i4⟩ := ih a.w.hi
    exact ⟨by have := a.w.lo; omega, i2, by rw [i3]; exact (a.w.ok h1).1, fun _ => i4 h1⟩
theorem PFr.sim {l2 : List Tok} {a m : Nat} (A : Ag l l2 a m) (h : PFr l s fs s') (hp : s.pos ≤ l.length) (ha : a ≤ s.pos) (hm : s'.pos ≤ m) (hl : s'.pos - a ≤ l2.length) : PFr l2 (s.dn a) fs (s'.dn a) := by
  induction h with
  | nil s => exact .nil _
  | cons he hlt hf h1 ht ih =>
    have a1 := fun_advR hp hf
    obtain ⟨i1, -, -, -⟩ := ht.lo a1.w.hi
    have := a1.adv h1
    refine .cons (he : (PSt.dn a _).err = none) (show _ - a < l2.length by omega) (sim_fun A hp ha hf h1 (by omega)) h1 (ih a1.w.hi (by omega) hm hl)
theorem parse_pf : ∀ n fs0 s e s', s.pos ≤ l.length → parseR l n fs0 s = some (e, s') → s'.err = none → ∃ gs, e = fs0 ++ gs ∧ PFr l s gs s' ∧ s'.pos = l.length
  | 0, fs0, s, e, s', _, h, _ => by rw [parseR] at h; cases h
  | n + 1, fs0, s, e, s', hp, h, he => by
    rw [parseR] at h
    by_cases ho : (s.err.isNone && decide (s.pos < l.length)) = true
    · rw [if_pos ho] at h
      simp only [Bool.and_eq_true, decide_eq_true_eq] at ho
      cases hx : funR l n s with
      | none => rw [hx] at h; cases h
      | some p =>
        obtain ⟨f, s1⟩ := p
        rw [hx] at h
        have a1 := fun_advR hp hx
        cases h1 : s1.err with
        | some z =>
          have := parseR_err (by rw [h1]; simp) h
          injection this with _ e2
          rw [e2, h1] at he
          cases he
        | none =>
          obtain ⟨gs, e1, e2, e3⟩ := parse_pf n _ s1 e s' a1.w.hi h he
          exact ⟨f :: gs, by rw [e1, List.append_assoc]; rfl, .cons (none_of ho.1) ho.2 hx h1 e2, e3⟩
    · rw [if_neg ho] at h
      cases h
      refine ⟨[], by rw [List.append_nil], .nil _, ?_⟩
      rw [he] at ho
      simp at ho
      omega
theorem pf_parse (h : PFr l s fs s') : ∀ n fs0 e s2, s.pos ≤ l.length → s'.pos = l.length → s'.err = none → parseR l n fs0 s = some (e, s2) → e = fs0 ++ fs ∧ s2 = s' := by
  induction h with
  | nil s =>
    intro n fs0 e s2 hp hl he h
    cases n with
    | zero => rw [parseR] at h; cases h
    | succ n =>
      rw [parseR, if_neg (by rw [he, hl]; simp)] at h
      cases h
      exact ⟨by rw [List.append_nil], rfl⟩
  | cons he hlt hf h1 ht ih =>
    intro n fs0 e s2 hp hl hs h
    cases n with
    | zero => rw [parseR] at h; cases h
    | succ n =>
      rw [parseR, if_pos (by rw [he]; simpa using hlt)] at h
      rename_i s0 s1 s' f fs k
      cases hx : funR l n s0 with
      | none => rw [hx] at h; cases h
      | some p =>
        obtain ⟨f', s1'⟩ := p
        rw [hx] at h
        obtain ⟨rfl, rfl⟩ := funR_det hp hf hx h1
        have a1 := fun_advR hp hx
        obtain ⟨e1, e2⟩ := ih n _ e s2 a1.w.hi hl hs h
        exact ⟨by rw [e1, List.append_assoc]; rfl, e2⟩
/-- A place between functions is one where no brace is open, behind a brace. -/
theorem pf_split (hT : ∀ t ∈ l, TkO t) {b : Nat} (h : PFr l s fs s') : s.pos ≤ l.length → dpt l 0 s.pos = 0 → s.pos ≤ b → b ≤ s'.pos → (b = s.pos ∨ (dpt l 0 b = 0 ∧ txA l (b - 1) = [125])) → ∃ gs r sM, fs = gs ++ r ∧ PFr l s gs sM ∧ sM.pos = b ∧ PFr l sM r s' := by
  induction h with
  | nil s => intro hp hd h1 h2 _; exact ⟨[], [], s, rfl, .nil _, by omega, .nil _⟩
  | cons he hlt hf h1 ht ih =>
    rename_i s0 s1 s' f fs k
    intro hp hd b1 b2 hb
    by_cases h0 : b = s0.pos
    · exact ⟨[], f :: fs, s0, rfl, .nil _, h0.symm, .cons he hlt hf h1 ht⟩
    · have a1 := fun_advR hp hf
      have hlo := a1.w.lo
      obtain ⟨c, c1, c2, c3⟩ := nb_fun hT hp hf h1
      have hb' := hb.resolve_left h0
      have hd1 : dpt l s0.pos s1.pos = 0 := by rw [dpt_add c1 s1.pos (by have := c3.lt; omega), c2.dpt c c1 (Nat.le_refl _), c3.out]; rfl
      have hge : s1.pos ≤ b := by
        rcases Nat.lt_or_ge b s1.pos with q | q
        · exfalso
          by_cases hbc : b ≤ c
          · exact (c2 (b - 1) (by omega) (by omega)).2 hb'.2
          · have h3 := c3.in_ b (by omega) q
            have h4 := hb'.1
            rw [dpt_add (Nat.zero_le s0.pos) b (by omega), hd, dpt_add c1 b (by omega), c2.dpt c c1 (Nat.le_refl _)] at h4
            omega
        · exact q
      obtain ⟨gs, r, sM, e1, e2, e3, e4⟩ := ih a1.w.hi (by rw [dpt_add (Nat.zero_le s0.pos) s1.pos hlo, hd, hd1]; rfl) hge b2 (.inr hb')
      exact ⟨f :: gs, r, sM, by rw [e1]; rfl, .cons he hlt hf h1 e2, e3, e4⟩
theorem pf_whole (hT : ∀ t ∈ l, TkO t) (h : PFr l s fs s') : s.pos ≤ l.length → dpt l 0 s.pos = 0 → dpt l 0 s'.pos = 0 ∧ (s'.pos = s.pos ∨ txA l (s'.pos - 1) = [125]) := by
  induction h with
  | nil s => intro hp hd; exact ⟨hd, .inl rfl⟩
  | cons he hlt hf h1 ht ih =>
    rename_i s0 s1 s' f fs k
    intro hp hd
    have a1 := fun_advR hp hf
    have hlo := a1.w.lo
    obtain ⟨c, c1, c2, c3⟩ := nb_fun hT hp hf h1
    have hd1 : dpt l s0.pos s1.pos = 0 := by rw [dpt_add c1 s1.pos (by have := c3.lt; omega), c2.dpt c c1 (Nat.le_refl _), c3.out]; rfl
    obtain ⟨i1, i2⟩ := ih a1.w.hi (by rw [dpt_add (Nat.zero_le s0.pos) s1.pos hlo, hd, hd1]; rfl)
    refine ⟨i1, .inr ?_⟩
    rcases i2 with e | e
    · rw [e]; exact c3.last
    · exact e
end
/-- The loop over the first tokens: is it whole? -/
def wholeL (l : List Tok) (n : Nat) : Bool := decide (n = 0 ∨ (dpt l 0 n = 0 ∧ txA l (n - 1) = [125]))
theorem ag_take (l : List Tok) (n : Nat) : Ag l (l.take n) 0 n := ⟨fun k _ h => by rw [Nat.sub_zero, List.getElem?_take, if_pos h]⟩
theorem ag_take' (l : List Tok) (n : Nat) : Ag (l.take n) l 0 n := ⟨fun k _ h => by rw [Nat.sub_zero, List.getElem?_take, if_pos h]⟩
theorem ag_drop (l : List Tok) (n m : Nat) : Ag l (l.drop n) n m := ⟨fun k h _ => by rw [List.getElem?_drop, show n + (k - n) = k by omega]⟩
theorem dn_zero (s : PSt) : s.dn 0 = s := by unfold PSt.dn; rw [Nat.sub_zero]
theorem parseQ_eq2 (l : List Tok) : parseR l (40 * l.length + 10) [] s0P = some ((parseQ l).1, (parseQ l).2) := parseQ_eq l
theorem cuts {l : List Tok} (hT : ∀ t ∈ l, TkO t) {n : Nat} (hn : n ≤ l.length) (hok : (parseP l).2.err = none) :
    ((parseP (l.take n)).2.err = none ↔ wholeL l n = true) ∧ (wholeL l n = true → (parseP (l.drop n)).2.err = none ∧ (parseP (l.take n)).1.length + (parseP (l.drop n)).1.length = (parseP l).1.length) := by
  have hq : (parseQ l).2.err = none := by rw [← (parse_same l).err]; exact hok
  have hlen : ∀ m : List Tok, (parseP m).2.err = none → (parseP m).1 = (parseQ m).1 := fun m h => ((parse_same m).same h).2
  obtain ⟨gs0, e0, hpf, hpe⟩ := parse_pf _ _ _ _ _ (Nat.zero_le _) (parseQ_eq2 l) hq
  rw [List.nil_append] at e0
  have hd0 : dpt l 0 s0P.pos = 0 := dpt_self l 0
  have hlt : (l.take n).length = n := by rw [List.length_take]; omega
  have split : wholeL l n = true → ∃ gs r sM, (parseQ l).1 = gs ++ r ∧ PFr l s0P gs sM ∧ sM.pos = n ∧ PFr l sM r (parseQ l).2 := fun hw => by
    unfold wholeL at hw
    simp only [decide_eq_true_eq] at hw
    rw [e0]
    exact pf_split hT hpf (Nat.zero_le _) hd0 (Nat.zero_le _) (by omega) hw
  have first : ∀ gs sM, PFr l s0P gs sM → sM.pos = n → (parseQ (l.take n)).2.err = none ∧ (parseQ (l.take n)).1 = gs := fun gs sM h1 h2 => by
    have h3 := h1.sim (ag_take l n) (Nat.zero_le _) (Nat.zero_le _) (by omega) (by omega)
    rw [dn_zero, dn_zero] at h3
    have h4 := (h1.lo (Nat.zero_le _)).2.2.2 rfl
    obtain ⟨h5, h6⟩ := pf_parse h3 _ _ _ _ (Nat.zero_le _) (by omega) h4 (parseQ_eq2 (l.take n))
    exact ⟨by rw [h6]; exact h4, by rw [h5]; rfl⟩
  refine ⟨⟨fun h => ?_, fun h => ?_⟩, fun h => ?_⟩
  · have h1 : (parseQ (l.take n)).2.err = none := by rw [← (parse_same (l.take n)).err]; exact h
    obtain ⟨gs, g0, g1, g2⟩ := parse_pf _ _ _ _ _ (Nat.zero_le _) (parseQ_eq2 (l.take n)) h1
    have h3 := g1.sim (ag_take' l n) (Nat.zero_le _) (Nat.zero_le _) (by omega) (by omega)
    rw [dn_zero, dn_zero] at h3
    obtain ⟨w1, w2⟩ := pf_whole hT h3 (Nat.zero_le _) hd0
    unfold wholeL
    simp only [decide_eq_true_eq]
    rw [hlt] at g2
    rw [g2] at w1 w2
    rcases w2 with e | e
    · exact .inl e
    · exact .inr ⟨w1, e⟩
  · obtain ⟨gs, r, sM, -, h1, h2, -⟩ := split h
    rw [(parse_same (l.take n)).err]
    exact (first gs sM h1 h2).1
  · obtain ⟨gs, r, sM, e, h1, h2, h3⟩ := split h
    obtain ⟨f1, f2⟩ := first gs sM h1 h2
    obtain ⟨-, -, l3, l4⟩ := h1.lo (Nat.zero_le _)
    have h4 := h3.sim (ag_drop l n (l.length + 1)) (by omega) (by omega) (by omega) (by rw [List.length_drop]; omega)
    have e5 : sM.dn n = s0P := by
      have he := l4 rfl
      have hd : sM.deep = 0 := l3
      cases sM with
      | mk p d er =>
        unfold PSt.dn s0P
        simp only at h2 hd he ⊢
        rw [h2, hd, he, Nat.sub_self]
    rw [e5] at h4
    obtain ⟨h5, h6⟩ := pf_parse h4 _ _ _ _ (Nat.zero_le _) (by show (parseQ l).2.pos - n = _; rw [List.length_drop]; omega) hq (parseQ_eq2 (l.drop n))
    have g1 : (parseQ (l.drop n)).2.err = none := by rw [h6]; exact hq
    have g2 : (parseP (l.drop n)).2.err = none := by rw [(parse_same (l.drop n)).err]; exact g1
    have g3 : (parseP (l.take n)).2.err = none := by rw [(parse_same (l.take n)).err]; exact f1
    refine ⟨g2, ?_⟩
    rw [hlen _ g2, hlen _ g3, hlen _ hok, e, f2, h5, List.nil_append, List.length_append]
end Go.Proofs.YtpfgimohginbdaaDoor
