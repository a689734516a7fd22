import Derived.Test.YtpfgimohginbdaaDoorBn7
import Derived.Test.YtpfgimohginbdaaDoorBn10
set_option linter.unusedVariables false
set_option linter.unusedSimpArgs false
namespace Go.Proofs.YtpfgimohginbdaaDoor
open Go.RowKit

/-! both parsers make the same -/
structure RelP {α : Type} (a b : α) (s s' : PSt) : Prop where
  err : s.err = s'.err
  same : s.err = none → s = s' ∧ a = b
theorem RelP.refl {α : Type} (a : α) (s : PSt) : RelP a a s s := ⟨rfl, fun _ => ⟨rfl, rfl⟩⟩
theorem RelP.bad {α : Type} {a b : α} {s : PSt} (h : s.err ≠ none) : RelP a b s s := ⟨rfl, fun e => absurd e h⟩
theorem isP_err {l : List Tok} {s : PSt} {x : List UInt8} (h : s.err ≠ none) : isP l s x = false := by
  unfold isP
  cases he : s.err with
  | none => exact absurd he h
  | some z => rfl
theorem takeP_err {l : List Tok} {s : PSt} {x : List UInt8} (h : s.err ≠ none) : takeP l x s = s := by
  unfold takeP
  rw [isP_err h, if_neg (by decide), failP_old h]
theorem ofB_err {l : List Tok} {s : PSt} {x : List UInt8} (h : s.err ≠ none) : ofB l x s = false := by
  unfold ofB
  cases he : s.err with
  | none => exact absurd he h
  | some z => rfl
theorem ofP_err {l : List Tok} {s : PSt} {x : List UInt8} (h : s.err ≠ none) : ofP l x s = ([], s) := by
  unfold ofP
  rw [ofB_err h, if_neg (by decide), failP_old h]
theorem opP_err {l : List Tok} {s : PSt} {lv : Nat} (h : s.err ≠ none) : opP l lv s = false := by
  unfold opP
  cases he : s.err with
  | none => exact absurd he h
  | some z => rfl
theorem levR_err {l : List Tok} {s : PSt} (h : s.err ≠ none) : levR l s = none := by
  unfold levR
  rw [if_neg (fun e => h (none_of e))]
theorem RelP.take {α : Type} {a b : α} {s s' : PSt} (l : List Tok) (x : List UInt8) (h : RelP a b s s') : RelP a b (takeP l x s) (takeP l x s') := by
  cases he : s.err with
  | none =>
    obtain ⟨rfl, rfl⟩ := h.same he
    exact RelP.refl _ _
  | some z =>
    have h1 : s.err ≠ none := by rw [he]; simp
    have h2 : s'.err ≠ none := by rw [← h.err]; exact h1
    rw [takeP_err h1, takeP_err h2]
    exact h
theorem RelP.up {α : Type} {a b : α} {s s' : PSt} (h : RelP a b s s') : RelP a b s.up s'.up :=
  ⟨h.err, fun e => ⟨by rw [(h.same e).1], (h.same e).2⟩⟩
theorem RelP.map {α β : Type} {a b : α} {s s' : PSt} (f : α → β) (h : RelP a b s s') : RelP (f a) (f b) s s' := ⟨h.err, fun e => ⟨(h.same e).1, by rw [(h.same e).2]⟩⟩
theorem RelP.isP {α : Type} {a b : α} {s s' : PSt} (l : List Tok) (x : List UInt8) (h : RelP a b s s') : Go.Proofs.YtpfgimohginbdaaDoor.isP l s x = Go.Proofs.YtpfgimohginbdaaDoor.isP l s' x := by
  cases he : s.err with
  | none => rw [(h.same he).1]
  | some z => rw [isP_err (by rw [he]; simp), isP_err (by rw [← h.err, he]; simp)]
theorem lev_op {x : List UInt8} {lv : Nat} (h : (levelsB.getD lv []).contains x = true) : levN x = some lv := by
  have h1 : ∀ lv, lv < 8 → ∀ x ∈ levelsB.getD lv [], levN x = some lv := by decide
  by_cases hl : lv < 8
  · exact h1 lv hl x (by simpa using h)
  · rw [List.getD_eq_getElem?_getD, List.getElem?_eq_none (by show 8 ≤ lv; omega)] at h
    simp at h
theorem op_lev {x : List UInt8} {lv : Nat} (h : levN x = some lv) : (levelsB.getD lv []).contains x = true := by
  unfold levN at h
  obtain ⟨h1, h2, -⟩ := List.findIdx?_eq_some_iff_getElem.1 h
  rw [List.getD_eq_getElem?_getD, List.getElem?_eq_getElem h1]
  exact h2
theorem op_levR {l : List Tok} {s : PSt} {lv : Nat} : opP l lv s = true ↔ levR l s = some lv := by
  constructor
  · intro h
    obtain ⟨he, t, h1, h2, h3, -⟩ := opP_some h
    unfold levR
    rw [he, h1]
    simp only [Option.isNone_none, if_true]
    rw [h2]
    simp only [beq_self_eq_true, if_true]
    exact lev_op h3
  · intro h
    obtain ⟨he, t, k, h1, h2, h3, h4, -, -⟩ := lev_some (l := l) (s := s) (lv := 0) (by rw [h]; rfl)
    rw [h] at h4
    cases h4
    unfold opP
    rw [he, h1]
    simp only [Option.isNone_none, Bool.true_and]
    rw [h2]
    simp only [beq_self_eq_true, Bool.true_and]
    exact op_lev h3
/-- Behind a loop there is no op of its level, or more. -/
theorem loop_end {l : List Tok} : ∀ (m lv : Nat) (e : PExpr) (s : PSt) (r : PExpr × PSt), loopR l m lv e s = some r → leB lv (levR l r.2) = false := by
  intro m
  induction m with
  | zero => intro lv e s r h; rw [loopR] at h; cases h
  | succ m ih =>
    intro lv e s r h
    rw [loopR] at h
    by_cases ho : leB lv (levR l s) = true
    · rw [if_pos ho] at h
      cases hx : exprR l m ((levR l s).getD 0 + 1) s.step with
      | none => rw [hx] at h; cases h
      | some p => rw [hx] at h; exact ih _ _ _ _ h
    · rw [if_neg ho] at h
      cases h
      simpa using ho
theorem expr_end {l : List Tok} {m lv : Nat} {s : PSt} {e : PExpr} {s1 : PSt} (h : exprR l m lv s = some (e, s1)) : leB lv (levR l s1) = false := by
  cases m with
  | zero => rw [exprR] at h; cases h
  | succ m =>
    rw [exprR] at h
    cases hx : aheadR l m s with
    | none => rw [hx] at h; cases h
    | some p => rw [hx] at h; exact loop_end _ _ _ _ _ h
/-- A loop of a level is one of the level above it, and goes on. -/
theorem loop_split {l : List Tok} : ∀ (m lv : Nat) (a : PExpr) (s : PSt) (r : PExpr × PSt), loopR l m lv a s = some r → ∃ e1 s1 m1, loopR l m (lv + 1) a s = some (e1, s1) ∧ loopR l m1 lv e1 s1 = some r := by
  intro m
  induction m with
  | zero => intro lv a s r h; rw [loopR] at h; cases h
  | succ m ih =>
    intro lv a s r h
    by_cases ho : leB (lv + 1) (levR l s) = true
    · have ho2 : leB lv (levR l s) = true := by
        cases hl : levR l s with
        | none => rw [hl] at ho; cases ho
        | some k => rw [hl] at ho; simp [leB] at ho ⊢; omega
      rw [loopR, if_pos ho2] at h
      rw [loopR, if_pos ho]
      cases hx : exprR l m ((levR l s).getD 0 + 1) s.step with
      | none => rw [hx] at h; cases h
      | some p => rw [hx] at h; exact ih _ _ _ _ h
    · refine ⟨a, s, m + 1, ?_, h⟩
      rw [loopR, if_neg ho]
structure EqE (l : List Tok) (n : Nat) : Prop where
  expr : ∀ m lv s e s1 e' s1', lv ≤ 8 → exprF l n lv s = some (e, s1) → exprR l m lv s = some (e', s1') → RelP e e' s1 s1'
  one : ∀ m s e s1 e' s1', oneF l n s = some (e, s1) → aheadR l m s = some (e', s1') → RelP e e' s1 s1'
  atom : ∀ m s e s1 e' s1', ¬ (isP l s [45] = true ∨ isP l s [33] = true) → atomF l n s = some (e, s1) → aheadR l m s = some (e', s1') → RelP e e' s1 s1'
  inner : ∀ m s e s1 e' s1', innerF l n s = some (e, s1) → (if (nestP s).err.isNone = true then (match exprR l m 0 (nestP s).step with | none => none | some (e, s1) => some (e, (takeP l [41] s1).up)) else some (zeroE, nestP s)) = some (e', s1') → RelP e e' s1 s1'
  list : ∀ m s e s1 e' s1', s.err = none → listF l n s = some (e, s1) → argsR l m s = some (e', s1') → RelP e e' s1 s1'
  args : ∀ m ks s e s1 e' s1', argsF l n ks s = some (e, s1) → (if isP l s [44] = true then argsL l m ks s.step else some (ks, takeP l [41] s)) = some (e', s1') → RelP e e' s1 s1'
  ops : ∀ m lv a s e s1 e' s1', lv < 8 → leB (lv + 1) (levR l s) = false → opsF l n lv a s = some (e, s1) → loopR l m lv a s = some (e', s1') → RelP e e' s1 s1'
theorem ops_err {l : List Tok} {n lv : Nat} {a : PExpr} {s : PSt} {r : PExpr × PSt} (he : s.err ≠ none) (h : opsF l n lv a s = some r) : r = (a, s) := by
  cases n with
  | zero => rw [opsF] at h; cases h
  | succ n => rw [opsF, opP_err he, if_neg (by decide)] at h; cases h; rfl
theorem loop_err {l : List Tok} {n lv : Nat} {a : PExpr} {s : PSt} {r : PExpr × PSt} (he : s.err ≠ none) (h : loopR l n lv a s = some r) : r = (a, s) := by
  cases n with
  | zero => rw [loopR] at h; cases h
  | succ n => rw [loopR, levR_err he, if_neg (show ¬ leB lv none = true by simp [leB])] at h; cases h; rfl
theorem eq_expr (l : List Tok) : ∀ n, EqE l n := by
  intro n
  induction n with
  | zero =>
    refine ⟨?_, ?_, ?_, ?_, ?_, ?_, ?_⟩
    · intro m lv s e s1 e' s1' _ h; rw [exprF] at h; cases h
    · intro m s e s1 e' s1' h; rw [oneF] at h; cases h
    · intro m s e s1 e' s1' _ h; rw [atomF] at h; cases h
    · intro m s e s1 e' s1' h; rw [innerF] at h; cases h
    · intro m s e s1 e' s1' _ h; rw [listF] at h; cases h
    · intro m ks s e s1 e' s1' h; rw [argsF] at h; cases h
    · intro m lv a s e s1 e' s1' _ _ h; rw [opsF] at h; cases h
  | succ n ih =>
    refine ⟨?_, ?_, ?_, ?_, ?_, ?_, ?_⟩
    · intro m lv s e s1 e' s1' hlv h h'
      rw [exprF] at h
      cases m with
      | zero => rw [exprR] at h'; cases h'
      | succ m =>
        have h9 := h'
        rw [exprR] at h'
        cases ha : aheadR l m s with
        | none => rw [ha] at h'; cases h'
        | some p =>
          obtain ⟨a, sa⟩ := p
          rw [ha] at h'
          simp only at h'
          by_cases h8 : lv = 8
          · rw [if_pos h8] at h
            have hr := ih.one m s e s1 a sa h ha
            subst h8
            cases m with
            | zero => rw [loopR] at h'; cases h'
            | succ m =>
              have hno : leB 8 (levR l sa) = false := by
                cases hl : levR l sa with
                | none => rfl
                | some k => have := lev_le hl; simp [leB]; omega
              rw [loopR, hno, if_neg (by decide)] at h'
              cases h'
              exact hr
          · rw [if_neg h8] at h
            cases hx : exprF l n (lv + 1) s with
            | none => rw [hx] at h; cases h
            | some p1 =>
              obtain ⟨e1, t1⟩ := p1
              rw [hx] at h
              simp only at h
              obtain ⟨e2, t2, m1, hl1, hl2⟩ := loop_split m lv a sa _ h'
              have hE : exprR l (m + 1) (lv + 1) s = some (e2, t2) := by rw [exprR, ha]; exact hl1
              have hr := ih.expr (m + 1) (lv + 1) s e1 t1 e2 t2 (by omega) hx hE
              cases he : t1.err with
              | none =>
                obtain ⟨rfl, rfl⟩ := hr.same he
                exact ih.ops m1 lv e1 t1 e s1 e' s1' (by omega) (expr_end hE) h hl2
              | some z =>
                have h1 : t1.err ≠ none := by rw [he]; simp
                have h2 : t2.err ≠ none := by rw [← hr.err]; exact h1
                have q1 := ops_err h1 h
                have q2 := loop_err h2 hl2
                cases q1
                cases q2
                exact ⟨hr.err, fun e => absurd e h1⟩
    · intro m s e s1 e' s1' h h'
      rw [oneF] at h
      by_cases ho : isP l s [45] = true ∨ isP l s [33] = true
      · rw [if_pos ho] at h
        cases m with
        | zero => rw [aheadR] at h'; cases h'
        | succ m =>
          rw [aheadR, if_pos ho] at h'
          by_cases hne : (nestP s).err.isNone = true
          · rw [if_pos hne] at h h'
            cases hx : oneF l n (nestP s).step with
            | none => rw [hx] at h; cases h
            | some p =>
              cases hy : aheadR l m (nestP s).step with
              | none => rw [hy] at h'; cases h'
              | some p' =>
                rw [hx] at h
                rw [hy] at h'
                have hr := ih.one m _ p.1 p.2 p'.1 p'.2 hx hy
                cases h
                cases h'
                exact (hr.map fun e => (⟨yOne, 0, txtP l s, [e]⟩ : PExpr)).up
          · rw [if_neg hne] at h h'
            cases h
            cases h'
            exact RelP.refl _ _
      · rw [if_neg ho] at h
        exact ih.atom m s e s1 e' s1' ho h h'
    · intro m s e s1 e' s1' ho h h'
      rw [atomF] at h
      cases m with
      | zero => rw [aheadR] at h'; cases h'
      | succ m =>
        rw [aheadR, if_neg ho] at h'
        by_cases h0 : (s.err.isNone && decide (s.pos < l.length)) = true
        · rw [if_pos h0] at h
          simp only [Bool.and_eq_true, decide_eq_true_eq] at h0
          by_cases h1 : isP l s [40] = true
          · rw [if_pos h1] at h h'
            exact ih.inner m s e s1 e' s1' h h'
          · rw [if_neg h1] at h h'
            by_cases h2 : ofB l kNumber s = true
            · rw [if_pos h2] at h h'
              cases h
              cases h'
              exact RelP.refl _ _
            · rw [if_neg h2] at h h'
              by_cases h3 : isP l (ofP l kName s).2 [40] = true
              · rw [if_pos h3] at h h'
                by_cases h4 : (nestP (ofP l kName s).2).err.isNone = true
                · rw [if_pos h4] at h h'
                  cases hx : listF l n (nestP (ofP l kName s).2).step with
                  | none => rw [hx] at h; cases h
                  | some p =>
                    cases hy : argsR l m (nestP (ofP l kName s).2).step with
                    | none => rw [hy] at h'; cases h'
                    | some p' =>
                      rw [hx] at h
                      rw [hy] at h'
                      have hr := ih.list m (nestP (ofP l kName s).2).step p.1 p.2 p'.1 p'.2 (none_of h4) hx hy
                      cases h
                      cases h'
                      exact (hr.map fun ks => (⟨yCall, 0, (ofP l kName s).1, ks⟩ : PExpr)).up
                · rw [if_neg h4] at h h'
                  cases h
                  cases h'
                  exact RelP.bad (some_of h4)
              · rw [if_neg h3] at h h'
                cases h
                cases h'
                exact RelP.refl _ _
        · rw [if_neg h0] at h
          cases h
          have hno : isP l s [40] = false ∧ ofB l kNumber s = false ∧ ofP l kName s = ([], failP s 1) := by
            have hx : ∀ t, l[s.pos]? = some t → s.err ≠ none := fun t ht he => h0 (by rw [he]; simpa using (List.getElem?_eq_some_iff.1 ht).1)
            refine ⟨?_, ?_, ?_⟩
            · cases hq : isP l s [40] with
              | false => rfl
              | true => obtain ⟨e, t, h1, -⟩ := isP_some hq; exact absurd e (hx t h1)
            · cases hq : ofB l kNumber s with
              | false => rfl
              | true => obtain ⟨e, t, h1, -⟩ := ofB_some hq; exact absurd e (hx t h1)
            · unfold ofP
              cases hq : ofB l kName s with
              | false => rfl
              | true => obtain ⟨e, t, h1, -⟩ := ofB_some hq; exact absurd e (hx t h1)
          rw [hno.1, hno.2.1, hno.2.2, if_neg (by decide), if_neg (by decide), isP_err failP_err, if_neg (by decide)] at h'
          cases h'
          exact RelP.bad failP_err
    · intro m s e s1 e' s1' h h'
      rw [innerF] at h
      by_cases hne : (nestP s).err.isNone = true
      · rw [if_pos hne] at h h'
        cases hx : exprF l n 0 (nestP s).step with
        | none => rw [hx] at h; cases h
        | some p =>
          cases hy : exprR l m 0 (nestP s).step with
          | none => rw [hy] at h'; cases h'
          | some p' =>
            rw [hx] at h
            rw [hy] at h'
            have hr := ih.expr m 0 _ p.1 p.2 p'.1 p'.2 (by omega) hx hy
            cases h
            cases h'
            exact (hr.take l [41]).up
      · rw [if_neg hne] at h h'
        cases h
        cases h'
        exact RelP.refl _ _
    · intro m s e s1 e' s1' he h h'
      rw [listF] at h
      cases m with
      | zero => rw [argsR] at h'; cases h'
      | succ m =>
        rw [argsR] at h'
        by_cases h1 : isP l s [41] = true
        · rw [if_pos h1] at h h'
          cases h
          cases h'
          exact RelP.refl _ _
        · rw [if_neg h1] at h h'
          cases m with
          | zero => rw [argsL] at h'; cases h'
          | succ m =>
            rw [argsL, if_pos (show s.err.isNone = true by rw [he]; rfl)] at h'
            cases hx : exprF l n 0 s with
            | none => rw [hx] at h; cases h
            | some p =>
              cases hy : exprR l m 0 s with
              | none => rw [hy] at h'; cases h'
              | some p' =>
                rw [hx] at h
                rw [hy] at h'
                simp only at h h'
                have hr := ih.expr m 0 _ p.1 p.2 p'.1 p'.2 (by omega) hx hy
                cases hz : p.2.err with
                | none =>
                  obtain ⟨q1, q2⟩ := hr.same hz
                  rw [← q1, ← q2] at h'
                  exact ih.args m [p.1] p.2 e s1 e' s1' h h'
                | some z =>
                  have k1 : p.2.err ≠ none := by rw [hz]; simp
                  have k2 : p'.2.err ≠ none := by rw [← hr.err]; exact k1
                  rw [isP_err k2, if_neg (by decide), takeP_err k2] at h'
                  cases h'
                  cases n with
                  | zero => rw [argsF] at h; cases h
                  | succ n =>
                    rw [argsF, isP_err k1, if_neg (by decide), takeP_err k1] at h
                    cases h
                    exact ⟨hr.err, fun e => absurd e k1⟩
    · intro m ks s e s1 e' s1' h h'
      rw [argsF] at h
      by_cases h1 : isP l s [44] = true
      · rw [if_pos h1] at h h'
        obtain ⟨he, -⟩ := isP_some h1
        cases m with
        | zero => rw [argsL] at h'; cases h'
        | succ m =>
          rw [argsL, if_pos (show s.step.err.isNone = true by show s.err.isNone = true; rw [he]; rfl)] at h'
          cases hx : exprF l n 0 s.step with
          | none => rw [hx] at h; cases h
          | some p =>
            cases hy : exprR l m 0 s.step with
            | none => rw [hy] at h'; cases h'
            | some p' =>
              rw [hx] at h
              rw [hy] at h'
              simp only at h h'
              have hr := ih.expr m 0 _ p.1 p.2 p'.1 p'.2 (by omega) hx hy
              cases hz : p.2.err with
              | none =>
                obtain ⟨q1, q2⟩ := hr.same hz
                rw [← q1, ← q2] at h'
                exact ih.args m (ks ++ [p.1]) p.2 e s1 e' s1' h h'
              | some z =>
                have k1 : p.2.err ≠ none := by rw [hz]; simp
                have k2 : p'.2.err ≠ none := by rw [← hr.err]; exact k1
                rw [isP_err k2, if_neg (by decide), takeP_err k2] at h'
                cases h'
                cases n with
                | zero => rw [argsF] at h; cases h
                | succ n =>
                  rw [argsF, isP_err k1, if_neg (by decide), takeP_err k1] at h
                  cases h
                  exact ⟨hr.err, fun e => absurd e k1⟩
      · rw [if_neg h1] at h h'
        cases h
        cases h'
        exact RelP.refl _ _
    · intro m lv a s e s1 e' s1' hlv hle h h'
      rw [opsF] at h
      cases m with
      | zero => rw [loopR] at h'; cases h'
      | succ m =>
        rw [loopR] at h'
        by_cases ho : opP l lv s = true
        · have hlev := op_levR.1 ho
          rw [if_pos ho] at h
          rw [hlev, if_pos (show leB lv (some lv) = true by simp [leB])] at h'
          simp only [Option.getD_some] at h'
          cases hx : exprF l n (lv + 1) s.step with
          | none => rw [hx] at h; cases h
          | some p =>
            cases hy : exprR l m (lv + 1) s.step with
            | none => rw [hy] at h'; cases h'
            | some p' =>
              rw [hx] at h
              rw [hy] at h'
              simp only at h h'
              have hr := ih.expr m (lv + 1) _ p.1 p.2 p'.1 p'.2 (by omega) hx hy
              cases hz : p.2.err with
              | none =>
                obtain ⟨q1, q2⟩ := hr.same hz
                have hend := expr_end (e := p'.1) (s1 := p'.2) hy
                rw [← q1] at hend
                rw [← q1, ← q2] at h'
                exact ih.ops m lv _ p.2 e s1 e' s1' hlv hend h h'
              | some z =>
                have k1 : p.2.err ≠ none := by rw [hz]; simp
                have k2 : p'.2.err ≠ none := by rw [← hr.err]; exact k1
                have q1 := ops_err k1 h
                have q2 := loop_err k2 h'
                cases q1
                cases q2
                exact ⟨hr.err, fun e => absurd e k1⟩
        · rw [if_neg ho] at h
          have hno : leB lv (levR l s) = false := by
            cases hl : levR l s with
            | none => rfl
            | some k =>
              rw [hl] at hle
              have hne : k ≠ lv := fun e => ho (op_levR.2 (by rw [hl, e]))
              simp [leB] at hle ⊢
              omega
          rw [hno, if_neg (by decide)] at h'
          cases h
          cases h'
          exact RelP.refl _ _
end Go.Proofs.YtpfgimohginbdaaDoor

namespace Go.Proofs.YtpfgimohginbdaaDoor
open Go.RowKit

/-! both parsers make the same statements, functions, programs -/
theorem eq_assign {l : List Tok} {n m : Nat} {kind : List UInt8} {s : PSt} {x x' : PStmt} {s1 s1' : PSt} (h : assignF l n kind s = some (x, s1)) (h' : assignR l m kind s = some (x', s1')) : RelP x x' s1 s1' := by
  unfold assignF at h
  unfold assignR at h'
  cases hx : exprF l n 0 (takeP l [61] (ofP l kName s).2) with
  | none => rw [hx] at h; cases h
  | some p =>
    cases hy : exprR l m 0 (takeP l [61] (ofP l kName s).2) with
    | none => rw [hy] at h'; cases h'
    | some p' =>
      rw [hx] at h
      rw [hy] at h'
      have hr := (eq_expr l n).expr m 0 _ p.1 p.2 p'.1 p'.2 (by omega) hx hy
      cases h
      cases h'
      exact ((hr.map fun e => (⟨kind, (ofP l kName s).1, e, [], []⟩ : PStmt))).take l [59]
theorem eq_tell {l : List Tok} {n m : Nat} {kind : List UInt8} {s : PSt} {x x' : PStmt} {s1 s1' : PSt} (h : tellF l n kind s = some (x, s1)) (h' : tellR l m kind s = some (x', s1')) : RelP x x' s1 s1' := by
  unfold tellF at h
  unfold tellR at h'
  cases hx : exprF l n 0 s.step with
  | none => rw [hx] at h; cases h
  | some p =>
    cases hy : exprR l m 0 s.step with
    | none => rw [hy] at h'; cases h'
    | some p' =>
      rw [hx] at h
      rw [hy] at h'
      have hr := (eq_expr l n).expr m 0 _ p.1 p.2 p'.1 p'.2 (by omega) hx hy
      cases h
      cases h'
      exact ((hr.map fun e => (⟨kind, [], e, [], []⟩ : PStmt))).take l [59]
theorem blockF_err {l : List Tok} {n : Nat} {s : PSt} {r : List PStmt × PSt} (he : s.err ≠ none) (h : blockF l n s = some r) : r = ([], s) := by
  cases n with
  | zero => rw [blockF] at h; cases h
  | succ n => rw [blockF, isP_err he, if_neg (by decide), failP_old he] at h; cases h; rfl
theorem blockR_err {l : List Tok} {n : Nat} {s : PSt} {r : List PStmt × PSt} (he : s.err ≠ none) (h : blockR l n s = some r) : r = ([], s) := by
  cases n with
  | zero => rw [blockR] at h; cases h
  | succ n => rw [blockR, isP_err he, if_neg (by decide), failP_old he] at h; cases h; rfl
theorem stmtsF_err {l : List Tok} {n : Nat} {ss : List PStmt} {s : PSt} {r : List PStmt × PSt} (he : s.err ≠ none) (h : stmtsF l n ss s = some r) : r = (ss, s) := by
  cases n with
  | zero => rw [stmtsF] at h; cases h
  | succ n => rw [stmts_err he] at h; cases h; rfl
theorem stmtsR_bad {l : List Tok} {n : Nat} {ss : List PStmt} {s : PSt} {r : List PStmt × PSt} (he : s.err ≠ none) (h : stmtsR l n ss s = some r) : r = (ss, s) := by
  cases n with
  | zero => rw [stmtsR] at h; cases h
  | succ n => rw [stmtsR_err he] at h; cases h; rfl
structure EqS (l : List Tok) (n : Nat) : Prop where
  block : ∀ m s e s1 e' s1', blockF l n s = some (e, s1) → blockR l m s = some (e', s1') → RelP e e' s1 s1'
  stmts : ∀ m ss s e s1 e' s1', stmtsF l n ss s = some (e, s1) → stmtsR l m ss s = some (e', s1') → RelP e e' (takeP l [125] s1) s1'
  stmt : ∀ m s e s1 e' s1', stmtF l n s = some (e, s1) → stmtR l m s = some (e', s1') → RelP e e' s1 s1'
  branch : ∀ m kind s e s1 e' s1', branchF l n kind s = some (e, s1) → branchR l m kind s = some (e', s1') → RelP e e' s1 s1'
theorem eq_stmt (l : List Tok) : ∀ n, EqS l n := by
  intro n
  induction n with
  | zero =>
    refine ⟨?_, ?_, ?_, ?_⟩
    · intro m s e s1 e' s1' h; rw [blockF] at h; cases h
    · intro m ss s e s1 e' s1' h; rw [stmtsF] at h; cases h
    · intro m s e s1 e' s1' h; rw [stmtF] at h; cases h
    · intro m kind s e s1 e' s1' h; rw [branchF] at h; cases h
  | succ n ih =>
    refine ⟨?_, ?_, ?_, ?_⟩
    · intro m s e s1 e' s1' h h'
      rw [blockF] at h
      cases m with
      | zero => rw [blockR] at h'; cases h'
      | succ m =>
        rw [blockR] at h'
        by_cases h1 : isP l s [123] = true
        · rw [if_pos h1] at h h'
          by_cases hne : (nestP s).err.isNone = true
          · rw [if_pos hne] at h h'
            cases hx : stmtsF l n [] (nestP s).step with
            | none => rw [hx] at h; cases h
            | some p =>
              cases hy : stmtsR l m [] (nestP s).step with
              | none => rw [hy] at h'; cases h'
              | some p' =>
                rw [hx] at h
                rw [hy] at h'
                have hr := ih.stmts m [] _ p.1 p.2 p'.1 p'.2 hx hy
                cases h
                cases h'
                exact hr.up
          · rw [if_neg hne] at h h'
            cases h
            cases h'
            exact RelP.refl _ _
        · rw [if_neg h1] at h h'
          cases h
          cases h'
          exact RelP.refl _ _
    · intro m ss s e s1 e' s1' h h'
      cases he : s.err with
      | some z =>
        have k : s.err ≠ none := by rw [he]; simp
        have q1 := stmtsF_err k h
        have q2 := stmtsR_bad k h'
        cases q1
        cases q2
        rw [takeP_err k]
        exact RelP.refl _ _
      | none =>
        have hn : s.err.isNone = true := by rw [he]; rfl
        rw [stmtsF] at h
        cases m with
        | zero => rw [stmtsR] at h'; cases h'
        | succ m =>
          rw [stmtsR, if_pos hn] at h'
          by_cases h1 : isP l s [125] = true
          · rw [if_pos h1] at h'
            rw [hn, h1, if_neg (by decide)] at h
            cases h
            cases h'
            unfold takeP
            rw [if_pos h1]
            exact RelP.refl _ _
          · rw [if_neg h1] at h'
            rw [hn, show isP l s [125] = false by simpa using h1, if_pos (by decide)] at h
            cases hx : stmtF l n s with
            | none => rw [hx] at h; cases h
            | some p =>
              cases hy : stmtR l m s with
              | none => rw [hy] at h'; cases h'
              | some p' =>
                rw [hx] at h
                rw [hy] at h'
                simp only at h h'
                have hr := ih.stmt m _ p.1 p.2 p'.1 p'.2 hx hy
                cases hz : p.2.err with
                | none =>
                  obtain ⟨q1, q2⟩ := hr.same hz
                  rw [← q1, ← q2] at h'
                  exact ih.stmts m _ p.2 e s1 e' s1' h h'
                | some z =>
                  have k1 : p.2.err ≠ none := by rw [hz]; simp
                  have k2 : p'.2.err ≠ none := by rw [← hr.err]; exact k1
                  have q1 := stmtsF_err k1 h
                  have q2 := stmtsR_bad k2 h'
                  cases q1
                  cases q2
                  rw [takeP_err k1]
                  exact ⟨hr.err, fun e => absurd e k1⟩
    · intro m s e s1 e' s1' h h'
      rw [stmtF] at h
      cases m with
      | zero => rw [stmtR] at h'; cases h'
      | succ m =>
        rw [stmtR] at h'
        by_cases h1 : isP l s zIf = true
        · rw [if_pos h1] at h h'; exact ih.branch m _ _ _ _ _ _ h h'
        · rw [if_neg h1] at h h'
          by_cases h2 : isP l s zWhile = true
          · rw [if_pos h2] at h h'; exact ih.branch m _ _ _ _ _ _ h h'
          · rw [if_neg h2] at h h'
            by_cases h3 : isP l s zReturn = true
            · rw [if_pos h3] at h h'; exact eq_tell h h'
            · rw [if_neg h3] at h h'
              by_cases h4 : isP l s zPrint = true
              · rw [if_pos h4] at h h'; exact eq_tell h h'
              · rw [if_neg h4] at h h'
                by_cases h5 : isP l s zVar = true
                · rw [if_pos h5] at h h'; exact eq_assign h h'
                · rw [if_neg h5] at h h'; exact eq_assign h h'
    · intro m kind s e s1 e' s1' h h'
      rw [branchF] at h
      cases m with
      | zero => rw [branchR] at h'; cases h'
      | succ m =>
        rw [branchR] at h'
        cases hx : exprF l n 0 s.step with
        | none => rw [hx] at h; cases h
        | some p =>
          cases hy : exprR l m 0 s.step with
          | none => rw [hy] at h'; cases h'
          | some p' =>
            rw [hx] at h
            rw [hy] at h'
            simp only at h h'
            have hr := (eq_expr l n).expr m 0 _ p.1 p.2 p'.1 p'.2 (by omega) hx hy
            cases hb : blockF l n p.2 with
            | none => rw [hb] at h; cases h
            | some b =>
              cases hb' : blockR l m p'.2 with
              | none => rw [hb'] at h'; cases h'
              | some b' =>
                rw [hb] at h
                rw [hb'] at h'
                simp only at h h'
                have hrb : RelP b.1 b'.1 b.2 b'.2 ∧ (b.2.err = none → p.1 = p'.1) := by
                  cases hz : p.2.err with
                  | none =>
                    obtain ⟨q1, q2⟩ := hr.same hz
                    rw [← q1] at hb'
                    exact ⟨ih.block m _ b.1 b.2 b'.1 b'.2 hb hb', fun _ => q2⟩
                  | some z =>
                    have k1 : p.2.err ≠ none := by rw [hz]; simp
                    have k2 : p'.2.err ≠ none := by rw [← hr.err]; exact k1
                    have q1 := blockF_err k1 hb
                    have q2 := blockR_err k2 hb'
                    rw [q1, q2]
                    exact ⟨⟨hr.err, fun e => absurd e k1⟩, fun e => absurd e k1⟩
                rw [hrb.1.isP l zElse] at h
                by_cases h3 : ((kind == zIf) && isP l b'.2 zElse) = true
                · rw [if_pos h3] at h h'
                  have h4 := (Bool.and_eq_true _ _ ▸ h3 : _ ∧ _).2
                  have he4 := (isP_some h4).1
                  have he5 : b.2.err = none := hrb.1.err.trans he4
                  obtain ⟨q1, q2⟩ := hrb.1.same he5
                  rw [← q1, ← q2] at h'
                  rw [← hrb.2 he5] at h'
                  cases hc : blockF l n b.2.step with
                  | none => rw [hc] at h; cases h
                  | some c =>
                    cases hc' : blockR l m b.2.step with
                    | none => rw [hc'] at h'; cases h'
                    | some c' =>
                      rw [hc] at h
                      rw [hc'] at h'
                      have hr2 := ih.block m _ c.1 c.2 c'.1 c'.2 hc hc'
                      cases h
                      cases h'
                      exact hr2.map fun el => (⟨kind, [], p.1, b.1, el⟩ : PStmt)
                · rw [if_neg h3] at h h'
                  cases h
                  cases h'
                  exact ⟨hrb.1.err, fun e => ⟨(hrb.1.same e).1, by rw [hrb.2 e, (hrb.1.same e).2]⟩⟩
theorem eq_names (l : List Tok) : ∀ (n m : Nat) (ps : List (List UInt8)) (s : PSt) (e s1 e' s1'), s.err = none → namesF l n (ps ++ [(ofP l kName s).1]) (ofP l kName s).2 = some (e, s1) → namesR l m ps s = some (e', s1') → RelP e e' s1 s1' := by
  intro n
  induction n with
  | zero => intro m ps s e s1 e' s1' _ h; rw [namesF] at h; cases h
  | succ n ih =>
    intro m ps s e s1 e' s1' he h h'
    rw [namesF] at h
    cases m with
    | zero => rw [namesR] at h'; cases h'
    | succ m =>
      rw [namesR, if_pos (by rw [he]; rfl)] at h'
      by_cases h1 : isP l (ofP l kName s).2 [44] = true
      · rw [if_pos h1] at h h'
        exact ih m (ps ++ [(ofP l kName s).1]) (ofP l kName s).2.step e s1 e' s1' (isP_some h1).1 h h'
      · rw [if_neg h1] at h h'
        cases h
        cases h'
        exact RelP.refl _ _
theorem eq_params {l : List Tok} {n m : Nat} {s : PSt} {e e' : List (List UInt8)} {s1 s1' : PSt} (h : (if s.err.isNone = true then paramsF l n s else some ([], s)) = some (e, s1)) (h' : paramsR l m s = some (e', s1')) : RelP e e' s1 s1' := by
  unfold paramsR at h'
  by_cases he : s.err.isNone = true
  · rw [if_pos he] at h h'
    unfold paramsF at h
    by_cases h1 : isP l s [41] = true
    · rw [if_pos h1] at h h'
      cases h
      cases h'
      exact RelP.refl _ _
    · rw [if_neg h1] at h h'
      exact eq_names l n m [] s e s1 e' s1' (none_of he) h h'
  · rw [if_neg he] at h h'
    cases h
    cases h'
    exact RelP.refl _ _
theorem eq_fun {l : List Tok} {n m : Nat} {s : PSt} {f f' : PFun} {s1 s1' : PSt} (h : funF l n s = some (f, s1)) (h' : funR l m s = some (f', s1')) : RelP f f' s1 s1' := by
  unfold funF at h
  unfold funR at h'
  cases hx : (if (headP l s).2.err.isNone = true then paramsF l n (headP l s).2 else some ([], (headP l s).2)) with
  | none => rw [hx] at h; cases h
  | some p =>
    cases hy : paramsR l m (headP l s).2 with
    | none => rw [hy] at h'; cases h'
    | some p' =>
      rw [hx] at h
      rw [hy] at h'
      simp only at h h'
      have hr := eq_params (e := p.1) (s1 := p.2) (e' := p'.1) (s1' := p'.2) hx hy
      cases hb : blockF l n p.2 with
      | none => rw [hb] at h; cases h
      | some b =>
        cases hb' : blockR l m p'.2 with
        | none => rw [hb'] at h'; cases h'
        | some b' =>
          rw [hb] at h
          rw [hb'] at h'
          cases h
          cases h'
          cases hz : p.2.err with
          | none =>
            obtain ⟨q1, q2⟩ := hr.same hz
            rw [← q1] at hb'
            rw [← q2]
            exact ((eq_stmt l n).block m _ b.1 b.2 b'.1 b'.2 hb hb').map fun x => (⟨(headP l s).1, p.1, x⟩ : PFun)
          | some z =>
            have k1 : p.2.err ≠ none := by rw [hz]; simp
            have k2 : p'.2.err ≠ none := by rw [← hr.err]; exact k1
            have q1 := blockF_err k1 hb
            have q2 := blockR_err k2 hb'
            rw [q1, q2]
            exact ⟨hr.err, fun e => absurd e k1⟩
theorem parseF_err {l : List Tok} {n : Nat} {fs : List PFun} {s : PSt} {r : List PFun × PSt} (he : s.err ≠ none) (h : parseF l n fs s = some r) : r = (fs, s) := by
  cases n with
  | zero => rw [parseF] at h; cases h
  | succ n => rw [parseF, if_neg (fun e => by simp only [Bool.and_eq_true] at e; exact he (none_of e.1))] at h; cases h; rfl
theorem parseR_err {l : List Tok} {n : Nat} {fs : List PFun} {s : PSt} {r : List PFun × PSt} (he : s.err ≠ none) (h : parseR l n fs s = some r) : r = (fs, s) := by
  cases n with
  | zero => rw [parseR] at h; cases h
  | succ n => rw [parseR, if_neg (fun e => by simp only [Bool.and_eq_true] at e; exact he (none_of e.1))] at h; cases h; rfl
theorem eq_parse (l : List Tok) : ∀ (n m : Nat) (fs : List PFun) (s : PSt) (e s1 e' s1'), parseF l n fs s = some (e, s1) → parseR l m fs s = some (e', s1') → RelP e e' s1 s1' := by
  intro n
  induction n with
  | zero => intro m fs s e s1 e' s1' h; rw [parseF] at h; cases h
  | succ n ih =>
    intro m fs s e s1 e' s1' h h'
    rw [parseF] at h
    cases m with
    | zero => rw [parseR] at h'; cases h'
    | succ m =>
      rw [parseR] at h'
      by_cases h1 : (s.err.isNone && decide (s.pos < l.length)) = true
      · rw [if_pos h1] at h h'
        cases hx : funF l n s with
        | none => rw [hx] at h; cases h
        | some p =>
          cases hy : funR l m s with
          | none => rw [hy] at h'; cases h'
          | some p' =>
            rw [hx] at h
            rw [hy] at h'
            simp only at h h'
            have hr := eq_fun (f := p.1) (s1 := p.2) (f' := p'.1) (s1' := p'.2) hx hy
            cases hz : p.2.err with
            | none =>
              obtain ⟨q1, q2⟩ := hr.same hz
              rw [← q1, ← q2] at h'
              exact ih m _ _ e s1 e' s1' h h'
            | some z =>
              have k1 : p.2.err ≠ none := by rw [hz]; simp
              have k2 : p'.2.err ≠ none := by rw [← hr.err]; exact k1
              have q1 := parseF_err k1 h
              have q2 := parseR_err k2 h'
              cases q1
              cases q2
              exact ⟨hr.err, fun e => absurd e k1⟩
      · rw [if_neg h1] at h h'
        cases h
        cases h'
        exact RelP.refl _ _
/-! the reference's program ends -/
theorem tot_namesR (l : List Tok) : ∀ n ps s, s.pos ≤ l.length → l.length - s.pos + 1 ≤ n → ∃ e s', namesR l n ps s = some (e, s') ∧ Went l s s' := by
  intro n
  induction n with
  | zero => intro ps s _ h; omega
  | succ n ih =>
    intro ps s hp hn
    rw [namesR]
    by_cases he : s.err.isNone = true
    · rw [if_pos he]
      have hw := ofP_went (l := l) (x := kName) hp
      have := went_len hw
      by_cases h1 : isP l (ofP l kName s).2 [44] = true
      · rw [if_pos h1]
        obtain ⟨he3, t, -, -, hp3, -⟩ := isP_some h1
        have hs := step_len hp3
        obtain ⟨e2, s2, h3, a2⟩ := ih (ps ++ [(ofP l kName s).1]) (ofP l kName s).2.step hs.1 (by omega)
        exact ⟨_, _, h3, hw.trans ((went_step hp3 he3).trans a2)⟩
      · rw [if_neg h1]
        exact ⟨_, _, rfl, hw.trans (takeP_went hw.hi)⟩
    · rw [if_neg he]
      exact ⟨_, _, rfl, Went.refl hp⟩
theorem tot_funR {l : List Tok} {n : Nat} {s : PSt} (hp : s.pos ≤ l.length) (hn : 40 * (l.length - s.pos) + 6 ≤ n) : ∃ f s', funR l n s = some (f, s') ∧ Adv l s s' := by
  have hh := headP_went (l := l) hp
  have hps : ∃ ps s1, paramsR l n (headP l s).2 = some (ps, s1) ∧ Went l (headP l s).2 s1 := by
    unfold paramsR
    by_cases he : (headP l s).2.err.isNone = true
    · rw [if_pos he]
      by_cases h1 : isP l (headP l s).2 [41] = true
      · rw [if_pos h1]
        obtain ⟨he3, t, -, -, hp3, -⟩ := isP_some h1
        exact ⟨_, _, rfl, went_step hp3 he3⟩
      · rw [if_neg h1]
        have := went_len hh.w
        obtain ⟨e2, s2, h3, a2⟩ := tot_namesR l n [] (headP l s).2 hh.w.hi (by omega)
        exact ⟨_, _, h3, a2⟩
    · rw [if_neg he]
      exact ⟨_, _, rfl, Went.refl hh.w.hi⟩
  obtain ⟨ps, s1, h1, a1⟩ := hps
  unfold funR
  rw [h1]
  simp only
  have := went_len a1
  have := went_len hh.w
  obtain ⟨b, s2, h2, a2⟩ := (tot_stmtR l n).block s1 a1.hi (by omega)
  rw [h2]
  exact ⟨_, _, rfl, hh.then (a1.trans a2.w)⟩
theorem tot_parseR (l : List Tok) : ∀ n fs s, s.pos ≤ l.length → 40 * (l.length - s.pos) + 10 ≤ n → ∃ e s', parseR l n fs s = some (e, s') := by
  intro n
  induction n with
  | zero => intro fs s _ h; omega
  | succ n ih =>
    intro fs s hp hn
    rw [parseR]
    by_cases h1 : (s.err.isNone && decide (s.pos < l.length)) = true
    · rw [if_pos h1]
      have h0 := h1
      simp only [Bool.and_eq_true, decide_eq_true_eq] at h0
      obtain ⟨f, s1, h2, a1⟩ := tot_funR (l := l) (n := n) hp (by omega)
      rw [h2]
      simp only
      cases he1 : s1.err with
      | some z =>
        obtain ⟨n, rfl⟩ : ∃ k, n = k + 1 := ⟨n - 1, by omega⟩
        refine ⟨fs ++ [f], s1, ?_⟩
        rw [parseR, if_neg]
        intro h
        simp only [Bool.and_eq_true] at h
        have := none_of h.1
        rw [he1] at this; cases this
      | none =>
        have hlt := a1.adv he1
        have := a1.w.hi
        exact ih (fs ++ [f]) s1 a1.w.hi (by omega)
    · rw [if_neg h1]
      exact ⟨_, _, rfl⟩
def parseQ (l : List Tok) : List PFun × PSt := (parseR l (40 * l.length + 10) [] s0P).getD ([], s0P)
theorem parseQ_eq (l : List Tok) : parseR l (40 * l.length + 10) [] s0P = some (parseQ l) := by
  obtain ⟨e, s, h⟩ := tot_parseR l (40 * l.length + 10) [] s0P (Nat.zero_le _) (by show 40 * (l.length - 0) + 10 ≤ _; omega)
  unfold parseQ
  rw [h]; rfl
theorem parse_same (l : List Tok) : RelP (parseP l).1 (parseQ l).1 (parseP l).2 (parseQ l).2 := eq_parse l _ _ _ _ _ _ _ _ (parseP_eq l) (parseQ_eq l)
end Go.Proofs.YtpfgimohginbdaaDoor

namespace Go.Proofs.YtpfgimohginbdaaDoor
open Go.RowKit

/-! what the reference's parser makes is not too long -/
inductive BdE (N : Nat) : PExpr → Prop
  | mk (e : PExpr) (h : e.kids.length ≤ N) (hk : ∀ k ∈ e.kids, BdE N k) : BdE N e
inductive BdS (N : Nat) : PStmt → Prop
  | mk (s : PStmt) (he : BdE N s.e) (ht : s.th.length ≤ N) (hl : s.el.length ≤ N) (hts : ∀ k ∈ s.th, BdS N k) (hls : ∀ k ∈ s.el, BdS N k) : BdS N s
structure BdF (N : Nat) (f : PFun) : Prop where
  params : f.params.length ≤ N
  body : f.body.length ≤ N
  stmts : ∀ s ∈ f.body, BdS N s
theorem BdE.len {N : Nat} {e : PExpr} (h : BdE N e) : e.kids.length ≤ N := by cases h; assumption
theorem BdE.kid {N : Nat} {e : PExpr} (h : BdE N e) : ∀ k ∈ e.kids, BdE N k := by cases h; assumption
theorem BdE.zero (N : Nat) : BdE N zeroE := ⟨_, Nat.zero_le _, fun k hk => by simp [zeroE] at hk⟩
structure BdRE (l : List Tok) (n : Nat) : Prop where
  expr : ∀ lv s e s', s.pos ≤ l.length → exprR l n lv s = some (e, s') → BdE (l.length + 2) e
  loop : ∀ lv a s e s', s.pos ≤ l.length → BdE (l.length + 2) a → loopR l n lv a s = some (e, s') → BdE (l.length + 2) e
  ahead : ∀ s e s', s.pos ≤ l.length → aheadR l n s = some (e, s') → BdE (l.length + 2) e
  args : ∀ s es s', s.pos ≤ l.length → argsR l n s = some (es, s') → es.length ≤ l.length + 2 ∧ ∀ k ∈ es, BdE (l.length + 2) k
  argl : ∀ ks s es s', s.pos ≤ l.length → ks.length ≤ s.pos → (∀ k ∈ ks, BdE (l.length + 2) k) → argsL l n ks s = some (es, s') → es.length ≤ l.length + 2 ∧ ∀ k ∈ es, BdE (l.length + 2) k
theorem bd_exprR (l : List Tok) : ∀ n, BdRE l n := by
  intro n
  induction n with
  | zero =>
    refine ⟨?_, ?_, ?_, ?_, ?_⟩
    · intro lv s e s' _ h; rw [exprR] at h; cases h
    · intro lv a s e s' _ _ h; rw [loopR] at h; cases h
    · intro s e s' _ h; rw [aheadR] at h; cases h
    · intro s e s' _ h; rw [argsR] at h; cases h
    · intro ks s e s' _ _ _ h; rw [argsL] at h; cases h
  | succ n ih =>
    have W := went_exprR l n
    refine ⟨?_, ?_, ?_, ?_, ?_⟩
    · intro lv s e s' hp h
      rw [exprR] at h
      cases hx : aheadR l n s with
      | none => rw [hx] at h; cases h
      | some p =>
        obtain ⟨e1, s1⟩ := p
        rw [hx] at h
        exact ih.loop lv e1 s1 e s' (W.ahead s e1 s1 hp hx).hi (ih.ahead s e1 s1 hp hx) h
    · intro lv a s e s' hp ha h
      rw [loopR] at h
      by_cases ho : leB lv (levR l s) = true
      · rw [if_pos ho] at h
        obtain ⟨-, -, -, -, -, -, -, -, hlt⟩ := lev_some ho
        cases hx : exprR l n ((levR l s).getD 0 + 1) s.step with
        | none => rw [hx] at h; cases h
        | some p =>
          obtain ⟨e1, s1⟩ := p
          rw [hx] at h
          have hs : s.step.pos ≤ l.length := hlt
          refine ih.loop lv _ s1 e s' (W.expr _ _ e1 s1 hs hx).hi ⟨_, by show 2 ≤ _; omega, fun k hk => ?_⟩ h
          have h1 := ih.expr _ _ e1 s1 hs hx
          simp only [List.mem_cons, List.not_mem_nil, or_false] at hk
          rcases hk with rfl | rfl
          · exact ha
          · exact h1
      · rw [if_neg ho] at h
        cases h; exact ha
    · intro s e s' hp h
      rw [aheadR] at h
      split at h
      · rename_i ho
        split at h
        · rename_i hn
          have hlt : s.pos < l.length := by
            rcases ho with ho | ho
            · obtain ⟨-, t, -, -, hp, -⟩ := isP_some ho; exact hp
            · obtain ⟨-, t, -, -, hp, -⟩ := isP_some ho; exact hp
          cases hx : aheadR l n (nestP s).step with
          | none => rw [hx] at h; cases h
          | some p =>
            rw [hx] at h
            cases h
            refine ⟨_, by show 1 ≤ _; omega, fun k hk => ?_⟩
            simp only [List.mem_cons, List.not_mem_nil, or_false] at hk
            subst hk
            exact ih.ahead _ _ _ (nest_len hlt).1 hx
        · cases h; exact BdE.zero _
      · split at h
        · rename_i ho
          obtain ⟨-, t, -, -, hlt, -⟩ := isP_some ho
          split at h
          · cases hx : exprR l n 0 (nestP s).step with
            | none => rw [hx] at h; cases h
            | some p =>
              rw [hx] at h
              cases h
              exact ih.expr _ _ _ _ (nest_len hlt).1 hx
          · cases h; exact BdE.zero _
        · split at h
          · cases h; exact ⟨_, Nat.zero_le _, fun k hk => absurd hk List.not_mem_nil⟩
          · split at h
            · rename_i ho
              obtain ⟨-, t, -, -, hlt, -⟩ := isP_some ho
              split at h
              · cases hx : argsR l n (nestP (ofP l kName s).2).step with
                | none => rw [hx] at h; cases h
                | some p =>
                  rw [hx] at h
                  cases h
                  have := ih.args _ _ _ (nest_len hlt).1 hx
                  exact ⟨_, this.1, this.2⟩
              · cases h; exact BdE.zero _
            · cases h; exact ⟨_, Nat.zero_le _, fun k hk => absurd hk List.not_mem_nil⟩
    · intro s es s' hp h
      rw [argsR] at h
      split at h
      · cases h; exact ⟨Nat.zero_le _, fun k hk => absurd hk List.not_mem_nil⟩
      · exact ih.argl [] s es s' hp (Nat.zero_le _) (fun k hk => absurd hk List.not_mem_nil) h
    · intro ks s es s' hp hl hk h
      rw [argsL] at h
      split at h
      · cases hx : exprR l n 0 s with
        | none => rw [hx] at h; cases h
        | some p =>
          obtain ⟨e1, s1⟩ := p
          rw [hx] at h
          dsimp only at h
          have w1 := W.expr 0 s e1 s1 hp hx
          have hk1 : ∀ k ∈ ks ++ [e1], BdE (l.length + 2) k := fun k hm => by
            rcases List.mem_append.1 hm with q | q
            · exact hk k q
            · rw [List.mem_singleton.1 q]; exact ih.expr 0 s e1 s1 hp hx
          have h1 := w1.lo
          split at h
          · rename_i ho
            obtain ⟨-, t, -, -, hlt, -⟩ := isP_some ho
            exact ih.argl (ks ++ [e1]) s1.step es s' hlt (by rw [List.length_append, List.length_singleton]; show _ ≤ s1.pos + 1; omega) hk1 h
          · cases h
            exact ⟨by rw [List.length_append, List.length_singleton]; omega, hk1⟩
      · cases h
        exact ⟨by omega, hk⟩
theorem bd_assignR {l : List Tok} {n : Nat} {kind : List UInt8} {s s' : PSt} {x : PStmt} (hp : s.pos ≤ l.length) (h : assignR l n kind s = some (x, s')) : BdS (l.length + 2) x := by
  unfold assignR at h
  have a1 := ofP_adv (x := kName) hp
  have a2 := a1.then (takeP_went (x := [61]) a1.w.hi)
  cases hx : exprR l n 0 (takeP l [61] (ofP l kName s).2) with
  | none => rw [hx] at h; cases h
  | some p =>
    rw [hx] at h
    cases h
    exact ⟨_, (bd_exprR l n).expr _ _ _ _ a2.w.hi hx, Nat.zero_le _, Nat.zero_le _, fun k hk => absurd hk List.not_mem_nil, fun k hk => absurd hk List.not_mem_nil⟩
theorem bd_tellR {l : List Tok} {n : Nat} {kind : List UInt8} {s s' : PSt} {x : PStmt} (hp : s.pos < l.length) (h : tellR l n kind s = some (x, s')) : BdS (l.length + 2) x := by
  unfold tellR at h
  cases hx : exprR l n 0 s.step with
  | none => rw [hx] at h; cases h
  | some p =>
    rw [hx] at h
    cases h
    exact ⟨_, (bd_exprR l n).expr _ _ _ _ (step_len hp).1 hx, Nat.zero_le _, Nat.zero_le _, fun k hk => absurd hk List.not_mem_nil, fun k hk => absurd hk List.not_mem_nil⟩
structure BdRS (l : List Tok) (n : Nat) : Prop where
  block : ∀ s e s', s.pos ≤ l.length → blockR l n s = some (e, s') → e.length ≤ l.length + 2 ∧ ∀ k ∈ e, BdS (l.length + 2) k
  stmts : ∀ ss s e s', s.pos ≤ l.length → ss.length ≤ l.length + 1 → (s.err = none → ss.length ≤ s.pos) → (∀ k ∈ ss, BdS (l.length + 2) k) → stmtsR l n ss s = some (e, s') → e.length ≤ l.length + 2 ∧ ∀ k ∈ e, BdS (l.length + 2) k
  stmt : ∀ s e s', s.pos ≤ l.length → s.err = none → stmtR l n s = some (e, s') → BdS (l.length + 2) e
  branch : ∀ k s e s', s.pos < l.length → s.err = none → branchR l n k s = some (e, s') → BdS (l.length + 2) e
theorem bd_stmtR (l : List Tok) : ∀ n, BdRS l n := by
  intro n
  induction n with
  | zero =>
    refine ⟨?_, ?_, ?_, ?_⟩
    · intro s e s' _ h; rw [blockR] at h; cases h
    · intro ss s e s' _ _ _ _ h; rw [stmtsR] at h; cases h
    · intro s e s' _ _ h; rw [stmtR] at h; cases h
    · intro k s e s' _ _ h; rw [branchR] at h; cases h
  | succ n ih =>
    have W := adv_stmtR l n
    refine ⟨?_, ?_, ?_, ?_⟩
    · intro s e s' hp h
      rw [blockR] at h
      split at h
      · rename_i ho
        obtain ⟨-, t, -, -, hlt, -⟩ := isP_some ho
        split at h
        · cases hx : stmtsR l n [] (nestP s).step with
          | none => rw [hx] at h; cases h
          | some p =>
            rw [hx] at h
            cases h
            exact ih.stmts [] _ _ _ (nest_len hlt).1 (Nat.zero_le _) (fun _ => Nat.zero_le _) (fun k hk => absurd hk List.not_mem_nil) hx
        · cases h; exact ⟨Nat.zero_le _, fun k hk => absurd hk List.not_mem_nil⟩
      · cases h; exact ⟨Nat.zero_le _, fun k hk => absurd hk List.not_mem_nil⟩
    · intro ss s e s' hp hl h0 hk h
      rw [stmtsR] at h
      split at h
      · rename_i he
        have he := none_of he
        have h00 := h0 he
        split at h
        · cases h; exact ⟨by omega, hk⟩
        · cases hx : stmtR l n s with
          | none => rw [hx] at h; cases h
          | some p =>
            obtain ⟨x, s1⟩ := p
            rw [hx] at h
            have w1 := W.stmt s x s1 hp he hx
            refine ih.stmts (ss ++ [x]) s1 e s' w1.w.hi (by rw [List.length_append, List.length_singleton]; omega) (fun e1 => ?_) (fun k hm => ?_) h
            · have := w1.adv e1
              rw [List.length_append, List.length_singleton]; omega
            · rcases List.mem_append.1 hm with q | q
              · exact hk k q
              · rw [List.mem_singleton.1 q]; exact ih.stmt s x s1 hp he hx
      · cases h; exact ⟨by omega, hk⟩
    · intro s e s' hp he h
      rw [stmtR] at h
      split at h
      · rename_i ho
        obtain ⟨-, t, -, -, hlt, -⟩ := isP_some ho
        exact ih.branch _ s e s' hlt he h
      · split at h
        · rename_i ho
          obtain ⟨-, t, -, -, hlt, -⟩ := isP_some ho
          exact ih.branch _ s e s' hlt he h
        · split at h
          · rename_i ho
            obtain ⟨-, t, -, -, hlt, -⟩ := isP_some ho
            exact bd_tellR hlt h
          · split at h
            · rename_i ho
              obtain ⟨-, t, -, -, hlt, -⟩ := isP_some ho
              exact bd_tellR hlt h
            · split at h
              · rename_i ho
                obtain ⟨-, t, -, -, hlt, -⟩ := isP_some ho
                exact bd_assignR (s := s.step) hlt h
              · exact bd_assignR hp h
    · intro k s e s' hp he h
      rw [branchR] at h
      have hs := step_len hp
      cases hx : exprR l n 0 s.step with
      | none => rw [hx] at h; cases h
      | some p =>
        obtain ⟨e1, s1⟩ := p
        rw [hx] at h
        dsimp only at h
        have w1 := (went_exprR l n).expr 0 _ e1 s1 hs.1 hx
        have b1 := (bd_exprR l n).expr 0 _ e1 s1 hs.1 hx
        cases hy : blockR l n s1 with
        | none => rw [hy] at h; cases h
        | some p =>
          obtain ⟨th, s2⟩ := p
          rw [hy] at h
          dsimp only at h
          have w2 := W.block s1 th s2 w1.hi hy
          have b2 := ih.block s1 th s2 w1.hi hy
          split at h
          · rename_i ho
            obtain ⟨-, t, -, -, hlt, -⟩ := isP_some (Bool.and_eq_true _ _ ▸ ho : _ ∧ _).2
            cases hz : blockR l n s2.step with
            | none => rw [hz] at h; cases h
            | some p =>
              rw [hz] at h
              cases h
              have b3 := ih.block s2.step _ _ hlt hz
              exact ⟨_, b1, b2.1, b3.1, b2.2, b3.2⟩
          · cases h
            exact ⟨_, b1, b2.1, Nat.zero_le _, b2.2, fun k hk => absurd hk List.not_mem_nil⟩
theorem bd_namesR {l : List Tok} : ∀ n ps s e s', s.pos ≤ l.length → ps.length ≤ s.pos → namesR l n ps s = some (e, s') → e.length ≤ l.length + 2
  | 0, ps, s, e, s', _, _, h => by rw [namesR] at h; cases h
  | n + 1, ps, s, e, s', hp, hl, h => by
    rw [namesR] at h
    split at h
    · have w1 := ofP_went (x := kName) hp
      split at h
      · rename_i ho
        obtain ⟨-, t, -, -, hlt, -⟩ := isP_some ho
        refine bd_namesR n (ps ++ [(ofP l kName s).1]) (ofP l kName s).2.step e s' hlt ?_ h
        have := w1.lo
        rw [List.length_append, List.length_singleton]
        show _ ≤ (ofP l kName s).2.pos + 1
        omega
      · cases h
        rw [List.length_append, List.length_singleton]; omega
    · cases h; omega
theorem bd_funR {l : List Tok} {n : Nat} {s s' : PSt} {f : PFun} (hp : s.pos ≤ l.length) (h : funR l n s = some (f, s')) : BdF (l.length + 2) f := by
  have hh := headP_went (l := l) hp
  unfold funR at h
  cases hq : paramsR l n (headP l s).2 with
  | none => rw [hq] at h; cases h
  | some p =>
    obtain ⟨ps, s1⟩ := p
    rw [hq] at h
    dsimp only at h
    have a1 := hh.then (params_wentR hh.w.hi hq)
    cases hx : blockR l n s1 with
    | none => rw [hx] at h; cases h
    | some q =>
      obtain ⟨b, s2⟩ := q
      rw [hx] at h
      cases h
      have b2 := (bd_stmtR l n).block _ _ _ a1.w.hi hx
      refine ⟨?_, b2.1, b2.2⟩
      show ps.length ≤ _
      unfold paramsR at hq
      split at hq
      · split at hq
        · cases hq; exact Nat.zero_le _
        · exact bd_namesR n [] _ _ _ hh.w.hi (Nat.zero_le _) hq
      · cases hq; exact Nat.zero_le _
theorem bd_parseR {l : List Tok} : ∀ n fs s e s', s.pos ≤ l.length → fs.length ≤ l.length + 1 → (s.err = none → fs.length ≤ s.pos) → (∀ f ∈ fs, BdF (l.length + 2) f) → parseR l n fs s = some (e, s') → e.length ≤ l.length + 2 ∧ ∀ f ∈ e, BdF (l.length + 2) f
  | 0, fs, s, e, s', _, _, _, _, h => by rw [parseR] at h; cases h
  | n + 1, fs, s, e, s', hp, hl, h0, hk, h => by
    rw [parseR] at h
    split at h
    · rename_i ho
      simp only [Bool.and_eq_true, decide_eq_true_eq] at ho
      have he := none_of ho.1
      have hlt := ho.2
      have h00 := h0 he
      cases hx : funR l n s with
      | none => rw [hx] at h; cases h
      | some p =>
        obtain ⟨f, s1⟩ := p
        rw [hx] at h
        have w1 := fun_advR hp hx
        refine bd_parseR n (fs ++ [f]) s1 e s' w1.w.hi (by rw [List.length_append, List.length_singleton]; omega) (fun e1 => ?_) (fun k hm => ?_) h
        · have := w1.adv e1
          rw [List.length_append, List.length_singleton]; omega
        · rcases List.mem_append.1 hm with q | q
          · exact hk k q
          · rw [List.mem_singleton.1 q]; exact bd_funR hp hx
    · cases h; exact ⟨by omega, hk⟩
theorem bd_parseQ (l : List Tok) : (parseQ l).1.length ≤ l.length + 2 ∧ ∀ f ∈ (parseQ l).1, BdF (l.length + 2) f :=
  bd_parseR _ [] s0P _ _ (Nat.zero_le _) (Nat.zero_le _) (fun _ => Nat.zero_le _) (fun f hf => absurd hf List.not_mem_nil) (parseQ_eq l)
end Go.Proofs.YtpfgimohginbdaaDoor

namespace Go.Proofs.YtpfgimohginbdaaDoor
open Go.RowKit

/-! tokens of a text are as the parsers want them -/
theorem spanL_all {p : UInt8 → Bool} : ∀ l : List UInt8, ∀ x ∈ l.take (spanL p l), p x = true := by
  intro l
  induction l with
  | nil => intro x hx; simp [spanL] at hx
  | cons c l ih =>
    intro x hx
    unfold spanL at hx
    split at hx
    · rename_i hc
      rw [List.take_succ_cons] at hx
      rcases List.mem_cons.1 hx with rfl | h
      · exact hc
      · exact ih x h
    · simp at hx
structure TkO (t : Tok) : Prop where
  num : t.kind = kNumber → 0 < t.text.length ∧ t.text.length ≤ 18 ∧ ∀ x ∈ t.text, 48 ≤ x.toNat ∧ x.toNat ≤ 57
  nam : t.kind = kName → t.text ≠ []
  sgn : t.kind = kSign → t.text ∉ wordsB
  wrd : t.kind = kWord → t.text ∈ wordsB
  brn : t.kind = kName → t.text ≠ [123] ∧ t.text ≠ [125]
theorem any_mem {x : List UInt8} {l : List (List UInt8)} (h : l.any (fun y => y == x) = true) : x ∈ l := by
  rw [List.any_eq_true] at h
  obtain ⟨y, hy, he⟩ := h
  rw [beq_iff_eq] at he
  subst he
  exact hy
theorem twos_words : ∀ x ∈ twosB, x ∉ wordsB := by decide
theorem words_len : ∀ x ∈ wordsB, 2 ≤ x.length := by decide
theorem tokAt_ok (c : UInt8) (r : List UInt8) (k : Nat) (ht : (tokAt (c :: r)).2.2 = true) : TkO ⟨(tokAt (c :: r)).1, (c :: r).take (tokAt (c :: r)).2.1, k⟩ := by
  cases h : isLetter c
  · cases hd : isDigit c
    · rw [tokAt_sign c r h hd] at ht ⊢
      refine ⟨fun e => absurd (show kSign = kNumber from e) (by decide), fun e => absurd (show kSign = kName from e) (by decide), fun _ => ?_, fun e => absurd (show kSign = kWord from e) (by decide), fun e => absurd (show kSign = kName from e) (by decide)⟩
      show (c :: r).take (if _ then 2 else 1) ∉ wordsB
      cases hb : twosB.any (fun x => x == (c :: r).take 2)
      · rw [if_neg (by decide)]
        intro hm
        have := words_len _ hm
        simp at this
      · rw [if_pos rfl]
        exact twos_words _ (any_mem hb)
    · rw [tokAt_digit c r h hd] at ht ⊢
      refine ⟨fun _ => ?_, fun e => absurd (show kNumber = kName from e) (by decide), fun e => absurd (show kNumber = kSign from e) (by decide), fun e => absurd (show kNumber = kWord from e) (by decide), fun e => absurd (show kNumber = kName from e) (by decide)⟩
      have h1 : 0 < spanL isDigit (c :: r) := spanL_pos hd
      have h2 := spanL_le isDigit (c :: r)
      have h3 : spanL isDigit (c :: r) ≤ 18 := by
        have ht' : numL c (c :: r) (spanL isDigit (c :: r)) = true := ht
        unfold numL at ht'
        simp only [Bool.and_eq_true, decide_eq_true_eq] at ht'
        exact ht'.1.1
      refine ⟨?_, ?_, fun x hx => ?_⟩
      · show 0 < ((c :: r).take (spanL isDigit (c :: r))).length
        rw [List.length_take]; omega
      · show ((c :: r).take (spanL isDigit (c :: r))).length ≤ 18
        rw [List.length_take]; omega
      · have := spanL_all (c :: r) x hx
        unfold isDigit at this
        simp only [Bool.and_eq_true, decide_eq_true_eq] at this
        omega
  · rw [tokAt_letter c r h] at ht ⊢
    have h1 : 0 < spanL alnum (c :: r) := spanL_pos (by unfold alnum; rw [h]; rfl)
    have h2 := spanL_le alnum (c :: r)
    have hne : (c :: r).take (spanL alnum (c :: r)) ≠ [] := by
      intro e
      have := congrArg List.length e
      rw [List.length_take] at this
      simp only [List.length_nil] at this
      omega
    have hbr : (c :: r).take (spanL alnum (c :: r)) ≠ [123] ∧ (c :: r).take (spanL alnum (c :: r)) ≠ [125] := by
      have hc : ∃ y, (c :: r).take (spanL alnum (c :: r)) = c :: y := by
        cases hs : spanL alnum (c :: r) with
        | zero => omega
        | succ n => exact ⟨_, List.take_succ_cons⟩
      obtain ⟨y, hy⟩ := hc
      rw [hy]
      constructor
      · intro e
        injection e with e _
        subst e
        revert h; decide
      · intro e
        injection e with e _
        subst e
        revert h; decide
    cases hb : wordsB.any (fun x => x == (c :: r).take (spanL alnum (c :: r)))
    · refine ⟨fun e => ?_, fun _ => hne, fun e => ?_, fun e => ?_, fun e => ?_⟩
      · simp at e; exact absurd e (by decide)
      · simp at e; exact absurd e (by decide)
      · simp at e; exact absurd e (by decide)
      · exact hbr
    · refine ⟨fun e => ?_, fun _ => hne, fun e => ?_, fun _ => any_mem hb, fun e => hbr⟩
      · simp at e; exact absurd e (by decide)
      · simp at e; exact absurd e (by decide)
theorem lexA_ok : ∀ (n : Nat) (l : List UInt8) (k : Nat), l.length ≤ n → ∀ t ∈ (lexA l k).1, TkO t := by
  intro n
  induction n with
  | zero =>
    intro l k h t ht
    have : l = [] := List.length_eq_zero_iff.1 (by omega)
    subst this
    rw [lexA_nil [] k rfl] at ht
    exact absurd ht List.not_mem_nil
  | succ n ih =>
    intro l k h t ht
    cases hr : l.drop (spanL isBlank l) with
    | nil => rw [lexA_nil l k hr] at ht; exact absurd ht List.not_mem_nil
    | cons c r =>
      cases hq : (tokAt (c :: r)).2.2
      · rw [lexA_bad l k c r hr hq] at ht; exact absurd ht List.not_mem_nil
      · have hb := tokAt_bounds c r
        have hl : (c :: r).length ≤ l.length := by rw [← hr, List.length_drop]; omega
        rw [lexA_tok l k c r hr hq] at ht
        rcases List.mem_cons.1 ht with rfl | h1
        · exact tokAt_ok c r _ hq
        · exact ih _ _ (by rw [List.length_drop]; omega) t h1
end Go.Proofs.YtpfgimohginbdaaDoor
