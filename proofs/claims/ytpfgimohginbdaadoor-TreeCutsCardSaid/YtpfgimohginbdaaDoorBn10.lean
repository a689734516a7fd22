import Derived.Test.YtpfgimohginbdaaDoorBn5
set_option linter.unusedVariables false
set_option linter.unusedSimpArgs false
namespace Go.Proofs.YtpfgimohginbdaaDoor
open Go.RowKit

/-! what a piece of parsing does, with any fuel -/
structure WentE (l : List Tok) (n : Nat) : Prop where
  expr : ∀ lv s e s', s.pos ≤ l.length → exprF l n lv s = some (e, s') → Went l s s'
  ops : ∀ lv a s e s', s.pos ≤ l.length → opsF l n lv a s = some (e, s') → Went l s s'
  one : ∀ s e s', s.pos ≤ l.length → oneF l n s = some (e, s') → Went l s s'
  atom : ∀ s e s', s.pos ≤ l.length → atomF l n s = some (e, s') → Went l s s'
  inner : ∀ s e s', s.pos < l.length → s.err = none → innerF l n s = some (e, s') → Went l s s'
  list : ∀ s e s', s.pos ≤ l.length → listF l n s = some (e, s') → Went l s s'
  args : ∀ ks s e s', s.pos ≤ l.length → argsF l n ks s = some (e, s') → Went l s s'
theorem went_expr (l : List Tok) : ∀ n, WentE l n := by
  intro n
  induction n with
  | zero =>
    refine ⟨?_, ?_, ?_, ?_, ?_, ?_, ?_⟩
    · intro lv s e s' _ h; rw [exprF] at h; cases h
    · intro lv a s e s' _ h; rw [opsF] at h; cases h
    · intro s e s' _ h; rw [oneF] at h; cases h
    · intro s e s' _ h; rw [atomF] at h; cases h
    · intro s e s' _ _ h; rw [innerF] at h; cases h
    · intro s e s' _ h; rw [listF] at h; cases h
    · intro ks s e s' _ h; rw [argsF] at h; cases h
  | succ n ih =>
    refine ⟨fun lv s e s' hp h => ?_, fun lv a s e s' hp h => ?_, fun s e s' hp h => ?_, fun s e s' hp h => ?_, fun s e s' hp he h => ?_, fun s e s' hp h => ?_, fun ks s e s' hp h => ?_⟩
    · rw [exprF] at h
      by_cases h8 : lv = 8
      · rw [if_pos h8] at h
        exact ih.one s e s' hp h
      · rw [if_neg h8] at h
        cases hx : exprF l n (lv + 1) s with
        | none => rw [hx] at h; cases h
        | some p =>
          rw [hx] at h
          have a1 := ih.expr _ _ p.1 p.2 hp hx
          exact a1.trans (ih.ops _ _ _ _ _ a1.hi h)
    · rw [opsF] at h
      by_cases ho : opP l lv s = true
      · rw [if_pos ho] at h
        obtain ⟨he, t, -, -, -, hlt⟩ := opP_some ho
        cases hx : exprF l n (lv + 1) s.step with
        | none => rw [hx] at h; cases h
        | some p =>
          rw [hx] at h
          have a1 := ih.expr _ _ p.1 p.2 (step_len hlt).1 hx
          exact (went_step hlt he).trans (a1.trans (ih.ops _ _ _ _ _ a1.hi h))
      · rw [if_neg ho] at h
        cases h
        exact Went.refl hp
    · rw [oneF] at h
      by_cases ho : isP l s [45] = true ∨ isP l s [33] = true
      · rw [if_pos ho] at h
        have hx : s.err = none ∧ s.pos < l.length := by
          rcases ho with ho | ho
          · obtain ⟨e, t, -, -, hp, -⟩ := isP_some ho; exact ⟨e, hp⟩
          · obtain ⟨e, t, -, -, hp, -⟩ := isP_some ho; exact ⟨e, hp⟩
        by_cases hne : (nestP s).err.isNone = true
        · rw [if_pos hne] at h
          cases hx2 : oneF l n (nestP s).step with
          | none => rw [hx2] at h; cases h
          | some p =>
            rw [hx2] at h
            have a1 := ih.one _ p.1 p.2 (nest_len hx.2).1 hx2
            cases h
            exact nest_went (none_of hne) a1
        · rw [if_neg hne] at h
          cases h
          exact nest_bad hp hx.1 (some_of hne)
      · rw [if_neg ho] at h
        exact ih.atom s e s' hp h
    · rw [atomF] at h
      by_cases h0 : (s.err.isNone && decide (s.pos < l.length)) = true
      · rw [if_pos h0] at h
        simp only [Bool.and_eq_true, decide_eq_true_eq] at h0
        have he := none_of h0.1
        have hlt := h0.2
        by_cases h1 : isP l s [40] = true
        · rw [if_pos h1] at h
          exact ih.inner s e s' hlt he h
        · rw [if_neg h1] at h
          by_cases h2 : ofB l kNumber s = true
          · rw [if_pos h2] at h
            cases h
            exact went_step hlt he
          · rw [if_neg h2] at h
            have ha := ofP_went (x := kName) hp
            by_cases h3 : isP l (ofP l kName s).2 [40] = true
            · rw [if_pos h3] at h
              obtain ⟨he3, t, -, -, hp3, -⟩ := isP_some h3
              by_cases h4 : (nestP (ofP l kName s).2).err.isNone = true
              · rw [if_pos h4] at h
                cases hx : listF l n (nestP (ofP l kName s).2).step with
                | none => rw [hx] at h; cases h
                | some p =>
                  rw [hx] at h
                  have a1 := ih.list _ p.1 p.2 (nest_len hp3).1 hx
                  cases h
                  exact ha.trans (nest_went (none_of h4) a1)
              · rw [if_neg h4] at h
                cases h
                exact ha.trans (nest_bad ha.hi he3 (some_of h4))
            · rw [if_neg h3] at h
              cases h
              exact ha
      · rw [if_neg h0] at h
        cases h
        exact Went.fail hp
    · rw [innerF] at h
      by_cases hne : (nestP s).err.isNone = true
      · rw [if_pos hne] at h
        cases hx : exprF l n 0 (nestP s).step with
        | none => rw [hx] at h; cases h
        | some p =>
          rw [hx] at h
          have a1 := ih.expr 0 _ p.1 p.2 (nest_len hp).1 hx
          cases h
          exact nest_went (none_of hne) (a1.trans (takeP_went a1.hi))
      · rw [if_neg hne] at h
        cases h
        exact nest_bad (by omega) he (some_of hne)
    · rw [listF] at h
      by_cases h1 : isP l s [41] = true
      · rw [if_pos h1] at h
        obtain ⟨he3, t, -, -, hp3, -⟩ := isP_some h1
        cases h
        exact went_step hp3 he3
      · rw [if_neg h1] at h
        cases hx : exprF l n 0 s with
        | none => rw [hx] at h; cases h
        | some p =>
          rw [hx] at h
          have a1 := ih.expr 0 _ p.1 p.2 hp hx
          exact a1.trans (ih.args _ _ _ _ a1.hi h)
    · rw [argsF] at h
      by_cases h1 : isP l s [44] = true
      · rw [if_pos h1] at h
        obtain ⟨he3, t, -, -, hp3, -⟩ := isP_some h1
        cases hx : exprF l n 0 s.step with
        | none => rw [hx] at h; cases h
        | some p =>
          rw [hx] at h
          have a1 := ih.expr 0 _ p.1 p.2 (step_len hp3).1 hx
          exact (went_step hp3 he3).trans (a1.trans (ih.args _ _ _ _ a1.hi h))
      · rw [if_neg h1] at h
        cases h
        exact takeP_went hp
/-- The numbers of what is parsed are within 64 bits, and there are not many kids. -/
theorem PStOk.went {l : List Tok} {s s' : PSt} (h : PStOk l s) (hw : Went l s s') : PStOk l s' := by
  cases he : s.err with
  | some z =>
    have := hw.old (by rw [he]; simp)
    rw [this]; exact h
  | none =>
    have h1 := hw.bad
    have h2 := h.ok he
    have h3 := h.lo
    exact ⟨hw.hi, by omega, by omega, fun e => by have := (hw.ok e).1; omega⟩
end Go.Proofs.YtpfgimohginbdaaDoor
