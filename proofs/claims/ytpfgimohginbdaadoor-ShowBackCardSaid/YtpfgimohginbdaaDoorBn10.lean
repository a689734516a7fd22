import Derived.Test.YtpfgimohginbdaaDoorBn7
set_option linter.unusedVariables false
set_option linter.unusedSimpArgs false
namespace Go.Proofs.YtpfgimohginbdaaDoor
open Go.RowKit

/-! what a piece of parsing does, with any fuel -/
structure WentE (l : List Tok) (n : Nat) : Prop where
  expr : ∀ lv s e s', s.pos ≤ l.length → exprF l n lv s = some (e, s') → Went l s s'
  ops : ∀ lv a s e s', s.pos ≤ l.length → opsF l n lv a s = some (e, s') → Went l s s'
  one : ∀ s e s', s.pos ≤ l.length → oneF l n s = some (e, s') → Went l s s'
  atom : ∀ s e s', s.pos ≤ l.length → atomF l n s = some (e, s') → Went l s s'
  inner : ∀ s e s', s.pos < l.length → s.err = none → innerF l n s = some (e, s') → Went l s s'
  list : ∀ s e s', s.pos ≤ l.length → listF l n s = some (e, s') → Went l s s'
  args : ∀ ks s e s', s.pos ≤ l.length → argsF l n ks s = some (e, s') → Went l s s'
theorem went_expr (l : List Tok) : ∀ n, WentE l n := by
  intro n
  induction n with
  | zero =>
    refine ⟨?_, ?_, ?_, ?_, ?_, ?_, ?_⟩
    · intro lv s e s' _ h; rw [exprF] at h; cases h
    · intro lv a s e s' _ h; rw [opsF] at h; cases h
    · intro s e s' _ h; rw [oneF] at h; cases h
    · intro s e s' _ h; rw [atomF] at h; cases h
    · intro s e s' _ _ h; rw [innerF] at h; cases h
    · intro s e s' _ h; rw [listF] at h; cases h
    · intro ks s e s' _ h; rw [argsF] at h; cases h
  | succ n ih =>
    refine ⟨fun lv s e s' hp h => ?_, fun lv a s e s' hp h => ?_, fun s e s' hp h => ?_, fun s e s' hp h => ?_, fun s e s' hp he h => ?_, fun s e s' hp h => ?_, fun ks s e s' hp h => ?_⟩
    · rw [exprF] at h
      by_cases h8 : lv = 8
      · rw [if_pos h8] at h
        exact ih.one s e s' hp h
      · rw [if_neg h8] at h
        cases hx : exprF l n (lv + 1) s with
        | none => rw [hx] at h; cases h
        | some p =>
          rw [hx] at h
          have a1 := ih.expr _ _ p.1 p.2 hp hx
          exact a1.trans (ih.ops _ _ _ _ _ a1.hi h)
    · rw [opsF] at h
      by_cases ho : opP l lv s = true
      · rw [if_pos ho] at h
        obtain ⟨he, t, -, -, -, hlt⟩ := opP_some ho
        cases hx : exprF l n (lv + 1) s.step with
        | none => rw [hx] at h; cases h
        | some p =>
          rw [hx] at h
          have a1 := ih.expr _ _ p.1 p.2 (step_len hlt).1 hx
          exact (went_step hlt he).trans (a1.trans (ih.ops _ _ _ _ _ a1.hi h))
      · rw [if_neg ho] at h
        cases h
        exact Went.refl hp
    · rw [oneF] at h
      by_cases ho : isP l s [45] = true ∨ isP l s [33] = true
      · rw [if_pos ho] at h
        have hx : s.err = none ∧ s.pos < l.length := by
          rcases ho with ho | ho
          · obtain ⟨e, t, -, -, hp, -⟩ := isP_some ho; exact ⟨e, hp⟩
          · obtain ⟨e, t, -, -, hp, -⟩ := isP_some ho; exact ⟨e, hp⟩
        by_cases hne : (nestP s).err.isNone = true
        · rw [if_pos hne] at h
          cases hx2 : oneF l n (nestP s).step with
          | none => rw [hx2] at h; cases h
          | some p =>
            rw [hx2] at h
            have a1 := ih.one _ p.1 p.2 (nest_len hx.2).1 hx2
            cases h
            exact nest_went (none_of hne) a1
        · rw [if_neg hne] at h
          cases h
          exact nest_bad hp hx.1 (some_of hne)
      · rw [if_neg ho] at h
        exact ih.atom s e s' hp h
    · rw [atomF] at h
      by_cases h0 : (s.err.isNone && decide (s.pos < l.length)) = true
      · rw [if_pos h0] at h
        simp only [Bool.and_eq_true, decide_eq_true_eq] at h0
        have he := none_of h0.1
        have hlt := h0.2
        by_cases h1 : isP l s [40] = true
        · rw [if_pos h1] at h
          exact ih.inner s e s' hlt he h
        · rw [if_neg h1] at h
          by_cases h2 : ofB l kNumber s = true
          · rw [if_pos h2] at h
            cases h
            exact went_step hlt he
          · rw [if_neg h2] at h
            have ha := ofP_went (x := kName) hp
            by_cases h3 : isP l (ofP l kName s).2 [40] = true
            · rw [if_pos h3] at h
              obtain ⟨he3, t, -, -, hp3, -⟩ := isP_some h3
              by_cases h4 : (nestP (ofP l kName s).2).err.isNone = true
              · rw [if_pos h4] at h
                cases hx : listF l n (nestP (ofP l kName s).2).step with
                | none => rw [hx] at h; cases h
                | some p =>
                  rw [hx] at h
                  have a1 := ih.list _ p.1 p.2 (nest_len hp3).1 hx
                  cases h
                  exact ha.trans (nest_went (none_of h4) a1)
              · rw [if_neg h4] at h
                cases h
                exact ha.trans (nest_bad ha.hi he3 (some_of h4))
            · rw [if_neg h3] at h
              cases h
              exact ha
      · rw [if_neg h0] at h
        cases h
        exact Went.fail hp
    · rw [innerF] at h
      by_cases hne : (nestP s).err.isNone = true
      · rw [if_pos hne] at h
        cases hx : exprF l n 0 (nestP s).step with
        | none => rw [hx] at h; cases h
        | some p =>
          rw [hx] at h
          have a1 := ih.expr 0 _ p.1 p.2 (nest_len hp).1 hx
          cases h
          exact nest_went (none_of hne) (a1.trans (takeP_went a1.hi))
      · rw [if_neg hne] at h
        cases h
        exact nest_bad (by omega) he (some_of hne)
    · rw [listF] at h
      by_cases h1 : isP l s [41] = true
      · rw [if_pos h1] at h
        obtain ⟨he3, t, -, -, hp3, -⟩ := isP_some h1
        cases h
        exact went_step hp3 he3
      · rw [if_neg h1] at h
        cases hx : exprF l n 0 s with
        | none => rw [hx] at h; cases h
        | some p =>
          rw [hx] at h
          have a1 := ih.expr 0 _ p.1 p.2 hp hx
          exact a1.trans (ih.args _ _ _ _ a1.hi h)
    · rw [argsF] at h
      by_cases h1 : isP l s [44] = true
      · rw [if_pos h1] at h
        obtain ⟨he3, t, -, -, hp3, -⟩ := isP_some h1
        cases hx : exprF l n 0 s.step with
        | none => rw [hx] at h; cases h
        | some p =>
          rw [hx] at h
          have a1 := ih.expr 0 _ p.1 p.2 (step_len hp3).1 hx
          exact (went_step hp3 he3).trans (a1.trans (ih.args _ _ _ _ a1.hi h))
      · rw [if_neg h1] at h
        cases h
        exact takeP_went hp
/-- The numbers of what is parsed are within 64 bits, and there are not many kids. -/
theorem PStOk.went {l : List Tok} {s s' : PSt} (h : PStOk l s) (hw : Went l s s') : PStOk l s' := by
  cases he : s.err with
  | some z =>
    have := hw.old (by rw [he]; simp)
    rw [this]; exact h
  | none =>
    have h1 := hw.bad
    have h2 := h.ok he
    have h3 := h.lo
    exact ⟨hw.hi, by omega, by omega, fun e => by have := (hw.ok e).1; omega⟩
end Go.Proofs.YtpfgimohginbdaaDoor

namespace Go.Proofs.YtpfgimohginbdaaDoor
open Go.RowKit

/-! the reference's parser goes on, with any fuel -/
structure WentR (l : List Tok) (n : Nat) : Prop where
  expr : ∀ lv s e s', s.pos ≤ l.length → exprR l n lv s = some (e, s') → Went l s s'
  loop : ∀ lv a s e s', s.pos ≤ l.length → loopR l n lv a s = some (e, s') → Went l s s'
  ahead : ∀ s e s', s.pos ≤ l.length → aheadR l n s = some (e, s') → Went l s s'
  args : ∀ s e s', s.pos ≤ l.length → argsR l n s = some (e, s') → Went l s s'
  argl : ∀ ks s e s', s.pos ≤ l.length → argsL l n ks s = some (e, s') → Went l s s'
theorem went_nest {l : List Tok} {s s1 : PSt} (hp : s.pos < l.length) (he : s.err = none) (hn : (nestP s).err.isNone = true) (h : Went l (nestP s).step s1) : Went l s s1.up := (Adv.nest (none_of hn) h).w
theorem went_exprR (l : List Tok) : ∀ n, WentR l n := by
  intro n
  induction n with
  | zero =>
    refine ⟨?_, ?_, ?_, ?_, ?_⟩
    · intro lv s e s' _ h; rw [exprR] at h; cases h
    · intro lv a s e s' _ h; rw [loopR] at h; cases h
    · intro s e s' _ h; rw [aheadR] at h; cases h
    · intro s e s' _ h; rw [argsR] at h; cases h
    · intro ks s e s' _ h; rw [argsL] at h; cases h
  | succ n ih =>
    refine ⟨?_, ?_, ?_, ?_, ?_⟩
    · intro lv s e s' hp h
      rw [exprR] at h
      cases hx : aheadR l n s with
      | none => rw [hx] at h; cases h
      | some p =>
        rw [hx] at h
        have a1 := ih.ahead s p.1 p.2 hp hx
        exact a1.trans (ih.loop _ _ _ _ _ a1.hi h)
    · intro lv a s e s' hp h
      rw [loopR] at h
      by_cases h1 : leB lv (levR l s) = true
      · rw [if_pos h1] at h
        obtain ⟨he, t, k, -, -, -, -, -, hlt⟩ := lev_some h1
        cases hx : exprR l n ((levR l s).getD 0 + 1) s.step with
        | none => rw [hx] at h; cases h
        | some p =>
          rw [hx] at h
          have a1 := ih.expr _ _ p.1 p.2 (step_len hlt).1 hx
          exact (went_step hlt he).trans (a1.trans (ih.loop _ _ _ _ _ a1.hi h))
      · rw [if_neg h1] at h
        cases h
        exact Went.refl hp
    · intro s e s' hp h
      rw [aheadR] at h
      by_cases h1 : isP l s [45] = true ∨ isP l s [33] = true
      · rw [if_pos h1] at h
        obtain ⟨he, hlt⟩ : s.err = none ∧ s.pos < l.length := by
          rcases h1 with h1 | h1 <;> exact ⟨(isP_some h1).1, (isP_some h1).2.choose_spec.2.2.1⟩
        by_cases hn : (nestP s).err.isNone = true
        · rw [if_pos hn] at h
          cases hx : aheadR l n (nestP s).step with
          | none => rw [hx] at h; cases h
          | some p =>
            rw [hx] at h
            have a1 := ih.ahead _ p.1 p.2 (nest_len hlt).1 hx
            cases h
            exact went_nest hlt he hn a1
        · rw [if_neg hn] at h
          cases h
          exact nest_bad hp he (some_of hn)
      rw [if_neg h1] at h
      by_cases h2 : isP l s [40] = true
      · rw [if_pos h2] at h
        obtain ⟨he, t, -, -, hlt, -⟩ := isP_some h2
        by_cases hn : (nestP s).err.isNone = true
        · rw [if_pos hn] at h
          cases hx : exprR l n 0 (nestP s).step with
          | none => rw [hx] at h; cases h
          | some p =>
            rw [hx] at h
            have a1 := ih.expr _ _ p.1 p.2 (nest_len hlt).1 hx
            cases h
            exact went_nest hlt he hn (a1.trans (takeP_went a1.hi))
        · rw [if_neg hn] at h
          cases h
          exact nest_bad hp he (some_of hn)
      rw [if_neg h2] at h
      by_cases h3 : ofB l kNumber s = true
      · rw [if_pos h3] at h
        obtain ⟨he, t, -, -, hlt⟩ := ofB_some h3
        cases h
        exact went_step hlt he
      rw [if_neg h3] at h
      have a0 := ofP_went (l := l) (x := kName) hp
      by_cases h4 : isP l (ofP l kName s).2 [40] = true
      · rw [if_pos h4] at h
        obtain ⟨he, t, -, -, hlt, -⟩ := isP_some h4
        by_cases hn : (nestP (ofP l kName s).2).err.isNone = true
        · rw [if_pos hn] at h
          cases hx : argsR l n (nestP (ofP l kName s).2).step with
          | none => rw [hx] at h; cases h
          | some p =>
            rw [hx] at h
            have a1 := ih.args _ p.1 p.2 (nest_len hlt).1 hx
            cases h
            exact a0.trans (went_nest hlt he hn a1)
        · rw [if_neg hn] at h
          cases h
          exact a0.trans (nest_bad a0.hi he (some_of hn))
      · rw [if_neg h4] at h
        cases h
        exact a0
    · intro s e s' hp h
      rw [argsR] at h
      by_cases h1 : isP l s [41] = true
      · rw [if_pos h1] at h
        obtain ⟨he, t, -, -, hlt, -⟩ := isP_some h1
        cases h
        exact went_step hlt he
      · rw [if_neg h1] at h
        exact ih.argl _ _ _ _ hp h
    · intro ks s e s' hp h
      rw [argsL] at h
      by_cases h1 : s.err.isNone = true
      · rw [if_pos h1] at h
        cases hx : exprR l n 0 s with
        | none => rw [hx] at h; cases h
        | some p =>
          obtain ⟨e1, s1⟩ := p
          rw [hx] at h
          dsimp only at h
          have a1 := ih.expr 0 s e1 s1 hp hx
          by_cases h2 : isP l s1 [44] = true
          · rw [if_pos h2] at h
            obtain ⟨he, t, -, -, hlt, -⟩ := isP_some h2
            exact a1.trans ((went_step hlt he).trans (ih.argl _ _ _ _ (step_len hlt).1 h))
          · rw [if_neg h2] at h
            cases h
            exact a1.trans (takeP_went a1.hi)
      · rw [if_neg h1] at h
        cases h
        exact Went.refl hp
theorem assign_advR {l : List Tok} {n : Nat} {kind : List UInt8} {s s' : PSt} {x : PStmt} (hp : s.pos ≤ l.length) (h : assignR l n kind s = some (x, s')) : Adv l s s' := by
  unfold assignR at h
  have a1 := ofP_adv (x := kName) hp
  have a2 := a1.then (takeP_went (x := [61]) a1.w.hi)
  cases hx : exprR l n 0 (takeP l [61] (ofP l kName s).2) with
  | none => rw [hx] at h; cases h
  | some p =>
    rw [hx] at h
    have a3 := a2.then ((went_exprR l n).expr 0 _ p.1 p.2 a2.w.hi hx)
    cases h
    exact a3.then (takeP_went a3.w.hi)
theorem tell_advR {l : List Tok} {n : Nat} {kind : List UInt8} {s s' : PSt} {x : PStmt} (hp : s.pos < l.length) (he : s.err = none) (h : tellR l n kind s = some (x, s')) : Adv l s s' := by
  unfold tellR at h
  cases hx : exprR l n 0 s.step with
  | none => rw [hx] at h; cases h
  | some p =>
    rw [hx] at h
    have a3 := (went_exprR l n).expr 0 _ p.1 p.2 (step_len hp).1 hx
    cases h
    exact Adv.step hp he rfl (a3.trans (takeP_went a3.hi))
structure AdvSR (l : List Tok) (n : Nat) : Prop where
  block : ∀ s e s', s.pos ≤ l.length → blockR l n s = some (e, s') → Went l s s'
  stmts : ∀ ss s e s', s.pos ≤ l.length → stmtsR l n ss s = some (e, s') → Went l s s'
  stmt : ∀ s e s', s.pos ≤ l.length → s.err = none → stmtR l n s = some (e, s') → Adv l s s'
  branch : ∀ k s e s', s.pos < l.length → s.err = none → branchR l n k s = some (e, s') → Adv l s s'
theorem adv_stmtR (l : List Tok) : ∀ n, AdvSR l n := by
  intro n
  induction n with
  | zero =>
    refine ⟨?_, ?_, ?_, ?_⟩
    · intro s e s' _ h; rw [blockR] at h; cases h
    · intro ss s e s' _ h; rw [stmtsR] at h; cases h
    · intro s e s' _ _ h; rw [stmtR] at h; cases h
    · intro k s e s' _ _ h; rw [branchR] at h; cases h
  | succ n ih =>
    refine ⟨?_, ?_, ?_, ?_⟩
    · intro s e s' hp h
      rw [blockR] at h
      by_cases h1 : isP l s [123] = true
      · rw [if_pos h1] at h
        obtain ⟨he, t, -, -, hlt, -⟩ := isP_some h1
        by_cases hn : (nestP s).err.isNone = true
        · rw [if_pos hn] at h
          cases hx : stmtsR l n [] (nestP s).step with
          | none => rw [hx] at h; cases h
          | some p =>
            rw [hx] at h
            have a1 := ih.stmts [] _ p.1 p.2 (nest_len hlt).1 hx
            cases h
            exact (Adv.nest (none_of hn) a1).w
        · rw [if_neg hn] at h
          cases h
          exact nest_bad hp he (some_of hn)
      · rw [if_neg h1] at h
        cases h
        exact Went.fail hp
    · intro ss s e s' hp h
      rw [stmtsR] at h
      by_cases h1 : s.err.isNone = true
      · rw [if_pos h1] at h
        by_cases h2 : isP l s [125] = true
        · rw [if_pos h2] at h
          obtain ⟨he, t, -, -, hlt, -⟩ := isP_some h2
          cases h
          exact went_step hlt he
        · rw [if_neg h2] at h
          cases hx : stmtR l n s with
          | none => rw [hx] at h; cases h
          | some p =>
            rw [hx] at h
            have a1 := (ih.stmt s p.1 p.2 hp (none_of h1) hx).w
            exact a1.trans (ih.stmts _ _ _ _ a1.hi h)
      · rw [if_neg h1] at h
        cases h
        exact Went.refl hp
    · intro s e s' hp he h
      rw [stmtR] at h
      by_cases h1 : isP l s zIf = true
      · rw [if_pos h1] at h
        obtain ⟨he, t, -, -, hlt, -⟩ := isP_some h1
        exact ih.branch _ _ _ _ hlt he h
      rw [if_neg h1] at h
      by_cases h2 : isP l s zWhile = true
      · rw [if_pos h2] at h
        obtain ⟨he, t, -, -, hlt, -⟩ := isP_some h2
        exact ih.branch _ _ _ _ hlt he h
      rw [if_neg h2] at h
      by_cases h3 : isP l s zReturn = true
      · rw [if_pos h3] at h
        obtain ⟨he, t, -, -, hlt, -⟩ := isP_some h3
        exact tell_advR hlt he h
      rw [if_neg h3] at h
      by_cases h4 : isP l s zPrint = true
      · rw [if_pos h4] at h
        obtain ⟨he, t, -, -, hlt, -⟩ := isP_some h4
        exact tell_advR hlt he h
      rw [if_neg h4] at h
      by_cases h5 : isP l s zVar = true
      · rw [if_pos h5] at h
        obtain ⟨he, t, -, -, hlt, -⟩ := isP_some h5
        exact Adv.step hlt he rfl (assign_advR (step_len hlt).1 h).w
      · rw [if_neg h5] at h
        exact assign_advR hp h
    · intro k s e s' hlt he h
      rw [branchR] at h
      cases hx : exprR l n 0 s.step with
      | none => rw [hx] at h; cases h
      | some p =>
        obtain ⟨e1, s1⟩ := p
        rw [hx] at h
        dsimp only at h
        have a1 := (went_exprR l n).expr 0 _ e1 s1 (step_len hlt).1 hx
        cases hb : blockR l n s1 with
        | none => rw [hb] at h; cases h
        | some p =>
          obtain ⟨th, s2⟩ := p
          rw [hb] at h
          dsimp only at h
          have a2 := a1.trans (ih.block _ th s2 a1.hi hb)
          by_cases h1 : ((k == zIf) && isP l s2 zElse) = true
          · rw [if_pos h1] at h
            simp only [Bool.and_eq_true] at h1
            obtain ⟨he2, t, -, -, hlt2, -⟩ := isP_some h1.2
            cases hc : blockR l n s2.step with
            | none => rw [hc] at h; cases h
            | some p =>
              rw [hc] at h
              have a3 := ih.block _ p.1 p.2 (step_len hlt2).1 hc
              cases h
              exact Adv.step hlt he rfl (a2.trans ((went_step hlt2 he2).trans a3))
          · rw [if_neg h1] at h
            cases h
            exact Adv.step hlt he rfl a2
theorem names_wentR {l : List Tok} : ∀ n ps s e s', s.pos ≤ l.length → namesR l n ps s = some (e, s') → Went l s s'
  | 0, ps, s, e, s', _, h => by rw [namesR] at h; cases h
  | n + 1, ps, s, e, s', hp, h => by
    rw [namesR] at h
    by_cases h1 : s.err.isNone = true
    · rw [if_pos h1] at h
      have a1 := ofP_went (x := kName) hp
      by_cases h2 : isP l (ofP l kName s).2 [44] = true
      · rw [if_pos h2] at h
        obtain ⟨he, t, -, -, hlt, -⟩ := isP_some h2
        exact a1.trans ((went_step hlt he).trans (names_wentR n _ _ e s' (step_len hlt).1 h))
      · rw [if_neg h2] at h
        cases h
        exact a1.trans (takeP_went a1.hi)
    · rw [if_neg h1] at h
      cases h
      exact Went.refl hp
theorem params_wentR {l : List Tok} {n : Nat} {s s' : PSt} {e : List (List UInt8)} (hp : s.pos ≤ l.length) (h : paramsR l n s = some (e, s')) : Went l s s' := by
  unfold paramsR at h
  by_cases h0 : s.err.isNone = true
  · rw [if_pos h0] at h
    by_cases h1 : isP l s [41] = true
    · rw [if_pos h1] at h
      obtain ⟨he, t, -, -, hlt, -⟩ := isP_some h1
      cases h
      exact went_step hlt he
    · rw [if_neg h1] at h
      exact names_wentR n _ _ e s' hp h
  · rw [if_neg h0] at h
    cases h
    exact Went.refl hp
theorem fun_advR {l : List Tok} {n : Nat} {s s' : PSt} {f : PFun} (hp : s.pos ≤ l.length) (h : funR l n s = some (f, s')) : Adv l s s' := by
  have hh := headP_went (l := l) hp
  unfold funR at h
  cases hq : paramsR l n (headP l s).2 with
  | none => rw [hq] at h; cases h
  | some p =>
    rw [hq] at h
    dsimp only at h
    have a1 := hh.then (params_wentR hh.w.hi hq)
    cases hx : blockR l n p.2 with
    | none => rw [hx] at h; cases h
    | some q =>
      rw [hx] at h
      have a2 := (adv_stmtR l n).block _ q.1 q.2 a1.w.hi hx
      cases h
      exact a1.then a2
end Go.Proofs.YtpfgimohginbdaaDoor
