import Derived.Test.YtpfgimohginbdaaDoorBn10
set_option linter.unusedVariables false
set_option linter.unusedSimpArgs false
namespace Go.Proofs.YtpfgimohginbdaaDoor
open Go.RowKit

/-! statements go on, with any fuel -/
theorem assign_adv {l : List Tok} {n : Nat} {kind : List UInt8} {s s' : PSt} {x : PStmt} (hp : s.pos ≤ l.length) (h : assignF l n kind s = some (x, s')) : Adv l s s' := by
  unfold assignF at h
  have a1 := ofP_adv (x := kName) hp
  have a2 := a1.then (takeP_went (x := [61]) a1.w.hi)
  cases hx : exprF l n 0 (takeP l [61] (ofP l kName s).2) with
  | none => rw [hx] at h; cases h
  | some p =>
    rw [hx] at h
    have a3 := a2.then ((went_expr l n).expr 0 _ p.1 p.2 a2.w.hi hx)
    cases h
    exact a3.then (takeP_went a3.w.hi)
theorem tell_adv {l : List Tok} {n : Nat} {kind : List UInt8} {s s' : PSt} {x : PStmt} (hp : s.pos < l.length) (he : s.err = none) (h : tellF l n kind s = some (x, s')) : Adv l s s' := by
  unfold tellF at h
  cases hx : exprF l n 0 s.step with
  | none => rw [hx] at h; cases h
  | some p =>
    rw [hx] at h
    have a3 := (went_expr l n).expr 0 _ p.1 p.2 (step_len hp).1 hx
    cases h
    exact Adv.step hp he rfl (a3.trans (takeP_went a3.hi))
structure AdvS (l : List Tok) (n : Nat) : Prop where
  block : ∀ s e s', s.pos ≤ l.length → blockF l n s = some (e, s') → Went l s s'
  stmts : ∀ ss s e s', s.pos ≤ l.length → stmtsF l n ss s = some (e, s') → Went l s s'
  stmt : ∀ s e s', s.pos ≤ l.length → s.err = none → stmtF l n s = some (e, s') → Adv l s s'
  branch : ∀ k s e s', s.pos < l.length → s.err = none → branchF l n k s = some (e, s') → Adv l s s'
theorem adv_stmt (l : List Tok) : ∀ n, AdvS l n := by
  intro n
  induction n with
  | zero =>
    refine ⟨?_, ?_, ?_, ?_⟩
    · intro s e s' _ h; rw [blockF] at h; cases h
    · intro ss s e s' _ h; rw [stmtsF] at h; cases h
    · intro s e s' _ _ h; rw [stmtF] at h; cases h
    · intro k s e s' _ _ h; rw [branchF] at h; cases h
  | succ n ih =>
    refine ⟨?_, ?_, ?_, ?_⟩
    · intro s e s' hp h
      rw [blockF] at h
      by_cases h1 : isP l s [123] = true
      · rw [if_pos h1] at h
        obtain ⟨he, t, -, -, hlt, -⟩ := isP_some h1
        by_cases hn : (nestP s).err.isNone = true
        · rw [if_pos hn] at h
          cases hx : stmtsF l n [] (nestP s).step with
          | none => rw [hx] at h; cases h
          | some p =>
            rw [hx] at h
            have a1 := ih.stmts [] _ p.1 p.2 (nest_len hlt).1 hx
            cases h
            exact (Adv.nest (none_of hn) (a1.trans (takeP_went a1.hi))).w
        · rw [if_neg hn] at h
          cases h
          exact nest_bad hp he (some_of hn)
      · rw [if_neg h1] at h
        cases h
        exact Went.fail hp
    · intro ss s e s' hp h
      rw [stmtsF] at h
      by_cases h1 : (s.err.isNone && !isP l s [125]) = true
      · rw [if_pos h1] at h
        simp only [Bool.and_eq_true, Option.isNone_iff_eq_none] at h1
        cases hx : stmtF l n s with
        | none => rw [hx] at h; cases h
        | some p =>
          rw [hx] at h
          have a1 := (ih.stmt s p.1 p.2 hp h1.1 hx).w
          exact a1.trans (ih.stmts _ _ _ _ a1.hi h)
      · rw [if_neg h1] at h
        cases h
        exact Went.refl hp
    · intro s e s' hp he h
      rw [stmtF] at h
      by_cases h1 : isP l s zIf = true
      · rw [if_pos h1] at h
        obtain ⟨he, t, -, -, hlt, -⟩ := isP_some h1
        exact ih.branch _ _ _ _ hlt he h
      rw [if_neg h1] at h
      by_cases h2 : isP l s zWhile = true
      · rw [if_pos h2] at h
        obtain ⟨he, t, -, -, hlt, -⟩ := isP_some h2
        exact ih.branch _ _ _ _ hlt he h
      rw [if_neg h2] at h
      by_cases h3 : isP l s zReturn = true
      · rw [if_pos h3] at h
        obtain ⟨he, t, -, -, hlt, -⟩ := isP_some h3
        exact tell_adv hlt he h
      rw [if_neg h3] at h
      by_cases h4 : isP l s zPrint = true
      · rw [if_pos h4] at h
        obtain ⟨he, t, -, -, hlt, -⟩ := isP_some h4
        exact tell_adv hlt he h
      rw [if_neg h4] at h
      by_cases h5 : isP l s zVar = true
      · rw [if_pos h5] at h
        obtain ⟨he, t, -, -, hlt, -⟩ := isP_some h5
        exact Adv.step hlt he rfl (assign_adv (step_len hlt).1 h).w
      · rw [if_neg h5] at h
        exact assign_adv hp h
    · intro k s e s' hlt he h
      rw [branchF] at h
      cases hx : exprF l n 0 s.step with
      | none => rw [hx] at h; cases h
      | some p =>
        obtain ⟨e1, s1⟩ := p
        rw [hx] at h
        dsimp only at h
        have a1 := (went_expr l n).expr 0 _ e1 s1 (step_len hlt).1 hx
        cases hb : blockF l n s1 with
        | none => rw [hb] at h; cases h
        | some p =>
          obtain ⟨th, s2⟩ := p
          rw [hb] at h
          dsimp only at h
          have a2 := a1.trans (ih.block _ th s2 a1.hi hb)
          by_cases h1 : ((k == zIf) && isP l s2 zElse) = true
          · rw [if_pos h1] at h
            simp only [Bool.and_eq_true] at h1
            obtain ⟨he2, t, -, -, hlt2, -⟩ := isP_some h1.2
            cases hc : blockF l n s2.step with
            | none => rw [hc] at h; cases h
            | some p =>
              rw [hc] at h
              have a3 := ih.block _ p.1 p.2 (step_len hlt2).1 hc
              cases h
              exact Adv.step hlt he rfl (a2.trans ((went_step hlt2 he2).trans a3))
          · rw [if_neg h1] at h
            cases h
            exact Adv.step hlt he rfl a2
theorem names_went {l : List Tok} : ∀ n ps s e s', s.pos ≤ l.length → namesF l n ps s = some (e, s') → Went l s s'
  | 0, ps, s, e, s', _, h => by rw [namesF] at h; cases h
  | n + 1, ps, s, e, s', hp, h => by
    rw [namesF] at h
    by_cases h1 : isP l s [44] = true
    · rw [if_pos h1] at h
      obtain ⟨he, t, -, -, hlt, -⟩ := isP_some h1
      have a1 := ofP_went (x := kName) (step_len hlt).1
      exact (went_step hlt he).trans (a1.trans (names_went n _ _ e s' a1.hi h))
    · rw [if_neg h1] at h
      cases h
      exact takeP_went hp
theorem params_went {l : List Tok} {n : Nat} {s s' : PSt} {e : List (List UInt8)} (hp : s.pos ≤ l.length) (h : paramsF l n s = some (e, s')) : Went l s s' := by
  unfold paramsF at h
  by_cases h1 : isP l s [41] = true
  · rw [if_pos h1] at h
    obtain ⟨he, t, -, -, hlt, -⟩ := isP_some h1
    cases h
    exact went_step hlt he
  · rw [if_neg h1] at h
    have a1 := ofP_went (x := kName) hp
    exact a1.trans (names_went n _ _ e s' a1.hi h)
theorem fun_adv {l : List Tok} {n : Nat} {s s' : PSt} {f : PFun} (hp : s.pos ≤ l.length) (h : funF l n s = some (f, s')) : Adv l s s' := by
  have hh := headP_went (l := l) hp
  unfold funF at h
  by_cases he : (headP l s).2.err.isNone = true
  · rw [if_pos he] at h
    cases hq : paramsF l n (headP l s).2 with
    | none => rw [hq] at h; cases h
    | some p =>
      rw [hq] at h
      dsimp only at h
      have a1 := hh.then (params_went hh.w.hi hq)
      cases hx : blockF l n p.2 with
      | none => rw [hx] at h; cases h
      | some q =>
        rw [hx] at h
        have a2 := (adv_stmt l n).block _ q.1 q.2 a1.w.hi hx
        cases h
        exact a1.then a2
  · rw [if_neg he] at h
    dsimp only at h
    cases hx : blockF l n (headP l s).2 with
    | none => rw [hx] at h; cases h
    | some q =>
      rw [hx] at h
      have a2 := (adv_stmt l n).block _ q.1 q.2 hh.w.hi hx
      cases h
      exact hh.then a2
end Go.Proofs.YtpfgimohginbdaaDoor
