import Derived.Test.YtpfgimohginbdaaDoorBn26
import Derived.Test.YtpfgimohginbdaaDoorBn27
set_option linter.unusedVariables false
set_option linter.unusedSimpArgs false
namespace Go.Proofs.YtpfgimohginbdaaDoor
open Go.RowKit

/-! what the reference's parser makes is not too long -/
inductive BdE (N : Nat) : PExpr → Prop
  | mk (e : PExpr) (h : e.kids.length ≤ N) (hk : ∀ k ∈ e.kids, BdE N k) : BdE N e
inductive BdS (N : Nat) : PStmt → Prop
  | mk (s : PStmt) (he : BdE N s.e) (ht : s.th.length ≤ N) (hl : s.el.length ≤ N) (hts : ∀ k ∈ s.th, BdS N k) (hls : ∀ k ∈ s.el, BdS N k) : BdS N s
structure BdF (N : Nat) (f : PFun) : Prop where
  params : f.params.length ≤ N
  body : f.body.length ≤ N
  stmts : ∀ s ∈ f.body, BdS N s
theorem BdE.len {N : Nat} {e : PExpr} (h : BdE N e) : e.kids.length ≤ N := by cases h; assumption
theorem BdE.kid {N : Nat} {e : PExpr} (h : BdE N e) : ∀ k ∈ e.kids, BdE N k := by cases h; assumption
theorem BdE.zero (N : Nat) : BdE N zeroE := ⟨_, Nat.zero_le _, fun k hk => by simp [zeroE] at hk⟩
structure BdRE (l : List Tok) (n : Nat) : Prop where
  expr : ∀ lv s e s', s.pos ≤ l.length → exprR l n lv s = some (e, s') → BdE (l.length + 2) e
  loop : ∀ lv a s e s', s.pos ≤ l.length → BdE (l.length + 2) a → loopR l n lv a s = some (e, s') → BdE (l.length + 2) e
  ahead : ∀ s e s', s.pos ≤ l.length → aheadR l n s = some (e, s') → BdE (l.length + 2) e
  args : ∀ s es s', s.pos ≤ l.length → argsR l n s = some (es, s') → es.length ≤ l.length + 2 ∧ ∀ k ∈ es, BdE (l.length + 2) k
  argl : ∀ ks s es s', s.pos ≤ l.length → ks.length ≤ s.pos → (∀ k ∈ ks, BdE (l.length + 2) k) → argsL l n ks s = some (es, s') → es.length ≤ l.length + 2 ∧ ∀ k ∈ es, BdE (l.length + 2) k
theorem bd_exprR (l : List Tok) : ∀ n, BdRE l n := by
  intro n
  induction n with
  | zero =>
    refine ⟨?_, ?_, ?_, ?_, ?_⟩
    · intro lv s e s' _ h; rw [exprR] at h; cases h
    · intro lv a s e s' _ _ h; rw [loopR] at h; cases h
    · intro s e s' _ h; rw [aheadR] at h; cases h
    · intro s e s' _ h; rw [argsR] at h; cases h
    · intro ks s e s' _ _ _ h; rw [argsL] at h; cases h
  | succ n ih =>
    have W := went_exprR l n
    refine ⟨?_, ?_, ?_, ?_, ?_⟩
    · intro lv s e s' hp h
      rw [exprR] at h
      cases hx : aheadR l n s with
      | none => rw [hx] at h; cases h
      | some p =>
        obtain ⟨e1, s1⟩ := p
        rw [hx] at h
        exact ih.loop lv e1 s1 e s' (W.ahead s e1 s1 hp hx).hi (ih.ahead s e1 s1 hp hx) h
    · intro lv a s e s' hp ha h
      rw [loopR] at h
      by_cases ho : leB lv (levR l s) = true
      · rw [if_pos ho] at h
        obtain ⟨-, -, -, -, -, -, -, -, hlt⟩ := lev_some ho
        cases hx : exprR l n ((levR l s).getD 0 + 1) s.step with
        | none => rw [hx] at h; cases h
        | some p =>
          obtain ⟨e1, s1⟩ := p
          rw [hx] at h
          have hs : s.step.pos ≤ l.length := hlt
          refine ih.loop lv _ s1 e s' (W.expr _ _ e1 s1 hs hx).hi ⟨_, by show 2 ≤ _; omega, fun k hk => ?_⟩ h
          have h1 := ih.expr _ _ e1 s1 hs hx
          simp only [List.mem_cons, List.not_mem_nil, or_false] at hk
          rcases hk with rfl | rfl
          · exact ha
          · exact h1
      · rw [if_neg ho] at h
        cases h; exact ha
    · intro s e s' hp h
      rw [aheadR] at h
      split at h
      · rename_i ho
        split at h
        · rename_i hn
          have hlt : s.pos < l.length := by
            rcases ho with ho | ho
            · obtain ⟨-, t, -, -, hp, -⟩ := isP_some ho; exact hp
            · obtain ⟨-, t, -, -, hp, -⟩ := isP_some ho; exact hp
          cases hx : aheadR l n (nestP s).step with
          | none => rw [hx] at h; cases h
          | some p =>
            rw [hx] at h
            cases h
            refine ⟨_, by show 1 ≤ _; omega, fun k hk => ?_⟩
            simp only [List.mem_cons, List.not_mem_nil, or_false] at hk
            subst hk
            exact ih.ahead _ _ _ (nest_len hlt).1 hx
        · cases h; exact BdE.zero _
      · split at h
        · rename_i ho
          obtain ⟨-, t, -, -, hlt, -⟩ := isP_some ho
          split at h
          · cases hx : exprR l n 0 (nestP s).step with
            | none => rw [hx] at h; cases h
            | some p =>
              rw [hx] at h
              cases h
              exact ih.expr _ _ _ _ (nest_len hlt).1 hx
          · cases h; exact BdE.zero _
        · split at h
          · cases h; exact ⟨_, Nat.zero_le _, fun k hk => absurd hk List.not_mem_nil⟩
          · split at h
            · rename_i ho
              obtain ⟨-, t, -, -, hlt, -⟩ := isP_some ho
              split at h
              · cases hx : argsR l n (nestP (ofP l kName s).2).step with
                | none => rw [hx] at h; cases h
                | some p =>
                  rw [hx] at h
                  cases h
                  have := ih.args _ _ _ (nest_len hlt).1 hx
                  exact ⟨_, this.1, this.2⟩
              · cases h; exact BdE.zero _
            · cases h; exact ⟨_, Nat.zero_le _, fun k hk => absurd hk List.not_mem_nil⟩
    · intro s es s' hp h
      rw [argsR] at h
      split at h
      · cases h; exact ⟨Nat.zero_le _, fun k hk => absurd hk List.not_mem_nil⟩
      · exact ih.argl [] s es s' hp (Nat.zero_le _) (fun k hk => absurd hk List.not_mem_nil) h
    · intro ks s es s' hp hl hk h
      rw [argsL] at h
      split at h
      · cases hx : exprR l n 0 s with
        | none => rw [hx] at h; cases h
        | some p =>
          obtain ⟨e1, s1⟩ := p
          rw [hx] at h
          dsimp only at h
          have w1 := W.expr 0 s e1 s1 hp hx
          have hk1 : ∀ k ∈ ks ++ [e1], BdE (l.length + 2) k := fun k hm => by
            rcases List.mem_append.1 hm with q | q
            · exact hk k q
            · rw [List.mem_singleton.1 q]; exact ih.expr 0 s e1 s1 hp hx
          have h1 := w1.lo
          split at h
          · rename_i ho
            obtain ⟨-, t, -, -, hlt, -⟩ := isP_some ho
            exact ih.argl (ks ++ [e1]) s1.step es s' hlt (by rw [List.length_append, List.length_singleton]; show _ ≤ s1.pos + 1; omega) hk1 h
          · cases h
            exact ⟨by rw [List.length_append, List.length_singleton]; omega, hk1⟩
      · cases h
        exact ⟨by omega, hk⟩
theorem bd_assignR {l : List Tok} {n : Nat} {kind : List UInt8} {s s' : PSt} {x : PStmt} (hp : s.pos ≤ l.length) (h : assignR l n kind s = some (x, s')) : BdS (l.length + 2) x := by
  unfold assignR at h
  have a1 := ofP_adv (x := kName) hp
  have a2 := a1.then (takeP_went (x := [61]) a1.w.hi)
  cases hx : exprR l n 0 (takeP l [61] (ofP l kName s).2) with
  | none => rw [hx] at h; cases h
  | some p =>
    rw [hx] at h
    cases h
    exact ⟨_, (bd_exprR l n).expr _ _ _ _ a2.w.hi hx, Nat.zero_le _, Nat.zero_le _, fun k hk => absurd hk List.not_mem_nil, fun k hk => absurd hk List.not_mem_nil⟩
theorem bd_tellR {l : List Tok} {n : Nat} {kind : List UInt8} {s s' : PSt} {x : PStmt} (hp : s.pos < l.length) (h : tellR l n kind s = some (x, s')) : BdS (l.length + 2) x := by
  unfold tellR at h
  cases hx : exprR l n 0 s.step with
  | none => rw [hx] at h; cases h
  | some p =>
    rw [hx] at h
    cases h
    exact ⟨_, (bd_exprR l n).expr _ _ _ _ (step_len hp).1 hx, Nat.zero_le _, Nat.zero_le _, fun k hk => absurd hk List.not_mem_nil, fun k hk => absurd hk List.not_mem_nil⟩
structure BdRS (l : List Tok) (n : Nat) : Prop where
  block : ∀ s e s', s.pos ≤ l.length → blockR l n s = some (e, s') → e.length ≤ l.length + 2 ∧ ∀ k ∈ e, BdS (l.length + 2) k
  stmts : ∀ ss s e s', s.pos ≤ l.length → ss.length ≤ l.length + 1 → (s.err = none → ss.length ≤ s.pos) → (∀ k ∈ ss, BdS (l.length + 2) k) → stmtsR l n ss s = some (e, s') → e.length ≤ l.length + 2 ∧ ∀ k ∈ e, BdS (l.length + 2) k
  stmt : ∀ s e s', s.pos ≤ l.length → s.err = none → stmtR l n s = some (e, s') → BdS (l.length + 2) e
  branch : ∀ k s e s', s.pos < l.length → s.err = none → branchR l n k s = some (e, s') → BdS (l.length + 2) e
theorem bd_stmtR (l : List Tok) : ∀ n, BdRS l n := by
  intro n
  induction n with
  | zero =>
    refine ⟨?_, ?_, ?_, ?_⟩
    · intro s e s' _ h; rw [blockR] at h; cases h
    · intro ss s e s' _ _ _ _ h; rw [stmtsR] at h; cases h
    · intro s e s' _ _ h; rw [stmtR] at h; cases h
    · intro k s e s' _ _ h; rw [branchR] at h; cases h
  | succ n ih =>
    have W := adv_stmtR l n
    refine ⟨?_, ?_, ?_, ?_⟩
    · intro s e s' hp h
      rw [blockR] at h
      split at h
      · rename_i ho
        obtain ⟨-, t, -, -, hlt, -⟩ := isP_some ho
        split at h
        · cases hx : stmtsR l n [] (nestP s).step with
          | none => rw [hx] at h; cases h
          | some p =>
            rw [hx] at h
            cases h
            exact ih.stmts [] _ _ _ (nest_len hlt).1 (Nat.zero_le _) (fun _ => Nat.zero_le _) (fun k hk => absurd hk List.not_mem_nil) hx
        · cases h; exact ⟨Nat.zero_le _, fun k hk => absurd hk List.not_mem_nil⟩
      · cases h; exact ⟨Nat.zero_le _, fun k hk => absurd hk List.not_mem_nil⟩
    · intro ss s e s' hp hl h0 hk h
      rw [stmtsR] at h
      split at h
      · rename_i he
        have he := none_of he
        have h00 := h0 he
        split at h
        · cases h; exact ⟨by omega, hk⟩
        · cases hx : stmtR l n s with
          | none => rw [hx] at h; cases h
          | some p =>
            obtain ⟨x, s1⟩ := p
            rw [hx] at h
            have w1 := W.stmt s x s1 hp he hx
            refine ih.stmts (ss ++ [x]) s1 e s' w1.w.hi (by rw [List.length_append, List.length_singleton]; omega) (fun e1 => ?_) (fun k hm => ?_) h
            · have := w1.adv e1
              rw [List.length_append, List.length_singleton]; omega
            · rcases List.mem_append.1 hm with q | q
              · exact hk k q
              · rw [List.mem_singleton.1 q]; exact ih.stmt s x s1 hp he hx
      · cases h; exact ⟨by omega, hk⟩
    · intro s e s' hp he h
      rw [stmtR] at h
      split at h
      · rename_i ho
        obtain ⟨-, t, -, -, hlt, -⟩ := isP_some ho
        exact ih.branch _ s e s' hlt he h
      · split at h
        · rename_i ho
          obtain ⟨-, t, -, -, hlt, -⟩ := isP_some ho
          exact ih.branch _ s e s' hlt he h
        · split at h
          · rename_i ho
            obtain ⟨-, t, -, -, hlt, -⟩ := isP_some ho
            exact bd_tellR hlt h
          · split at h
            · rename_i ho
              obtain ⟨-, t, -, -, hlt, -⟩ := isP_some ho
              exact bd_tellR hlt h
            · split at h
              · rename_i ho
                obtain ⟨-, t, -, -, hlt, -⟩ := isP_some ho
                exact bd_assignR (s := s.step) hlt h
              · exact bd_assignR hp h
    · intro k s e s' hp he h
      rw [branchR] at h
      have hs := step_len hp
      cases hx : exprR l n 0 s.step with
      | none => rw [hx] at h; cases h
      | some p =>
        obtain ⟨e1, s1⟩ := p
        rw [hx] at h
        dsimp only at h
        have w1 := (went_exprR l n).expr 0 _ e1 s1 hs.1 hx
        have b1 := (bd_exprR l n).expr 0 _ e1 s1 hs.1 hx
        cases hy : blockR l n s1 with
        | none => rw [hy] at h; cases h
        | some p =>
          obtain ⟨th, s2⟩ := p
          rw [hy] at h
          dsimp only at h
          have w2 := W.block s1 th s2 w1.hi hy
          have b2 := ih.block s1 th s2 w1.hi hy
          split at h
          · rename_i ho
            obtain ⟨-, t, -, -, hlt, -⟩ := isP_some (Bool.and_eq_true _ _ ▸ ho : _ ∧ _).2
            cases hz : blockR l n s2.step with
            | none => rw [hz] at h; cases h
            | some p =>
              rw [hz] at h
              cases h
              have b3 := ih.block s2.step _ _ hlt hz
              exact ⟨_, b1, b2.1, b3.1, b2.2, b3.2⟩
          · cases h
            exact ⟨_, b1, b2.1, Nat.zero_le _, b2.2, fun k hk => absurd hk List.not_mem_nil⟩
theorem bd_namesR {l : List Tok} : ∀ n ps s e s', s.pos ≤ l.length → ps.length ≤ s.pos → namesR l n ps s = some (e, s') → e.length ≤ l.length + 2
  | 0, ps, s, e, s', _, _, h => by rw [namesR] at h; cases h
  | n + 1, ps, s, e, s', hp, hl, h => by
    rw [namesR] at h
    split at h
    · have w1 := ofP_went (x := kName) hp
      split at h
      · rename_i ho
        obtain ⟨-, t, -, -, hlt, -⟩ := isP_some ho
        refine bd_namesR n (ps ++ [(ofP l kName s).1]) (ofP l kName s).2.step e s' hlt ?_ h
        have := w1.lo
        rw [List.length_append, List.length_singleton]
        show _ ≤ (ofP l kName s).2.pos + 1
        omega
      · cases h
        rw [List.length_append, List.length_singleton]; omega
    · cases h; omega
theorem bd_funR {l : List Tok} {n : Nat} {s s' : PSt} {f : PFun} (hp : s.pos ≤ l.length) (h : funR l n s = some (f, s')) : BdF (l.length + 2) f := by
  have hh := headP_went (l := l) hp
  unfold funR at h
  cases hq : paramsR l n (headP l s).2 with
  | none => rw [hq] at h; cases h
  | some p =>
    obtain ⟨ps, s1⟩ := p
    rw [hq] at h
    dsimp only at h
    have a1 := hh.then (params_wentR hh.w.hi hq)
    cases hx : blockR l n s1 with
    | none => rw [hx] at h; cases h
    | some q =>
      obtain ⟨b, s2⟩ := q
      rw [hx] at h
      cases h
      have b2 := (bd_stmtR l n).block _ _ _ a1.w.hi hx
      refine ⟨?_, b2.1, b2.2⟩
      show ps.length ≤ _
      unfold paramsR at hq
      split at hq
      · split at hq
        · cases hq; exact Nat.zero_le _
        · exact bd_namesR n [] _ _ _ hh.w.hi (Nat.zero_le _) hq
      · cases hq; exact Nat.zero_le _
theorem bd_parseR {l : List Tok} : ∀ n fs s e s', s.pos ≤ l.length → fs.length ≤ l.length + 1 → (s.err = none → fs.length ≤ s.pos) → (∀ f ∈ fs, BdF (l.length + 2) f) → parseR l n fs s = some (e, s') → e.length ≤ l.length + 2 ∧ ∀ f ∈ e, BdF (l.length + 2) f
  | 0, fs, s, e, s', _, _, _, _, h => by rw [parseR] at h; cases h
  | n + 1, fs, s, e, s', hp, hl, h0, hk, h => by
    rw [parseR] at h
    split at h
    · rename_i ho
      simp only [Bool.and_eq_true, decide_eq_true_eq] at ho
      have he := none_of ho.1
      have hlt := ho.2
      have h00 := h0 he
      cases hx : funR l n s with
      | none => rw [hx] at h; cases h
      | some p =>
        obtain ⟨f, s1⟩ := p
        rw [hx] at h
        have w1 := fun_advR hp hx
        refine bd_parseR n (fs ++ [f]) s1 e s' w1.w.hi (by rw [List.length_append, List.length_singleton]; omega) (fun e1 => ?_) (fun k hm => ?_) h
        · have := w1.adv e1
          rw [List.length_append, List.length_singleton]; omega
        · rcases List.mem_append.1 hm with q | q
          · exact hk k q
          · rw [List.mem_singleton.1 q]; exact bd_funR hp hx
    · cases h; exact ⟨by omega, hk⟩
theorem bd_parseQ (l : List Tok) : (parseQ l).1.length ≤ l.length + 2 ∧ ∀ f ∈ (parseQ l).1, BdF (l.length + 2) f :=
  bd_parseR _ [] s0P _ _ (Nat.zero_le _) (Nat.zero_le _) (fun _ => Nat.zero_le _) (fun f hf => absurd hf List.not_mem_nil) (parseQ_eq l)
end Go.Proofs.YtpfgimohginbdaaDoor
