import Derived.Test.YtpfgimohginbdaaDoorBn5
import Derived.Test.YtpfgimohginbdaaDoorBn10
set_option linter.unusedVariables false
set_option linter.unusedSimpArgs false
namespace Go.Proofs.YtpfgimohginbdaaDoor
open Go.RowKit

/-! the reference's parser, in plain Lean -/
/-- The level of an op. -/
def levN (x : List UInt8) : Option Nat := levelsB.findIdx? (fun z => z.contains x)
/-- The level of the op that is next. -/
def levR (l : List Tok) (s : PSt) : Option Nat := if s.err.isNone = true then (match l[s.pos]? with
  | none => none
  | some t => if (t.kind == kSign) = true then levN t.text else none) else none
def leB (lv : Nat) : Option Nat → Bool
  | none => false
  | some k => decide (lv ≤ k)
mutual
def exprR (l : List Tok) : Nat → Nat → PSt → Option (PExpr × PSt)
  | 0, _, _ => none
  | n + 1, lv, s => match aheadR l n s with
    | none => none
    | some (e, s1) => loopR l n lv e s1
def loopR (l : List Tok) : Nat → Nat → PExpr → PSt → Option (PExpr × PSt)
  | 0, _, _, _ => none
  | n + 1, lv, e, s => if leB lv (levR l s) = true then
      match exprR l n ((levR l s).getD 0 + 1) s.step with
      | none => none
      | some (r, s1) => loopR l n lv ⟨yTwo, 0, txtP l s, [e, r]⟩ s1
    else some (e, s)
def aheadR (l : List Tok) : Nat → PSt → Option (PExpr × PSt)
  | 0, _ => none
  | n + 1, s => if isP l s [45] = true ∨ isP l s [33] = true then
      if (nestP s).err.isNone = true then
        match aheadR l n (nestP s).step with
        | none => none
        | some (e, s1) => some (⟨yOne, 0, txtP l s, [e]⟩, s1.up)
      else some (zeroE, nestP s)
    else if isP l s [40] = true then
      if (nestP s).err.isNone = true then
        match exprR l n 0 (nestP s).step with
        | none => none
        | some (e, s1) => some (e, (takeP l [41] s1).up)
      else some (zeroE, nestP s)
    else if ofB l kNumber s = true then some (⟨yNum, digV (txtP l s), [], []⟩, s.step)
    else if isP l (ofP l kName s).2 [40] = true then
      if (nestP (ofP l kName s).2).err.isNone = true then
        match argsR l n (nestP (ofP l kName s).2).step with
        | none => none
        | some (ks, s1) => some (⟨yCall, 0, (ofP l kName s).1, ks⟩, s1.up)
      else some (zeroE, nestP (ofP l kName s).2)
    else some (⟨yName, 0, (ofP l kName s).1, []⟩, (ofP l kName s).2)
def argsR (l : List Tok) : Nat → PSt → Option (List PExpr × PSt)
  | 0, _ => none
  | n + 1, s => if isP l s [41] = true then some ([], s.step) else argsL l n [] s
def argsL (l : List Tok) : Nat → List PExpr → PSt → Option (List PExpr × PSt)
  | 0, _, _ => none
  | n + 1, ks, s => if s.err.isNone = true then
      match exprR l n 0 s with
      | none => none
      | some (e, s1) => if isP l s1 [44] = true then argsL l n (ks ++ [e]) s1.step else some (ks ++ [e], takeP l [41] s1)
    else some (ks, s)
end
def assignR (l : List Tok) (n : Nat) (kind : List UInt8) (s : PSt) : Option (PStmt × PSt) :=
  match exprR l n 0 (takeP l [61] (ofP l kName s).2) with
  | none => none
  | some (e, s1) => some (⟨kind, (ofP l kName s).1, e, [], []⟩, takeP l [59] s1)
def tellR (l : List Tok) (n : Nat) (kind : List UInt8) (s : PSt) : Option (PStmt × PSt) :=
  match exprR l n 0 s.step with
  | none => none
  | some (e, s1) => some (⟨kind, [], e, [], []⟩, takeP l [59] s1)
mutual
def blockR (l : List Tok) : Nat → PSt → Option (List PStmt × PSt)
  | 0, _ => none
  | n + 1, s => if isP l s [123] = true then
      if (nestP s).err.isNone = true then
        match stmtsR l n [] (nestP s).step with
        | none => none
        | some (ss, s1) => some (ss, s1.up)
      else some ([], nestP s)
    else some ([], failP s 1)
def stmtsR (l : List Tok) : Nat → List PStmt → PSt → Option (List PStmt × PSt)
  | 0, _, _ => none
  | n + 1, ss, s => if s.err.isNone = true then
      if isP l s [125] = true then some (ss, s.step) else
      match stmtR l n s with
      | none => none
      | some (x, s1) => stmtsR l n (ss ++ [x]) s1
    else some (ss, s)
def stmtR (l : List Tok) : Nat → PSt → Option (PStmt × PSt)
  | 0, _ => none
  | n + 1, s => if isP l s zIf = true then branchR l n zIf s else if isP l s zWhile = true then branchR l n zWhile s
    else if isP l s zReturn = true then tellR l n zReturn s else if isP l s zPrint = true then tellR l n zPrint s
    else if isP l s zVar = true then assignR l n zVar s.step else assignR l n ySet s
def branchR (l : List Tok) : Nat → List UInt8 → PSt → Option (PStmt × PSt)
  | 0, _, _ => none
  | n + 1, kind, s => match exprR l n 0 s.step with
    | none => none
    | some (e, s1) => match blockR l n s1 with
      | none => none
      | some (th, s2) => if ((kind == zIf) && isP l s2 zElse) = true then
          match blockR l n s2.step with
          | none => none
          | some (el, s3) => some (⟨kind, [], e, th, el⟩, s3)
        else some (⟨kind, [], e, th, []⟩, s2)
end
def namesR (l : List Tok) : Nat → List (List UInt8) → PSt → Option (List (List UInt8) × PSt)
  | 0, _, _ => none
  | n + 1, ps, s => if s.err.isNone = true then
      if isP l (ofP l kName s).2 [44] = true then namesR l n (ps ++ [(ofP l kName s).1]) (ofP l kName s).2.step
      else some (ps ++ [(ofP l kName s).1], takeP l [41] (ofP l kName s).2)
    else some (ps, s)
def paramsR (l : List Tok) (n : Nat) (s : PSt) : Option (List (List UInt8) × PSt) :=
  if s.err.isNone = true then (if isP l s [41] = true then some ([], s.step) else namesR l n [] s) else some ([], s)
def funR (l : List Tok) (n : Nat) (s : PSt) : Option (PFun × PSt) :=
  match paramsR l n (headP l s).2 with
  | none => none
  | some (ps, s1) => match blockR l n s1 with
    | none => none
    | some (b, s2) => some (⟨(headP l s).1, ps, b⟩, s2)
def parseR (l : List Tok) : Nat → List PFun → PSt → Option (List PFun × PSt)
  | 0, _, _ => none
  | n + 1, fs, s => if (s.err.isNone && decide (s.pos < l.length)) = true then
      match funR l n s with
      | none => none
      | some (f, s1) => parseR l n (fs ++ [f]) s1
    else some (fs, s)

/-! it ends, too -/
theorem lev_some {l : List Tok} {s : PSt} {lv : Nat} (h : leB lv (levR l s) = true) : s.err = none ∧ ∃ t k, l[s.pos]? = some t ∧ t.kind = kSign ∧ levN t.text = some k ∧ levR l s = some k ∧ lv ≤ k ∧ s.pos < l.length := by
  unfold levR at h ⊢
  by_cases he : s.err.isNone = true
  · rw [if_pos he] at h ⊢
    cases hl : l[s.pos]? with
    | none => rw [hl] at h; cases h
    | some t =>
      rw [hl] at h
      simp only at h ⊢
      by_cases hk : (t.kind == kSign) = true
      · rw [if_pos hk] at h ⊢
        cases hn : levN t.text with
        | none => rw [hn] at h; cases h
        | some k =>
          rw [hn] at h
          exact ⟨none_of he, t, k, rfl, by simpa using hk, hn, rfl, by simpa [leB] using h, (List.getElem?_eq_some_iff.1 hl).1⟩
      · rw [if_neg hk] at h; cases h
  · rw [if_neg he] at h; cases h
theorem lev_le {l : List Tok} {s : PSt} {k : Nat} (h : levR l s = some k) : k < 8 := by
  obtain ⟨-, t, j, -, -, h1, h2, -, -⟩ := lev_some (l := l) (s := s) (lv := 0) (by rw [h]; rfl)
  rw [h] at h2
  cases h2
  unfold levN at h1
  exact (List.findIdx?_eq_some_iff_getElem.1 h1).1
structure TotR (l : List Tok) (n : Nat) : Prop where
  expr : ∀ lv s, s.pos ≤ l.length → 40 * (l.length - s.pos) + 26 ≤ n → ∃ e s', exprR l n lv s = some (e, s') ∧ Adv l s s'
  loop : ∀ lv e s, s.pos ≤ l.length → 40 * (l.length - s.pos) + 1 ≤ n → ∃ e' s', loopR l n lv e s = some (e', s') ∧ Went l s s'
  ahead : ∀ s, s.pos ≤ l.length → 40 * (l.length - s.pos) + 20 ≤ n → ∃ e s', aheadR l n s = some (e, s') ∧ Adv l s s'
  args : ∀ s, s.pos ≤ l.length → 40 * (l.length - s.pos) + 30 ≤ n → ∃ e s', argsR l n s = some (e, s') ∧ Went l s s'
  argl : ∀ ks s, s.pos ≤ l.length → 40 * (l.length - s.pos) + 29 ≤ n → ∃ e s', argsL l n ks s = some (e, s') ∧ Went l s s'
theorem tot_exprR (l : List Tok) : ∀ n, TotR l n := by
  intro n
  induction n with
  | zero => exact ⟨fun _ _ _ h => by omega, fun _ _ _ _ h => by omega, fun _ _ h => by omega, fun _ _ h => by omega, fun _ _ _ h => by omega⟩
  | succ n ih =>
    refine ⟨fun lv s hp hn => ?_, fun lv e s hp hn => ?_, fun s hp hn => ?_, fun s hp hn => ?_, fun ks s hp hn => ?_⟩
    · rw [exprR]
      obtain ⟨e, s1, h1, a1⟩ := ih.ahead s hp (by omega)
      rw [h1]
      have := went_len a1.w
      obtain ⟨e2, s2, h2, a2⟩ := ih.loop lv e s1 a1.w.hi (by omega)
      exact ⟨e2, s2, h2, a1.then a2⟩
    · rw [loopR]
      by_cases ho : leB lv (levR l s) = true
      · rw [if_pos ho]
        obtain ⟨he, t, k, -, -, -, -, -, hlt⟩ := lev_some ho
        have hs := step_len hlt
        obtain ⟨e1, s1, h1, a1⟩ := ih.expr ((levR l s).getD 0 + 1) s.step hs.1 (by omega)
        rw [h1]
        have := went_len a1.w
        obtain ⟨e2, s2, h2, a2⟩ := ih.loop lv ⟨yTwo, 0, txtP l s, [e, e1]⟩ s1 a1.w.hi (by omega)
        exact ⟨e2, s2, h2, (went_step hlt he).trans (a1.w.trans a2)⟩
      · rw [if_neg ho]
        exact ⟨e, s, rfl, Went.refl hp⟩
    · rw [aheadR]
      by_cases ho : isP l s [45] = true ∨ isP l s [33] = true
      · rw [if_pos ho]
        have hx : s.err = none ∧ s.pos < l.length := by
          rcases ho with ho | ho
          · obtain ⟨e, t, -, -, hp, -⟩ := isP_some ho; exact ⟨e, hp⟩
          · obtain ⟨e, t, -, -, hp, -⟩ := isP_some ho; exact ⟨e, hp⟩
        by_cases hne : (nestP s).err.isNone = true
        · rw [if_pos hne]
          have hs := nest_len hx.2
          obtain ⟨e1, s1, h1, a1⟩ := ih.ahead (nestP s).step hs.1 (by omega)
          rw [h1]
          exact ⟨_, _, rfl, Adv.nest (none_of hne) a1.w⟩
        · rw [if_neg hne]
          exact ⟨_, _, rfl, Adv.bad hp hx.1 (some_of hne)⟩
      · rw [if_neg ho]
        by_cases h1 : isP l s [40] = true
        · rw [if_pos h1]
          obtain ⟨he, t, -, -, hlt, -⟩ := isP_some h1
          by_cases hne : (nestP s).err.isNone = true
          · rw [if_pos hne]
            have hs := nest_len hlt
            obtain ⟨e1, s1, h1, a1⟩ := ih.expr 0 (nestP s).step hs.1 (by omega)
            rw [h1]
            exact ⟨_, _, rfl, Adv.nest (none_of hne) (a1.w.trans (takeP_went a1.w.hi))⟩
          · rw [if_neg hne]
            exact ⟨_, _, rfl, Adv.bad hp he (some_of hne)⟩
        · rw [if_neg h1]
          by_cases h2 : ofB l kNumber s = true
          · rw [if_pos h2]
            obtain ⟨he, t, -, -, hlt⟩ := ofB_some h2
            exact ⟨_, _, rfl, Adv.step hlt he rfl (Went.refl (step_len hlt).1)⟩
          · rw [if_neg h2]
            have ha := ofP_adv (x := kName) hp
            by_cases h3 : isP l (ofP l kName s).2 [40] = true
            · rw [if_pos h3]
              obtain ⟨he3, t, -, -, hp3, -⟩ := isP_some h3
              have hl3 := ha.adv he3
              by_cases h4 : (nestP (ofP l kName s).2).err.isNone = true
              · rw [if_pos h4]
                have hs := nest_len hp3
                obtain ⟨e1, s1, h5, a1⟩ := ih.args (nestP (ofP l kName s).2).step hs.1 (by omega)
                rw [h5]
                exact ⟨_, _, rfl, Adv.after ha.w (Adv.nest (none_of h4) a1)⟩
              · rw [if_neg h4]
                exact ⟨_, _, rfl, Adv.after ha.w (Adv.bad ha.w.hi he3 (some_of h4))⟩
            · rw [if_neg h3]
              exact ⟨_, _, rfl, ha⟩
    · rw [argsR]
      by_cases h1 : isP l s [41] = true
      · rw [if_pos h1]
        obtain ⟨he3, t, -, -, hp3, -⟩ := isP_some h1
        exact ⟨_, _, rfl, went_step hp3 he3⟩
      · rw [if_neg h1]
        exact ih.argl [] s hp (by omega)
    · rw [argsL]
      by_cases he : s.err.isNone = true
      · rw [if_pos he]
        obtain ⟨e1, s1, h2, a1⟩ := ih.expr 0 s hp (by omega)
        rw [h2]
        simp only
        have := went_len a1.w
        by_cases h1 : isP l s1 [44] = true
        · rw [if_pos h1]
          obtain ⟨he3, t, -, -, hp3, -⟩ := isP_some h1
          have hs := step_len hp3
          obtain ⟨e2, s2, h3, a2⟩ := ih.argl (ks ++ [e1]) s1.step hs.1 (by omega)
          exact ⟨e2, s2, h3, a1.w.trans ((went_step hp3 he3).trans a2)⟩
        · rw [if_neg h1]
          exact ⟨_, _, rfl, a1.w.trans (takeP_went a1.w.hi)⟩
      · rw [if_neg he]
        exact ⟨_, _, rfl, Went.refl hp⟩
theorem tot_assignR {l : List Tok} {n : Nat} {kind : List UInt8} {s : PSt} (hp : s.pos ≤ l.length) (hn : 40 * (l.length - s.pos) + 26 ≤ n) : ∃ x s', assignR l n kind s = some (x, s') ∧ Adv l s s' := by
  have h1 := ofP_adv (l := l) (x := kName) hp
  have h2 := h1.then (takeP_went (x := [61]) h1.w.hi)
  have := went_len h2.w
  obtain ⟨e, s1, h3, a3⟩ := (tot_exprR l n).expr 0 _ h2.w.hi (by omega)
  unfold assignR
  rw [h3]
  exact ⟨_, _, rfl, h2.then (a3.w.trans (takeP_went a3.w.hi))⟩
theorem tot_tellR {l : List Tok} {n : Nat} {kind : List UInt8} {s : PSt} (hp : s.pos < l.length) (he : s.err = none) (hn : 40 * (l.length - s.pos) ≤ n + 14) : ∃ x s', tellR l n kind s = some (x, s') ∧ Adv l s s' := by
  have hs := step_len hp
  obtain ⟨e, s1, h3, a3⟩ := (tot_exprR l n).expr 0 s.step hs.1 (by omega)
  unfold tellR
  rw [h3]
  exact ⟨_, _, rfl, Adv.step hp he rfl (a3.w.trans (takeP_went a3.w.hi))⟩
structure TotSR (l : List Tok) (n : Nat) : Prop where
  block : ∀ s, s.pos ≤ l.length → 40 * (l.length - s.pos) + 4 ≤ n → ∃ e s', blockR l n s = some (e, s') ∧ Adv l s s'
  stmts : ∀ ss s, s.pos ≤ l.length → 40 * (l.length - s.pos) + 35 ≤ n → ∃ e s', stmtsR l n ss s = some (e, s') ∧ Went l s s'
  stmt : ∀ s, s.pos ≤ l.length → 40 * (l.length - s.pos) + 32 ≤ n → ∃ e s', stmtR l n s = some (e, s') ∧ Adv l s s'
  branch : ∀ kind s, s.pos < l.length → s.err = none → 40 * (l.length - s.pos) + 1 ≤ n → ∃ e s', branchR l n kind s = some (e, s') ∧ Adv l s s'
theorem stmtsR_err {l : List Tok} {n : Nat} {ss : List PStmt} {s : PSt} (he : s.err ≠ none) : stmtsR l (n + 1) ss s = some (ss, s) := by
  rw [stmtsR, if_neg]
  intro h
  exact he (none_of h)
theorem tot_stmtR (l : List Tok) : ∀ n, TotSR l n := by
  intro n
  induction n with
  | zero => exact ⟨fun _ _ h => by omega, fun _ _ _ h => by omega, fun _ _ h => by omega, fun _ _ _ _ h => by omega⟩
  | succ n ih =>
    refine ⟨fun s hp hn => ?_, fun ss s hp hn => ?_, fun s hp hn => ?_, fun kind s hp he hn => ?_⟩
    · rw [blockR]
      by_cases h1 : isP l s [123] = true
      · rw [if_pos h1]
        obtain ⟨he3, t, -, -, hp3, -⟩ := isP_some h1
        by_cases hne : (nestP s).err.isNone = true
        · rw [if_pos hne]
          have hs := nest_len hp3
          obtain ⟨e1, s1, h2, a1⟩ := ih.stmts [] (nestP s).step hs.1 (by omega)
          rw [h2]
          exact ⟨_, _, rfl, Adv.nest (none_of hne) a1⟩
        · rw [if_neg hne]
          exact ⟨_, _, rfl, Adv.bad hp he3 (some_of hne)⟩
      · rw [if_neg h1]
        exact ⟨_, _, rfl, Adv.fail hp⟩
    · rw [stmtsR]
      by_cases h1 : s.err.isNone = true
      · rw [if_pos h1]
        by_cases h2 : isP l s [125] = true
        · rw [if_pos h2]
          obtain ⟨he3, t, -, -, hp3, -⟩ := isP_some h2
          exact ⟨_, _, rfl, went_step hp3 he3⟩
        · rw [if_neg h2]
          obtain ⟨x, s1, h2, a1⟩ := ih.stmt s hp (by omega)
          rw [h2]
          cases he1 : s1.err with
          | some z =>
            obtain ⟨n, rfl⟩ : ∃ k, n = k + 1 := ⟨n - 1, by omega⟩
            exact ⟨_, _, stmtsR_err (by rw [he1]; simp), a1.w⟩
          | none =>
            have hlt := a1.adv he1
            have := a1.w.hi
            obtain ⟨e2, s2, h3, a2⟩ := ih.stmts (ss ++ [x]) s1 a1.w.hi (by omega)
            exact ⟨_, _, h3, a1.w.trans a2⟩
      · rw [if_neg h1]
        exact ⟨_, _, rfl, Went.refl hp⟩
    · rw [stmtR]
      by_cases h1 : isP l s zIf = true
      · rw [if_pos h1]
        obtain ⟨he3, t, -, -, hp3, -⟩ := isP_some h1
        exact ih.branch _ s hp3 he3 (by omega)
      · rw [if_neg h1]
        by_cases h2 : isP l s zWhile = true
        · rw [if_pos h2]
          obtain ⟨he3, t, -, -, hp3, -⟩ := isP_some h2
          exact ih.branch _ s hp3 he3 (by omega)
        · rw [if_neg h2]
          by_cases h3 : isP l s zReturn = true
          · rw [if_pos h3]
            obtain ⟨he3, t, -, -, hp3, -⟩ := isP_some h3
            exact tot_tellR hp3 he3 (by omega)
          · rw [if_neg h3]
            by_cases h4 : isP l s zPrint = true
            · rw [if_pos h4]
              obtain ⟨he3, t, -, -, hp3, -⟩ := isP_some h4
              exact tot_tellR hp3 he3 (by omega)
            · rw [if_neg h4]
              by_cases h5 : isP l s zVar = true
              · rw [if_pos h5]
                obtain ⟨he3, t, -, -, hp3, -⟩ := isP_some h5
                have hs := step_len hp3
                obtain ⟨x, s1, h6, a1⟩ := tot_assignR (l := l) (n := n) (kind := zVar) (s := s.step) hs.1 (by omega)
                exact ⟨x, s1, h6, Adv.step hp3 he3 rfl a1.w⟩
              · rw [if_neg h5]
                exact tot_assignR hp (by omega)
    · rw [branchR]
      have hs := step_len hp
      obtain ⟨e1, s1, h1, a1⟩ := (tot_exprR l n).expr 0 s.step hs.1 (by omega)
      rw [h1]
      simp only
      have := went_len a1.w
      obtain ⟨th, s2, h2, a2⟩ := ih.block s1 a1.w.hi (by omega)
      rw [h2]
      simp only
      have a12 := Adv.step hp he rfl (a1.w.trans a2.w)
      by_cases h3 : ((kind == zIf) && isP l s2 zElse) = true
      · rw [if_pos h3]
        have h4 := (Bool.and_eq_true _ _ ▸ h3 : _ ∧ _).2
        obtain ⟨he4, t, -, -, hp4, -⟩ := isP_some h4
        have hs4 := step_len hp4
        have := went_len a2.w
        obtain ⟨el, s3, h5, a3⟩ := ih.block s2.step hs4.1 (by omega)
        rw [h5]
        exact ⟨_, _, rfl, a12.then ((went_step hp4 he4).trans a3.w)⟩
      · rw [if_neg h3]
        exact ⟨_, _, rfl, a12⟩
end Go.Proofs.YtpfgimohginbdaaDoor

namespace Go.Proofs.YtpfgimohginbdaaDoor
open Go.RowKit

/-! the reference's parser goes on, with any fuel -/
structure WentR (l : List Tok) (n : Nat) : Prop where
  expr : ∀ lv s e s', s.pos ≤ l.length → exprR l n lv s = some (e, s') → Went l s s'
  loop : ∀ lv a s e s', s.pos ≤ l.length → loopR l n lv a s = some (e, s') → Went l s s'
  ahead : ∀ s e s', s.pos ≤ l.length → aheadR l n s = some (e, s') → Went l s s'
  args : ∀ s e s', s.pos ≤ l.length → argsR l n s = some (e, s') → Went l s s'
  argl : ∀ ks s e s', s.pos ≤ l.length → argsL l n ks s = some (e, s') → Went l s s'
theorem went_nest {l : List Tok} {s s1 : PSt} (hp : s.pos < l.length) (he : s.err = none) (hn : (nestP s).err.isNone = true) (h : Went l (nestP s).step s1) : Went l s s1.up := (Adv.nest (none_of hn) h).w
theorem went_exprR (l : List Tok) : ∀ n, WentR l n := by
  intro n
  induction n with
  | zero =>
    refine ⟨?_, ?_, ?_, ?_, ?_⟩
    · intro lv s e s' _ h; rw [exprR] at h; cases h
    · intro lv a s e s' _ h; rw [loopR] at h; cases h
    · intro s e s' _ h; rw [aheadR] at h; cases h
    · intro s e s' _ h; rw [argsR] at h; cases h
    · intro ks s e s' _ h; rw [argsL] at h; cases h
  | succ n ih =>
    refine ⟨?_, ?_, ?_, ?_, ?_⟩
    · intro lv s e s' hp h
      rw [exprR] at h
      cases hx : aheadR l n s with
      | none => rw [hx] at h; cases h
      | some p =>
        rw [hx] at h
        have a1 := ih.ahead s p.1 p.2 hp hx
        exact a1.trans (ih.loop _ _ _ _ _ a1.hi h)
    · intro lv a s e s' hp h
      rw [loopR] at h
      by_cases h1 : leB lv (levR l s) = true
      · rw [if_pos h1] at h
        obtain ⟨he, t, k, -, -, -, -, -, hlt⟩ := lev_some h1
        cases hx : exprR l n ((levR l s).getD 0 + 1) s.step with
        | none => rw [hx] at h; cases h
        | some p =>
          rw [hx] at h
          have a1 := ih.expr _ _ p.1 p.2 (step_len hlt).1 hx
          exact (went_step hlt he).trans (a1.trans (ih.loop _ _ _ _ _ a1.hi h))
      · rw [if_neg h1] at h
        cases h
        exact Went.refl hp
    · intro s e s' hp h
      rw [aheadR] at h
      by_cases h1 : isP l s [45] = true ∨ isP l s [33] = true
      · rw [if_pos h1] at h
        obtain ⟨he, hlt⟩ : s.err = none ∧ s.pos < l.length := by
          rcases h1 with h1 | h1 <;> exact ⟨(isP_some h1).1, (isP_some h1).2.choose_spec.2.2.1⟩
        by_cases hn : (nestP s).err.isNone = true
        · rw [if_pos hn] at h
          cases hx : aheadR l n (nestP s).step with
          | none => rw [hx] at h; cases h
          | some p =>
            rw [hx] at h
            have a1 := ih.ahead _ p.1 p.2 (nest_len hlt).1 hx
            cases h
            exact went_nest hlt he hn a1
        · rw [if_neg hn] at h
          cases h
          exact nest_bad hp he (some_of hn)
      rw [if_neg h1] at h
      by_cases h2 : isP l s [40] = true
      · rw [if_pos h2] at h
        obtain ⟨he, t, -, -, hlt, -⟩ := isP_some h2
        by_cases hn : (nestP s).err.isNone = true
        · rw [if_pos hn] at h
          cases hx : exprR l n 0 (nestP s).step with
          | none => rw [hx] at h; cases h
          | some p =>
            rw [hx] at h
            have a1 := ih.expr _ _ p.1 p.2 (nest_len hlt).1 hx
            cases h
            exact went_nest hlt he hn (a1.trans (takeP_went a1.hi))
        · rw [if_neg hn] at h
          cases h
          exact nest_bad hp he (some_of hn)
      rw [if_neg h2] at h
      by_cases h3 : ofB l kNumber s = true
      · rw [if_pos h3] at h
        obtain ⟨he, t, -, -, hlt⟩ := ofB_some h3
        cases h
        exact went_step hlt he
      rw [if_neg h3] at h
      have a0 := ofP_went (l := l) (x := kName) hp
      by_cases h4 : isP l (ofP l kName s).2 [40] = true
      · rw [if_pos h4] at h
        obtain ⟨he, t, -, -, hlt, -⟩ := isP_some h4
        by_cases hn : (nestP (ofP l kName s).2).err.isNone = true
        · rw [if_pos hn] at h
          cases hx : argsR l n (nestP (ofP l kName s).2).step with
          | none => rw [hx] at h; cases h
          | some p =>
            rw [hx] at h
            have a1 := ih.args _ p.1 p.2 (nest_len hlt).1 hx
            cases h
            exact a0.trans (went_nest hlt he hn a1)
        · rw [if_neg hn] at h
          cases h
          exact a0.trans (nest_bad a0.hi he (some_of hn))
      · rw [if_neg h4] at h
        cases h
        exact a0
    · intro s e s' hp h
      rw [argsR] at h
      by_cases h1 : isP l s [41] = true
      · rw [if_pos h1] at h
        obtain ⟨he, t, -, -, hlt, -⟩ := isP_some h1
        cases h
        exact went_step hlt he
      · rw [if_neg h1] at h
        exact ih.argl _ _ _ _ hp h
    · intro ks s e s' hp h
      rw [argsL] at h
      by_cases h1 : s.err.isNone = true
      · rw [if_pos h1] at h
        cases hx : exprR l n 0 s with
        | none => rw [hx] at h; cases h
        | some p =>
          obtain ⟨e1, s1⟩ := p
          rw [hx] at h
          dsimp only at h
          have a1 := ih.expr 0 s e1 s1 hp hx
          by_cases h2 : isP l s1 [44] = true
          · rw [if_pos h2] at h
            obtain ⟨he, t, -, -, hlt, -⟩ := isP_some h2
            exact a1.trans ((went_step hlt he).trans (ih.argl _ _ _ _ (step_len hlt).1 h))
          · rw [if_neg h2] at h
            cases h
            exact a1.trans (takeP_went a1.hi)
      · rw [if_neg h1] at h
        cases h
        exact Went.refl hp
theorem assign_advR {l : List Tok} {n : Nat} {kind : List UInt8} {s s' : PSt} {x : PStmt} (hp : s.pos ≤ l.length) (h : assignR l n kind s = some (x, s')) : Adv l s s' := by
  unfold assignR at h
  have a1 := ofP_adv (x := kName) hp
  have a2 := a1.then (takeP_went (x := [61]) a1.w.hi)
  cases hx : exprR l n 0 (takeP l [61] (ofP l kName s).2) with
  | none => rw [hx] at h; cases h
  | some p =>
    rw [hx] at h
    have a3 := a2.then ((went_exprR l n).expr 0 _ p.1 p.2 a2.w.hi hx)
    cases h
    exact a3.then (takeP_went a3.w.hi)
theorem tell_advR {l : List Tok} {n : Nat} {kind : List UInt8} {s s' : PSt} {x : PStmt} (hp : s.pos < l.length) (he : s.err = none) (h : tellR l n kind s = some (x, s')) : Adv l s s' := by
  unfold tellR at h
  cases hx : exprR l n 0 s.step with
  | none => rw [hx] at h; cases h
  | some p =>
    rw [hx] at h
    have a3 := (went_exprR l n).expr 0 _ p.1 p.2 (step_len hp).1 hx
    cases h
    exact Adv.step hp he rfl (a3.trans (takeP_went a3.hi))
structure AdvSR (l : List Tok) (n : Nat) : Prop where
  block : ∀ s e s', s.pos ≤ l.length → blockR l n s = some (e, s') → Went l s s'
  stmts : ∀ ss s e s', s.pos ≤ l.length → stmtsR l n ss s = some (e, s') → Went l s s'
  stmt : ∀ s e s', s.pos ≤ l.length → s.err = none → stmtR l n s = some (e, s') → Adv l s s'
  branch : ∀ k s e s', s.pos < l.length → s.err = none → branchR l n k s = some (e, s') → Adv l s s'
theorem adv_stmtR (l : List Tok) : ∀ n, AdvSR l n := by
  intro n
  induction n with
  | zero =>
    refine ⟨?_, ?_, ?_, ?_⟩
    · intro s e s' _ h; rw [blockR] at h; cases h
    · intro ss s e s' _ h; rw [stmtsR] at h; cases h
    · intro s e s' _ _ h; rw [stmtR] at h; cases h
    · intro k s e s' _ _ h; rw [branchR] at h; cases h
  | succ n ih =>
    refine ⟨?_, ?_, ?_, ?_⟩
    · intro s e s' hp h
      rw [blockR] at h
      by_cases h1 : isP l s [123] = true
      · rw [if_pos h1] at h
        obtain ⟨he, t, -, -, hlt, -⟩ := isP_some h1
        by_cases hn : (nestP s).err.isNone = true
        · rw [if_pos hn] at h
          cases hx : stmtsR l n [] (nestP s).step with
          | none => rw [hx] at h; cases h
          | some p =>
            rw [hx] at h
            have a1 := ih.stmts [] _ p.1 p.2 (nest_len hlt).1 hx
            cases h
            exact (Adv.nest (none_of hn) a1).w
        · rw [if_neg hn] at h
          cases h
          exact nest_bad hp he (some_of hn)
      · rw [if_neg h1] at h
        cases h
        exact Went.fail hp
    · intro ss s e s' hp h
      rw [stmtsR] at h
      by_cases h1 : s.err.isNone = true
      · rw [if_pos h1] at h
        by_cases h2 : isP l s [125] = true
        · rw [if_pos h2] at h
          obtain ⟨he, t, -, -, hlt, -⟩ := isP_some h2
          cases h
          exact went_step hlt he
        · rw [if_neg h2] at h
          cases hx : stmtR l n s with
          | none => rw [hx] at h; cases h
          | some p =>
            rw [hx] at h
            have a1 := (ih.stmt s p.1 p.2 hp (none_of h1) hx).w
            exact a1.trans (ih.stmts _ _ _ _ a1.hi h)
      · rw [if_neg h1] at h
        cases h
        exact Went.refl hp
    · intro s e s' hp he h
      rw [stmtR] at h
      by_cases h1 : isP l s zIf = true
      · rw [if_pos h1] at h
        obtain ⟨he, t, -, -, hlt, -⟩ := isP_some h1
        exact ih.branch _ _ _ _ hlt he h
      rw [if_neg h1] at h
      by_cases h2 : isP l s zWhile = true
      · rw [if_pos h2] at h
        obtain ⟨he, t, -, -, hlt, -⟩ := isP_some h2
        exact ih.branch _ _ _ _ hlt he h
      rw [if_neg h2] at h
      by_cases h3 : isP l s zReturn = true
      · rw [if_pos h3] at h
        obtain ⟨he, t, -, -, hlt, -⟩ := isP_some h3
        exact tell_advR hlt he h
      rw [if_neg h3] at h
      by_cases h4 : isP l s zPrint = true
      · rw [if_pos h4] at h
        obtain ⟨he, t, -, -, hlt, -⟩ := isP_some h4
        exact tell_advR hlt he h
      rw [if_neg h4] at h
      by_cases h5 : isP l s zVar = true
      · rw [if_pos h5] at h
        obtain ⟨he, t, -, -, hlt, -⟩ := isP_some h5
        exact Adv.step hlt he rfl (assign_advR (step_len hlt).1 h).w
      · rw [if_neg h5] at h
        exact assign_advR hp h
    · intro k s e s' hlt he h
      rw [branchR] at h
      cases hx : exprR l n 0 s.step with
      | none => rw [hx] at h; cases h
      | some p =>
        obtain ⟨e1, s1⟩ := p
        rw [hx] at h
        dsimp only at h
        have a1 := (went_exprR l n).expr 0 _ e1 s1 (step_len hlt).1 hx
        cases hb : blockR l n s1 with
        | none => rw [hb] at h; cases h
        | some p =>
          obtain ⟨th, s2⟩ := p
          rw [hb] at h
          dsimp only at h
          have a2 := a1.trans (ih.block _ th s2 a1.hi hb)
          by_cases h1 : ((k == zIf) && isP l s2 zElse) = true
          · rw [if_pos h1] at h
            simp only [Bool.and_eq_true] at h1
            obtain ⟨he2, t, -, -, hlt2, -⟩ := isP_some h1.2
            cases hc : blockR l n s2.step with
            | none => rw [hc] at h; cases h
            | some p =>
              rw [hc] at h
              have a3 := ih.block _ p.1 p.2 (step_len hlt2).1 hc
              cases h
              exact Adv.step hlt he rfl (a2.trans ((went_step hlt2 he2).trans a3))
          · rw [if_neg h1] at h
            cases h
            exact Adv.step hlt he rfl a2
theorem names_wentR {l : List Tok} : ∀ n ps s e s', s.pos ≤ l.length → namesR l n ps s = some (e, s') → Went l s s'
  | 0, ps, s, e, s', _, h => by rw [namesR] at h; cases h
  | n + 1, ps, s, e, s', hp, h => by
    rw [namesR] at h
    by_cases h1 : s.err.isNone = true
    · rw [if_pos h1] at h
      have a1 := ofP_went (x := kName) hp
      by_cases h2 : isP l (ofP l kName s).2 [44] = true
      · rw [if_pos h2] at h
        obtain ⟨he, t, -, -, hlt, -⟩ := isP_some h2
        exact a1.trans ((went_step hlt he).trans (names_wentR n _ _ e s' (step_len hlt).1 h))
      · rw [if_neg h2] at h
        cases h
        exact a1.trans (takeP_went a1.hi)
    · rw [if_neg h1] at h
      cases h
      exact Went.refl hp
theorem params_wentR {l : List Tok} {n : Nat} {s s' : PSt} {e : List (List UInt8)} (hp : s.pos ≤ l.length) (h : paramsR l n s = some (e, s')) : Went l s s' := by
  unfold paramsR at h
  by_cases h0 : s.err.isNone = true
  · rw [if_pos h0] at h
    by_cases h1 : isP l s [41] = true
    · rw [if_pos h1] at h
      obtain ⟨he, t, -, -, hlt, -⟩ := isP_some h1
      cases h
      exact went_step hlt he
    · rw [if_neg h1] at h
      exact names_wentR n _ _ e s' hp h
  · rw [if_neg h0] at h
    cases h
    exact Went.refl hp
theorem fun_advR {l : List Tok} {n : Nat} {s s' : PSt} {f : PFun} (hp : s.pos ≤ l.length) (h : funR l n s = some (f, s')) : Adv l s s' := by
  have hh := headP_went (l := l) hp
  unfold funR at h
  cases hq : paramsR l n (headP l s).2 with
  | none => rw [hq] at h; cases h
  | some p =>
    rw [hq] at h
    dsimp only at h
    have a1 := hh.then (params_wentR hh.w.hi hq)
    cases hx : blockR l n p.2 with
    | none => rw [hx] at h; cases h
    | some q =>
      rw [hx] at h
      have a2 := (adv_stmtR l n).block _ q.1 q.2 a1.w.hi hx
      cases h
      exact a1.then a2
end Go.Proofs.YtpfgimohginbdaaDoor
