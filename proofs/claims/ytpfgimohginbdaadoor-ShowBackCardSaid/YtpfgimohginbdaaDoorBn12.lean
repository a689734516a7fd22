import Derived.Test.YtpfgimohginbdaaDoorBn9
import Derived.Test.YtpfgimohginbdaaDoorBn11
set_option linter.unusedVariables false
set_option linter.unusedSimpArgs false
namespace Go.Proofs.YtpfgimohginbdaaDoor
open Go.RowKit

/-! what was parsed, as tokens again -/
abbrev KT := List UInt8 × List UInt8
abbrev sg (x : List UInt8) : KT := (kSign, x)
abbrev wd (x : List UInt8) : KT := (kWord, x)
abbrev nmK (x : List UInt8) : KT := (kName, x)
def joinK : List (List KT) → List KT
  | [] => []
  | [x] => x
  | x :: xs => x ++ [sg [44]] ++ joinK xs
def wr (k : PExpr) (least : Int) : Prop := k.kind = xTwo ∧ levelP k.name < least
instance (k : PExpr) (least : Int) : Decidable (wr k least) := inferInstanceAs (Decidable (_ ∧ _))
def wrapK (k : PExpr) (least : Int) (t : List KT) : List KT := if wr k least then [sg [40]] ++ t ++ [sg [41]] else t
def wrN (k : PExpr) (least : Int) : Int := if wr k least then 1 else 0
def oneK (name : List UInt8) : List PExpr → List (List KT) → List KT
  | [k], [t] => [sg name] ++ wrapK k 8 t
  | _, _ => []
def twoK (name : List UInt8) : List PExpr → List (List KT) → List KT
  | [a, b], [s, t] => wrapK a (levelP name) s ++ [sg name] ++ wrapK b (levelP name + 1) t
  | _, _ => []
mutual
def ktE : PExpr → List KT
  | ⟨kind, num, name, kids⟩ =>
    if kind = xNum then [(kNumber, Lib.itoa num)]
    else if kind = xName then [nmK name]
    else if kind = xCall then [nmK name, sg [40]] ++ joinK (ktKs kids) ++ [sg [41]]
    else if kind = xOne then oneK name kids (ktKs kids)
    else if kind = xTwo then twoK name kids (ktKs kids)
    else []
def ktKs : List PExpr → List (List KT)
  | [] => []
  | k :: ks => ktE k :: ktKs ks
end
theorem ktKs_map : ∀ ks, ktKs ks = ks.map ktE := by
  intro ks
  induction ks with
  | nil => rw [ktKs]; rfl
  | cons k ks ih => rw [ktKs, ih]; rfl
theorem ktE_num (v : Int) (x : List UInt8) (ks : List PExpr) : ktE ⟨yNum, v, x, ks⟩ = [(kNumber, Lib.itoa v)] := by
  rw [ktE, if_pos (show yNum = xNum from rfl)]
theorem ktE_name (v : Int) (x : List UInt8) (ks : List PExpr) : ktE ⟨yName, v, x, ks⟩ = [nmK x] := by
  rw [ktE, if_neg (show yName ≠ xNum by decide), if_pos (show yName = xName from rfl)]
theorem ktE_call (v : Int) (x : List UInt8) (ks : List PExpr) : ktE ⟨yCall, v, x, ks⟩ = [nmK x, sg [40]] ++ joinK (ks.map ktE) ++ [sg [41]] := by
  rw [ktE, if_neg (show yCall ≠ xNum by decide), if_neg (show yCall ≠ xName by decide), if_pos (show yCall = xCall from rfl), ktKs_map]
theorem ktE_one (v : Int) (x : List UInt8) (k : PExpr) : ktE ⟨yOne, v, x, [k]⟩ = [sg x] ++ wrapK k 8 (ktE k) := by
  rw [ktE, if_neg (show yOne ≠ xNum by decide), if_neg (show yOne ≠ xName by decide), if_neg (show yOne ≠ xCall by decide), if_pos (show yOne = xOne from rfl), ktKs_map]; rfl
theorem ktE_two (v : Int) (x : List UInt8) (a b : PExpr) : ktE ⟨yTwo, v, x, [a, b]⟩ = wrapK a (levelP x) (ktE a) ++ [sg x] ++ wrapK b (levelP x + 1) (ktE b) := by
  rw [ktE, if_neg (show yTwo ≠ xNum by decide), if_neg (show yTwo ≠ xName by decide), if_neg (show yTwo ≠ xCall by decide), if_neg (show yTwo ≠ xOne by decide), if_pos (show yTwo = xTwo from rfl), ktKs_map]; rfl
/-- A name of the language. -/
structure GN (x : List UInt8) : Prop where
  head : ∃ c r, x = c :: r ∧ isLetter c = true
  all : ∀ c ∈ x, alnum c = true
  len : x.length ≤ 8
  word : x ∉ wordsB
/-- A tree that is parsed at a depth, and may be again. -/
inductive OkX : Int → PExpr → Prop
  | num (d v : Int) (h0 : 0 ≤ v) (h1 : v < 1000000000000000000) : OkX d ⟨yNum, v, [], []⟩
  | name (d : Int) (x : List UInt8) (h : GN x) : OkX d ⟨yName, 0, x, []⟩
  | call (d : Int) (x : List UInt8) (ks : List PExpr) (h : GN x) (hd : d + 1 ≤ 12) (hk : ∀ k ∈ ks, OkX (d + 1) k) : OkX d ⟨yCall, 0, x, ks⟩
  | one (d : Int) (x : List UInt8) (k : PExpr) (h : x = [45] ∨ x = [33]) (hd : d + 1 + wrN k 8 ≤ 12) (hk : OkX (d + 1 + wrN k 8) k) : OkX d ⟨yOne, 0, x, [k]⟩
  | two (d : Int) (x : List UInt8) (lv : Nat) (a b : PExpr) (h : levN x = some lv) (ha : d + wrN a lv ≤ 12) (hka : OkX (d + wrN a lv) a) (hb : d + wrN b (lv + 1) ≤ 12) (hkb : OkX (d + wrN b (lv + 1)) b) : OkX d ⟨yTwo, 0, x, [a, b]⟩
theorem wrN_bd (k : PExpr) (j : Int) : 0 ≤ wrN k j ∧ wrN k j ≤ 1 := by unfold wrN; split <;> omega
theorem wrN_mono (k : PExpr) {i j : Int} (h : i ≤ j) : wrN k i ≤ wrN k j := by
  unfold wrN
  by_cases h1 : wr k i
  · rw [if_pos h1, if_pos ⟨h1.1, by have := h1.2; omega⟩]; omega
  · rw [if_neg h1]; split <;> omega
theorem OkX.mono {d' : Int} {e : PExpr} (h : OkX d' e) : ∀ d, d ≤ d' → OkX d e := by
  induction h with
  | num d' v h0 h1 => intro d _; exact .num d v h0 h1
  | name d' x h => intro d _; exact .name d x h
  | call d' x ks h hd hk ih => intro d hl; exact .call d x ks h (by omega) fun k hm => ih k hm _ (by omega)
  | one d' x k h hd hk ih => intro d hl; exact .one d x k h (by omega) (ih _ (by omega))
  | two d' x lv a b h ha hka hb hkb iha ihb => intro d hl; exact .two d x lv a b h (by omega) (iha _ (by omega)) (by omega) (ihb _ (by omega))
theorem lev_lp {x : List UInt8} {lv : Nat} (h : levN x = some lv) : levelP x = lv ∧ lv < 8 := by
  have h1 : ∀ lv, lv < 8 → ∀ x ∈ levelsB.getD lv [], levelP x = (lv : Int) := by decide
  have h2 := op_lev h
  by_cases hl : lv < 8
  · exact ⟨h1 lv hl x (by simpa using h2), hl⟩
  · rw [List.getD_eq_getElem?_getD, List.getElem?_eq_none (by show 8 ≤ lv; omega)] at h2
    simp at h2
/-- What a piece has made: it may be printed at a level. -/
structure Got (d : Int) (p0 : Nat) (e : PExpr) (j : Int) (p : Nat) : Prop where
  top : d + wrN e j ≤ 12
  ok : OkX (d + wrN e j) e
  len : p0 + (wrapK e j (ktE e)).length ≤ p
theorem wrapK_len (k : PExpr) (j : Int) (t : List KT) : ((wrapK k j t).length : Int) = t.length + 2 * wrN k j := by
  unfold wrapK wrN
  split
  · simp; omega
  · omega
theorem Got.le {d : Int} {p0 p p' : Nat} {e : PExpr} {i j : Int} (h : Got d p0 e j p) (hi : i ≤ j) (hp : p ≤ p') : Got d p0 e i p' := by
  have h1 := wrN_mono e hi
  have h2 := wrapK_len e i (ktE e)
  have h3 := wrapK_len e j (ktE e)
  have := h.top
  have := h.len
  exact ⟨by omega, h.ok.mono _ (by omega), by omega⟩
theorem wr_no {e : PExpr} {j : Int} (h : e.kind ≠ xTwo) : wrN e j = 0 ∧ ∀ t, wrapK e j t = t := by
  have h1 : ¬ wr e j := fun q => h q.1
  exact ⟨by unfold wrN; rw [if_neg h1], fun t => by unfold wrapK; rw [if_neg h1]⟩
theorem wr_le {e : PExpr} {j : Int} (h : j ≤ levelP e.name) : wrN e j = 0 ∧ ∀ t, wrapK e j t = t := by
  have h1 : ¬ wr e j := fun q => by have := q.2; omega
  exact ⟨by unfold wrN; rw [if_neg h1], fun t => by unfold wrapK; rw [if_neg h1]⟩
theorem Got.plain {d : Int} {p0 p : Nat} {e : PExpr} {j : Int} (hk : e.kind ≠ xTwo) (hd : d ≤ 12) (ho : OkX d e) (hl : p0 + (ktE e).length ≤ p) : Got d p0 e j p := by
  have h := wr_no (j := j) hk
  exact ⟨by omega, by rw [h.1, Int.add_zero]; exact ho, by rw [h.2]; exact hl⟩
def sumKt (ks : List PExpr) : Nat := (ks.map fun k => (ktE k).length + 1).sum
theorem sumKt_snoc (ks : List PExpr) (k : PExpr) : sumKt (ks ++ [k]) = sumKt ks + (ktE k).length + 1 := by unfold sumKt; simp; omega
theorem joinK_cons (x y : List KT) (r : List (List KT)) : joinK (x :: y :: r) = x ++ [sg [44]] ++ joinK (y :: r) := rfl
theorem join_len : ∀ (ks : List PExpr) (e : PExpr), (joinK ((ks ++ [e]).map ktE)).length = sumKt ks + (ktE e).length := by
  intro ks
  induction ks with
  | nil => intro e; simp [joinK, sumKt]
  | cons k ks ih =>
    intro e
    have h := ih e
    cases hr : (ks ++ [e]).map ktE with
    | nil => simp at hr
    | cons y r =>
      rw [hr] at h
      rw [List.cons_append, List.map_cons, hr, joinK_cons]
      simp only [List.length_append, List.length_cons, List.length_nil]
      rw [h]
      simp [sumKt]
      omega
/-- What the tokens are. -/
def TkV (l : List Tok) : Prop := ∀ t ∈ l, (t.kind = kName → GN t.text) ∧ (t.kind = kNumber → t.text.length ≤ 18 ∧ ∀ x ∈ t.text, 48 ≤ x.toNat ∧ x.toNat ≤ 57)
theorem TkV.txt {l : List Tok} (V : TkV l) {s : PSt} (h : ofB l kName s = true) : GN (txtP l s) := by
  obtain ⟨-, t, h1, h2, -⟩ := ofB_some h
  unfold txtP
  rw [h1]
  exact (V t (List.mem_of_getElem? h1)).1 h2
theorem TkV.num {l : List Tok} (V : TkV l) {s : PSt} (h : ofB l kNumber s = true) : 0 ≤ digV (txtP l s) ∧ digV (txtP l s) < 1000000000000000000 := by
  obtain ⟨-, t, h1, h2, -⟩ := ofB_some h
  unfold txtP
  rw [h1]
  have := (V t (List.mem_of_getElem? h1)).2 h2
  exact dig_lt this.1 this.2
structure FrE (l : List Tok) (n : Nat) : Prop where
  expr : ∀ (lv : Nat) s e s', lv ≤ 8 → s.pos ≤ l.length → s.deep ≤ 12 → exprR l n lv s = some (e, s') → s'.err = none → Got s.deep s.pos e lv s'.pos
  loop : ∀ (lv : Nat) a s e s' d p0, lv ≤ 8 → s.pos ≤ l.length → s.deep = d → d ≤ 12 → (∀ j : Nat, j ≤ 8 → j = lv ∨ leB j (levR l s) = true → Got d p0 a j s.pos) → loopR l n lv a s = some (e, s') → s'.err = none → Got d p0 e lv s'.pos
  ahead : ∀ s e s', s.pos ≤ l.length → s.deep ≤ 12 → aheadR l n s = some (e, s') → s'.err = none → Got s.deep s.pos e 8 s'.pos
  args : ∀ s es s', s.pos ≤ l.length → s.deep ≤ 12 → argsR l n s = some (es, s') → s'.err = none → (∀ k ∈ es, OkX s.deep k) ∧ s.pos + (joinK (es.map ktE)).length + 1 ≤ s'.pos
  argl : ∀ ks s es s' p0, s.pos ≤ l.length → s.deep ≤ 12 → (∀ k ∈ ks, OkX s.deep k) → p0 + sumKt ks ≤ s.pos → argsL l n ks s = some (es, s') → s'.err = none → (∀ k ∈ es, OkX s.deep k) ∧ p0 + (joinK (es.map ktE)).length + 1 ≤ s'.pos
theorem fr_expr {l : List Tok} (V : TkV l) : ∀ n, FrE l n := by
  intro n
  induction n with
  | zero =>
    refine ⟨?_, ?_, ?_, ?_, ?_⟩
    · intro lv s e s' _ _ _ h; rw [exprR] at h; cases h
    · intro lv a s e s' d p0 _ _ _ _ _ h; rw [loopR] at h; cases h
    · intro s e s' _ _ h; rw [aheadR] at h; cases h
    · intro s e s' _ _ h; rw [argsR] at h; cases h
    · intro ks s e s' p0 _ _ _ _ h; rw [argsL] at h; cases h
  | succ n ih =>
    have W := went_exprR l n
    refine ⟨?_, ?_, ?_, ?_, ?_⟩
    · intro lv s e s' hlv hp hd h he
      rw [exprR] at h
      cases hx : aheadR l n s with
      | none => rw [hx] at h; cases h
      | some p =>
        obtain ⟨e1, s1⟩ := p
        rw [hx] at h
        have w1 := W.ahead s e1 s1 hp hx
        have w2 := W.loop lv e1 s1 e s' w1.hi h
        obtain ⟨-, he1⟩ := w2.ok he
        have hd1 := (w1.ok he1).1
        have g := ih.ahead s e1 s1 hp hd hx he1
        exact ih.loop lv e1 s1 e s' s.deep s.pos hlv w1.hi hd1 hd (fun j hj _ => g.le (by omega) (Nat.le_refl _)) h he
    · intro lv a s e s' d p0 hlv hp hsd hd ha h he
      rw [loopR] at h
      by_cases ho : leB lv (levR l s) = true
      · rw [if_pos ho] at h
        obtain ⟨he0, t, k, hg, -, hk, hq, hlk, hlt⟩ := lev_some ho
        rw [hq] at h
        obtain ⟨hlp, hk8⟩ := lev_lp hk
        cases hx : exprR l n ((some k).getD 0 + 1) s.step with
        | none => rw [hx] at h; cases h
        | some p =>
          obtain ⟨r, s1⟩ := p
          rw [hx] at h
          dsimp only at h
          have hx' : exprR l n (k + 1) s.step = some (r, s1) := hx
          have w1 := W.expr (k + 1) s.step r s1 hlt hx'
          have w2 := W.loop lv _ s1 e s' w1.hi h
          obtain ⟨-, he1⟩ := w2.ok he
          have hd1 : s1.deep = d := by rw [(w1.ok he1).1]; exact hsd
          have g1 := ha k (by omega) (.inr (by rw [hq]; simp [leB]))
          have g2 := ih.expr (k + 1) s.step r s1 (by omega) hlt (by show s.deep ≤ 12; omega) hx' he1
          have hend := expr_end hx'
          have htx : txtP l s = t.text := by unfold txtP; rw [hg]; rfl
          have hst : s.step.deep = d := hsd
          rw [hst] at g2
          have hlp' : levelP (txtP l s) = (k : Int) := by rw [htx]; exact hlp
          refine ih.loop lv _ s1 e s' d p0 hlv w1.hi hd1 hd (fun j hj hor => ?_) h he
          have hjk : (j : Int) ≤ k := by
            rcases hor with rfl | hor
            · omega
            · cases hl1 : levR l s1 with
              | none => rw [hl1] at hor; cases hor
              | some q =>
                rw [hl1] at hor hend
                simp [leB] at hor hend
                omega
          have hno := wr_le (e := (⟨yTwo, 0, txtP l s, [a, r]⟩ : PExpr)) (j := j) (by show (j : Int) ≤ levelP (txtP l s); omega)
          have hc : ((k + 1 : Nat) : Int) = (k : Int) + 1 := by omega
          rw [hc] at g2
          refine ⟨by rw [hno.1]; omega, by rw [hno.1, Int.add_zero]; exact .two d (txtP l s) k a r (by rw [htx]; exact hk) g1.top g1.ok g2.top g2.ok, ?_⟩
          rw [hno.2, ktE_two, hlp']
          have l1 := g1.len
          have l2 := g2.len
          have hs1 : s.step.pos = s.pos + 1 := rfl
          simp only [List.length_append, List.length_cons, List.length_nil]
          omega
      · rw [if_neg ho] at h
        cases h
        exact ha lv hlv (.inl rfl)
    · intro s e s' hp hd h he
      rw [aheadR] at h
      split at h
      · rename_i ho
        have hx0 : s.err = none ∧ s.pos < l.length ∧ (txtP l s = [45] ∨ txtP l s = [33]) := by
          rcases ho with ho | ho
          · obtain ⟨e0, t, h1, h2, hp, -⟩ := isP_some ho; exact ⟨e0, hp, .inl (by unfold txtP; rw [h1]; exact h2)⟩
          · obtain ⟨e0, t, h1, h2, hp, -⟩ := isP_some ho; exact ⟨e0, hp, .inr (by unfold txtP; rw [h1]; exact h2)⟩
        split at h
        · rename_i hn
          obtain ⟨-, hd1, hne⟩ := nestP_ok (none_of hn)
          cases hx : aheadR l n (nestP s).step with
          | none => rw [hx] at h; cases h
          | some p =>
            obtain ⟨e1, s1⟩ := p
            rw [hx] at h
            cases h
            have g := ih.ahead (nestP s).step e1 s1 (nest_len hx0.2.1).1 (by rw [hne]; exact hd1) hx he
            have e1d : (nestP s).step.deep = s.deep + 1 := by rw [hne]; rfl
            have e1p : (nestP s).step.pos = s.pos + 1 := by rw [hne]; rfl
            rw [e1d, e1p] at g
            refine Got.plain (by show yOne ≠ xTwo; decide) hd (.one s.deep _ e1 hx0.2.2 g.top g.ok) ?_
            rw [ktE_one]
            have := g.len
            simp only [List.length_append, List.length_cons, List.length_nil]
            show _ ≤ s1.pos
            omega
        · rename_i hn
          cases h
          exact absurd he (some_of hn)
      · split at h
        · rename_i ho
          obtain ⟨he0, t, -, -, hlt, -⟩ := isP_some ho
          split at h
          · rename_i hn
            obtain ⟨-, hd1, hne⟩ := nestP_ok (none_of hn)
            cases hx : exprR l n 0 (nestP s).step with
            | none => rw [hx] at h; cases h
            | some p =>
              obtain ⟨e1, s1⟩ := p
              rw [hx] at h
              cases h
              have he1 : (takeP l [41] s1).err = none := he
              obtain ⟨ht, hts⟩ := takeP_next he1
              have hes : s1.err = none := (isP_some ht).1
              have g := ih.expr 0 (nestP s).step e s1 (by omega) (nest_len hlt).1 (by rw [hne]; exact hd1) hx hes
              have e1d : (nestP s).step.deep = s.deep + 1 := by rw [hne]; rfl
              have e1p : (nestP s).step.pos = s.pos + 1 := by rw [hne]; rfl
              rw [e1d, e1p] at g
              have hps : (takeP l [41] s1).up.pos = s1.pos + 1 := by rw [hts]; rfl
              have h0 := wrN_bd e 8
              have h1 := wrN_bd e ((0 : Nat) : Int)
              have l0 := wrapK_len e 8 (ktE e)
              have l1 := wrapK_len e ((0 : Nat) : Int) (ktE e)
              have lg := g.len
              exact ⟨by omega, g.ok.mono _ (by omega), by rw [hps]; omega⟩
          · rename_i hn
            cases h
            exact absurd he (some_of hn)
        · split at h
          · rename_i ho
            cases h
            have := V.num ho
            exact Got.plain (by show yNum ≠ xTwo; decide) hd (.num _ _ this.1 this.2) (by rw [ktE_num]; show s.pos + 1 ≤ s.pos + 1; omega)
          · split at h
            · rename_i ho
              obtain ⟨he2, t, -, -, hlt2, -⟩ := isP_some ho
              obtain ⟨hb, hof⟩ := ofP_next he2
              split at h
              · rename_i hn
                obtain ⟨-, hd1, hne⟩ := nestP_ok (none_of hn)
                cases hx : argsR l n (nestP (ofP l kName s).2).step with
                | none => rw [hx] at h; cases h
                | some p =>
                  obtain ⟨es, s1⟩ := p
                  rw [hx] at h
                  cases h
                  have d1 : (ofP l kName s).2.deep = s.deep := by rw [hof]; rfl
                  have p1 : (ofP l kName s).2.pos = s.pos + 1 := by rw [hof]; rfl
                  have e1d : (nestP (ofP l kName s).2).step.deep = s.deep + 1 := by rw [hne]; show _ + 1 = _; rw [d1]
                  have e1p : (nestP (ofP l kName s).2).step.pos = s.pos + 2 := by rw [hne]; show _ + 1 = _; rw [p1]
                  obtain ⟨g1, g2⟩ := ih.args _ _ _ (nest_len hlt2).1 (by rw [e1d]; omega) hx he
                  rw [e1d] at g1
                  rw [e1p] at g2
                  refine Got.plain (by show yCall ≠ xTwo; decide) hd (.call s.deep _ es (by rw [hof]; exact V.txt hb) (by omega) g1) ?_
                  rw [ktE_call]
                  simp only [List.length_append, List.length_cons, List.length_nil]
                  show _ ≤ s1.pos
                  omega
              · rename_i hn
                cases h
                exact absurd he (some_of hn)
            · cases h
              obtain ⟨hb, hof⟩ := ofP_next he
              refine Got.plain (by show yName ≠ xTwo; decide) hd (by rw [hof]; exact .name _ _ (V.txt hb)) ?_
              rw [ktE_name, hof]
              show s.pos + 1 ≤ s.pos + 1
              omega
    · intro s es s' hp hd h he
      rw [argsR] at h
      split at h
      · cases h
        exact ⟨fun k hk => absurd hk List.not_mem_nil, by show s.pos + 0 + 1 ≤ s.pos + 1; omega⟩
      · exact ih.argl [] s es s' s.pos hp hd (fun k hk => absurd hk List.not_mem_nil) (by simp [sumKt]) h he
    · intro ks s es s' p0 hp hd hk hl h he
      rw [argsL] at h
      split at h
      · cases hx : exprR l n 0 s with
        | none => rw [hx] at h; cases h
        | some p =>
          obtain ⟨e1, s1⟩ := p
          rw [hx] at h
          dsimp only at h
          have w1 := W.expr 0 s e1 s1 hp hx
          have hsn : ∀ hes : s1.err = none, s1.deep = s.deep ∧ (∀ k ∈ ks ++ [e1], OkX s.deep k) ∧ p0 + sumKt ks + (ktE e1).length ≤ s1.pos := fun hes => by
            have g := ih.expr 0 s e1 s1 (by omega) hp hd hx hes
            have h1 := wrN_bd e1 ((0 : Nat) : Int)
            have l1 := wrapK_len e1 ((0 : Nat) : Int) (ktE e1)
            have lg := g.len
            refine ⟨(w1.ok hes).1, fun k hm => ?_, by omega⟩
            rcases List.mem_append.1 hm with q | q
            · exact hk k q
            · rw [List.mem_singleton.1 q]; exact g.ok.mono _ (by omega)
          split at h
          · rename_i ho
            obtain ⟨hes, t, -, -, hlt, -⟩ := isP_some ho
            obtain ⟨q1, q2, q3⟩ := hsn hes
            have hsd : s1.step.deep = s.deep := q1
            have := ih.argl (ks ++ [e1]) s1.step es s' p0 hlt (by rw [hsd]; exact hd) (by rw [hsd]; exact q2) (by rw [sumKt_snoc]; show _ ≤ s1.pos + 1; omega) h he
            rw [hsd] at this
            exact this
          · cases h
            obtain ⟨ht, hts⟩ := takeP_next he
            obtain ⟨q1, q2, q3⟩ := hsn (isP_some ht).1
            refine ⟨q2, ?_⟩
            rw [join_len, hts]
            show _ ≤ s1.pos + 1
            omega
      · rename_i hn
        cases h
        exact absurd (by rw [he]; rfl) hn
end Go.Proofs.YtpfgimohginbdaaDoor

namespace Go.Proofs.YtpfgimohginbdaaDoor
open Go.RowKit

/-! what is printed is parsed: expressions -/
/-- Tokens that stand at a place. -/
def At (l : List Tok) (p : Nat) (ts : List KT) : Prop := ∀ (j : Nat) (t : KT), ts[j]? = some t → ∃ x, l[p + j]? = some x ∧ x.kind = t.1 ∧ x.text = t.2
theorem At.left {l : List Tok} {p : Nat} {a b : List KT} (h : At l p (a ++ b)) : At l p a := fun j t hj => h j t (by rw [List.getElem?_append_left (List.getElem?_eq_some_iff.1 hj).1]; exact hj)
theorem At.right {l : List Tok} {p : Nat} {a b : List KT} (h : At l p (a ++ b)) : At l (p + a.length) b := fun j t hj => by
  have := h (a.length + j) t (by rw [List.getElem?_append_right (by omega), Nat.add_sub_cancel_left]; exact hj)
  rw [← Nat.add_assoc] at this
  exact this
theorem At.tail {l : List Tok} {p : Nat} {t : KT} {ts : List KT} (h : At l p (t :: ts)) : At l (p + 1) ts := At.right (a := [t]) h
theorem At.hd {l : List Tok} {p : Nat} {t : KT} {ts : List KT} (h : At l p (t :: ts)) : ∃ x, l[p]? = some x ∧ x.kind = t.1 ∧ x.text = t.2 := h 0 t rfl
theorem At.lt {l : List Tok} {p : Nat} {t : KT} {ts : List KT} (h : At l p (t :: ts)) : p < l.length := by
  obtain ⟨x, h1, -⟩ := h.hd
  exact (List.getElem?_eq_some_iff.1 h1).1
theorem At.le {l : List Tok} {p : Nat} {ts : List KT} (h : At l p ts) (hp : p ≤ l.length) : p + ts.length ≤ l.length := by
  by_cases h0 : ts.length = 0
  · omega
  · have hj : ts.length - 1 < ts.length := by omega
    obtain ⟨x, h1, -⟩ := h (ts.length - 1) _ (List.getElem?_eq_getElem hj)
    have := (List.getElem?_eq_some_iff.1 h1).1
    omega
/-- What follows an expression. -/
def Fol (l : List Tok) (p : Nat) (j : Int) : Prop := ∃ x, l[p]? = some x ∧ x.kind = kSign ∧ x.text ≠ [40] ∧ ∀ i, levN x.text = some i → (i : Int) ≤ j
theorem Fol.le {l : List Tok} {p : Nat} {i j : Int} (h : Fol l p i) (hi : i ≤ j) : Fol l p j := by
  obtain ⟨x, h1, h2, h3, h4⟩ := h
  exact ⟨x, h1, h2, h3, fun k hk => by have := h4 k hk; omega⟩
theorem Fol.sign {l : List Tok} {p : Nat} {y : List UInt8} {ts : List KT} (h : At l p (sg y :: ts)) (h4 : y ≠ [40]) {j : Int} (hl : ∀ i, levN y = some i → (i : Int) ≤ j) : Fol l p j := by
  obtain ⟨x, h1, h2, h3⟩ := h.hd
  exact ⟨x, h1, h2, by rw [h3]; exact h4, by rw [h3]; exact hl⟩
/-- A state without an error. -/
abbrev st (p : Nat) (d : Int) : PSt := ⟨p, d, none⟩
theorem st_ok (p : Nat) (d : Int) : (st p d).err.isNone = true := rfl
theorem isP_sg {l : List Tok} {p : Nat} {d : Int} {y z : List UInt8} {ts : List KT} (h : At l p (sg y :: ts)) : isP l (st p d) z = (y == z) := by
  obtain ⟨x, h1, h2, h3⟩ := h.hd
  unfold isP
  show (true && _) = _
  rw [show l[(st p d).pos]? = some x from h1]
  show (true && ((x.text == z) && ((x.kind == kSign) || (x.kind == kWord)))) = _
  rw [h2, h3]
  simp
theorem isP_wd {l : List Tok} {p : Nat} {d : Int} {y z : List UInt8} {ts : List KT} (h : At l p (wd y :: ts)) : isP l (st p d) z = (y == z) := by
  obtain ⟨x, h1, h2, h3⟩ := h.hd
  unfold isP
  rw [show l[(st p d).pos]? = some x from h1]
  show (true && ((x.text == z) && ((x.kind == kSign) || (x.kind == kWord)))) = _
  rw [h2, h3]
  simp
theorem isP_other {l : List Tok} {p : Nat} {d : Int} {t : KT} {z : List UInt8} {ts : List KT} (h : At l p (t :: ts)) (h1 : t.1 ≠ kSign) (h2 : t.1 ≠ kWord) : isP l (st p d) z = false := by
  obtain ⟨x, g1, g2, g3⟩ := h.hd
  unfold isP
  rw [show l[(st p d).pos]? = some x from g1]
  show (true && ((x.text == z) && ((x.kind == kSign) || (x.kind == kWord)))) = _
  rw [g2]
  simp [h1, h2]
theorem ofB_tk {l : List Tok} {p : Nat} {d : Int} {t : KT} {k : List UInt8} {ts : List KT} (h : At l p (t :: ts)) : ofB l k (st p d) = (t.1 == k) := by
  obtain ⟨x, g1, g2, g3⟩ := h.hd
  unfold ofB
  rw [show l[(st p d).pos]? = some x from g1]
  show (true && (x.kind == k)) = _
  rw [g2, Bool.true_and]
theorem txt_at {l : List Tok} {p : Nat} {d : Int} {t : KT} {ts : List KT} (h : At l p (t :: ts)) : txtP l (st p d) = t.2 := by
  obtain ⟨x, g1, g2, g3⟩ := h.hd
  unfold txtP
  rw [show l[(st p d).pos]? = some x from g1]
  exact g3
theorem ofP_at {l : List Tok} {p : Nat} {d : Int} {x : List UInt8} {ts : List KT} (h : At l p (nmK x :: ts)) : ofP l kName (st p d) = (x, st (p + 1) d) := by
  unfold ofP
  rw [if_pos (by rw [ofB_tk h]; rfl), txt_at h]
  rfl
theorem take_sg {l : List Tok} {p : Nat} {d : Int} {y : List UInt8} {ts : List KT} (h : At l p (sg y :: ts)) : takeP l y (st p d) = st (p + 1) d := by
  unfold takeP
  rw [if_pos (by rw [isP_sg h]; simp)]
  rfl
theorem take_wd {l : List Tok} {p : Nat} {d : Int} {y : List UInt8} {ts : List KT} (h : At l p (wd y :: ts)) : takeP l y (st p d) = st (p + 1) d := by
  unfold takeP
  rw [if_pos (by rw [isP_wd h]; simp)]
  rfl
theorem nest_st {p : Nat} {d : Int} (h : d + 1 ≤ 12) : nestP (st p d) = st p (d + 1) := by
  unfold nestP
  rw [if_neg (show ¬ 12 < d + 1 by omega)]
theorem lev_fol {l : List Tok} {p : Nat} {d j : Int} (h : Fol l p j) {lv : Nat} (hl : j < lv) : leB lv (levR l (st p d)) = false := by
  obtain ⟨x, h1, h2, h3, h4⟩ := h
  unfold levR
  rw [if_pos (st_ok p d), show l[(st p d).pos]? = some x from h1]
  simp only
  rw [if_pos (by rw [h2]; exact beq_self_eq_true _)]
  cases hx : levN x.text with
  | none => rfl
  | some i => have := h4 i hx; simp [leB]; omega
theorem lev_sg {l : List Tok} {p : Nat} {d : Int} {y : List UInt8} {ts : List KT} (h : At l p (sg y :: ts)) : levR l (st p d) = levN y := by
  obtain ⟨x, h1, h2, h3⟩ := h.hd
  unfold levR
  rw [if_pos (st_ok p d), show l[(st p d).pos]? = some x from h1]
  simp only
  rw [if_pos (by rw [h2]; exact beq_self_eq_true _), h3]
theorem isP_fol {l : List Tok} {p : Nat} {d j : Int} (h : Fol l p j) : isP l (st p d) [40] = false := by
  obtain ⟨x, h1, h2, h3, h4⟩ := h
  unfold isP
  rw [show l[(st p d).pos]? = some x from h1]
  show (true && ((x.text == [40]) && ((x.kind == kSign) || (x.kind == kWord)))) = _
  simp [h3]
theorem loop_done {l : List Tok} {m lv : Nat} {e : PExpr} {p : Nat} {d j : Int} (h : Fol l p j) (hl : j < lv) (hm : 1 ≤ m) : loopR l m lv e (st p d) = some (e, st p d) := by
  obtain ⟨m, rfl⟩ : ∃ k, m = k + 1 := ⟨m - 1, by omega⟩
  rw [loopR, if_neg (by rw [lev_fol h hl]; decide)]
def levE (e : PExpr) : Int := if e.kind = xTwo then levelP e.name else 8
/-- An expression's first token. -/
def HdK (t : KT) : Prop := t.1 ≠ kWord ∧ (t.1 = kSign → t.2 = [45] ∨ t.2 = [33] ∨ t.2 = [40])
structure BkE (d : Int) (e : PExpr) : Prop where
  lev : e.kind = xTwo → levelP e.name < 8
  head : ∃ t r, ktE e = t :: r ∧ HdK t
  ahead : e.kind ≠ xTwo → ∀ l p n, At l p (ktE e) → Fol l (p + (ktE e).length) 8 → 40 * (l.length - p) + 20 ≤ n → aheadR l n (st p d) = some (e, st (p + (ktE e).length) d)
  expr : ∀ l p n (lv : Nat), At l p (ktE e) → Fol l (p + (ktE e).length) (levE e) → (lv : Int) ≤ levE e → 40 * (l.length - p) + 26 ≤ n → ∃ m, 40 * (l.length - (p + (ktE e).length)) + 1 ≤ m ∧ exprR l n lv (st p d) = loopR l m lv e (st (p + (ktE e).length) d)
theorem BkE.full {d : Int} {e : PExpr} (h : BkE d e) {l : List Tok} {p n lv : Nat} (ha : At l p (ktE e)) {j : Int} (hf : Fol l (p + (ktE e).length) j) (hj : j < lv) (hl : (lv : Int) ≤ levE e) (hn : 40 * (l.length - p) + 26 ≤ n) : exprR l n lv (st p d) = some (e, st (p + (ktE e).length) d) := by
  obtain ⟨m, hm, hx⟩ := h.expr l p n lv ha (hf.le (by omega)) hl hn
  rw [hx]
  exact loop_done hf hj (by omega)
theorem BkE.at0 {d : Int} {e : PExpr} (h : BkE d e) {l : List Tok} {p n : Nat} (ha : At l p (ktE e)) (hf : Fol l (p + (ktE e).length) (-1)) (hl : 0 ≤ levE e) (hn : 40 * (l.length - p) + 26 ≤ n) : exprR l n 0 (st p d) = some (e, st (p + (ktE e).length) d) :=
  h.full ha hf (by omega) hl hn
theorem no_lev : ∀ y : List UInt8, y = [41] ∨ y = [44] ∨ y = [59] ∨ y = [123] → ∀ (i : Nat), levN y = some i → (i : Int) ≤ -1 := by
  rintro y (rfl | rfl | rfl | rfl) i h
  · exact absurd h (by rw [show levN [41] = none by decide]; simp)
  · exact absurd h (by rw [show levN [44] = none by decide]; simp)
  · exact absurd h (by rw [show levN [59] = none by decide]; simp)
  · exact absurd h (by rw [show levN [123] = none by decide]; simp)
theorem BkE.paren {d : Int} {e : PExpr} (h : BkE (d + 1) e) (h0 : 0 ≤ levE e) (hd : d + 1 ≤ 12) {l : List Tok} {p n : Nat} (ha : At l p ([sg [40]] ++ ktE e ++ [sg [41]])) (hn : 40 * (l.length - p) + 20 ≤ n) : aheadR l n (st p d) = some (e, st (p + ([sg [40]] ++ ktE e ++ [sg [41]]).length) d) := by
  obtain ⟨n, rfl⟩ : ∃ k, n = k + 1 := ⟨n - 1, by omega⟩
  have hc : At l (p + ([sg [40]] ++ ktE e).length) [sg [41]] := ha.right
  have hb : At l (p + 1) (ktE e) := ha.left.right
  have h1 : At l p (sg [40] :: (ktE e ++ [sg [41]])) := ha
  have hlt := h1.lt
  have ep : p + ([sg [40]] ++ ktE e).length = p + 1 + (ktE e).length := by simp only [List.length_append, List.length_cons, List.length_nil]; omega
  rw [ep] at hc
  rw [aheadR, if_neg (by rw [isP_sg h1, isP_sg h1]; decide), if_pos (by rw [isP_sg h1]; decide), nest_st hd, if_pos (st_ok _ _)]
  have hx : exprR l n 0 (st (p + 1) (d + 1)) = some (e, st (p + 1 + (ktE e).length) (d + 1)) := h.at0 hb (Fol.sign hc (by decide) (no_lev _ (.inl rfl))) h0 (by omega)
  rw [show (st p (d + 1)).step = st (p + 1) (d + 1) from rfl, hx]
  simp only
  rw [take_sg hc]
  have e2 : p + ([sg [40]] ++ ktE e ++ [sg [41]]).length = p + 1 + (ktE e).length + 1 := by simp only [List.length_append, List.length_cons, List.length_nil]; omega
  rw [e2]
  show some (e, (⟨_, d + 1 - 1, none⟩ : PSt)) = some (e, ⟨_, d, none⟩)
  rw [Int.add_sub_cancel]
theorem levE_two {e : PExpr} (h : e.kind = xTwo) : levE e = levelP e.name := by unfold levE; rw [if_pos h]
theorem levE_no {e : PExpr} (h : e.kind ≠ xTwo) : levE e = 8 := by unfold levE; rw [if_neg h]
theorem wr_lev {e : PExpr} {j : Int} (hj : j ≤ 8) : wr e j ↔ levE e < j := by
  unfold wr
  by_cases h : e.kind = xTwo
  · rw [levE_two h]; exact ⟨fun q => q.2, fun q => ⟨h, q⟩⟩
  · rw [levE_no h]; exact ⟨fun q => absurd q.1 h, fun q => by omega⟩
theorem BkE.wahead {d : Int} {e : PExpr} (h : BkE (d + wrN e 8) e) (h0 : 0 ≤ levE e) (hd : d + wrN e 8 ≤ 12) {l : List Tok} {p n : Nat} (ha : At l p (wrapK e 8 (ktE e))) (hf : Fol l (p + (wrapK e 8 (ktE e)).length) 8) (hn : 40 * (l.length - p) + 20 ≤ n) : aheadR l n (st p d) = some (e, st (p + (wrapK e 8 (ktE e)).length) d) := by
  by_cases hw : wr e 8
  · have e1 : wrN e 8 = 1 := by unfold wrN; rw [if_pos hw]
    have e2 : wrapK e 8 (ktE e) = [sg [40]] ++ ktE e ++ [sg [41]] := by unfold wrapK; rw [if_pos hw]
    rw [e1] at h hd
    rw [e2] at ha ⊢
    exact h.paren h0 hd ha hn
  · have e1 : wrN e 8 = 0 := by unfold wrN; rw [if_neg hw]
    have e2 : wrapK e 8 (ktE e) = ktE e := by unfold wrapK; rw [if_neg hw]
    rw [e1, Int.add_zero] at h
    rw [e2] at ha hf ⊢
    have hk : e.kind ≠ xTwo := fun q => hw ⟨q, h.lev q⟩
    exact h.ahead hk l p n ha hf hn
theorem BkE.wloop {d : Int} {e : PExpr} {k : Nat} (h : BkE (d + wrN e k) e) (h0 : 0 ≤ levE e) (hk : k ≤ 8) (hd : d + wrN e k ≤ 12) {l : List Tok} {p n lv : Nat} (ha : At l p (wrapK e k (ktE e))) (hf : Fol l (p + (wrapK e k (ktE e)).length) k) (hl : lv ≤ k) (hn : 40 * (l.length - p) + 26 ≤ n) :
    ∃ m, 40 * (l.length - (p + (wrapK e k (ktE e)).length)) + 1 ≤ m ∧ exprR l n lv (st p d) = loopR l m lv e (st (p + (wrapK e k (ktE e)).length) d) := by
  by_cases hw : wr e k
  · have e1 : wrN e k = 1 := by unfold wrN; rw [if_pos hw]
    have e2 : wrapK e k (ktE e) = [sg [40]] ++ ktE e ++ [sg [41]] := by unfold wrapK; rw [if_pos hw]
    rw [e1] at h hd
    rw [e2] at ha ⊢
    obtain ⟨n, rfl⟩ : ∃ k, n = k + 1 := ⟨n - 1, by omega⟩
    refine ⟨n, by omega, ?_⟩
    rw [exprR, h.paren h0 hd ha (by omega)]
  · have e1 : wrN e k = 0 := by unfold wrN; rw [if_neg hw]
    have e2 : wrapK e k (ktE e) = ktE e := by unfold wrapK; rw [if_neg hw]
    rw [e1, Int.add_zero] at h
    rw [e2] at ha hf ⊢
    have hle : (k : Int) ≤ levE e := by have := mt (wr_lev (e := e) (j := k) (by omega)).2 hw; omega
    exact h.expr l p n lv ha (hf.le hle) (by omega) hn
theorem BkE.wexpr {d : Int} {e : PExpr} {lv : Nat} (h : BkE (d + wrN e lv) e) (h0 : 0 ≤ levE e) (hk : lv ≤ 8) (hd : d + wrN e lv ≤ 12) {l : List Tok} {p n : Nat} (ha : At l p (wrapK e lv (ktE e))) {j : Int} (hf : Fol l (p + (wrapK e lv (ktE e)).length) j) (hj : j < lv) (hn : 40 * (l.length - p) + 26 ≤ n) :
    exprR l n lv (st p d) = some (e, st (p + (wrapK e lv (ktE e)).length) d) := by
  obtain ⟨m, hm, hx⟩ := h.wloop h0 hk hd ha (hf.le (by omega)) (Nat.le_refl _) hn
  rw [hx]
  exact loop_done hf hj (by omega)
theorem OkX.lev0 {d : Int} {e : PExpr} (h : OkX d e) : 0 ≤ levE e ∧ (e.kind = xTwo → levelP e.name < 8) := by
  cases h with
  | num _ v h0 h1 => exact ⟨by rw [levE_no (by show yNum ≠ xTwo; decide)]; omega, fun q => absurd q (by show yNum ≠ xTwo; decide)⟩
  | name _ x h => exact ⟨by rw [levE_no (by show yName ≠ xTwo; decide)]; omega, fun q => absurd q (by show yName ≠ xTwo; decide)⟩
  | call _ x ks h hd hk => exact ⟨by rw [levE_no (by show yCall ≠ xTwo; decide)]; omega, fun q => absurd q (by show yCall ≠ xTwo; decide)⟩
  | one _ x k h hd hk => exact ⟨by rw [levE_no (by show yOne ≠ xTwo; decide)]; omega, fun q => absurd q (by show yOne ≠ xTwo; decide)⟩
  | two _ x lv a b h ha hka hb hkb =>
    have := lev_lp h
    exact ⟨by rw [levE_two rfl]; show 0 ≤ levelP x; omega, fun _ => by show levelP x < 8; omega⟩
/-- An expression that binds most is parsed by a loop. -/
theorem expr_of_ahead {d : Int} {e : PExpr} (hk : e.kind ≠ xTwo) (h : ∀ l p n, At l p (ktE e) → Fol l (p + (ktE e).length) 8 → 40 * (l.length - p) + 20 ≤ n → aheadR l n (st p d) = some (e, st (p + (ktE e).length) d)) :
    ∀ l p n (lv : Nat), At l p (ktE e) → Fol l (p + (ktE e).length) (levE e) → (lv : Int) ≤ levE e → 40 * (l.length - p) + 26 ≤ n → ∃ m, 40 * (l.length - (p + (ktE e).length)) + 1 ≤ m ∧ exprR l n lv (st p d) = loopR l m lv e (st (p + (ktE e).length) d) := by
  intro l p n lv ha hf hl hn
  rw [levE_no hk] at hf
  obtain ⟨n, rfl⟩ : ∃ k, n = k + 1 := ⟨n - 1, by omega⟩
  exact ⟨n, by omega, by rw [exprR, h l p n ha hf (by omega)]⟩
theorem args_back {d : Int} : ∀ (r : List PExpr) (k : PExpr) (ks : List PExpr), (∀ x ∈ k :: r, BkE d x ∧ 0 ≤ levE x) → ∀ (l : List Tok) (p n : Nat), At l p (joinK ((k :: r).map ktE) ++ [sg [41]]) → 40 * (l.length - p) + 29 ≤ n →
    argsL l n ks (st p d) = some (ks ++ k :: r, st (p + (joinK ((k :: r).map ktE)).length + 1) d) := by
  intro r
  induction r with
  | nil =>
    intro k ks hk l p n ha hn
    obtain ⟨n, rfl⟩ : ∃ k, n = k + 1 := ⟨n - 1, by omega⟩
    have hb := (hk k List.mem_cons_self)
    have ha2 : At l p (ktE k ++ [sg [41]]) := ha
    have hc := ha2.right
    rw [argsL, if_pos (st_ok p d), hb.1.at0 ha2.left (Fol.sign hc (by decide) (no_lev _ (.inl rfl))) hb.2 (by omega)]
    simp only
    rw [if_neg (by rw [isP_sg hc]; decide), take_sg hc]
    rfl
  | cons y r ih =>
    intro k ks hk l p n ha hn
    obtain ⟨n, rfl⟩ : ∃ k, n = k + 1 := ⟨n - 1, by omega⟩
    have hb := (hk k List.mem_cons_self)
    have ha2 : At l p (ktE k ++ (sg [44] :: (joinK ((y :: r).map ktE) ++ [sg [41]]))) := by
      have e : joinK ((k :: y :: r).map ktE) ++ [sg [41]] = ktE k ++ (sg [44] :: (joinK ((y :: r).map ktE) ++ [sg [41]])) := by
        rw [List.map_cons, List.map_cons, joinK_cons, ← List.map_cons]
        simp
      rw [e] at ha
      exact ha
    have hc := ha2.right
    have hlt := hc.lt
    rw [argsL, if_pos (st_ok p d), hb.1.at0 ha2.left (Fol.sign hc (by decide) (no_lev _ (.inr (.inl rfl)))) hb.2 (by omega)]
    simp only
    rw [if_pos (by rw [isP_sg hc]; decide)]
    show argsL l n (ks ++ [k]) (st (p + (ktE k).length + 1) d) = _
    rw [ih y (ks ++ [k]) (fun x hx => hk x (List.mem_cons_of_mem _ hx)) l _ n hc.tail (by omega), List.append_assoc]
    have e : p + (joinK ((k :: y :: r).map ktE)).length = p + (ktE k).length + 1 + (joinK ((y :: r).map ktE)).length := by
      rw [List.map_cons, List.map_cons, joinK_cons, ← List.map_cons]
      simp only [List.length_append, List.length_cons, List.length_nil]
      omega
    rw [e]
    rfl
theorem joinK_head (k : PExpr) (r : List PExpr) : ∃ q, joinK ((k :: r).map ktE) = ktE k ++ q := by
  cases r with
  | nil => exact ⟨[], by simp [joinK]⟩
  | cons y r => exact ⟨[sg [44]] ++ joinK ((y :: r).map ktE), by rw [List.map_cons, List.map_cons, joinK_cons, ← List.map_cons, List.append_assoc]⟩
theorem args_any {d : Int} {ks : List PExpr} (hk : ∀ x ∈ ks, BkE d x ∧ 0 ≤ levE x) {l : List Tok} {p n : Nat} (ha : At l p (joinK (ks.map ktE) ++ [sg [41]])) (hn : 40 * (l.length - p) + 30 ≤ n) :
    argsR l n (st p d) = some (ks, st (p + (joinK (ks.map ktE)).length + 1) d) := by
  obtain ⟨n, rfl⟩ : ∃ k, n = k + 1 := ⟨n - 1, by omega⟩
  rw [argsR]
  cases ks with
  | nil =>
    rw [if_pos (by rw [isP_sg (ts := []) ha]; decide)]
    rfl
  | cons k r =>
    rw [if_neg, args_back r k [] hk l p n ha (by omega)]
    · rfl
    · obtain ⟨t, q, e1, h1, h2⟩ := (hk k List.mem_cons_self).1.head
      obtain ⟨q2, e2⟩ := joinK_head k r
      have ha2 : At l p (t :: (q ++ q2 ++ [sg [41]])) := by
        rw [e2, e1] at ha
        simpa using ha
      by_cases hs : t.1 = kSign
      · obtain ⟨t1, t2⟩ := t
        subst hs
        rw [isP_sg (y := t2) ha2]
        rcases h2 rfl with h | h | h
        · rw [show t2 = _ from h]; decide
        · rw [show t2 = _ from h]; decide
        · rw [show t2 = _ from h]; decide
      · rw [isP_other ha2 hs h1]; decide
theorem hdK_wrap {e : PExpr} {j : Int} (h : ∃ t r, ktE e = t :: r ∧ HdK t) : ∃ t r, wrapK e j (ktE e) = t :: r ∧ HdK t := by
  unfold wrapK
  split
  · exact ⟨_, _, rfl, by show kSign ≠ kWord; decide, fun _ => .inr (.inr rfl)⟩
  · exact h
/-- THE PRINTED EXPRESSION IS PARSED TO WHAT IT WAS. -/
theorem back_expr {d : Int} {e : PExpr} (h : OkX d e) : BkE d e := by
  induction h with
  | num d v h0 h1 =>
    have hk : (⟨yNum, v, [], []⟩ : PExpr).kind ≠ xTwo := by show yNum ≠ xTwo; decide
    have hah : ∀ l p n, At l p (ktE ⟨yNum, v, [], []⟩) → Fol l (p + (ktE ⟨yNum, v, [], []⟩).length) 8 → 40 * (l.length - p) + 20 ≤ n → aheadR l n (st p d) = some (⟨yNum, v, [], []⟩, st (p + (ktE ⟨yNum, v, [], []⟩).length) d) := by
      intro l p n ha hf hn
      rw [ktE_num] at ha hf ⊢
      obtain ⟨n, rfl⟩ : ∃ k, n = k + 1 := ⟨n - 1, by omega⟩
      have hn : ∀ z, isP l (st p d) z = false := fun z => isP_other ha (by show kNumber ≠ kSign; decide) (by show kNumber ≠ kWord; decide)
      rw [aheadR, if_neg (by rw [hn, hn]; decide), if_neg (by rw [hn]; decide), if_pos (by rw [ofB_tk ha]; rfl), txt_at ha]
      show some ((⟨yNum, digV (Lib.itoa v), [], []⟩ : PExpr), _) = _
      rw [(itoa_good h0 h1).2]
      rfl
    exact ⟨(OkX.num d v h0 h1).lev0.2, ⟨_, _, ktE_num _ _ _, by show kNumber ≠ kWord; decide, fun q => absurd q (by show kNumber ≠ kSign; decide)⟩, fun _ => hah, expr_of_ahead hk hah⟩
  | name d x h =>
    have hk : (⟨yName, 0, x, []⟩ : PExpr).kind ≠ xTwo := by show yName ≠ xTwo; decide
    have hah : ∀ l p n, At l p (ktE ⟨yName, 0, x, []⟩) → Fol l (p + (ktE ⟨yName, 0, x, []⟩).length) 8 → 40 * (l.length - p) + 20 ≤ n → aheadR l n (st p d) = some (⟨yName, 0, x, []⟩, st (p + (ktE ⟨yName, 0, x, []⟩).length) d) := by
      intro l p n ha hf hn
      rw [ktE_name] at ha hf ⊢
      obtain ⟨n, rfl⟩ : ∃ k, n = k + 1 := ⟨n - 1, by omega⟩
      have hn : ∀ z, isP l (st p d) z = false := fun z => isP_other ha (by show kName ≠ kSign; decide) (by show kName ≠ kWord; decide)
      rw [aheadR, if_neg (by rw [hn, hn]; decide), if_neg (by rw [hn]; decide), if_neg (by rw [ofB_tk ha]; show ¬ (kName == kNumber) = true; decide), ofP_at ha]
      dsimp only
      rw [if_neg (by rw [isP_fol (show Fol l (p + 1) 8 from hf)]; decide)]
      rfl
    exact ⟨(OkX.name d x h).lev0.2, ⟨_, _, ktE_name _ _ _, by show kName ≠ kWord; decide, fun q => absurd q (by show kName ≠ kSign; decide)⟩, fun _ => hah, expr_of_ahead hk hah⟩
  | call d x ks h hd hks ih =>
    have hk : (⟨yCall, 0, x, ks⟩ : PExpr).kind ≠ xTwo := by show yCall ≠ xTwo; decide
    have hah : ∀ l p n, At l p (ktE ⟨yCall, 0, x, ks⟩) → Fol l (p + (ktE ⟨yCall, 0, x, ks⟩).length) 8 → 40 * (l.length - p) + 20 ≤ n → aheadR l n (st p d) = some (⟨yCall, 0, x, ks⟩, st (p + (ktE ⟨yCall, 0, x, ks⟩).length) d) := by
      intro l p n ha hf hn
      rw [ktE_call] at ha hf ⊢
      obtain ⟨n, rfl⟩ : ∃ k, n = k + 1 := ⟨n - 1, by omega⟩
      have ha1 : At l p (nmK x :: sg [40] :: (joinK (ks.map ktE) ++ [sg [41]])) := by simpa using ha
      have ha2 := ha1.tail
      have ha3 := ha2.tail
      have hlt := ha2.lt
      have hn : ∀ z, isP l (st p d) z = false := fun z => isP_other ha1 (by show kName ≠ kSign; decide) (by show kName ≠ kWord; decide)
      rw [aheadR, if_neg (by rw [hn, hn]; decide), if_neg (by rw [hn]; decide), if_neg (by rw [ofB_tk ha1]; show ¬ (kName == kNumber) = true; decide), ofP_at ha1]
      dsimp only
      rw [if_pos (by rw [isP_sg ha2]; decide), nest_st hd, if_pos (st_ok _ _)]
      rw [show (st (p + 1) (d + 1)).step = st (p + 1 + 1) (d + 1) from rfl, args_any (fun k hm => ⟨ih k hm, (hks k hm).lev0.1⟩) ha3 (by omega)]
      have e : p + ([nmK x, sg [40]] ++ joinK (ks.map ktE) ++ [sg [41]]).length = p + 1 + 1 + (joinK (ks.map ktE)).length + 1 := by simp only [List.length_append, List.length_cons, List.length_nil]; omega
      rw [e]
      show some ((⟨yCall, 0, x, ks⟩ : PExpr), (⟨_, d + 1 - 1, none⟩ : PSt)) = some (_, ⟨_, d, none⟩)
      rw [Int.add_sub_cancel]
    exact ⟨(OkX.call d x ks h hd hks).lev0.2, ⟨nmK x, _, by rw [ktE_call]; rfl, by show kName ≠ kWord; decide, fun q => absurd q (by show kName ≠ kSign; decide)⟩, fun _ => hah, expr_of_ahead hk hah⟩
  | one d x k h hd hk ih =>
    have hk2 : (⟨yOne, 0, x, [k]⟩ : PExpr).kind ≠ xTwo := by show yOne ≠ xTwo; decide
    have hah : ∀ l p n, At l p (ktE ⟨yOne, 0, x, [k]⟩) → Fol l (p + (ktE ⟨yOne, 0, x, [k]⟩).length) 8 → 40 * (l.length - p) + 20 ≤ n → aheadR l n (st p d) = some (⟨yOne, 0, x, [k]⟩, st (p + (ktE ⟨yOne, 0, x, [k]⟩).length) d) := by
      intro l p n ha hf hn
      rw [ktE_one] at ha hf ⊢
      obtain ⟨n, rfl⟩ : ∃ k, n = k + 1 := ⟨n - 1, by omega⟩
      have ha1 : At l p (sg x :: wrapK k 8 (ktE k)) := ha
      have ha2 := ha1.tail
      have hlt := ha1.lt
      have hb := wrN_bd k 8
      have e : p + ([sg x] ++ wrapK k 8 (ktE k)).length = p + 1 + (wrapK k 8 (ktE k)).length := by simp only [List.length_append, List.length_cons, List.length_nil]; omega
      rw [e] at hf ⊢
      rw [aheadR, if_pos (by rw [isP_sg ha1, isP_sg ha1]; rcases h with rfl | rfl <;> decide), nest_st (by omega), if_pos (st_ok _ _)]
      rw [show (st p (d + 1)).step = st (p + 1) (d + 1) from rfl, ih.wahead hk.lev0.1 hd ha2 hf (by omega), txt_at ha1]
      show some ((⟨yOne, 0, x, [k]⟩ : PExpr), (⟨_, d + 1 - 1, none⟩ : PSt)) = some (_, ⟨_, d, none⟩)
      rw [Int.add_sub_cancel]
    exact ⟨(OkX.one d x k h hd hk).lev0.2, ⟨sg x, _, by rw [ktE_one]; rfl, by show kSign ≠ kWord; decide, fun _ => by rcases h with rfl | rfl <;> simp⟩, fun _ => hah, expr_of_ahead hk2 hah⟩
  | two d x lv a b h ha hka hb hkb iha ihb =>
    obtain ⟨hlp, hl8⟩ := lev_lp h
    have hle : levE (⟨yTwo, 0, x, [a, b]⟩ : PExpr) = lv := by rw [levE_two rfl]; exact hlp
    have hc : ((lv + 1 : Nat) : Int) = (lv : Int) + 1 := by omega
    refine ⟨(OkX.two d x lv a b h ha hka hb hkb).lev0.2, ?_, fun q => absurd rfl q, ?_⟩
    · obtain ⟨t, r, e1, h1⟩ := hdK_wrap (j := levelP x) iha.head
      exact ⟨t, _, by rw [ktE_two, e1]; rfl, h1⟩
    · intro l p n j hat hf hj hn
      rw [hle] at hf hj
      rw [ktE_two, hlp] at hat hf ⊢
      rw [List.append_assoc] at hat
      have ha1 := hat.left
      have ha2 : At l _ (sg x :: wrapK b ((lv : Int) + 1) (ktE b)) := hat.right
      have ha3 := ha2.tail
      have hlt := ha2.lt
      obtain ⟨m, hm, hx⟩ := iha.wloop hka.lev0.1 (by omega) ha ha1 (Fol.sign ha2 (by intro e; rw [e, show levN [40] = none by decide] at h; cases h) (fun i hi => by rw [h] at hi; cases hi; omega)) (show j ≤ lv by omega) hn
      have e : p + (wrapK a lv (ktE a) ++ [sg x] ++ wrapK b ((lv : Int) + 1) (ktE b)).length = p + (wrapK a lv (ktE a)).length + 1 + (wrapK b ((lv : Int) + 1) (ktE b)).length := by simp only [List.length_append, List.length_cons, List.length_nil]; omega
      rw [e] at hf ⊢
      obtain ⟨m, rfl⟩ : ∃ k, m = k + 1 := ⟨m - 1, by omega⟩
      refine ⟨m, by omega, ?_⟩
      rw [hx, loopR, lev_sg ha2, h, if_pos (by simp [leB]; omega)]
      rw [← hc] at ihb hb hf ha3 ⊢
      have hx2 := ihb.wexpr (lv := lv + 1) hkb.lev0.1 (by omega) hb ha3 hf (by omega) (n := m) (by omega)
      show (match exprR l m (lv + 1) (st (p + (wrapK a lv (ktE a)).length + 1) d) with | none => none | some (r, s1) => loopR l m j ⟨yTwo, 0, txtP l (st (p + (wrapK a lv (ktE a)).length) d), [a, r]⟩ s1) = _
      rw [hx2, txt_at ha2]
end Go.Proofs.YtpfgimohginbdaaDoor

namespace Go.Proofs.YtpfgimohginbdaaDoor
open Go.RowKit

/-! statements -/
mutual
def ktS : PStmt → List KT
  | ⟨kind, name, e, th, el⟩ =>
    if kind = sVar then [wd zVar, nmK name, sg [61]] ++ (ktE e ++ [sg [59]])
    else if kind = sSet then [nmK name, sg [61]] ++ (ktE e ++ [sg [59]])
    else if kind = sReturn ∨ kind = sPrint then [wd kind] ++ (ktE e ++ [sg [59]])
    else if kind = sIf ∨ kind = sWhile then
      [wd kind] ++ (ktE e ++ ([sg [123]] ++ (ktB th ++ (if el.length = 0 then [sg [125]] else [sg [125], wd zElse, sg [123]] ++ (ktB el ++ [sg [125]])))))
    else []
def ktB : List PStmt → List KT
  | [] => []
  | s :: ss => ktS s ++ ktB ss
end
theorem ktB_nil : ktB [] = [] := by rw [ktB]
theorem ktB_cons (s : PStmt) (ss : List PStmt) : ktB (s :: ss) = ktS s ++ ktB ss := by rw [ktB]
theorem ktB_app : ∀ a b, ktB (a ++ b) = ktB a ++ ktB b := by
  intro a
  induction a with
  | nil => intro b; rw [ktB_nil]; rfl
  | cons s a ih => intro b; rw [List.cons_append, ktB_cons, ktB_cons, ih, List.append_assoc]
theorem ktS_var (x : List UInt8) (e : PExpr) (th el : List PStmt) : ktS ⟨zVar, x, e, th, el⟩ = [wd zVar, nmK x, sg [61]] ++ (ktE e ++ [sg [59]]) := by
  rw [ktS, if_pos (show zVar = sVar from rfl)]
theorem ktS_set (x : List UInt8) (e : PExpr) (th el : List PStmt) : ktS ⟨ySet, x, e, th, el⟩ = [nmK x, sg [61]] ++ (ktE e ++ [sg [59]]) := by
  rw [ktS, if_neg (show ySet ≠ sVar by decide), if_pos (show ySet = sSet from rfl)]
theorem ktS_tell (k x : List UInt8) (e : PExpr) (th el : List PStmt) (h : k = zReturn ∨ k = zPrint) : ktS ⟨k, x, e, th, el⟩ = [wd k] ++ (ktE e ++ [sg [59]]) := by
  rw [ktS, if_neg (by rcases h with rfl | rfl <;> decide), if_neg (by rcases h with rfl | rfl <;> decide), if_pos (show k = sReturn ∨ k = sPrint from h)]
theorem ktS_branch (k x : List UInt8) (e : PExpr) (th el : List PStmt) (h : k = zIf ∨ k = zWhile) : ktS ⟨k, x, e, th, el⟩ = [wd k] ++ (ktE e ++ ([sg [123]] ++ (ktB th ++ (if el.length = 0 then [sg [125]] else [sg [125], wd zElse, sg [123]] ++ (ktB el ++ [sg [125]]))))) := by
  rw [ktS, if_neg (by rcases h with rfl | rfl <;> decide), if_neg (by rcases h with rfl | rfl <;> decide), if_neg (by rcases h with rfl | rfl <;> decide), if_pos (show k = sIf ∨ k = sWhile from h)]
inductive OkY : Int → PStmt → Prop
  | var (d : Int) (x : List UInt8) (e : PExpr) (h : GN x) (he : OkX d e) : OkY d ⟨zVar, x, e, [], []⟩
  | set (d : Int) (x : List UInt8) (e : PExpr) (h : GN x) (he : OkX d e) : OkY d ⟨ySet, x, e, [], []⟩
  | tell (d : Int) (k : List UInt8) (e : PExpr) (h : k = zReturn ∨ k = zPrint) (he : OkX d e) : OkY d ⟨k, [], e, [], []⟩
  | branch (d : Int) (k : List UInt8) (e : PExpr) (th el : List PStmt) (h : k = zIf ∨ k = zWhile) (hw : k = zWhile → el = []) (hd : d + 1 ≤ 12) (he : OkX d e) (ht : ∀ x ∈ th, OkY (d + 1) x) (hl : ∀ x ∈ el, OkY (d + 1) x) : OkY d ⟨k, [], e, th, el⟩
theorem Got.zero {d : Int} {p0 p : Nat} {e : PExpr} (h : Got d p0 e ((0 : Nat) : Int) p) : OkX d e ∧ p0 + (ktE e).length ≤ p := by
  have h1 := wrN_bd e ((0 : Nat) : Int)
  have l1 := wrapK_len e ((0 : Nat) : Int) (ktE e)
  have lg := h.len
  exact ⟨h.ok.mono _ (by omega), by omega⟩
theorem fr_assign {l : List Tok} (V : TkV l) {n : Nat} {kind : List UInt8} {s s' : PSt} {x : PStmt} (hp : s.pos ≤ l.length) (hd : s.deep ≤ 12) (h : assignR l n kind s = some (x, s')) (he : s'.err = none) :
    ∃ y e, x = ⟨kind, y, e, [], []⟩ ∧ GN y ∧ OkX s.deep e ∧ s.pos + (ktE e).length + 3 ≤ s'.pos := by
  unfold assignR at h
  have a1 := ofP_adv (l := l) (x := kName) hp
  have a2 := a1.then (takeP_went (x := [61]) a1.w.hi)
  cases hx : exprR l n 0 (takeP l [61] (ofP l kName s).2) with
  | none => rw [hx] at h; cases h
  | some p =>
    obtain ⟨e, s1⟩ := p
    rw [hx] at h
    cases h
    have w1 := (went_exprR l n).expr 0 _ e s1 a2.w.hi hx
    obtain ⟨ht, hts⟩ := takeP_next he
    have he1 : s1.err = none := (isP_some ht).1
    have he0 := (w1.ok he1).2
    obtain ⟨ht0, hts0⟩ := takeP_next he0
    have he00 := (isP_some ht0).1
    obtain ⟨hb, hof⟩ := ofP_next he00
    have hdp : (takeP l [61] (ofP l kName s).2).deep = s.deep ∧ (takeP l [61] (ofP l kName s).2).pos = s.pos + 2 := by
      rw [hts0, hof]; exact ⟨rfl, rfl⟩
    have g := ((fr_expr V n).expr 0 _ e s1 (by omega) a2.w.hi (by rw [hdp.1]; exact hd) hx he1).zero
    rw [hdp.1, hdp.2] at g
    refine ⟨_, e, rfl, by rw [hof]; exact V.txt hb, g.1, ?_⟩
    rw [hts]
    show _ ≤ s1.pos + 1
    omega
theorem fr_tell {l : List Tok} (V : TkV l) {n : Nat} {kind : List UInt8} {s s' : PSt} {x : PStmt} (hp : s.pos < l.length) (hd : s.deep ≤ 12) (h : tellR l n kind s = some (x, s')) (he : s'.err = none) :
    ∃ e, x = ⟨kind, [], e, [], []⟩ ∧ OkX s.deep e ∧ s.pos + (ktE e).length + 2 ≤ s'.pos := by
  unfold tellR at h
  cases hx : exprR l n 0 s.step with
  | none => rw [hx] at h; cases h
  | some p =>
    obtain ⟨e, s1⟩ := p
    rw [hx] at h
    cases h
    obtain ⟨ht, hts⟩ := takeP_next he
    have he1 : s1.err = none := (isP_some ht).1
    have g := ((fr_expr V n).expr 0 s.step e s1 (by omega) hp hd hx he1).zero
    have e1 : s.step.deep = s.deep := rfl
    have e2 : s.step.pos = s.pos + 1 := rfl
    rw [e1, e2] at g
    refine ⟨e, rfl, g.1, ?_⟩
    rw [hts]
    show _ ≤ s1.pos + 1
    omega
structure FrS (l : List Tok) (n : Nat) : Prop where
  block : ∀ s b s', s.pos ≤ l.length → s.deep ≤ 12 → blockR l n s = some (b, s') → s'.err = none → s.deep + 1 ≤ 12 ∧ (∀ x ∈ b, OkY (s.deep + 1) x) ∧ s.pos + (ktB b).length + 2 ≤ s'.pos
  stmts : ∀ ss s b s' p0, s.pos ≤ l.length → s.deep ≤ 12 → (∀ x ∈ ss, OkY s.deep x) → p0 + (ktB ss).length ≤ s.pos → stmtsR l n ss s = some (b, s') → s'.err = none → (∀ x ∈ b, OkY s.deep x) ∧ p0 + (ktB b).length + 1 ≤ s'.pos
  stmt : ∀ s x s', s.pos ≤ l.length → s.deep ≤ 12 → s.err = none → stmtR l n s = some (x, s') → s'.err = none → OkY s.deep x ∧ s.pos + (ktS x).length ≤ s'.pos
  branch : ∀ k s x s', s.pos < l.length → s.deep ≤ 12 → s.err = none → k = zIf ∨ k = zWhile → branchR l n k s = some (x, s') → s'.err = none → OkY s.deep x ∧ s.pos + (ktS x).length ≤ s'.pos
theorem fr_stmt {l : List Tok} (V : TkV l) : ∀ n, FrS l n := by
  intro n
  induction n with
  | zero =>
    refine ⟨?_, ?_, ?_, ?_⟩
    · intro s b s' _ _ h; rw [blockR] at h; cases h
    · intro ss s b s' p0 _ _ _ _ h; rw [stmtsR] at h; cases h
    · intro s x s' _ _ _ h; rw [stmtR] at h; cases h
    · intro k s x s' _ _ _ _ h; rw [branchR] at h; cases h
  | succ n ih =>
    have A := adv_stmtR l n
    refine ⟨?_, ?_, ?_, ?_⟩
    · intro s b s' hp hd h he
      rw [blockR] at h
      split at h
      · rename_i ho
        obtain ⟨he0, t, -, -, hlt, -⟩ := isP_some ho
        split at h
        · rename_i hn
          obtain ⟨-, hd1, hne⟩ := nestP_ok (none_of hn)
          cases hx : stmtsR l n [] (nestP s).step with
          | none => rw [hx] at h; cases h
          | some p =>
            obtain ⟨b1, s1⟩ := p
            rw [hx] at h
            cases h
            have e1d : (nestP s).step.deep = s.deep + 1 := by rw [hne]; rfl
            have e1p : (nestP s).step.pos = s.pos + 1 := by rw [hne]; rfl
            have g := ih.stmts [] (nestP s).step b s1 (s.pos + 1) (nest_len hlt).1 (by rw [e1d]; exact hd1) (fun x hx => absurd hx List.not_mem_nil) (by rw [ktB_nil, e1p]; simp) hx he
            rw [e1d] at g
            refine ⟨hd1, g.1, ?_⟩
            show _ ≤ s1.pos
            omega
        · rename_i hn
          cases h
          exact absurd he (some_of hn)
      · cases h
        exact absurd he failP_err
    · intro ss s b s' p0 hp hd hss hl h he
      rw [stmtsR] at h
      split at h
      · rename_i hn
        split at h
        · cases h
          exact ⟨hss, by show _ ≤ s.pos + 1; omega⟩
        · cases hx : stmtR l n s with
          | none => rw [hx] at h; cases h
          | some p =>
            obtain ⟨x, s1⟩ := p
            rw [hx] at h
            dsimp only at h
            have a1 := A.stmt s x s1 hp (none_of hn) hx
            have w2 := A.stmts _ s1 b s' a1.w.hi h
            obtain ⟨-, he1⟩ := w2.ok he
            have hd1 := (a1.w.ok he1).1
            obtain ⟨g1, g2⟩ := ih.stmt s x s1 hp hd (none_of hn) hx he1
            have := ih.stmts (ss ++ [x]) s1 b s' p0 a1.w.hi (by rw [hd1]; exact hd) (fun y hy => by
              rw [hd1]
              rcases List.mem_append.1 hy with q | q
              · exact hss y q
              · rw [List.mem_singleton.1 q]; exact g1) (by rw [ktB_app, ktB_cons, ktB_nil, List.append_nil, List.length_append]; omega) h he
            rw [hd1] at this
            exact this
      · rename_i hn
        cases h
        exact absurd (by rw [he]; rfl) hn
    · intro s x s' hp hd he0 h he
      rw [stmtR] at h
      split at h
      · rename_i ho
        obtain ⟨-, t, -, -, hlt, -⟩ := isP_some ho
        exact ih.branch _ s x s' hlt hd he0 (.inl rfl) h he
      · split at h
        · rename_i ho
          obtain ⟨-, t, -, -, hlt, -⟩ := isP_some ho
          exact ih.branch _ s x s' hlt hd he0 (.inr rfl) h he
        · split at h
          · rename_i ho
            obtain ⟨-, t, -, -, hlt, -⟩ := isP_some ho
            obtain ⟨e, rfl, g1, g2⟩ := fr_tell V hlt hd h he
            refine ⟨.tell _ _ e (.inl rfl) g1, ?_⟩
            rw [ktS_tell _ _ _ _ _ (.inl rfl)]
            simp only [List.length_append, List.length_cons, List.length_nil]
            omega
          · split at h
            · rename_i ho
              obtain ⟨-, t, -, -, hlt, -⟩ := isP_some ho
              obtain ⟨e, rfl, g1, g2⟩ := fr_tell V hlt hd h he
              refine ⟨.tell _ _ e (.inr rfl) g1, ?_⟩
              rw [ktS_tell _ _ _ _ _ (.inr rfl)]
              simp only [List.length_append, List.length_cons, List.length_nil]
              omega
            · split at h
              · rename_i ho
                obtain ⟨-, t, -, -, hlt, -⟩ := isP_some ho
                obtain ⟨y, e, rfl, g0, g1, g2⟩ := fr_assign V (s := s.step) hlt hd h he
                have e1 : s.step.deep = s.deep := rfl
                have e2 : s.step.pos = s.pos + 1 := rfl
                rw [e1] at g1
                rw [e2] at g2
                refine ⟨.var _ y e g0 g1, ?_⟩
                rw [ktS_var]
                simp only [List.length_append, List.length_cons, List.length_nil]
                omega
              · obtain ⟨y, e, rfl, g0, g1, g2⟩ := fr_assign V hp hd h he
                refine ⟨.set _ y e g0 g1, ?_⟩
                rw [ktS_set]
                simp only [List.length_append, List.length_cons, List.length_nil]
                omega
    · intro k s x s' hlt hd he0 hk h he
      rw [branchR] at h
      cases hx : exprR l n 0 s.step with
      | none => rw [hx] at h; cases h
      | some p =>
        obtain ⟨e1, s1⟩ := p
        rw [hx] at h
        dsimp only at h
        have a1 := (went_exprR l n).expr 0 _ e1 s1 (step_len hlt).1 hx
        cases hb : blockR l n s1 with
        | none => rw [hb] at h; cases h
        | some p =>
          obtain ⟨th, s2⟩ := p
          rw [hb] at h
          dsimp only at h
          have a2 := A.block s1 th s2 a1.hi hb
          have key : ∀ he2 : s2.err = none, OkX s.deep e1 ∧ s.deep + 1 ≤ 12 ∧ (∀ y ∈ th, OkY (s.deep + 1) y) ∧ s.pos + 1 + (ktE e1).length + (ktB th).length + 2 ≤ s2.pos ∧ s2.deep = s.deep := fun he2 => by
            obtain ⟨q1, he1⟩ := a2.ok he2
            have hd1 : s1.deep = s.deep := (a1.ok he1).1
            have g := ((fr_expr V n).expr 0 s.step e1 s1 (by omega) (step_len hlt).1 hd hx he1).zero
            have g2 := ih.block s1 th s2 a1.hi (by rw [hd1]; exact hd) hb he2
            rw [hd1] at g2
            have e1 : s.step.deep = s.deep := rfl
            have e2 : s.step.pos = s.pos + 1 := rfl
            rw [e1, e2] at g
            exact ⟨g.1, g2.1, g2.2.1, by omega, by omega⟩
          by_cases h1 : ((k == zIf) && isP l s2 zElse) = true
          · rw [if_pos h1] at h
            simp only [Bool.and_eq_true, beq_iff_eq] at h1
            obtain ⟨he2, t, -, -, hlt2, -⟩ := isP_some h1.2
            cases hc : blockR l n s2.step with
            | none => rw [hc] at h; cases h
            | some p =>
              obtain ⟨el, s3⟩ := p
              rw [hc] at h
              cases h
              obtain ⟨k1, k2, k3, k4, k5⟩ := key he2
              have eD : s2.step.deep = s.deep := k5
              have eP : s2.step.pos = s2.pos + 1 := rfl
              have g3 := ih.block s2.step el s' (step_len hlt2).1 (by rw [eD]; exact hd) hc he
              rw [eD, eP] at g3
              refine ⟨.branch _ k e1 th el hk (fun q => by rw [h1.1] at q; exact absurd q (by decide)) k2 k1 k3 g3.2.1, ?_⟩
              rw [ktS_branch _ _ _ _ _ hk]
              split
              · simp only [List.length_append, List.length_cons, List.length_nil]
                omega
              · simp only [List.length_append, List.length_cons, List.length_nil]
                omega
          · rw [if_neg h1] at h
            cases h
            obtain ⟨k1, k2, k3, k4, k5⟩ := key he
            refine ⟨.branch _ k e1 th [] hk (fun _ => rfl) k2 k1 k3 (fun y hy => absurd hy List.not_mem_nil), ?_⟩
            rw [ktS_branch _ _ _ _ _ hk, if_pos (show ([] : List PStmt).length = 0 from rfl)]
            simp only [List.length_append, List.length_cons, List.length_nil]
            omega

/-! .. and back -/
theorem isP_ne {l : List Tok} {p : Nat} {d : Int} {t : KT} {z : List UInt8} {ts : List KT} (h : At l p (t :: ts)) (h1 : t.2 ≠ z) : isP l (st p d) z = false := by
  obtain ⟨x, g1, g2, g3⟩ := h.hd
  unfold isP
  rw [show l[(st p d).pos]? = some x from g1]
  show (true && ((x.text == z) && ((x.kind == kSign) || (x.kind == kWord)))) = _
  rw [g3]
  simp [h1]
/-- A statement's first token. -/
def HdS (t : KT) : Prop := t.2 ≠ zElse ∧ t.2 ≠ [125]
theorem GN.notElse {x : List UInt8} (h : GN x) : x ≠ zElse := fun e => h.word (by rw [e]; decide)
theorem GN.notBrace {x : List UInt8} (h : GN x) : x ≠ [125] := fun e => by
  obtain ⟨c, r, h1, h2⟩ := h.head
  rw [e] at h1
  cases h1
  revert h2
  decide
theorem hdS {d : Int} {x : PStmt} (h : OkY d x) : ∃ t r, ktS x = t :: r ∧ HdS t := by
  cases h with
  | var _ x e h he => exact ⟨wd zVar, _, by rw [ktS_var]; rfl, by show zVar ≠ zElse; decide, by show zVar ≠ [125]; decide⟩
  | set _ x e h he => exact ⟨nmK x, _, by rw [ktS_set]; rfl, h.notElse, h.notBrace⟩
  | tell _ k e h he => exact ⟨wd k, _, by rw [ktS_tell _ _ _ _ _ h]; rfl, by rcases h with rfl | rfl <;> (show _ ≠ zElse; decide), by rcases h with rfl | rfl <;> (show _ ≠ [125]; decide)⟩
  | branch _ k e th el h hw hd he ht hl => exact ⟨wd k, _, by rw [ktS_branch _ _ _ _ _ h]; rfl, by rcases h with rfl | rfl <;> (show _ ≠ zElse; decide), by rcases h with rfl | rfl <;> (show _ ≠ [125]; decide)⟩
def BkS (d : Int) (x : PStmt) : Prop := ∀ l p n tl, At l p (ktS x ++ tl) → (∃ t r, tl = t :: r ∧ t.2 ≠ zElse) → 40 * (l.length - p) + 32 ≤ n → stmtR l n (st p d) = some (x, st (p + (ktS x).length) d)
theorem stmts_back {d : Int} : ∀ (b ss : List PStmt), (∀ x ∈ b, OkY d x ∧ BkS d x) → ∀ (l : List Tok) (p n : Nat) (tl : List KT), At l p (ktB b ++ sg [125] :: tl) → 40 * (l.length - p) + 35 ≤ n →
    stmtsR l n ss (st p d) = some (ss ++ b, st (p + (ktB b).length + 1) d) := by
  intro b
  induction b with
  | nil =>
    intro ss _ l p n tl ha hn
    obtain ⟨n, rfl⟩ : ∃ k, n = k + 1 := ⟨n - 1, by omega⟩
    rw [ktB_nil] at ha ⊢
    rw [stmtsR, if_pos (st_ok p d), if_pos (by rw [isP_sg (show At l p (sg [125] :: tl) from ha)]; decide), List.append_nil]
    rfl
  | cons x b ih =>
    intro ss hb l p n tl ha hn
    obtain ⟨n, rfl⟩ : ∃ k, n = k + 1 := ⟨n - 1, by omega⟩
    obtain ⟨ho, hk⟩ := hb x List.mem_cons_self
    rw [ktB_cons, List.append_assoc] at ha
    obtain ⟨t, r, e1, h1⟩ := hdS ho
    have ha0 : At l p (t :: (r ++ (ktB b ++ sg [125] :: tl))) := by rw [e1] at ha; exact ha
    have hlt := ha0.lt
    have hnx : ∃ t r, ktB b ++ sg [125] :: tl = t :: r ∧ t.2 ≠ zElse := by
      cases b with
      | nil => rw [ktB_nil]; exact ⟨_, _, rfl, by show [125] ≠ zElse; decide⟩
      | cons y b =>
        obtain ⟨t, r, e2, h2⟩ := hdS (hb y (List.mem_cons_of_mem _ List.mem_cons_self)).1
        rw [ktB_cons, e2]
        exact ⟨t, _, rfl, h2.1⟩
    rw [stmtsR, if_pos (st_ok p d), if_neg (by rw [isP_ne ha0 h1.2]; decide), hk l p n _ ha hnx (by omega)]
    have hlen : 1 ≤ (ktS x).length := by rw [e1]; simp
    show stmtsR l n (ss ++ [x]) (st (p + (ktS x).length) d) = _
    rw [ih (ss ++ [x]) (fun y hy => hb y (List.mem_cons_of_mem _ hy)) l _ n tl ha.right (by omega), List.append_assoc, ktB_cons, List.length_append, ← Nat.add_assoc]
    rfl
theorem block_back {d : Int} {b : List PStmt} (hd : d + 1 ≤ 12) (hb : ∀ x ∈ b, OkY (d + 1) x ∧ BkS (d + 1) x) {l : List Tok} {p n : Nat} {tl : List KT} (ha : At l p (sg [123] :: (ktB b ++ sg [125] :: tl))) (hn : 40 * (l.length - p) + 4 ≤ n) :
    blockR l n (st p d) = some (b, st (p + (ktB b).length + 2) d) := by
  obtain ⟨n, rfl⟩ : ∃ k, n = k + 1 := ⟨n - 1, by omega⟩
  have hlt := ha.lt
  rw [blockR, if_pos (by rw [isP_sg ha]; decide), nest_st hd, if_pos (st_ok _ _), show (st p (d + 1)).step = st (p + 1) (d + 1) from rfl, stmts_back b [] hb l _ n tl ha.tail (by omega)]
  show some (b, (⟨p + 1 + (ktB b).length + 1, d + 1 - 1, none⟩ : PSt)) = some (b, ⟨_, d, none⟩)
  rw [Int.add_sub_cancel, show p + 1 + (ktB b).length + 1 = p + (ktB b).length + 2 by omega]
theorem no_levs (y : List UInt8) (h : y = [41] ∨ y = [44] ∨ y = [59] ∨ y = [123]) {l : List Tok} {p : Nat} {tl : List KT} (ha : At l p (sg y :: tl)) : Fol l p (-1) :=
  Fol.sign ha (by rcases h with rfl | rfl | rfl | rfl <;> decide) (no_lev y h)
theorem assign_back {d : Int} {kind x : List UInt8} {e : PExpr} (he : OkX d e) {l : List Tok} {p n : Nat} {tl : List KT} (ha : At l p (nmK x :: sg [61] :: (ktE e ++ sg [59] :: tl))) (hn : 40 * (l.length - p) + 26 ≤ n) :
    assignR l n kind (st p d) = some (⟨kind, x, e, [], []⟩, st (p + (ktE e).length + 3) d) := by
  have h1 := ha.tail
  have h2 := h1.tail
  have h3 := h2.right
  unfold assignR
  rw [ofP_at ha]
  dsimp only
  rw [take_sg h1, (back_expr he).at0 h2.left (no_levs _ (by simp) h3) he.lev0.1 (by omega)]
  dsimp only
  rw [take_sg h3, show p + 1 + 1 + (ktE e).length + 1 = p + (ktE e).length + 3 by omega]
theorem tell_back {d : Int} {kind : List UInt8} {t : KT} {e : PExpr} (he : OkX d e) {l : List Tok} {p n : Nat} {tl : List KT} (ha : At l p (t :: (ktE e ++ sg [59] :: tl))) (hn : 40 * (l.length - p) ≤ n + 14) :
    tellR l n kind (st p d) = some (⟨kind, [], e, [], []⟩, st (p + (ktE e).length + 2) d) := by
  have h1 := ha.tail
  have h3 := h1.right
  have hlt := ha.lt
  unfold tellR
  rw [show (st p d).step = st (p + 1) d from rfl, (back_expr he).at0 h1.left (no_levs _ (by simp) h3) he.lev0.1 (by omega)]
  dsimp only
  rw [take_sg h3, show p + 1 + (ktE e).length + 1 = p + (ktE e).length + 2 by omega]
theorem back_stmt {d : Int} {x : PStmt} (h : OkY d x) : BkS d x := by
  induction h with
  | var d x e h he =>
    intro l p n tl ha _ hn
    obtain ⟨n, rfl⟩ : ∃ k, n = k + 1 := ⟨n - 1, by omega⟩
    rw [ktS_var] at ha ⊢
    have h1 : At l p (wd zVar :: nmK x :: sg [61] :: (ktE e ++ sg [59] :: tl)) := by simpa using ha
    have h2 := h1.tail
    have hlt := h1.lt
    rw [stmtR, if_neg (by rw [isP_wd h1]; decide), if_neg (by rw [isP_wd h1]; decide), if_neg (by rw [isP_wd h1]; decide), if_neg (by rw [isP_wd h1]; decide), if_pos (by rw [isP_wd h1]; decide), show (st p d).step = st (p + 1) d from rfl, assign_back he h2 (by omega)]
    have e1 : p + ([wd zVar, nmK x, sg [61]] ++ (ktE e ++ [sg [59]])).length = p + 1 + (ktE e).length + 3 := by simp only [List.length_append, List.length_cons, List.length_nil]; omega
    rw [e1]
  | set d x e h he =>
    intro l p n tl ha _ hn
    obtain ⟨n, rfl⟩ : ∃ k, n = k + 1 := ⟨n - 1, by omega⟩
    rw [ktS_set] at ha ⊢
    have h1 : At l p (nmK x :: sg [61] :: (ktE e ++ sg [59] :: tl)) := by simpa using ha
    have hn0 : ∀ z, isP l (st p d) z = false := fun z => isP_other h1 (by show kName ≠ kSign; decide) (by show kName ≠ kWord; decide)
    rw [stmtR, if_neg (by rw [hn0]; decide), if_neg (by rw [hn0]; decide), if_neg (by rw [hn0]; decide), if_neg (by rw [hn0]; decide), if_neg (by rw [hn0]; decide), assign_back he h1 (by omega)]
    have e1 : p + ([nmK x, sg [61]] ++ (ktE e ++ [sg [59]])).length = p + (ktE e).length + 3 := by simp only [List.length_append, List.length_cons, List.length_nil]; omega
    rw [e1]
  | tell d k e h he =>
    intro l p n tl ha _ hn
    obtain ⟨n, rfl⟩ : ∃ k, n = k + 1 := ⟨n - 1, by omega⟩
    rw [ktS_tell _ _ _ _ _ h] at ha ⊢
    have h1 : At l p (wd k :: (ktE e ++ sg [59] :: tl)) := by simpa using ha
    have e1 : p + ([wd k] ++ (ktE e ++ [sg [59]])).length = p + (ktE e).length + 2 := by simp only [List.length_append, List.length_cons, List.length_nil]; omega
    rw [e1]
    rcases h with rfl | rfl
    · rw [stmtR, if_neg (by rw [isP_wd h1]; decide), if_neg (by rw [isP_wd h1]; decide), if_pos (by rw [isP_wd h1]; decide), tell_back he h1 (by omega)]
    · rw [stmtR, if_neg (by rw [isP_wd h1]; decide), if_neg (by rw [isP_wd h1]; decide), if_neg (by rw [isP_wd h1]; decide), if_pos (by rw [isP_wd h1]; decide), tell_back he h1 (by omega)]
  | branch d k e th el h hw hd he ht hl iht ihl =>
    intro l p n tl ha htl hn
    obtain ⟨n, rfl⟩ : ∃ k, n = k + 1 := ⟨n - 1, by omega⟩
    rw [ktS_branch _ _ _ _ _ h] at ha ⊢
    have hbr : stmtR l (n + 1) (st p d) = branchR l n k (st p d) := by
      have h1 : At l p (wd k :: ((ktE e ++ ([sg [123]] ++ (ktB th ++ (if el.length = 0 then [sg [125]] else [sg [125], wd zElse, sg [123]] ++ (ktB el ++ [sg [125]]))))) ++ tl)) := by simpa using ha
      rcases h with rfl | rfl
      · rw [stmtR, if_pos (by rw [isP_wd h1]; decide)]
      · rw [stmtR, if_neg (by rw [isP_wd h1]; decide), if_pos (by rw [isP_wd h1]; decide)]
    rw [hbr]
    have h0 : At l p (wd k :: (ktE e ++ sg [123] :: (ktB th ++ ((if el.length = 0 then [sg [125]] else [sg [125], wd zElse, sg [123]] ++ (ktB el ++ [sg [125]])) ++ tl)))) := by simpa using ha
    have hlt := h0.lt
    have h1 := h0.tail
    have h2 := h1.right
    have hlt2 := h2.lt
    obtain ⟨n, rfl⟩ : ∃ k, n = k + 1 := ⟨n - 1, by omega⟩
    rw [branchR, show (st p d).step = st (p + 1) d from rfl, (back_expr he).at0 h1.left (no_levs _ (by simp) h2) he.lev0.1 (by omega)]
    dsimp only
    have hT : ∀ x ∈ th, OkY (d + 1) x ∧ BkS (d + 1) x := fun x hx => ⟨ht x hx, iht x hx⟩
    have hL : ∀ x ∈ el, OkY (d + 1) x ∧ BkS (d + 1) x := fun x hx => ⟨hl x hx, ihl x hx⟩
    by_cases hz : el.length = 0
    · rw [if_pos hz] at h2 ⊢
      obtain rfl : el = [] := List.length_eq_zero_iff.1 hz
      have h3 : At l (p + 1 + (ktE e).length) (sg [123] :: (ktB th ++ sg [125] :: tl)) := h2
      rw [block_back hd hT h3 (by omega)]
      dsimp only
      have h4 : At l (p + 1 + (ktE e).length + (ktB th).length + 2) tl := by
        have := (h3.tail).right.tail
        rw [show p + 1 + (ktE e).length + 1 + (ktB th).length + 1 = p + 1 + (ktE e).length + (ktB th).length + 2 by omega] at this
        exact this
      obtain ⟨t, r, rfl, hne⟩ := htl
      rw [if_neg (by rw [isP_ne h4 hne]; simp)]
      have e1 : p + ([wd k] ++ (ktE e ++ ([sg [123]] ++ (ktB th ++ [sg [125]])))).length = p + 1 + (ktE e).length + (ktB th).length + 2 := by simp only [List.length_append, List.length_cons, List.length_nil]; omega
      rw [e1]
    · rw [if_neg hz] at h2 ⊢
      have hkI : k = zIf := by
        rcases h with h | h
        · exact h
        · exact absurd (by rw [hw h]; rfl) hz
      have h3 : At l (p + 1 + (ktE e).length) (sg [123] :: (ktB th ++ sg [125] :: wd zElse :: sg [123] :: (ktB el ++ sg [125] :: tl))) := by simpa using h2
      rw [block_back hd hT h3 (by omega)]
      dsimp only
      have h4 : At l (p + 1 + (ktE e).length + (ktB th).length + 2) (wd zElse :: sg [123] :: (ktB el ++ sg [125] :: tl)) := by
        have := (h3.tail).right.tail
        rw [show p + 1 + (ktE e).length + 1 + (ktB th).length + 1 = p + 1 + (ktE e).length + (ktB th).length + 2 by omega] at this
        exact this
      have h5 := h4.tail
      have hlt4 := h4.lt
      rw [if_pos (by rw [isP_wd h4, hkI]; decide), show (st (p + 1 + (ktE e).length + (ktB th).length + 2) d).step = st (p + 1 + (ktE e).length + (ktB th).length + 2 + 1) d from rfl, block_back hd hL h5 (by omega)]
      dsimp only
      have e1 : p + ([wd k] ++ (ktE e ++ ([sg [123]] ++ (ktB th ++ ([sg [125], wd zElse, sg [123]] ++ (ktB el ++ [sg [125]])))))).length = p + 1 + (ktE e).length + (ktB th).length + 2 + 1 + (ktB el).length + 2 := by simp only [List.length_append, List.length_cons, List.length_nil]; omega
      rw [e1]
end Go.Proofs.YtpfgimohginbdaaDoor

namespace Go.Proofs.YtpfgimohginbdaaDoor
open Go.RowKit

/-! functions, programs -/
def ktN (ps : List (List UInt8)) : List KT := joinK (ps.map fun x => [nmK x])
theorem ktN_two (x y : List UInt8) (r : List (List UInt8)) : ktN (x :: y :: r) = [nmK x, sg [44]] ++ ktN (y :: r) := rfl
theorem ktN_len : ∀ (r : List (List UInt8)) (x : List UInt8), (ktN (x :: r)).length + 1 = 2 * (x :: r).length := by
  intro r
  induction r with
  | nil => intro x; rfl
  | cons y r ih =>
    intro x
    rw [ktN_two, List.length_append]
    have := ih y
    simp only [List.length_cons, List.length_nil] at *
    omega
def ktF (f : PFun) : List KT := [wd zFn, nmK f.name, sg [40]] ++ (ktN f.params ++ ([sg [41], sg [123]] ++ (ktB f.body ++ [sg [125]])))
def ktG : List PFun → List KT
  | [] => []
  | f :: fs => ktF f ++ ktG fs
theorem ktG_app : ∀ a b, ktG (a ++ b) = ktG a ++ ktG b := by
  intro a
  induction a with
  | nil => intro b; rfl
  | cons s a ih => intro b; rw [List.cons_append, ktG, ktG, ih, List.append_assoc]
structure OkZ (d : Int) (f : PFun) : Prop where
  name : GN f.name
  params : ∀ x ∈ f.params, GN x
  top : d + 1 ≤ 12
  body : ∀ x ∈ f.body, OkY (d + 1) x
theorem fr_names {l : List Tok} (V : TkV l) : ∀ n ps s b s' p0, s.pos ≤ l.length → (∀ x ∈ ps, GN x) → p0 + 2 * ps.length ≤ s.pos → namesR l n ps s = some (b, s') → s'.err = none → (∀ x ∈ b, GN x) ∧ b ≠ [] ∧ p0 + 2 * b.length ≤ s'.pos := by
  intro n
  induction n with
  | zero => intro ps s b s' p0 _ _ _ h; rw [namesR] at h; cases h
  | succ n ih =>
    intro ps s b s' p0 hp hps hl h he
    rw [namesR] at h
    split at h
    · have key : ∀ he2 : (ofP l kName s).2.err = none, GN (ofP l kName s).1 ∧ (ofP l kName s).2.pos = s.pos + 1 := fun he2 => by
        obtain ⟨hb, hof⟩ := ofP_next he2
        rw [hof]
        exact ⟨V.txt hb, rfl⟩
      have hg : ∀ he2 : (ofP l kName s).2.err = none, ∀ x ∈ ps ++ [(ofP l kName s).1], GN x := fun he2 x hx => by
        rcases List.mem_append.1 hx with q | q
        · exact hps x q
        · rw [List.mem_singleton.1 q]; exact (key he2).1
      split at h
      · rename_i ho
        obtain ⟨he2, t, -, -, hlt, -⟩ := isP_some ho
        have hk := (key he2).2
        exact ih _ _ b s' p0 (step_len hlt).1 (hg he2) (by rw [List.length_append]; show _ ≤ (ofP l kName s).2.pos + 1; rw [hk]; simp; omega) h he
      · cases h
        obtain ⟨ht, hts⟩ := takeP_next he
        have he2 := (isP_some ht).1
        have hk := (key he2).2
        refine ⟨hg he2, by simp, ?_⟩
        rw [hts, List.length_append]
        show _ ≤ (ofP l kName s).2.pos + 1
        rw [hk]
        simp
        omega
    · rename_i hn
      cases h
      exact absurd (by rw [he]; rfl) hn
theorem fr_params {l : List Tok} (V : TkV l) {n : Nat} {s s' : PSt} {b : List (List UInt8)} (hp : s.pos ≤ l.length) (h : paramsR l n s = some (b, s')) (he : s'.err = none) : (∀ x ∈ b, GN x) ∧ s.pos + (ktN b).length + 1 ≤ s'.pos := by
  unfold paramsR at h
  split at h
  · split at h
    · cases h
      exact ⟨fun x hx => absurd hx List.not_mem_nil, by show s.pos + 0 + 1 ≤ s.pos + 1; omega⟩
    · obtain ⟨h1, h2, h3⟩ := fr_names V n [] s b s' s.pos hp (fun x hx => absurd hx List.not_mem_nil) (by simp) h he
      refine ⟨h1, ?_⟩
      cases b with
      | nil => exact absurd rfl h2
      | cons x r =>
        have := ktN_len r x
        omega
  · rename_i hn
    cases h
    exact absurd (by rw [he]; rfl) hn
theorem fr_fun {l : List Tok} (V : TkV l) {n : Nat} {s s' : PSt} {f : PFun} (hp : s.pos ≤ l.length) (hd : s.deep ≤ 12) (h : funR l n s = some (f, s')) (he : s'.err = none) : OkZ s.deep f ∧ s.pos + (ktF f).length ≤ s'.pos := by
  have hh := headP_went (l := l) hp
  unfold funR at h
  cases hq : paramsR l n (headP l s).2 with
  | none => rw [hq] at h; cases h
  | some p =>
    obtain ⟨ps, s1⟩ := p
    rw [hq] at h
    dsimp only at h
    have w1 := params_wentR hh.w.hi hq
    cases hx : blockR l n s1 with
    | none => rw [hx] at h; cases h
    | some q =>
      obtain ⟨b, s2⟩ := q
      rw [hx] at h
      cases h
      have a2 := (adv_stmtR l n).block s1 b s' w1.hi hx
      obtain ⟨q1, he1⟩ := a2.ok he
      obtain ⟨q2, he0⟩ := w1.ok he1
      have heh : (takeP l [40] (ofP l kName (takeP l zFn s)).2).err = none := he0
      obtain ⟨t1, t2⟩ := takeP_next heh
      obtain ⟨t3, t4⟩ := ofP_next (isP_some t1).1
      have hz : (takeP l zFn s).err = none := (ofB_some t3).1
      obtain ⟨t5, t6⟩ := takeP_next hz
      have hn1 : (headP l s).1 = (ofP l kName (takeP l zFn s)).1 := rfl
      have hs2 : (headP l s).2.pos = s.pos + 3 ∧ (headP l s).2.deep = s.deep := by
        show (takeP l [40] (ofP l kName (takeP l zFn s)).2).pos = _ ∧ (takeP l [40] (ofP l kName (takeP l zFn s)).2).deep = _
        rw [t2, t4, t6]
        exact ⟨rfl, rfl⟩
      have g1 := fr_params V hh.w.hi hq he1
      rw [hs2.1] at g1
      have hd1 : s1.deep = s.deep := by rw [q2]; exact hs2.2
      have g2 := (fr_stmt V n).block s1 b s' w1.hi (by rw [hd1]; exact hd) hx he
      rw [hd1] at g2
      refine ⟨⟨by show GN (headP l s).1; rw [hn1, t4]; exact V.txt t3, g1.1, g2.1, g2.2.1⟩, ?_⟩
      show s.pos + (ktF ⟨(headP l s).1, ps, b⟩).length ≤ s'.pos
      unfold ktF
      have g12 := g1.2
      have g22 := g2.2.2
      simp only [List.length_append, List.length_cons, List.length_nil]
      omega
theorem fr_parse {l : List Tok} (V : TkV l) : ∀ n fs s b s', s.pos ≤ l.length → s.deep = 0 → (∀ f ∈ fs, OkZ 0 f) → (ktG fs).length ≤ s.pos → parseR l n fs s = some (b, s') → s'.err = none → (∀ f ∈ b, OkZ 0 f) ∧ (ktG b).length ≤ l.length := by
  intro n
  induction n with
  | zero => intro fs s b s' _ _ _ _ h; rw [parseR] at h; cases h
  | succ n ih =>
    intro fs s b s' hp hd hfs hl h he
    rw [parseR] at h
    split at h
    · cases hx : funR l n s with
      | none => rw [hx] at h; cases h
      | some p =>
        obtain ⟨f, s1⟩ := p
        rw [hx] at h
        dsimp only at h
        have a1 := fun_advR hp hx
        cases he1 : s1.err with
        | some z =>
          have := parseR_err (by rw [he1]; simp) h
          cases this
          rw [he1] at he
          cases he
        | none =>
          have g := fr_fun V hp (by omega) hx he1
          have hd1 : s1.deep = 0 := by rw [(a1.w.ok he1).1]; exact hd
          rw [hd] at g
          refine ih _ s1 b s' a1.w.hi hd1 (fun y hy => ?_) (by rw [ktG_app, ktG, ktG, List.append_nil, List.length_append]; omega) h he
          rcases List.mem_append.1 hy with q | q
          · exact hfs y q
          · rw [List.mem_singleton.1 q]; exact g.1
    · cases h
      exact ⟨hfs, by omega⟩

/-! .. and back -/
theorem names_back {d : Int} : ∀ (r : List (List UInt8)) (x : List UInt8) (ps : List (List UInt8)) (l : List Tok) (p n : Nat) (tl : List KT), At l p (ktN (x :: r) ++ sg [41] :: tl) → l.length - p + 1 ≤ n →
    namesR l n ps (st p d) = some (ps ++ x :: r, st (p + (ktN (x :: r)).length + 1) d) := by
  intro r
  induction r with
  | nil =>
    intro x ps l p n tl ha hn
    obtain ⟨n, rfl⟩ : ∃ k, n = k + 1 := ⟨n - 1, by omega⟩
    have h1 : At l p (nmK x :: sg [41] :: tl) := ha
    have h2 := h1.tail
    rw [namesR, if_pos (st_ok p d), ofP_at h1]
    dsimp only
    rw [if_neg (by rw [isP_sg h2]; decide), take_sg h2]
    rfl
  | cons y r ih =>
    intro x ps l p n tl ha hn
    obtain ⟨n, rfl⟩ : ∃ k, n = k + 1 := ⟨n - 1, by omega⟩
    have h1 : At l p (nmK x :: sg [44] :: (ktN (y :: r) ++ sg [41] :: tl)) := by rw [ktN_two, List.append_assoc] at ha; exact ha
    have h2 := h1.tail
    have hlt := h2.lt
    rw [namesR, if_pos (st_ok p d), ofP_at h1]
    dsimp only
    rw [if_pos (by rw [isP_sg h2]; decide), show (st (p + 1) d).step = st (p + 1 + 1) d from rfl, ih y (ps ++ [x]) l _ n tl h2.tail (by omega), List.append_assoc, ktN_two, List.length_append]
    rw [show p + ([nmK x, sg [44]].length + (ktN (y :: r)).length) + 1 = p + 1 + 1 + (ktN (y :: r)).length + 1 by simp only [List.length_cons, List.length_nil]; omega]
    rfl
theorem params_back {d : Int} {ps : List (List UInt8)} {l : List Tok} {p n : Nat} {tl : List KT} (ha : At l p (ktN ps ++ sg [41] :: tl)) (hn : l.length - p + 1 ≤ n) :
    paramsR l n (st p d) = some (ps, st (p + (ktN ps).length + 1) d) := by
  unfold paramsR
  rw [if_pos (st_ok p d)]
  cases ps with
  | nil =>
    rw [if_pos (by rw [isP_sg (show At l p (sg [41] :: tl) from ha)]; decide)]
    rfl
  | cons x r =>
    have h1 : ∃ q, At l p (nmK x :: q) := by
      cases r with
      | nil => exact ⟨_, ha⟩
      | cons y r => exact ⟨_, by rw [ktN_two, List.append_assoc] at ha; exact ha⟩
    obtain ⟨q, h1⟩ := h1
    rw [if_neg (by rw [isP_other h1 (by show kName ≠ kSign; decide) (by show kName ≠ kWord; decide)]; decide), names_back r x [] l p n tl ha hn]
    rfl
theorem fun_back {d : Int} {f : PFun} (h : OkZ d f) {l : List Tok} {p n : Nat} {tl : List KT} (ha : At l p (ktF f ++ tl)) (hn : 40 * (l.length - p) + 6 ≤ n) : funR l n (st p d) = some (f, st (p + (ktF f).length) d) := by
  have h1 : At l p (wd zFn :: nmK f.name :: sg [40] :: (ktN f.params ++ sg [41] :: sg [123] :: (ktB f.body ++ sg [125] :: tl))) := by unfold ktF at ha; simpa using ha
  have h2 := h1.tail
  have h3 := h2.tail
  have h4 := h3.tail
  have h5 := h4.right.tail
  have hlt := h1.lt
  have hlt5 := h5.lt
  have hh : headP l (st p d) = (f.name, st (p + 3) d) := by
    unfold headP
    rw [take_wd h1, ofP_at h2]
    dsimp only
    rw [take_sg h3]
  unfold funR
  rw [hh]
  dsimp only
  rw [params_back h4 (by omega)]
  dsimp only
  rw [block_back h.top (fun x hx => ⟨h.body x hx, back_stmt (h.body x hx)⟩) h5 (by omega)]
  dsimp only
  have e1 : p + (ktF f).length = p + 1 + 1 + 1 + (ktN f.params).length + 1 + (ktB f.body).length + 2 := by unfold ktF; simp only [List.length_append, List.length_cons, List.length_nil]; omega
  rw [e1]
theorem parse_back : ∀ (fs done : List PFun) (l : List Tok) (p n : Nat), (∀ f ∈ fs, OkZ 0 f) → At l p (ktG fs) → p + (ktG fs).length = l.length → 40 * (l.length - p) + 10 ≤ n → parseR l n done (st p 0) = some (done ++ fs, st l.length 0) := by
  intro fs
  induction fs with
  | nil =>
    intro done l p n _ ha hl hn
    obtain ⟨n, rfl⟩ : ∃ k, n = k + 1 := ⟨n - 1, by omega⟩
    have hl2 : p = l.length := hl
    rw [parseR, if_neg (by simp [hl2]), List.append_nil, hl2]
  | cons f fs ih =>
    intro done l p n hf ha hl hn
    obtain ⟨n, rfl⟩ : ∃ k, n = k + 1 := ⟨n - 1, by omega⟩
    have ha2 : At l p (ktF f ++ ktG fs) := ha
    have hlt : p < l.length := by
      have : At l p (wd zFn :: _) := ha
      exact this.lt
    have hl2 : p + (ktF f ++ ktG fs).length = l.length := hl
    rw [List.length_append] at hl2
    have h7 : 6 ≤ (ktF f).length := by unfold ktF; simp only [List.length_append, List.length_cons, List.length_nil]; omega
    rw [parseR, if_pos (by simp [hlt]), fun_back (hf f List.mem_cons_self) ha2 (by omega)]
    dsimp only
    rw [ih (done ++ [f]) l _ n (fun x hx => hf x (List.mem_cons_of_mem _ hx)) ha2.right (by omega) (by omega), List.append_assoc]
    rfl
def kt (t : Tok) : KT := (t.kind, t.text)
theorem at_map {ms : List Tok} {ks : List KT} (h : ms.map kt = ks) : At ms 0 ks := by
  intro j t hj
  rw [← h, List.getElem?_map] at hj
  rw [Nat.zero_add]
  cases hx : ms[j]? with
  | none => rw [hx] at hj; cases hj
  | some x =>
    rw [hx] at hj
    cases hj
    exact ⟨x, rfl, rfl, rfl⟩
/-- A PARSED PROGRAM'S TOKENS ARE PARSED TO IT AGAIN. -/
theorem back_parse {l : List Tok} (V : TkV l) (he : (parseP l).2.err = none) : (∀ f ∈ (parseP l).1, OkZ 0 f) ∧ ∀ ms : List Tok, ms.map kt = ktG (parseP l).1 → ms.length ≤ l.length ∧ (parseP ms).2.err = none ∧ (parseP ms).1 = (parseP l).1 := by
  obtain ⟨e1, e2⟩ := (parse_same l).same he
  have heq : (parseQ l).2.err = none := by rw [← e1]; exact he
  have g := fr_parse V (40 * l.length + 10) [] s0P (parseQ l).1 (parseQ l).2 (Nat.zero_le _) rfl (fun f hf => absurd hf List.not_mem_nil) (by show 0 ≤ _; omega) (parseQ_eq l) heq
  rw [← e2] at g
  refine ⟨g.1, fun ms hm => ?_⟩
  have hl : ms.length = (ktG (parseP l).1).length := by rw [← hm, List.length_map]
  have hb := parse_back (parseP l).1 [] ms 0 (40 * ms.length + 10) g.1 (at_map hm) (by omega) (by omega)
  have hq := parseQ_eq ms
  rw [show s0P = st 0 0 from rfl, hb] at hq
  have hq2 := Option.some.inj hq
  have hme : (parseQ ms).2.err = none := by rw [← hq2]
  have hpe : (parseP ms).2.err = none := by rw [(parse_same ms).err]; exact hme
  obtain ⟨e3, e4⟩ := (parse_same ms).same hpe
  exact ⟨by omega, hpe, by rw [e4, ← hq2]; rfl⟩
end Go.Proofs.YtpfgimohginbdaaDoor

namespace Go.Proofs.YtpfgimohginbdaaDoor
open Go.RowKit

/-! what is printed is read -/
/-- A text has these tokens, whatever comes behind it (that G allows). -/
def Lx (t : List UInt8) (ks : List KT) (G : List UInt8 → Prop) : Prop := ∀ r k, G r → ∃ ts : List Tok, ts.map kt = ks ∧ lexA (t ++ r) k = (ts ++ (lexA r (k + t.length)).1, (lexA r (k + t.length)).2)
def GAny : List UInt8 → Prop := fun _ => True
def Gs : List UInt8 → Prop := fun r => ∀ c q, r = c :: q → c ≠ 61 ∧ c ≠ 60 ∧ c ≠ 62
def Gx : List UInt8 → Prop := fun r => ∀ c q, r = c :: q → alnum c = false ∧ c ≠ 61 ∧ c ≠ 60 ∧ c ≠ 62
theorem Gx.s {r : List UInt8} (h : Gx r) : Gs r := fun c q e => (h c q e).2
theorem gx_cons {c : UInt8} {r : List UInt8} (h : alnum c = false ∧ c ≠ 61 ∧ c ≠ 60 ∧ c ≠ 62) : Gx (c :: r) := fun d q e => by cases e; exact h
theorem gs_cons {c : UInt8} {r : List UInt8} (h : c ≠ 61 ∧ c ≠ 60 ∧ c ≠ 62) : Gs (c :: r) := fun d q e => by cases e; exact h
theorem Lx.nil {G : List UInt8 → Prop} : Lx [] [] G := fun r k _ => ⟨[], rfl, by simp⟩
theorem Lx.weak {t : List UInt8} {ks : List KT} {G H : List UInt8 → Prop} (h : Lx t ks G) (hg : ∀ r, H r → G r) : Lx t ks H := fun r k hr => h r k (hg r hr)
theorem Lx.app {a b : List UInt8} {ka kb : List KT} {G H : List UInt8 → Prop} (h1 : Lx a ka G) (h2 : Lx b kb H) (hg : ∀ r, H r → G (b ++ r)) : Lx (a ++ b) (ka ++ kb) H := by
  intro r k hr
  obtain ⟨t1, e1, f1⟩ := h1 (b ++ r) k (hg r hr)
  obtain ⟨t2, e2, f2⟩ := h2 r (k + a.length) hr
  refine ⟨t1 ++ t2, by rw [List.map_append, e1, e2], ?_⟩
  rw [List.append_assoc, f1, f2, List.append_assoc, List.length_append, Nat.add_assoc]
theorem lexA_bl1 {b : UInt8} (hb : isBlank b = true) (r : List UInt8) (k : Nat) : lexA (b :: r) k = lexA r (k + 1) := by
  have hs : spanL isBlank (b :: r) = spanL isBlank r + 1 := by simp [spanL, hb]
  cases hr : r.drop (spanL isBlank r) with
  | nil => rw [lexA_nil r _ hr, lexA_nil (b :: r) _ (by rw [hs, List.drop_succ_cons]; exact hr)]
  | cons c q =>
    have hr2 : (b :: r).drop (spanL isBlank (b :: r)) = c :: q := by rw [hs, List.drop_succ_cons]; exact hr
    cases ht : (tokAt (c :: q)).2.2 with
    | false => rw [lexA_bad r _ c q hr ht, lexA_bad (b :: r) _ c q hr2 ht, hs, show k + (spanL isBlank r + 1) = k + 1 + spanL isBlank r by omega]
    | true => rw [lexA_tok r _ c q hr ht, lexA_tok (b :: r) _ c q hr2 ht, hs, show k + (spanL isBlank r + 1) = k + 1 + spanL isBlank r by omega]
theorem Lx.blank {b : UInt8} (hb : isBlank b = true) : Lx [b] [] GAny := fun r k _ => ⟨[], rfl, by rw [show [b] ++ r = b :: r from rfl, lexA_bl1 hb]; rfl⟩
theorem Lx.tok {c : UInt8} {q kind : List UInt8} {G : List UInt8 → Prop} (hb : isBlank c = false) (h : ∀ r, G r → tokAt (c :: q ++ r) = (kind, (c :: q).length, true)) : Lx (c :: q) [(kind, c :: q)] G := by
  intro r k hr
  have ht : tokAt (c :: (q ++ r)) = (kind, (c :: q).length, true) := h r hr
  have hs : spanL isBlank (c :: q ++ r) = 0 := by show spanL isBlank (c :: (q ++ r)) = 0; simp [spanL, hb]
  have hd : (c :: q ++ r).drop (spanL isBlank (c :: q ++ r)) = c :: (q ++ r) := by rw [hs]; rfl
  refine ⟨[⟨kind, c :: q, k⟩], rfl, ?_⟩
  rw [lexA_tok _ k c (q ++ r) hd (by rw [ht]), hs, ht]
  have e1 : (c :: (q ++ r)).take (c :: q).length = c :: q := by rw [← List.cons_append, List.take_left]
  have e2 : (c :: (q ++ r)).drop (c :: q).length = r := by rw [← List.cons_append, List.drop_left]
  simp only [e1, e2]
  rfl
theorem span_app {p : UInt8 → Bool} : ∀ (x r : List UInt8), (∀ c ∈ x, p c = true) → (∀ c q, r = c :: q → p c = false) → spanL p (x ++ r) = x.length := by
  intro x
  induction x with
  | nil =>
    intro r _ hr
    cases r with
    | nil => rfl
    | cons c q => simp [spanL, hr c q rfl]
  | cons c x ih =>
    intro r hx hr
    have h1 := ih r (fun d hd => hx d (List.mem_cons_of_mem _ hd)) hr
    simp [spanL, hx c List.mem_cons_self, h1]
theorem letter_noblank {c : UInt8} (h : isLetter c = true) : isBlank c = false := by
  unfold isLetter at h
  unfold isBlank
  simp only [Bool.and_eq_true, decide_eq_true_eq] at h
  simp only [Bool.or_eq_false_iff, beq_eq_false_iff_ne]
  omega
theorem digit_noblank {c : UInt8} (h : isDigit c = true) : isBlank c = false ∧ isLetter c = false := by
  unfold isDigit at h
  unfold isBlank isLetter
  simp only [Bool.and_eq_true, decide_eq_true_eq] at h
  simp only [Bool.or_eq_false_iff, beq_eq_false_iff_ne, Bool.and_eq_false_iff, decide_eq_false_iff_not]
  omega
theorem Lx.name {x : List UInt8} (h : GN x) : Lx x [nmK x] Gx := by
  obtain ⟨c, q, rfl, hc⟩ := h.head
  refine Lx.tok (letter_noblank hc) fun r hr => ?_
  have hs : spanL alnum (c :: (q ++ r)) = (c :: q).length := span_app (c :: q) r h.all (fun d z e => (hr d z e).1)
  have e1 : (c :: (q ++ r)).take (c :: q).length = c :: q := by rw [← List.cons_append, List.take_left]
  have hw : wordsB.any (fun y => y == c :: q) = false := by
    cases hb : wordsB.any (fun y => y == c :: q) with
    | false => rfl
    | true => exact absurd (any_mem hb) h.word
  show tokAt (c :: (q ++ r)) = _
  rw [tokAt_letter c (q ++ r) hc, hs, e1, hw]
  have := h.len
  simp [this]
  simpa using this
theorem Lx.word {x : List UInt8} (h : x ∈ wordsB) : Lx x [wd x] Gx := by
  have h0 : ∀ x ∈ wordsB, (∃ c q, x = c :: q ∧ isLetter c = true) ∧ (∀ c ∈ x, alnum c = true) := by
    intro x hx
    simp only [wordsB, List.mem_cons, List.not_mem_nil, or_false] at hx
    rcases hx with rfl | rfl | rfl | rfl | rfl | rfl | rfl <;> exact ⟨⟨_, _, rfl, by decide⟩, by decide⟩
  obtain ⟨⟨c, q, rfl, hc⟩, hall⟩ := h0 x h
  refine Lx.tok (letter_noblank hc) fun r hr => ?_
  have hs : spanL alnum (c :: (q ++ r)) = (c :: q).length := span_app (c :: q) r hall (fun d z e => (hr d z e).1)
  have e1 : (c :: (q ++ r)).take (c :: q).length = c :: q := by rw [← List.cons_append, List.take_left]
  have hw : wordsB.any (fun y => y == c :: q) = true := List.any_eq_true.2 ⟨_, h, beq_self_eq_true _⟩
  show tokAt (c :: (q ++ r)) = _
  rw [tokAt_letter c (q ++ r) hc, hs, e1, hw]
  rfl
theorem Lx.num {x : List UInt8} (h : GD x) : Lx x [(kNumber, x)] Gx := by
  have hp := h.pos
  cases x with
  | nil => simp at hp
  | cons c q =>
    have hdig : ∀ d ∈ c :: q, isDigit d = true := fun d hd => by
      have := h.dig d hd
      unfold isDigit
      simp only [Bool.and_eq_true, decide_eq_true_eq]
      omega
    have hc := hdig c List.mem_cons_self
    obtain ⟨hb, hl⟩ := digit_noblank hc
    refine Lx.tok hb fun r hr => ?_
    have hs : spanL isDigit (c :: (q ++ r)) = (c :: q).length := span_app (c :: q) r hdig (fun d z e => by
      have := (hr d z e).1
      unfold alnum at this
      exact (Bool.or_eq_false_iff.1 this).2)
    show tokAt (c :: (q ++ r)) = _
    rw [tokAt_digit c (q ++ r) hl hc, hs]
    have hN : numL c (c :: (q ++ r)) (c :: q).length = true := by
      unfold numL
      have e2 : (c :: (q ++ r)).drop (c :: q).length = r := by rw [← List.cons_append, List.drop_left]
      rw [e2]
      have h18 := h.len
      have hz : (decide ((c :: q).length = 1) || c != 48) = true := by
        rcases h.zero with h1 | h1
        · rw [h1]; rfl
        · have : c ≠ 48 := fun e => h1 (by rw [e]; rfl)
          simp [this]
      rw [hz, decide_eq_true h18]
      cases r with
      | nil => rfl
      | cons d z =>
        have := (hr d z rfl).1
        unfold alnum at this
        simp [(Bool.or_eq_false_iff.1 this).1]
    rw [hN]
theorem Lx.one {c : UInt8} (h : isLetter c = false ∧ isDigit c = false ∧ isBlank c = false ∧ onesB.any (fun x => x == c) = true) : Lx [c] [sg [c]] Gs := by
  refine Lx.tok h.2.2.1 fun r hr => ?_
  show tokAt (c :: ([] ++ r)) = _
  rw [List.nil_append, tokAt_sign c r h.1 h.2.1]
  have h2 : twosB.any (fun x => x == (c :: r).take 2) = false := by
    cases r with
    | nil => simp [twosB]
    | cons d q =>
      obtain ⟨g1, g2, g3⟩ := hr d q rfl
      show twosB.any (fun x => x == [c, d]) = false
      simp only [twosB, List.any_cons, List.any_nil, Bool.or_false, Bool.or_eq_false_iff, beq_eq_false_iff_ne]
      exact ⟨fun e => by simp at e; exact g2 e.2.symm, fun e => by simp at e; exact g3 e.2.symm, fun e => by simp at e; exact g1 e.2.symm, fun e => by simp at e; exact g1 e.2.symm, fun e => by simp at e; exact g1 e.2.symm⟩
  rw [h2, h.2.2.2]
  rfl
theorem Lx.two {x : List UInt8} (h : x ∈ twosB) : Lx x [sg x] GAny := by
  simp only [twosB, List.mem_cons, List.not_mem_nil, or_false] at h
  rcases h with rfl | rfl | rfl | rfl | rfl
  all_goals
    refine Lx.tok (by decide) fun r hr => ?_
    rw [List.cons_append, tokAt_sign _ _ (by decide) (by decide)]
    rfl
theorem Lx.op {x : List UInt8} {k : Nat} (h : levN x = some k) : Lx x [sg x] Gs := by
  have h1 := op_lev h
  have h2 := lev_lp h
  have h3 : ∀ k, k < 8 → ∀ x ∈ levelsB.getD k [], x ∈ twosB ∨ ∃ c, x = [c] ∧ isLetter c = false ∧ isDigit c = false ∧ isBlank c = false ∧ onesB.any (fun x => x == c) = true := by
    intro k hk x hx
    match k, hk with
    | 0, _ => simp [levelsB] at hx; rcases hx with rfl | rfl <;> (left; decide)
    | 1, _ =>
      simp [levelsB] at hx
      rcases hx with rfl | rfl
      · exact .inr ⟨_, rfl, by decide⟩
      · left; decide
    | 2, _ => simp [levelsB] at hx; subst hx; exact .inr ⟨_, rfl, by decide⟩
    | 3, _ => simp [levelsB] at hx; subst hx; exact .inr ⟨_, rfl, by decide⟩
    | 4, _ => simp [levelsB] at hx; subst hx; exact .inr ⟨_, rfl, by decide⟩
    | 5, _ => simp [levelsB] at hx; rcases hx with rfl | rfl <;> (left; decide)
    | 6, _ => simp [levelsB] at hx; rcases hx with rfl | rfl <;> exact .inr ⟨_, rfl, by decide⟩
    | 7, _ => simp [levelsB] at hx; rcases hx with rfl | rfl | rfl <;> exact .inr ⟨_, rfl, by decide⟩
    | k + 8, hk => omega
  rcases h3 k h2.2 x (by simpa using h1) with h4 | ⟨c, rfl, h4⟩
  · exact (Lx.two h4).weak fun _ _ => trivial
  · exact Lx.one h4

/-! expressions -/
/-- A text that may stand behind a sign. -/
def HdT (t : List UInt8) : Prop := ∃ c q, t = c :: q ∧ c ≠ 61 ∧ c ≠ 60 ∧ c ≠ 62
theorem HdT.gs {t : List UInt8} (h : HdT t) (r : List UInt8) : Gs (t ++ r) := by
  obtain ⟨c, q, rfl, h⟩ := h
  exact gs_cons h
theorem GN.hdT {x : List UInt8} (h : GN x) : HdT x := by
  obtain ⟨c, q, rfl, hc⟩ := h.head
  refine ⟨c, q, rfl, ?_, ?_, ?_⟩
  · rintro rfl; revert hc; decide
  · rintro rfl; revert hc; decide
  · rintro rfl; revert hc; decide
theorem GD.hdT {x : List UInt8} (h : GD x) : HdT x := by
  have hp := h.pos
  cases x with
  | nil => simp at hp
  | cons c q =>
    have := h.dig c List.mem_cons_self
    refine ⟨c, q, rfl, ?_, ?_, ?_⟩
    · rintro rfl; revert this; decide
    · rintro rfl; revert this; decide
    · rintro rfl; revert this; decide
structure LxE (e : PExpr) : Prop where
  lx : Lx (textE e) (ktE e) Gx
  hd : HdT (textE e)
theorem Lx.g1 {c : UInt8} (h : isLetter c = false ∧ isDigit c = false ∧ isBlank c = false ∧ onesB.any (fun x => x == c) = true) : Lx [c] [sg [c]] Gx := (Lx.one h).weak fun _ h => h.s
theorem lxE_wrap {e : PExpr} (h : LxE e) (j : Int) : Lx (wrapT e j (textE e)) (wrapK e j (ktE e)) Gx ∧ HdT (wrapT e j (textE e)) := by
  unfold wrapT wrapK
  by_cases hw : wr e j
  · rw [if_pos hw, if_pos (show e.kind = xTwo ∧ levelP e.name < j from hw)]
    refine ⟨?_, ⟨40, _, rfl, by decide⟩⟩
    refine Lx.app (G := Gx) (Lx.app (G := Gs) (Lx.one (by decide)) h.lx fun r _ => h.hd.gs r) (Lx.g1 (by decide)) fun r _ => gx_cons (by decide)
  · rw [if_neg hw, if_neg (show ¬ (e.kind = xTwo ∧ levelP e.name < j) from hw)]
    exact ⟨h.lx, h.hd⟩
theorem Lx.comma : Lx [44, 32] [sg [44]] GAny := Lx.app (a := [44]) (b := [32]) (ka := [sg [44]]) (kb := []) (G := Gs) (Lx.one (by decide)) (Lx.blank (by decide)) fun r _ => gs_cons (by decide)
theorem joinC_two (x y : List UInt8) (r : List (List UInt8)) : joinC (x :: y :: r) = x ++ [44, 32] ++ joinC (y :: r) := rfl
theorem lx_join {α : Type} (f : α → List UInt8) (g : α → List KT) : ∀ (ks : List α), (∀ k ∈ ks, Lx (f k) (g k) Gx) → Lx (joinC (ks.map f)) (joinK (ks.map g)) Gx := by
  intro ks
  induction ks with
  | nil => intro _; exact Lx.nil
  | cons k ks ih =>
    intro h
    cases ks with
    | nil => exact h k List.mem_cons_self
    | cons y r =>
      have h1 := ih fun x hx => h x (List.mem_cons_of_mem _ hx)
      rw [List.map_cons, List.map_cons, List.map_cons, List.map_cons, joinC_two, joinK_cons, ← List.map_cons, ← List.map_cons]
      refine Lx.app (G := GAny) (Lx.app (G := Gx) (h k List.mem_cons_self) Lx.comma fun r _ => gx_cons (by decide)) h1 fun _ _ => trivial
theorem join_gs {α : Type} (f : α → List UInt8) {ks : List α} (h : ∀ k ∈ ks, HdT (f k)) (r : List UInt8) : Gs (joinC (ks.map f) ++ ([41] ++ r)) := by
  cases ks with
  | nil => exact gs_cons (by decide)
  | cons k ks =>
    obtain ⟨c, q, e, hc⟩ := h k List.mem_cons_self
    cases ks with
    | nil =>
      show Gs (f k ++ _)
      rw [e]
      exact gs_cons hc
    | cons y z =>
      rw [List.map_cons, List.map_cons, joinC_two, e]
      exact gs_cons hc
theorem lx_expr {d : Int} {e : PExpr} (h : OkX d e) : LxE e := by
  induction h with
  | num d v h0 h1 =>
    have e : textE ⟨yNum, v, [], []⟩ = Lib.itoa v := by
      rw [textE_num rfl]
      show numT v = _
      unfold numT
      rw [if_neg (by omega), if_neg (by omega)]
    have hg := (itoa_good h0 h1).1
    exact ⟨by rw [e, ktE_num]; exact Lx.num hg, by rw [e]; exact hg.hdT⟩
  | name d x h =>
    have e : textE ⟨yName, 0, x, []⟩ = x := textE_name rfl
    exact ⟨by rw [e, ktE_name]; exact Lx.name h, by rw [e]; exact h.hdT⟩
  | call d x ks h hd hks ih =>
    have e : textE ⟨yCall, 0, x, ks⟩ = x ++ [40] ++ joinC (ks.map textE) ++ [41] := textE_call rfl
    refine ⟨?_, ?_⟩
    · rw [e, ktE_call]
      refine Lx.app (ka := [nmK x, sg [40]] ++ joinK (ks.map ktE)) (G := Gx) (H := Gx) ?_ (Lx.g1 (by decide)) fun r _ => gx_cons (by decide)
      have h1 : Lx (x ++ [40]) [nmK x, sg [40]] Gs := Lx.app (ka := [nmK x]) (kb := [sg [40]]) (G := Gx) (Lx.name h) (Lx.one (by decide)) fun r _ => gx_cons (by decide)
      intro r k hr
      have h2 : ∀ r, Gx r → r ≠ [] ∨ r = [] := fun r _ => by cases r <;> simp
      by_cases hk : ks = []
      · subst hk
        have := Lx.app (H := Gx) h1 (Lx.nil (G := Gx)) (fun r hr => hr.s)
        exact this r k hr
      · have hg : ∀ q, Gs (joinC (ks.map textE) ++ q) := fun q => by
          cases ks with
          | nil => exact absurd rfl hk
          | cons y z =>
            obtain ⟨c, w, e9, hc⟩ := (ih y List.mem_cons_self).hd
            cases z with
            | nil =>
              show Gs (textE y ++ _)
              rw [e9]
              exact gs_cons hc
            | cons a b =>
              rw [List.map_cons, List.map_cons, joinC_two, e9]
              exact gs_cons hc
        exact Lx.app (H := Gx) h1 (lx_join textE ktE ks fun k hk => (ih k hk).lx) (fun r _ => hg r) r k hr
    · rw [e]
      obtain ⟨c, q, e1, hc⟩ := h.hdT
      rw [e1]
      exact ⟨c, _, rfl, hc⟩
  | one d x k h hd hk ih =>
    have e : textE ⟨yOne, 0, x, [k]⟩ = x ++ wrapT k 8 (textE k) := textE_one rfl rfl
    obtain ⟨w1, w2⟩ := lxE_wrap ih 8
    refine ⟨?_, ?_⟩
    · rw [e, ktE_one]
      refine Lx.app (G := Gs) ?_ w1 fun r _ => w2.gs r
      rcases h with rfl | rfl
      · exact Lx.one (by decide)
      · exact Lx.one (by decide)
    · rw [e]
      rcases h with rfl | rfl
      · exact ⟨45, _, rfl, by decide⟩
      · exact ⟨33, _, rfl, by decide⟩
  | two d x lv a b h ha hka hb hkb iha ihb =>
    have e : textE ⟨yTwo, 0, x, [a, b]⟩ = wrapT a (levelP x) (textE a) ++ [32] ++ x ++ [32] ++ wrapT b (levelP x + 1) (textE b) := textE_two rfl rfl
    obtain ⟨a1, a2⟩ := lxE_wrap iha (levelP x)
    obtain ⟨b1, b2⟩ := lxE_wrap ihb (levelP x + 1)
    refine ⟨?_, ?_⟩
    · rw [e, ktE_two]
      have h1 := Lx.app (H := GAny) a1 (Lx.blank (b := 32) (by decide)) (fun r _ => gx_cons (by decide))
      have h2 := Lx.app (H := Gs) h1 (Lx.op h) (fun _ _ => trivial)
      have h3 := Lx.app (H := GAny) h2 (Lx.blank (b := 32) (by decide)) (fun r _ => gs_cons (by decide))
      have h4 := Lx.app (H := Gx) h3 b1 (fun _ _ => trivial)
      rw [List.append_nil, List.append_nil] at h4
      exact h4
    · rw [e]
      obtain ⟨c, q, e1, hc⟩ := a2
      rw [e1]
      exact ⟨c, _, rfl, hc⟩
end Go.Proofs.YtpfgimohginbdaaDoor
