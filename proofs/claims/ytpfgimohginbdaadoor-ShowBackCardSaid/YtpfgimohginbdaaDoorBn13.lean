import Derived.Test.YtpfgimohginbdaaDoorBn12
set_option linter.unusedVariables false
set_option linter.unusedSimpArgs false
namespace Go.Proofs.YtpfgimohginbdaaDoor
open Go.RowKit

/-! statements, programs: what is printed is read -/
theorem textS_var (x : List UInt8) (e : PExpr) (th el : List PStmt) (d : Nat) : textS ⟨zVar, x, e, th, el⟩ d = lineT d ([118, 97, 114, 32] ++ x ++ [32, 61, 32] ++ textE e ++ [59]) := by
  rw [textS_eq, if_pos (show zVar = sVar from rfl)]
theorem textS_set (x : List UInt8) (e : PExpr) (th el : List PStmt) (d : Nat) : textS ⟨ySet, x, e, th, el⟩ d = lineT d (x ++ [32, 61, 32] ++ textE e ++ [59]) := by
  rw [textS_eq, if_neg (show ySet ≠ sVar by decide), if_pos (show ySet = sSet from rfl)]
theorem textS_tell (k x : List UInt8) (e : PExpr) (th el : List PStmt) (d : Nat) (h : k = zReturn ∨ k = zPrint) : textS ⟨k, x, e, th, el⟩ d = lineT d (k ++ [32] ++ textE e ++ [59]) := by
  rw [textS_eq, if_neg (show ¬ k = sVar by rcases h with rfl | rfl <;> decide), if_neg (show ¬ k = sSet by rcases h with rfl | rfl <;> decide), if_pos (show k = sReturn ∨ k = sPrint from h)]
theorem textS_branch (k x : List UInt8) (e : PExpr) (th el : List PStmt) (d : Nat) (h : k = zIf ∨ k = zWhile) : textS ⟨k, x, e, th, el⟩ d = lineT d (k ++ [32] ++ textE e ++ [32, 123]) ++ textB th (d + 1) ++ (if el.length = 0 then [] else lineT d [125, 32, 101, 108, 115, 101, 32, 123] ++ textB el (d + 1)) ++ lineT d [125] := by
  rw [textS_eq, if_neg (show ¬ k = sVar by rcases h with rfl | rfl <;> decide), if_neg (show ¬ k = sSet by rcases h with rfl | rfl <;> decide), if_neg (show ¬ (k = sReturn ∨ k = sPrint) by rcases h with rfl | rfl <;> decide), if_pos (show k = sIf ∨ k = sWhile from h)]
theorem Lx.tabs : ∀ d, Lx (List.replicate d 9) [] GAny := by
  intro d
  induction d with
  | zero => exact Lx.nil
  | succ d ih => exact Lx.app (a := [9]) (ka := []) (G := GAny) (Lx.blank (by decide)) ih fun _ _ => trivial
theorem Lx.line {t : List UInt8} {ks : List KT} (h : Lx t ks Gx) (d : Nat) : Lx (lineT d t) ks GAny := by
  have h1 := Lx.app (H := Gx) (Lx.tabs d) h (fun _ _ => trivial)
  have h2 := Lx.app (H := GAny) h1 (Lx.blank (b := 10) (by decide)) (fun r _ => gx_cons (by decide))
  rw [List.nil_append, List.append_nil] at h2
  exact h2
theorem Lx.wordB {x : List UInt8} (h : x ∈ wordsB) : Lx (x ++ [32]) [wd x] GAny := by
  have := Lx.app (H := GAny) (Lx.word h) (Lx.blank (b := 32) (by decide)) (fun r _ => gx_cons (by decide))
  rw [List.append_nil] at this
  exact this
theorem Lx.equal : Lx [32, 61, 32] [sg [61]] GAny := by
  have h1 := Lx.app (H := Gs) (Lx.blank (b := 32) (by decide)) (Lx.one (c := 61) (by decide)) (fun _ _ => trivial)
  have h2 := Lx.app (H := GAny) h1 (Lx.blank (b := 32) (by decide)) (fun r _ => gs_cons (by decide))
  exact h2
theorem Lx.opens : Lx [32, 123] [sg [123]] Gx := Lx.app (a := [32]) (ka := []) (G := GAny) (Lx.blank (by decide)) (Lx.g1 (by decide)) fun _ _ => trivial
theorem Lx.end : Lx [59] [sg [59]] Gx := Lx.g1 (by decide)
theorem lx_block {b : List PStmt} (h : ∀ x ∈ b, ∀ t, Lx (textS x t) (ktS x) GAny) (t : Nat) : Lx (textB b t) (ktB b) GAny := by
  induction b with
  | nil => rw [textB_nil, ktB_nil]; exact Lx.nil
  | cons x b ih =>
    rw [textB_cons, ktB_cons]
    exact Lx.app (h x List.mem_cons_self t) (ih fun y hy => h y (List.mem_cons_of_mem _ hy)) fun _ _ => trivial
theorem Lx.to {t : List UInt8} {ks ks' : List KT} {G : List UInt8 → Prop} (h : Lx t ks G) (e : ks = ks') : Lx t ks' G := e ▸ h
theorem lx_stmt {d : Int} {x : PStmt} (h : OkY d x) : ∀ t, Lx (textS x t) (ktS x) GAny := by
  induction h with
  | var d x e h he =>
    intro t
    rw [textS_var, ktS_var]
    have h1 := Lx.app (H := Gx) (Lx.wordB (show zVar ∈ wordsB by decide)) (Lx.name h) (fun _ _ => trivial)
    have h2 := Lx.app (H := GAny) h1 Lx.equal (fun r _ => gx_cons (by decide))
    have h3 := Lx.app (H := Gx) h2 (lx_expr he).lx (fun _ _ => trivial)
    have h4 := Lx.app (H := Gx) h3 Lx.end (fun r _ => gx_cons (by decide))
    exact (h4.line t).to (by simp)
  | set d x e h he =>
    intro t
    rw [textS_set, ktS_set]
    have h2 := Lx.app (H := GAny) (Lx.name h) Lx.equal (fun r _ => gx_cons (by decide))
    have h3 := Lx.app (H := Gx) h2 (lx_expr he).lx (fun _ _ => trivial)
    have h4 := Lx.app (H := Gx) h3 Lx.end (fun r _ => gx_cons (by decide))
    exact (h4.line t).to (by simp)
  | tell d k e h he =>
    intro t
    rw [textS_tell _ _ _ _ _ _ h, ktS_tell _ _ _ _ _ h]
    have h1 := Lx.wordB (x := k) (by rcases h with rfl | rfl <;> decide)
    have h3 := Lx.app (H := Gx) h1 (lx_expr he).lx (fun _ _ => trivial)
    have h4 := Lx.app (H := Gx) h3 Lx.end (fun r _ => gx_cons (by decide))
    exact (h4.line t).to (by simp)
  | branch d k e th el h hw hd he ht hl iht ihl =>
    intro t
    rw [textS_branch _ _ _ _ _ _ h, ktS_branch _ _ _ _ _ h]
    have h1 := Lx.wordB (x := k) (by rcases h with rfl | rfl <;> decide)
    have h3 := Lx.app (H := Gx) h1 (lx_expr he).lx (fun _ _ => trivial)
    have h4 := Lx.app (H := Gx) h3 Lx.opens (fun r _ => gx_cons (by decide))
    have h5 := Lx.app (H := GAny) (h4.line t) (lx_block iht (t + 1)) (fun _ _ => trivial)
    have hc : Lx (lineT t [125]) [sg [125]] GAny := (Lx.g1 (c := 125) (by decide)).line t
    by_cases hz : el.length = 0
    · rw [if_pos hz, if_pos hz, List.append_nil]
      exact (Lx.app (H := GAny) h5 hc (fun _ _ => trivial)).to (by simp)
    · rw [if_neg hz, if_neg hz]
      have g1 := Lx.app (H := GAny) (Lx.g1 (c := 125) (by decide)) (Lx.blank (b := 32) (by decide)) (fun r _ => gx_cons (by decide))
      have g2 := Lx.app (H := Gx) g1 (Lx.word (x := zElse) (by decide)) (fun _ _ => trivial)
      have g3 := Lx.app (H := Gx) g2 Lx.opens (fun r _ => gx_cons (by decide))
      have g4 : Lx (lineT t [125, 32, 101, 108, 115, 101, 32, 123]) [sg [125], wd zElse, sg [123]] GAny := g3.line t
      have g5 := Lx.app (H := GAny) g4 (lx_block ihl (t + 1)) (fun _ _ => trivial)
      have g6 := Lx.app (H := GAny) h5 g5 (fun _ _ => trivial)
      exact (Lx.app (H := GAny) g6 hc (fun _ _ => trivial)).to (by simp)
theorem join_hd {ps : List (List UInt8)} (h : ∀ x ∈ ps, HdT x) {r : List UInt8} (hr : Gx r) : Gs (joinC ps ++ r) := by
  cases ps with
  | nil => exact hr.s
  | cons k ks =>
    obtain ⟨c, q, e, hc⟩ := h k List.mem_cons_self
    cases ks with
    | nil =>
      show Gs (k ++ _)
      rw [e]
      exact gs_cons hc
    | cons y z =>
      rw [joinC_two, e]
      exact gs_cons hc
theorem lx_fun {d : Int} {f : PFun} (h : OkZ d f) : Lx (textF f) (ktF f) GAny := by
  have hp : Lx (joinC f.params) (ktN f.params) Gx := by
    have := lx_join (fun x => x) (fun x => [nmK x]) f.params fun k hk => Lx.name (h.params k hk)
    rw [List.map_id'] at this
    exact this
  have h1 := Lx.app (H := Gx) (Lx.wordB (show zFn ∈ wordsB by decide)) (Lx.name h.name) (fun _ _ => trivial)
  have h2 := Lx.app (H := Gs) h1 (Lx.one (c := 40) (by decide)) (fun r _ => gx_cons (by decide))
  have h3 := Lx.app (H := Gx) h2 hp (fun r hr => join_hd (fun x hx => (h.params x hx).hdT) hr)
  have hcl : Lx [41, 32, 123] [sg [41], sg [123]] Gx := Lx.app (a := [41]) (ka := [sg [41]]) (G := Gx) (Lx.g1 (by decide)) Lx.opens fun r _ => gx_cons (by decide)
  have h4 := Lx.app (H := Gx) h3 hcl (fun r _ => gx_cons (by decide))
  have h5 := Lx.app (H := GAny) (h4.line 0) (lx_block (fun x hx => lx_stmt (h.body x hx)) 1) (fun _ _ => trivial)
  have h6 := Lx.app (H := GAny) h5 ((Lx.g1 (c := 125) (by decide)).line 0) (fun _ _ => trivial)
  exact h6.to (by unfold ktF; simp)
theorem lx_prog : ∀ (fs : List PFun), (∀ f ∈ fs, OkZ 0 f) → Lx (textG fs) (ktG fs) GAny := by
  intro fs
  induction fs with
  | nil => intro _; exact Lx.nil
  | cons f fs ih => intro h; exact Lx.app (lx_fun (h f List.mem_cons_self)) (ih fun x hx => h x (List.mem_cons_of_mem _ hx)) fun _ _ => trivial
theorem lex_prog {fs : List PFun} (h : ∀ f ∈ fs, OkZ 0 f) : (lexA (textG fs) 0).1.map kt = ktG fs ∧ (lexA (textG fs) 0).2 = none := by
  obtain ⟨ts, h1, h2⟩ := lx_prog fs h [] 0 trivial
  rw [List.append_nil, lexA_nil [] _ rfl] at h2
  rw [h2]
  exact ⟨by simpa using h1, rfl⟩

/-! how long -/
theorem wrapT20 (k : PExpr) (j : Int) {t : List UInt8} {s : List KT} (h : t.length ≤ 20 * s.length) : (wrapT k j t).length ≤ 20 * (wrapK k j s).length := by
  unfold wrapT wrapK
  by_cases hw : wr k j
  · rw [if_pos hw, if_pos (show k.kind = xTwo ∧ levelP k.name < j from hw)]
    simp only [List.length_append, List.length_cons, List.length_nil]
    omega
  · rw [if_neg hw, if_neg (show ¬ (k.kind = xTwo ∧ levelP k.name < j) from hw)]
    exact h
theorem join_len20 {α : Type} (f : α → List UInt8) (g : α → List KT) : ∀ (ks : List α), (∀ k ∈ ks, (f k).length ≤ 20 * (g k).length) → (joinC (ks.map f)).length ≤ 20 * (joinK (ks.map g)).length := by
  intro ks
  induction ks with
  | nil => intro _; exact Nat.zero_le _
  | cons k ks ih =>
    intro h
    cases ks with
    | nil => exact h k List.mem_cons_self
    | cons y r =>
      have h1 := ih fun x hx => h x (List.mem_cons_of_mem _ hx)
      have h2 := h k List.mem_cons_self
      rw [List.map_cons, List.map_cons, List.map_cons, List.map_cons, joinC_two, joinK_cons, ← List.map_cons, ← List.map_cons]
      simp only [List.length_append, List.length_cons, List.length_nil] at *
      omega
theorem op_len {x : List UInt8} {k : Nat} (h : levN x = some k) : x.length ≤ 2 := by
  have h1 := op_lev h
  have h2 := lev_lp h
  have h3 : ∀ k, k < 8 → ∀ x ∈ levelsB.getD k [], x.length ≤ 2 := by decide
  exact h3 k h2.2 x (by simpa using h1)
theorem len_expr {d : Int} {e : PExpr} (h : OkX d e) : (textE e).length ≤ 20 * (ktE e).length := by
  induction h with
  | num d v h0 h1 =>
    have e : textE ⟨yNum, v, [], []⟩ = Lib.itoa v := by
      rw [textE_num rfl]
      show numT v = _
      unfold numT
      rw [if_neg (by omega), if_neg (by omega)]
    have := (itoa_good h0 h1).1.len
    rw [e, ktE_num]
    simp only [List.length_cons, List.length_nil]
    omega
  | name d x h =>
    have e : textE ⟨yName, 0, x, []⟩ = x := textE_name rfl
    have := h.len
    rw [e, ktE_name]
    simp only [List.length_cons, List.length_nil]
    omega
  | call d x ks h hd hks ih =>
    have e : textE ⟨yCall, 0, x, ks⟩ = x ++ [40] ++ joinC (ks.map textE) ++ [41] := textE_call rfl
    have := h.len
    have := join_len20 textE ktE ks ih
    rw [e, ktE_call]
    simp only [List.length_append, List.length_cons, List.length_nil]
    omega
  | one d x k h hd hk ih =>
    have e : textE ⟨yOne, 0, x, [k]⟩ = x ++ wrapT k 8 (textE k) := textE_one rfl rfl
    have := wrapT20 k 8 ih
    have hx : x.length = 1 := by rcases h with rfl | rfl <;> rfl
    rw [e, ktE_one]
    simp only [List.length_append, List.length_cons, List.length_nil]
    omega
  | two d x lv a b h ha hka hb hkb iha ihb =>
    have e : textE ⟨yTwo, 0, x, [a, b]⟩ = wrapT a (levelP x) (textE a) ++ [32] ++ x ++ [32] ++ wrapT b (levelP x + 1) (textE b) := textE_two rfl rfl
    have := wrapT20 a (levelP x) iha
    have := wrapT20 b (levelP x + 1) ihb
    have := op_len h
    rw [e, ktE_two]
    simp only [List.length_append, List.length_cons, List.length_nil]
    omega
theorem line_len (d : Nat) (t : List UInt8) : (lineT d t).length = d + t.length + 1 := by unfold lineT; simp; omega
theorem block_len {b : List PStmt} {t : Nat} (h : ∀ x ∈ b, (textS x t).length ≤ 60 * (ktS x).length) : (textB b t).length ≤ 60 * (ktB b).length := by
  induction b with
  | nil => rw [textB_nil]; exact Nat.zero_le _
  | cons x b ih =>
    have h1 := h x List.mem_cons_self
    have h2 := ih fun y hy => h y (List.mem_cons_of_mem _ hy)
    rw [textB_cons, ktB_cons, List.length_append, List.length_append]
    omega
theorem len_stmt {d : Int} {x : PStmt} (h : OkY d x) : d ≤ 12 → ∀ t : Nat, (t : Int) ≤ d → (textS x t).length ≤ 60 * (ktS x).length := by
  induction h with
  | var d x e h he =>
    intro hd t ht
    have := len_expr he
    have := h.len
    rw [textS_var, ktS_var, line_len]
    simp only [List.length_append, List.length_cons, List.length_nil]
    omega
  | set d x e h he =>
    intro hd t ht
    have := len_expr he
    have := h.len
    rw [textS_set, ktS_set, line_len]
    simp only [List.length_append, List.length_cons, List.length_nil]
    omega
  | tell d k e h he =>
    intro hd t ht
    have := len_expr he
    have : k.length ≤ 6 := by rcases h with rfl | rfl <;> decide
    rw [textS_tell _ _ _ _ _ _ h, ktS_tell _ _ _ _ _ h, line_len]
    simp only [List.length_append, List.length_cons, List.length_nil]
    omega
  | branch d k e th el h hw hd he ht hl iht ihl =>
    intro _ t htd
    have := len_expr he
    have : k.length ≤ 6 := by rcases h with rfl | rfl <;> decide
    have h1 := block_len (t := t + 1) fun x hx => iht x hx hd (t + 1) (by omega)
    have h2 := block_len (t := t + 1) fun x hx => ihl x hx hd (t + 1) (by omega)
    rw [textS_branch _ _ _ _ _ _ h, ktS_branch _ _ _ _ _ h]
    split
    · simp only [List.length_append, List.length_cons, List.length_nil, line_len]
      omega
    · simp only [List.length_append, List.length_cons, List.length_nil, line_len]
      omega
theorem len_fun {f : PFun} (h : OkZ 0 f) : (textF f).length ≤ 60 * (ktF f).length := by
  have h1 := h.name.len
  have h2 : (joinC f.params).length ≤ 20 * (ktN f.params).length := by
    have := join_len20 (fun x => x) (fun x => [nmK x]) f.params fun k hk => by have := (h.params k hk).len; simp only [List.length_cons, List.length_nil]; omega
    rw [List.map_id'] at this
    exact this
  have h3 := block_len (b := f.body) (t := 1) fun x hx => len_stmt (h.body x hx) (by omega) 1 (by omega)
  unfold textF ktF
  simp only [List.length_append, List.length_cons, List.length_nil, line_len]
  omega
theorem len_prog : ∀ (fs : List PFun), (∀ f ∈ fs, OkZ 0 f) → (textG fs).length ≤ 60 * (ktG fs).length := by
  intro fs
  induction fs with
  | nil => intro _; exact Nat.zero_le _
  | cons f fs ih =>
    intro h
    have h1 := len_fun (h f List.mem_cons_self)
    have h2 := ih fun x hx => h x (List.mem_cons_of_mem _ hx)
    show (textF f ++ textG fs).length ≤ 60 * (ktF f ++ ktG fs).length
    rw [List.length_append, List.length_append]
    omega

/-! what a text's tokens are -/
theorem tokAt_nm (c : UInt8) (r : List UInt8) (ht : (tokAt (c :: r)).2.2 = true) (hk : (tokAt (c :: r)).1 = kName) : GN ((c :: r).take (tokAt (c :: r)).2.1) := by
  cases h : isLetter c with
  | false =>
    cases hd : isDigit c with
    | false => rw [tokAt_sign c r h hd] at hk; exact absurd (show kSign = kName from hk) (by decide)
    | true => rw [tokAt_digit c r h hd] at hk; exact absurd (show kNumber = kName from hk) (by decide)
  | true =>
    have hp : 0 < spanL alnum (c :: r) := spanL_pos (by unfold alnum; rw [h]; rfl)
    have hle := spanL_le alnum (c :: r)
    rw [tokAt_letter c r h] at ht hk ⊢
    simp only at ht hk ⊢
    cases hw : wordsB.any (fun x => x == (c :: r).take (spanL alnum (c :: r))) with
    | true => rw [hw] at hk; exact absurd (show kWord = kName from hk) (by decide)
    | false =>
      rw [hw] at ht
      simp only [Bool.false_or, decide_eq_true_eq] at ht
      refine ⟨⟨c, (r.take (spanL alnum (c :: r) - 1)), ?_, h⟩, fun x hx => spanL_all _ x hx, by rw [List.length_take]; omega, fun hm => ?_⟩
      · obtain ⟨m, hm⟩ : ∃ m, spanL alnum (c :: r) = m + 1 := ⟨spanL alnum (c :: r) - 1, by omega⟩
        rw [hm]
        simp
      · have := List.any_eq_false.1 hw _ hm
        simp at this
theorem lexA_nm : ∀ (n : Nat) (l : List UInt8) (k : Nat), l.length ≤ n → ∀ t ∈ (lexA l k).1, t.kind = kName → GN t.text := by
  intro n
  induction n with
  | zero =>
    intro l k h t ht
    have : l = [] := List.length_eq_zero_iff.1 (by omega)
    subst this
    rw [lexA_nil [] k rfl] at ht
    exact absurd ht List.not_mem_nil
  | succ n ih =>
    intro l k h t ht
    cases hr : l.drop (spanL isBlank l) with
    | nil => rw [lexA_nil l k hr] at ht; exact absurd ht List.not_mem_nil
    | cons c r =>
      cases hq : (tokAt (c :: r)).2.2 with
      | false => rw [lexA_bad l k c r hr hq] at ht; exact absurd ht List.not_mem_nil
      | true =>
        have hb := tokAt_bounds c r
        have hl : (c :: r).length ≤ l.length := by rw [← hr, List.length_drop]; omega
        rw [lexA_tok l k c r hr hq] at ht
        rcases List.mem_cons.1 ht with rfl | ht
        · exact fun hk => tokAt_nm c r hq hk
        · exact ih _ _ (by rw [List.length_drop]; omega) t ht
theorem lexA_v (l : List UInt8) (k : Nat) : TkV (lexA l k).1 := fun t ht =>
  ⟨lexA_nm _ l k (Nat.le_refl _) t ht, fun hk => have h := (lexA_ok _ l k (Nat.le_refl _) t ht).num hk; ⟨h.2.1, h.2.2⟩⟩
/-- THE PLAIN LAW OF ShowBack. -/
theorem show_back {l : List UInt8} (he : (parseP (lexA l 0).1).2.err = none) :
    (∀ f ∈ (parseP (lexA l 0).1).1, OkZ 0 f) ∧ (textG (parseP (lexA l 0).1).1).length ≤ 60 * (lexA l 0).1.length ∧ (lexA (textG (parseP (lexA l 0).1).1) 0).2 = none ∧ (lexA (textG (parseP (lexA l 0).1).1) 0).1.length ≤ (lexA l 0).1.length ∧
      (parseP (lexA (textG (parseP (lexA l 0).1).1) 0).1).2.err = none ∧ (parseP (lexA (textG (parseP (lexA l 0).1).1) 0).1).1 = (parseP (lexA l 0).1).1 := by
  obtain ⟨h1, h2⟩ := back_parse (lexA_v l 0) he
  obtain ⟨h3, h4⟩ := lex_prog h1
  obtain ⟨h5, h6, h7⟩ := h2 _ h3
  have h8 := len_prog _ h1
  have h9 : (lexA (textG (parseP (lexA l 0).1).1) 0).1.length = (ktG (parseP (lexA l 0).1).1).length := by rw [← h3, List.length_map]
  exact ⟨h1, by omega, h4, h5, h6, h7⟩
end Go.Proofs.YtpfgimohginbdaaDoor
