import Derived.Test.YteifmgcbafemeaaGreatDoorCheckVP
namespace Go.Proofs.YteifmgcbafemeaaGreatDoor
open Go.RowKit

/-! laws of what is well -/
mutual
def allE : PExpr → List Nm
  | ⟨kind, _, name, kids⟩ => allK kids ++ if kind = xCall then [name] else []
def allK : List PExpr → List Nm
  | [] => []
  | k :: ks => allE k ++ allK ks
end
theorem allE_eq (e : PExpr) : allE e = allK e.kids ++ if e.kind = xCall then [e.name] else [] := by cases e; rw [allE]
theorem allK_nil : allK [] = [] := by rw [allK]
theorem allK_cons (k : PExpr) (ks : List PExpr) : allK (k :: ks) = allE k ++ allK ks := by rw [allK]
mutual
def allT : PStmt → List Nm
  | ⟨_, _, e, th, el⟩ => allE e ++ allS th ++ allS el
def allS : List PStmt → List Nm
  | [] => []
  | s :: ss => allT s ++ allS ss
end
theorem allT_eq (s : PStmt) : allT s = allE s.e ++ allS s.th ++ allS s.el := by cases s; rw [allT]
theorem allS_nil : allS [] = [] := by rw [allS]
theorem allS_cons (s : PStmt) (ss : List PStmt) : allS (s :: ss) = allT s ++ allS ss := by rw [allS]
theorem callK_fold : ∀ (ks : List PExpr) (xs : List Nm), (∀ k ∈ ks, ∀ ys, callE k ys = (allE k).foldl pushN ys) → callK ks xs = (allK ks).foldl pushN xs := by
  intro ks
  induction ks with
  | nil => intro xs _; rw [callK_nil, allK_nil]; rfl
  | cons k ks ih =>
    intro xs h
    rw [callK_cons, allK_cons, List.foldl_append, h k (by simp), ih _ fun x hx => h x (by simp [hx])]
theorem callE_fold : ∀ (e : PExpr) (xs : List Nm), callE e xs = (allE e).foldl pushN xs := by
  intro e
  induction e using PExpr.ind with
  | h e ih =>
    intro xs
    rw [callE_eq, allE_eq, List.foldl_append, callK_fold e.kids xs ih]
    split <;> rfl
theorem walkS_fold : ∀ (ss : List PStmt) (xs : List Nm), (∀ s ∈ ss, ∀ ys, walkT stepC s ys = (allT s).foldl pushN ys) → walkS stepC ss xs = (allS ss).foldl pushN xs := by
  intro ss
  induction ss with
  | nil => intro xs _; rw [walkS_nil, allS_nil]; rfl
  | cons s ss ih =>
    intro xs h
    rw [walkS_cons, allS_cons, List.foldl_append, h s (by simp), ih _ fun x hx => h x (by simp [hx])]
theorem walkT_fold : ∀ (s : PStmt) (xs : List Nm), walkT stepC s xs = (allT s).foldl pushN xs := by
  intro s
  induction s using PStmt.ind with
  | h s iht ihl =>
    intro xs
    rw [walkT_eq, allT_eq, List.foldl_append, List.foldl_append, walkS_fold s.th _ iht, walkS_fold s.el _ ihl]
    unfold stepC
    rw [callE_fold]
theorem callsP_fold (f : PFun) : callsP f = (allS f.body).foldl pushN [] := walkS_fold f.body [] fun s _ => walkT_fold s
theorem mem_push {xs : List Nm} {x y : Nm} : y ∈ pushN xs x ↔ y ∈ xs ∨ y = x := by
  unfold pushN
  split
  · rename_i h
    have := List.contains_iff_mem.1 h
    constructor
    · exact .inl
    · rintro (q | rfl)
      · exact q
      · exact this
  · simp
theorem mem_pushes : ∀ (l xs : List Nm) (y : Nm), y ∈ l.foldl pushN xs ↔ y ∈ xs ∨ y ∈ l := by
  intro l
  induction l with
  | nil => intro xs y; simp
  | cons x l ih =>
    intro xs y
    rw [List.foldl_cons, ih, mem_push, List.mem_cons, or_assoc]
theorem nodup_push {xs : List Nm} {x : Nm} (h : xs.Nodup) : (pushN xs x).Nodup := by
  unfold pushN
  split
  · exact h
  · rename_i hc
    rw [List.nodup_append]
    refine ⟨h, by simp, ?_⟩
    intro a ha b hb e
    simp only [List.mem_singleton] at hb
    subst hb; subst e
    exact hc (List.contains_iff_mem.2 ha)
theorem nodup_pushes : ∀ (l xs : List Nm), xs.Nodup → (l.foldl pushN xs).Nodup := by
  intro l
  induction l with
  | nil => intro xs h; exact h
  | cons x l ih => intro xs h; exact ih _ (nodup_push h)
theorem callsP_nodup (f : PFun) : (callsP f).Nodup := by rw [callsP_fold]; exact nodup_pushes _ _ (by simp)
theorem callsP_mem (f : PFun) (x : Nm) : x ∈ callsP f ↔ x ∈ allS f.body := by rw [callsP_fold, mem_pushes]; simp

/-! what a table must have -/
theorem kidsC_ok {t : Tab} {vis : List Nm} : ∀ (ks : List PExpr), kidsC t vis ks = 0 ↔ ∀ k ∈ ks, exprC t vis k = 0 := by
  intro ks
  induction ks with
  | nil => rw [kidsC_nil]; simp
  | cons k ks ih =>
    rw [kidsC_cons]
    by_cases h : exprC t vis k = 0
    · rw [if_pos h, ih]; simp [h]
    · rw [if_neg h]; simp [h]
theorem callC_ok {t : Tab} {n : Nm} {k : Nat} : callC t n k = 0 ↔ argsOf t n = some k := by
  unfold callC
  cases h : argsOf t n with
  | none => simp
  | some m => by_cases hk : m = k <;> simp [hk]
theorem exprC_there {t : Tab} {vis : List Nm} : ∀ e : PExpr, exprC t vis e = 0 → ∀ x ∈ allE e, ∃ m, argsOf t x = some m := by
  intro e
  induction e using PExpr.ind with
  | h e ih =>
    intro h x hx
    rw [exprC_eq] at h
    split at h
    · split at h
      · rename_i hk
        rw [allE_eq, List.mem_append] at hx
        rcases hx with hx | hx
        · have hall := (kidsC_ok e.kids).1 hk
          have : ∀ (ks : List PExpr), (∀ k ∈ ks, k ∈ e.kids) → x ∈ allK ks → ∃ k ∈ ks, x ∈ allE k := by
            intro ks
            induction ks with
            | nil => intro _ hx; rw [allK_nil] at hx; cases hx
            | cons k ks ihk =>
              intro hs hx
              rw [allK_cons, List.mem_append] at hx
              rcases hx with hx | hx
              · exact ⟨k, by simp, hx⟩
              · obtain ⟨k', h1, h2⟩ := ihk (fun y hy => hs y (by simp [hy])) hx
                exact ⟨k', by simp [h1], h2⟩
          obtain ⟨k, h1, h2⟩ := this e.kids (fun _ h => h) hx
          exact ih k h1 (hall k h1) x h2
        · split at hx
          · rename_i hc
            simp only [List.mem_singleton] at hx
            subst hx
            unfold selfC at h
            rw [if_neg (by rw [hc]; decide), if_pos hc, callC_ok] at h
            exact ⟨_, h⟩
          · cases hx
      · rename_i hk; exact absurd h hk
    · cases h
theorem exprC_mono {t t' : Tab} {vis : List Nm} : ∀ e : PExpr, (∀ x ∈ allE e, ∀ m, argsOf t x = some m → argsOf t' x = some m) → exprC t vis e = 0 → exprC t' vis e = 0 := by
  intro e
  induction e using PExpr.ind with
  | h e ih =>
    intro ht h
    rw [exprC_eq] at h ⊢
    split at h
    · rename_i hb
      rw [if_pos hb]
      split at h
      · rename_i hk
        have hk' : kidsC t' vis e.kids = 0 := by
          rw [kidsC_ok] at hk ⊢
          intro k hkm
          refine ih k hkm (fun x hx m hm => ht x ?_ m hm) (hk k hkm)
          rw [allE_eq, List.mem_append]
          left
          have : ∀ (ks : List PExpr), k ∈ ks → x ∈ allK ks := by
            intro ks
            induction ks with
            | nil => intro q; cases q
            | cons y ys ihk =>
              intro q
              rw [allK_cons, List.mem_append]
              rcases List.mem_cons.1 q with rfl | q
              · exact .inl hx
              · exact .inr (ihk q)
          exact this _ hkm
        rw [if_pos hk']
        unfold selfC at h ⊢
        split at h
        · rename_i hn; rw [if_pos hn]; exact h
        · rename_i hn
          rw [if_neg hn]
          split at h
          · rename_i hc
            rw [if_pos hc]
            rw [callC_ok] at h ⊢
            exact ht e.name (by rw [allE_eq, if_pos hc]; simp) _ h
          · rename_i hc; rw [if_neg hc]
      · rename_i hk; exact absurd h hk
    · cases h
/-- A block that is well: what it leaves, whom it calls; it is well by another table that has whom it calls. -/
structure BlkOk (t : Tab) (ss : List PStmt) : Prop where
  vars : ∀ all vis, (blockC t ss all vis).1 = 0 → (blockC t ss all vis).2 = walkS stepV ss all
  nodup : ∀ all vis, (blockC t ss all vis).1 = 0 → all.Nodup → (blockC t ss all vis).2.Nodup
  there : ∀ all vis, (blockC t ss all vis).1 = 0 → ∀ x ∈ allS ss, ∃ m, argsOf t x = some m
  mono : ∀ t' all vis, (blockC t ss all vis).1 = 0 → (∀ x ∈ allS ss, ∀ m, argsOf t x = some m → argsOf t' x = some m) → blockC t' ss all vis = blockC t ss all vis
structure StmOk (t : Tab) (s : PStmt) : Prop where
  vars : ∀ all vis, (stmtC t s all vis).1 = 0 → (stmtC t s all vis).2.1 = walkT stepV s all
  nodup : ∀ all vis, (stmtC t s all vis).1 = 0 → all.Nodup → (stmtC t s all vis).2.1.Nodup
  there : ∀ all vis, (stmtC t s all vis).1 = 0 → ∀ x ∈ allT s, ∃ m, argsOf t x = some m
  mono : ∀ t' all vis, (stmtC t s all vis).1 = 0 → (∀ x ∈ allT s, ∀ m, argsOf t x = some m → argsOf t' x = some m) → stmtC t' s all vis = stmtC t s all vis
theorem blk_of (t : Tab) : ∀ (ss : List PStmt), (∀ s ∈ ss, StmOk t s) → BlkOk t ss := by
  intro ss
  induction ss with
  | nil =>
    intro _
    refine ⟨fun all vis _ => by rw [blockC_nil, walkS_nil], fun all vis _ h => by rw [blockC_nil]; exact h, (fun all vis _ x hx => by rw [allS_nil] at hx; cases hx), fun t' all vis _ _ => by rw [blockC_nil, blockC_nil]⟩
  | cons s ss ih =>
    intro h
    have hs := h s (by simp)
    have hb := ih fun x hx => h x (by simp [hx])
    have cut : ∀ all vis, (blockC t (s :: ss) all vis).1 = 0 → (stmtC t s all vis).1 = 0 ∧ blockC t (s :: ss) all vis = blockC t ss (stmtC t s all vis).2.1 (stmtC t s all vis).2.2 := by
      intro all vis h0
      rw [blockC_cons] at h0 ⊢
      split at h0
      · rename_i hz; exact ⟨hz, by rw [if_pos hz]⟩
      · rename_i hz; exact absurd h0 hz
    refine ⟨fun all vis h0 => ?_, fun all vis h0 hn => ?_, fun all vis h0 x hx => ?_, fun t' all vis h0 ht => ?_⟩
    all_goals
      obtain ⟨hz, he⟩ := cut all vis h0
      rw [he] at h0
    · rw [he, hb.vars _ _ h0, hs.vars _ _ hz, walkS_cons]
    · rw [he]; exact hb.nodup _ _ h0 (hs.nodup _ _ hz hn)
    · rw [allS_cons, List.mem_append] at hx
      rcases hx with hx | hx
      · exact hs.there _ _ hz x hx
      · exact hb.there _ _ h0 x hx
    · have e1 := hs.mono t' all vis hz fun x hx => ht x (by rw [allS_cons, List.mem_append]; exact .inl hx)
      rw [he, blockC_cons, e1, if_pos hz]
      exact hb.mono t' _ _ h0 fun x hx => ht x (by rw [allS_cons, List.mem_append]; exact .inr hx)
theorem nodup_snoc {l : List Nm} {x : Nm} (h : l.Nodup) (hc : l.contains x = false) : (l ++ [x]).Nodup := by
  have := nodup_push (x := x) h
  unfold pushN at this
  rwa [if_neg (by rw [hc]; decide)] at this
theorem shaped_var {name : Nm} {t l : Nat} (h : shapedB sVar name t l = true) : t = 0 ∧ l = 0 := by
  unfold shapedB at h
  rw [if_pos (.inl rfl)] at h
  simp only [Bool.and_eq_true, decide_eq_true_eq] at h
  exact ⟨h.1.2, h.2⟩
theorem stm_of (t : Tab) (s : PStmt) (hT : BlkOk t s.th) (hL : BlkOk t s.el) : StmOk t s := by
  have sh0 : ∀ all vis, (stmtC t s all vis).1 = 0 → shapedB s.kind s.name s.th.length s.el.length = true ∧ exprC t vis s.e = 0 := by
    intro all vis h0
    rw [stmtC_eq] at h0
    split at h0
    · rename_i h1
      split at h0
      · rename_i h2; exact ⟨h1, h2⟩
      · rename_i h2; exact absurd h0 h2
    · cases h0
  by_cases hk : s.kind = sVar
  · have cut : ∀ all vis, (stmtC t s all vis).1 = 0 → exprC t vis s.e = 0 ∧ s.th = [] ∧ s.el = [] ∧ all.contains s.name = false ∧ ∀ t', exprC t' vis s.e = 0 → stmtC t' s all vis = (0, all ++ [s.name], vis ++ [s.name]) := by
      intro all vis h0
      obtain ⟨h1, h2⟩ := sh0 all vis h0
      have h3 := h1
      rw [hk] at h3
      obtain ⟨l1, l2⟩ := shaped_var h3
      rw [stmtC_eq, if_pos h1, if_pos h2, if_pos hk] at h0
      unfold addC at h0
      split at h0
      · cases h0
      · rename_i hc
        have hc' : all.contains s.name = false := by simpa using hc
        split at h0
        · cases h0
        · rename_i hf
          refine ⟨h2, List.length_eq_zero_iff.1 l1, List.length_eq_zero_iff.1 l2, hc', fun t' he => ?_⟩
          rw [stmtC_eq, if_pos h1, if_pos he, if_pos hk]
          unfold addC
          rw [if_neg hc, if_neg hf]
    refine ⟨fun all vis h0 => ?_, fun all vis h0 hn => ?_, fun all vis h0 x hx => ?_, fun t' all vis h0 ht => ?_⟩
    all_goals obtain ⟨he, e1, e2, hc, hs⟩ := cut all vis h0
    · rw [hs t he, walkT_eq, e1, e2, walkS_nil, walkS_nil]; unfold stepV; rw [if_pos hk]
    · rw [hs t he]; exact nodup_snoc hn hc
    · rw [allT_eq, e1, e2, allS_nil] at hx
      simp only [List.append_nil] at hx
      exact exprC_there s.e he x hx
    · rw [hs t he, hs t' (exprC_mono s.e (fun x hx => ht x (by rw [allT_eq]; simp [hx])) he)]
  · have cut : ∀ all vis, (stmtC t s all vis).1 = 0 → exprC t vis s.e = 0 ∧ (blockC t s.th all vis).1 = 0 ∧ (blockC t s.el (blockC t s.th all vis).2 vis).1 = 0 ∧
        ∀ t', exprC t' vis s.e = 0 → blockC t' s.th all vis = blockC t s.th all vis → blockC t' s.el (blockC t s.th all vis).2 vis = blockC t s.el (blockC t s.th all vis).2 vis → stmtC t' s all vis = (0, (blockC t s.el (blockC t s.th all vis).2 vis).2, vis) := by
      intro all vis h0
      obtain ⟨h1, h2⟩ := sh0 all vis h0
      rw [stmtC_eq, if_pos h1, if_pos h2, if_neg hk] at h0
      split at h0
      · cases h0
      · rename_i hst
        split at h0
        · rename_i hz
          refine ⟨h2, hz, h0, fun t' he q1 q2 => ?_⟩
          rw [stmtC_eq, if_pos h1, if_pos he, if_neg hk, if_neg hst, q1, if_pos hz, q2, h0]
        · rename_i hz; exact absurd h0 hz
    have hsv : ∀ xs, stepV s xs = xs := fun xs => by unfold stepV; rw [if_neg hk]
    refine ⟨fun all vis h0 => ?_, fun all vis h0 hn => ?_, fun all vis h0 x hx => ?_, fun t' all vis h0 ht => ?_⟩
    all_goals obtain ⟨he, z1, z2, hs⟩ := cut all vis h0
    · rw [hs t he rfl rfl, walkT_eq, hsv]
      show (blockC t s.el (blockC t s.th all vis).2 vis).2 = _
      rw [hL.vars _ _ z2, hT.vars _ _ z1]
    · rw [hs t he rfl rfl]
      exact hL.nodup _ _ z2 (hT.nodup _ _ z1 hn)
    · rw [allT_eq, List.mem_append, List.mem_append] at hx
      rcases hx with (hx | hx) | hx
      · exact exprC_there s.e he x hx
      · exact hT.there _ _ z1 x hx
      · exact hL.there _ _ z2 x hx
    · rw [hs t he rfl rfl]
      exact hs t' (exprC_mono s.e (fun x hx => ht x (by rw [allT_eq]; simp [hx])) he) (hT.mono t' _ _ z1 fun x hx => ht x (by rw [allT_eq]; simp [hx])) (hL.mono t' _ _ z2 fun x hx => ht x (by rw [allT_eq]; simp [hx]))
theorem stm_any (t : Tab) : ∀ s : PStmt, StmOk t s := by
  intro s
  induction s using PStmt.ind with
  | h s iht ihl => exact stm_of t s (blk_of t _ iht) (blk_of t _ ihl)
theorem blk_any (t : Tab) (ss : List PStmt) : BlkOk t ss := blk_of t ss fun s _ => stm_any t s

/-! programs -/
theorem progFrom_ok (t : Tab) : ∀ (rest a : List PFun), (progFrom t a rest).1 = 0 ↔ ∀ i (hi : i < rest.length), funC t (a ++ rest.take i) rest[i] = 0 := by
  intro rest
  induction rest with
  | nil => intro a; simp [progFrom]
  | cons f rest ih =>
    intro a
    rw [progFrom]
    by_cases h : funC t a f = 0
    · rw [if_pos h, ih]
      constructor
      · intro q i hi
        cases i with
        | zero => simpa using h
        | succ i => simpa using q i (by simpa using hi)
      · intro q i hi
        have := q (i + 1) (by simpa using hi)
        simp only [List.getElem_cons_succ] at this
        simpa using this
    · rw [if_neg h]
      constructor
      · intro q; exact absurd q h
      · intro q
        have := q 0 (by simp)
        simp only [List.getElem_cons_zero] at this
        exact absurd (by simpa using this) h
theorem progFrom_zero (t : Tab) : ∀ (rest a : List PFun), (progFrom t a rest).1 = 0 → progFrom t a rest = (0, -1) := by
  intro rest
  induction rest with
  | nil => intro a _; rw [progFrom]
  | cons f rest ih =>
    intro a h
    rw [progFrom] at h ⊢
    split at h
    · rename_i hz; rw [if_pos hz]; exact ih _ h
    · rename_i hz; exact absurd h hz
theorem progC_ok {fs : List PFun} : (progC fs).1 = 0 ↔ fs.length ≤ 8 ∧ ∀ i (hi : i < fs.length), funC (tabOf fs) (fs.take i) fs[i] = 0 := by
  unfold progC
  by_cases h : 8 < fs.length
  · rw [if_pos h]; simp; omega
  · rw [if_neg h, progFrom_ok]
    constructor
    · intro q; exact ⟨by omega, fun i hi => by simpa using q i hi⟩
    · intro q i hi; simpa using q.2 i hi
theorem progC_code (fs : List PFun) : (progC fs).1 ≤ 10 := by
  unfold progC
  split
  · simp
  · have : ∀ (rest a : List PFun), (progFrom (tabOf fs) a rest).1 ≤ 10 := by
      intro rest
      induction rest with
      | nil => intro a; rw [progFrom]; omega
      | cons f rest ih =>
        intro a
        rw [progFrom]
        split
        · exact ih _
        · exact funC_code _ _ _
    exact this _ _
theorem funC_ok {t : Tab} {a : List PFun} {f : PFun} : funC t a f = 0 ↔ namesC f a = 0 ∧ (blockC t f.body f.params f.params).1 = 0 := by
  unfold funC
  by_cases h : namesC f a = 0
  · rw [if_pos h]; simp [h]
  · rw [if_neg h]; simp [h]
theorem namesC_ok {f : PFun} {a : List PFun} : namesC f a = 0 ↔ (nmOk f.name && f.params.all nmOk) = true ∧ (a.any fun g => g.name == f.name) = false ∧ f.params.length ≤ 4 ∧ dupC [] f.params = false := by
  unfold namesC
  by_cases h1 : (nmOk f.name && f.params.all nmOk) = true
  · rw [if_pos h1]
    cases h2 : a.any fun g => g.name == f.name
    · rw [if_neg (by decide)]
      by_cases h3 : 4 < f.params.length
      · rw [if_pos h3]; simp; omega
      · rw [if_neg h3]
        cases h4 : dupC [] f.params
        · simp [h1]; omega
        · simp
    · simp
  · rw [if_neg h1]; simp only [h1]; simp
theorem dupC_nodup : ∀ (ps own : List Nm), own.Nodup → dupC own ps = false → (own ++ ps).Nodup := by
  intro ps
  induction ps with
  | nil => intro own h _; simpa using h
  | cons p ps ih =>
    intro own h hd
    rw [dupC, Bool.or_eq_false_iff] at hd
    have := ih (own ++ [p]) (nodup_snoc h hd.1) hd.2
    simpa using this
theorem argsOf_there {fs : List PFun} {x : Nm} {m : Nat} (h : argsOf (tabOf fs) x = some m) : ∃ f ∈ fs, f.name = x := by
  unfold argsOf at h
  cases hf : (tabOf fs).find? fun f => f.1 == x with
  | none => rw [hf] at h; cases h
  | some y =>
    have h1 := List.mem_of_find?_eq_some hf
    have h2 := List.find?_some hf
    unfold tabOf at h1
    obtain ⟨f, h3, rfl⟩ := List.mem_map.1 h1
    exact ⟨f, h3, by simpa using h2⟩
/-- What a program that is well has. -/
theorem prog_fun {fs : List PFun} (h : (progC fs).1 = 0) {f : PFun} (hf : f ∈ fs) :
    (varsP f).length ≤ 12 ∧ f.params.length ≤ (varsP f).length ∧ (varsP f).Nodup ∧ ∀ x ∈ callsP f, ∃ g ∈ fs, g.name = x := by
  obtain ⟨i, hi, e⟩ := List.mem_iff_getElem.1 hf
  subst e
  obtain ⟨h1, h2⟩ := funC_ok.1 ((progC_ok.1 h).2 i hi)
  obtain ⟨_, _, h3, h4⟩ := namesC_ok.1 h1
  have hb := blk_any (tabOf fs) fs[i].body
  have hv := hb.vars _ _ h2
  have hl := leftB_any (tabOf fs) fs[i].body fs[i].params fs[i].params
  have hn : fs[i].params.Nodup := by simpa using dupC_nodup fs[i].params [] (by simp) h4
  have e : varsP fs[i] = (blockC (tabOf fs) fs[i].body fs[i].params fs[i].params).2 := hv.symm
  rw [e]
  refine ⟨hl.2.1 (by omega), hl.2.2, hb.nodup _ _ h2 hn, fun x hx => ?_⟩
  obtain ⟨m, hm⟩ := hb.there _ _ h2 x ((callsP_mem _ _).1 hx)
  exact argsOf_there hm
theorem argsOf_app {fs : List PFun} {g : PFun} {x : Nm} {m : Nat} (h : argsOf (tabOf fs) x = some m) : argsOf (tabOf (fs ++ [g])) x = some m := by
  unfold argsOf tabOf at *
  rw [List.map_append, List.find?_append]
  cases hf : (fs.map fun f => (f.name, f.params.length)).find? fun f => f.1 == x with
  | none => rw [hf] at h; cases h
  | some y => rw [hf] at h; exact h
/-- One function more, of a new name. -/
theorem prog_more {fs : List PFun} (h : (progC fs).1 = 0) (hl : fs.length < 8) {name : Nm} (hn : nmOk name = true) (hnew : ∀ f ∈ fs, f.name ≠ name) : (progC (fs ++ [⟨name, [], []⟩])).1 = 0 := by
  rw [progC_ok] at h ⊢
  refine ⟨by simp; omega, fun i hi => ?_⟩
  by_cases hlt : i < fs.length
  · rw [List.getElem_append_left hlt, List.take_append_of_le_length (Nat.le_of_lt hlt)]
    obtain ⟨h1, h2⟩ := funC_ok.1 (h.2 i hlt)
    rw [funC_ok]
    refine ⟨h1, ?_⟩
    rw [(blk_any (tabOf fs) fs[i].body).mono _ _ _ h2 fun x _ m hm => argsOf_app hm]
    exact h2
  · have hi' : i = fs.length := by simp at hi; omega
    subst hi'
    rw [funC_ok, namesC_ok]
    simp only [List.getElem_append_right (Nat.le_refl _), Nat.sub_self, List.getElem_cons_zero, List.all_nil, Bool.and_true, List.length_nil, dupC]
    refine ⟨⟨hn, ?_, by omega, (by trivial)⟩, by rw [blockC_nil]⟩
    rw [List.take_append_of_le_length (Nat.le_refl _), List.take_length]
    rw [List.any_eq_false]
    intro f hf
    simpa using hnew f hf
theorem argsOf_less {fs : List PFun} {g : PFun} {x : Nm} {m : Nat} (h : argsOf (tabOf (fs ++ [g])) x = some m) (hx : x ≠ g.name) : argsOf (tabOf fs) x = some m := by
  unfold argsOf tabOf at *
  rw [List.map_append, List.find?_append] at h
  cases hf : (fs.map fun f => (f.name, f.params.length)).find? fun f => f.1 == x with
  | none =>
    rw [hf] at h
    have : (g.name == x) = false := by rw [beq_eq_false_iff_ne]; exact fun e => hx e.symm
    simp [this] at h
  | some y => rw [hf] at h; exact h
/-- The last function less, that nobody calls. -/
theorem prog_less {fs : List PFun} {g : PFun} (h : (progC (fs ++ [g])).1 = 0) (hc : ∀ f ∈ fs, g.name ∉ callsP f) : (progC fs).1 = 0 := by
  rw [progC_ok] at h ⊢
  refine ⟨by have := h.1; simp at this; omega, fun i hi => ?_⟩
  have h0 := h.2 i (by simp; omega)
  rw [List.getElem_append_left hi, List.take_append_of_le_length (Nat.le_of_lt hi)] at h0
  obtain ⟨h1, h2⟩ := funC_ok.1 h0
  rw [funC_ok]
  refine ⟨h1, ?_⟩
  rw [(blk_any (tabOf (fs ++ [g])) fs[i].body).mono (tabOf fs) _ _ h2 fun x hx m hm => argsOf_less hm fun e => hc fs[i] (List.getElem_mem hi) ((callsP_mem _ _).2 (e ▸ hx))]
  exact h2
end Go.Proofs.YteifmgcbafemeaaGreatDoor
