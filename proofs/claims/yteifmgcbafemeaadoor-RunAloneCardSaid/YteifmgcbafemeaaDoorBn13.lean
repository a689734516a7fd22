import Derived.Test.YteifmgcbafemeaaDoorBn12
namespace Go.Proofs.YteifmgcbafemeaaDoor
open Go.RowKit

/-! with more ticks -/
/-- a is tired at T, b has gone on from there. -/
structure Fell (T : Nat) (a b : St) : Prop where
  how : a.how = tiredN
  tick : a.ticks = T
  out : a.out <+: b.out
  more : T ≤ b.ticks
def Sim (T : Nat) (a b : St) : Prop := (a = b ∧ a.ticks ≤ T) ∨ Fell T a b
theorem Fell.over {T : Nat} {a b : St} (h : Fell T a b) : a.over = true := by unfold St.over; rw [h.how]; rfl
theorem Fell.go {T T' : Nat} {a b c : St} (h : Fell T a b) (k : Go1 T' b c) : Fell T a c := ⟨h.how, h.tick, h.out.trans k.out, Nat.le_trans h.more k.tick⟩
/-- Answers and states alike, or the first one fell. -/
def SimR {X : Type} (T : Nat) (a b : X × St) : Prop := (a = b ∧ a.2.ticks ≤ T) ∨ Fell T a.2 b.2
theorem SimR.fell {X : Type} {T T' : Nat} {a a' : St} {r r' : X × St} (h : Fell T a a') (g : Go1 T a r.2) (g' : Go1 T' a' r'.2) : SimR T r r' := .inr (by
  have := g.stop h.over
  rw [this]
  exact h.go g')
def SimC (T T' : Nat) (call call' : Caller) : Prop := ∀ n l st, st.ticks ≤ T → SimR T (call n l st) (call' n l st)
theorem tick_sim {T T' : Nat} (hT : T ≤ T') {a : St} (h : a.over = false) (ha : a.ticks ≤ T) : ((tickP T a).over = false ∧ tickP T a = tickP T' a ∧ (tickP T a).ticks ≤ T) ∨ ((tickP T a).over = true ∧ ∀ c, Go1 T' a c → Fell T (tickP T a) c) := by
  by_cases hl : a.ticks < T
  · left
    have e1 : tickP T a = { a with ticks := a.ticks + 1 } := by unfold tickP; rw [if_pos hl]
    have e2 : tickP T' a = { a with ticks := a.ticks + 1 } := by unfold tickP; rw [if_pos (by omega)]
    rw [e1, e2]
    exact ⟨h, rfl, by simp; omega⟩
  · right
    have e1 : tickP T a = { a with how := tiredN } := by unfold tickP; rw [if_neg hl]
    rw [e1]
    exact ⟨rfl, fun c hc => ⟨rfl, by simp; omega, hc.out, by have := hc.tick; omega⟩⟩
section
variable {T T' : Nat} (hT : T ≤ T') {call call' : Caller} (hg : GoC T call) (hg' : GoC T' call') (hs : SimC T T' call call')
include hs in
theorem sim_self (vs : Vs) (kind name : Nm) (num : Int) (r : List Int × St) (hr : r.2.ticks ≤ T) : SimR T (selfP call vs kind name num r) (selfP call' vs kind name num r) := by
  unfold selfP
  repeat (first | exact .inl ⟨rfl, hr⟩ | exact hs _ _ _ hr | split)
include hg hg' in
theorem sim_kids (vs : Vs) : ∀ (ks : List PExpr), (∀ k ∈ ks, ∀ st, st.ticks ≤ T → SimR T (evalP call vs k st) (evalP call' vs k st)) → ∀ st, st.ticks ≤ T → SimR T (kidsP call vs ks st) (kidsP call' vs ks st) := by
  intro ks
  induction ks with
  | nil => intro _ st h; rw [kidsP_nil, kidsP_nil]; exact .inl ⟨rfl, h⟩
  | cons k ks ih =>
    intro h st hst
    rw [kidsP_cons, kidsP_cons]
    rcases h k (by simp) st hst with ⟨e, q⟩ | q
    · rw [← e]
      rcases ih (fun x hx => h x (by simp [hx])) _ q with ⟨e2, q2⟩ | q2
      · rw [← e2]; exact .inl ⟨rfl, q2⟩
      · exact .inr q2
    · exact SimR.fell q (go_kids vs ks (fun x _ => go_eval hg vs x) _) (go_kids vs ks (fun x _ => go_eval hg' vs x) _)
include hg hg' hs in
theorem sim_eval (vs : Vs) : ∀ (e : PExpr) (st : St), st.ticks ≤ T → SimR T (evalP call vs e st) (evalP call' vs e st) := by
  intro e
  induction e using PExpr.ind with
  | h e ih =>
    intro st hst
    rw [evalP_eq, evalP_eq]
    split
    · exact .inl ⟨rfl, hst⟩
    · rcases sim_kids hg hg' vs e.kids ih st hst with ⟨e2, q2⟩ | q2
      · rw [← e2]; exact sim_self hs vs _ _ _ _ q2
      · exact SimR.fell q2 (go_self hg vs _ _ _ _) (go_self hg' vs _ _ _ _)
include hT in
theorem sim_loop {cond cond' : FS → Int × St} {body body' : FS → FS} (c1 : ∀ s, Go1 T s.2 (cond s).2) (c2 : ∀ s, Go1 T' s.2 (cond' s).2) (b1 : ∀ s, Go1 T s.2 (body s).2) (b2 : ∀ s, Go1 T' s.2 (body' s).2)
    (cs : ∀ s : FS, s.2.ticks ≤ T → SimR T (cond s) (cond' s)) (bs : ∀ s : FS, s.2.ticks ≤ T → SimR T (body s) (body' s)) :
    ∀ (n n' : Nat) (s : FS), s.2.ticks ≤ T → T - s.2.ticks ≤ n → T' - s.2.ticks ≤ n' → SimR T (loopP T cond body n s) (loopP T' cond' body' n' s) := by
  intro n
  induction n with
  | zero =>
    intro n' s h hn hn'
    by_cases hst : stopP s = true
    · have e1 : loopP T cond body 0 s = s := by unfold loopP; rw [if_pos hst]
      have e2 : loopP T' cond' body' n' s = s := by cases n' <;> (unfold loopP; rw [if_pos hst])
      rw [e1, e2]; exact .inl ⟨rfl, h⟩
    · have e1 : loopP T cond body 0 s = (s.1, { s.2 with how := tiredN }) := by
        unfold loopP; rw [if_neg hst]; unfold tickP; rw [if_neg (by omega)]
      rw [e1]
      have g := go_loop (T := T') c2 b2 n' s
      exact .inr ⟨rfl, by simp; omega, g.out, by have := g.tick; omega⟩
  | succ n ih =>
    intro n' s h hn hn'
    by_cases hst : stopP s = true
    · have e1 : loopP T cond body (n + 1) s = s := by unfold loopP; rw [if_pos hst]
      have e2 : loopP T' cond' body' n' s = s := by cases n' <;> (unfold loopP; rw [if_pos hst])
      rw [e1, e2]; exact .inl ⟨rfl, h⟩
    · have h1 : s.2.over = false := by unfold stopP at hst; simp at hst; exact hst.1
      rcases tick_sim hT h1 h with ⟨t1, t2, t3⟩ | ⟨t1, t2⟩
      · cases n' with
        | zero =>
          exfalso
          have : (tickP T s.2).over = true := by unfold tickP; rw [if_neg (by omega)]; rfl
          rw [this] at t1; cases t1
        | succ n' =>
          have hlt : s.2.ticks < T := by
            by_cases hl : s.2.ticks < T
            · exact hl
            · exfalso
              have : (tickP T s.2).over = true := by unfold tickP; rw [if_neg hl]; rfl
              rw [this] at t1; cases t1
          have et : (tickP T s.2).ticks = s.2.ticks + 1 := by unfold tickP; rw [if_pos hlt]
          have e1 : loopP T cond body (n + 1) s = if (cond (s.1, tickP T s.2)).2.over || (cond (s.1, tickP T s.2)).1 == 0 then (s.1, (cond (s.1, tickP T s.2)).2)
              else loopP T cond body n (body (s.1, (cond (s.1, tickP T s.2)).2)) := by
            rw [loopP, if_neg hst, if_neg (by rw [t1]; decide)]
          have e2 : loopP T' cond' body' (n' + 1) s = if (cond' (s.1, tickP T s.2)).2.over || (cond' (s.1, tickP T s.2)).1 == 0 then (s.1, (cond' (s.1, tickP T s.2)).2)
              else loopP T' cond' body' n' (body' (s.1, (cond' (s.1, tickP T s.2)).2)) := by
            rw [loopP, if_neg hst, ← t2, if_neg (by rw [t1]; decide)]
          rw [e1, e2]
          have k1 := c1 (s.1, tickP T s.2)
          have k2 := c2 (s.1, tickP T s.2)
          rcases cs (s.1, tickP T s.2) t3 with ⟨q1, q2⟩ | q
          · rw [← q1]
            obtain ⟨r, hr⟩ : ∃ r, cond (s.1, tickP T s.2) = r := ⟨_, rfl⟩
            rw [hr] at q2 k1 ⊢
            split
            · exact .inl ⟨rfl, q2⟩
            · have g1 := b1 (s.1, r.2)
              have g2 := b2 (s.1, r.2)
              have kt := k1.tick
              rcases bs (s.1, r.2) q2 with ⟨p1, p2⟩ | p
              · rw [← p1]
                refine ih n' _ p2 ?_ ?_
                · have := g1.tick; simp only at this kt; omega
                · have := g1.tick; simp only at this kt; omega
              · exact SimR.fell p (go_loop c1 b1 n _) (go_loop c2 b2 n' _)
          · have ho := q.over
            rw [if_pos (by rw [ho]; rfl)]
            refine .inr (q.go (c := _) (T' := T') ?_)
            split
            · exact Go1.refl _ _
            · exact (b2 (s.1, (cond' (s.1, tickP T s.2)).2)).trans (go_loop c2 b2 n' _)
      · have e1 : loopP T cond body (n + 1) s = (s.1, tickP T s.2) := by rw [loopP, if_neg hst, if_pos t1]
        rw [e1]
        exact .inr (t2 _ (go_loop c2 b2 n' s))
include hg hg' in
theorem sim_blockL : ∀ (ss : List PStmt), (∀ x ∈ ss, ∀ s : FS, s.2.ticks ≤ T → SimR T (stmtP call T x s) (stmtP call' T' x s)) → ∀ s : FS, s.2.ticks ≤ T → SimR T (blockP call T ss s) (blockP call' T' ss s) := by
  intro ss
  induction ss with
  | nil => intro _ s h; rw [blockP_nil, blockP_nil]; exact .inl ⟨rfl, h⟩
  | cons x xs ih =>
    intro h s hst
    rw [blockP_cons, blockP_cons]
    split
    · exact .inl ⟨rfl, hst⟩
    · rcases h x (by simp) s hst with ⟨e, q⟩ | q
      · rw [← e]; exact ih (fun y hy => h y (by simp [hy])) _ q
      · exact SimR.fell q (go_block hg xs _) (go_block hg' xs _)
include hT hg hg' hs in
theorem sim_stmt : ∀ (x : PStmt) (s : FS), s.2.ticks ≤ T → SimR T (stmtP call T x s) (stmtP call' T' x s) := by
  intro x
  induction x using PStmt.ind with
  | h x iht ihl =>
    intro s hst
    have g' : Go1 T' s.2 (stmtP call' T' x s).2 := go_stmt hg' x s
    rw [stmtP_eq, stmtP_eq] at *
    by_cases hw : x.kind = sWhile
    · rw [if_pos hw, if_pos hw]
      exact sim_loop hT (fun s => go_eval hg _ _ _) (fun s => go_eval hg' _ _ _) (fun s => go_block hg _ _) (fun s => go_block hg' _ _) (fun s h => sim_eval hg hg' hs _ _ _ h) (fun s h => sim_blockL hg hg' x.th iht s h) _ _ s hst (Nat.le_refl _) (Nat.le_refl _)
    · rw [if_neg hw, if_neg hw] at *
      rcases sim_eval hg hg' hs s.1.vars x.e s.2 hst with ⟨e, q⟩ | q
      · rw [← e]
        obtain ⟨r, hr⟩ : ∃ r, evalP call s.1.vars x.e s.2 = r := ⟨_, rfl⟩
        rw [hr] at q ⊢
        split
        · exact .inl ⟨rfl, q⟩
        · split
          · exact .inl ⟨rfl, q⟩
          · split
            · refine .inl ⟨rfl, ?_⟩
              show (printP r.1 r.2).ticks ≤ T
              unfold printP; split <;> exact q
            · split
              · exact .inl ⟨rfl, q⟩
              · split
                · exact sim_blockL hg hg' x.el ihl (s.1, r.2) q
                · exact sim_blockL hg hg' x.th iht (s.1, r.2) q
      · rw [if_pos q.over]
        refine .inr ?_
        have h2 : Go1 T' (evalP call' s.1.vars x.e s.2).2 (stmtP call' T' x s).2 := by
          rw [stmtP_eq, if_neg hw]
          repeat (first | exact Go1.refl _ _ | exact go_block hg' x.el (s.1, _) | exact go_block hg' x.th (s.1, _) | (rename_i hh _ _ ; simp only [Bool.not_eq_true] at hh; exact go_print hh _) | split)
        rw [stmtP_eq, if_neg hw] at h2
        exact q.go h2
end
theorem sim_call (fs : List PFun) {T T' : Nat} (hT : T ≤ T') : ∀ d, SimC T T' (callP fs T d) (callP fs T' d) := by
  intro d
  induction d with
  | zero =>
    intro n l st hst
    unfold callP
    by_cases h : st.over = true
    · rw [if_pos h, if_pos h]; exact .inl ⟨rfl, hst⟩
    · have h1 : st.over = false := by simpa using h
      rw [if_neg h, if_neg h]
      rcases tick_sim hT h1 hst with ⟨t1, t2, t3⟩ | ⟨t1, t2⟩
      · rw [← t2]
        split
        · exact .inl ⟨rfl, t3⟩
        · exact .inl ⟨rfl, t3⟩
      · rw [if_pos t1]
        refine .inr (t2 _ ?_)
        have h2 := go_tick (T := T') h1
        split
        · exact h2
        · exact ⟨fun q => (by rw [h1] at q; cases q), h2.out, h2.tick, h2.most, h2.thousand, fun _ r => by simp [deepN, tiredN] at r⟩
  | succ d ih =>
    intro n l st hst
    have g' := go_call fs T' (d + 1) n l st
    unfold callP at *
    by_cases h : st.over = true
    · rw [if_pos h, if_pos h]; exact .inl ⟨rfl, hst⟩
    · have h1 : st.over = false := by simpa using h
      rw [if_neg h] at *
      rw [if_neg h] at *
      rcases tick_sim hT h1 hst with ⟨t1, t2, t3⟩ | ⟨t1, t2⟩
      · rw [← t2, if_neg (by rw [t1]; decide), if_neg (by rw [t1]; decide)]
        cases findF fs n with
        | none => exact .inl ⟨rfl, t3⟩
        | some f =>
          simp only
          unfold bodyP
          rcases sim_blockL (go_call fs T d) (go_call fs T' d) f.body (fun x _ => sim_stmt hT (go_call fs T d) (go_call fs T' d) ih x) (⟨bindP f.params l [], none⟩, tickP T st) t3 with ⟨e, q⟩ | q
          · rw [← e]; exact .inl ⟨rfl, q⟩
          · exact .inr q
      · rw [if_pos t1]
        exact .inr (t2 _ g')
/-- With more ticks. -/
theorem runP_more (fs : List PFun) (name : Nm) (args : List Int) {T T' : Nat} (hT : T ≤ T') :
    (runP fs name args T).2.2.2 ≤ T ∧ (runP fs name args T).2.2.1 <+: (runP fs name args T').2.2.1 ∧ (runP fs name args T).2.2.2 ≤ (runP fs name args T').2.2.2 ∧
    (((runP fs name args T).1 ≠ tiredN → runP fs name args T = runP fs name args T') ∧ ((runP fs name args T).1 = tiredN → (runP fs name args T).2.2.2 = T ∧ (runP fs name args T).2.1 = 0)) := by
  have g := go_call fs T 40 name args St0
  have g' := go_call fs T' 40 name args St0
  have hm : (callP fs T 40 name args St0).2.ticks ≤ T := g.most (Nat.zero_le _)
  have ht := g.tired (fun q => by simp [St0, tiredN] at q)
  have hs := sim_call fs hT 40 name args St0 (Nat.zero_le _)
  unfold runP
  obtain ⟨r, hr⟩ : ∃ r, callP fs T 40 name args St0 = r := ⟨_, rfl⟩
  obtain ⟨r', hr'⟩ : ∃ r', callP fs T' 40 name args St0 = r' := ⟨_, rfl⟩
  rw [hr] at hm ht hs ⊢
  rw [hr'] at hs ⊢
  clear g g' hr hr'
  rcases hs with ⟨e, -⟩ | q
  · subst e
    split
    · exact ⟨hm, List.prefix_refl _, Nat.le_refl _, fun _ => rfl, fun q => ⟨Nat.le_antisymm hm (ht q), rfl⟩⟩
    · exact ⟨hm, List.prefix_refl _, Nat.le_refl _, fun _ => rfl, fun q => by simp [doneN, tiredN] at q⟩
  · rw [if_pos q.over]
    have q1 : r.2.out <+: (if r'.2.over then (r'.2.how, 0, r'.2.out, r'.2.ticks) else (doneN, r'.1, r'.2.out, r'.2.ticks)).2.2.1 := by split <;> exact q.out
    have q2 : T ≤ (if r'.2.over then (r'.2.how, (0 : Int), r'.2.out, r'.2.ticks) else (doneN, r'.1, r'.2.out, r'.2.ticks)).2.2.2 := by split <;> exact q.more
    exact ⟨hm, q1, Nat.le_trans hm q2, fun h => absurd q.how h, fun _ => ⟨q.tick, rfl⟩⟩
/-- The ticks that there were. -/
theorem runP_ticks (fs : List PFun) (name : Nm) (args : List Int) (T : Nat) : (runP fs name args T).2.2.2 ≤ T ∧ (runP fs name args T).2.2.1.length ≤ 1000 := by
  have g := go_call fs T 40 name args St0
  have hm : (callP fs T 40 name args St0).2.ticks ≤ T := g.most (Nat.zero_le _)
  have ht : (callP fs T 40 name args St0).2.out.length ≤ 1000 := g.thousand (by simp [St0])
  unfold runP
  split <;> exact ⟨hm, ht⟩
end Go.Proofs.YteifmgcbafemeaaDoor

namespace Go.Proofs.YteifmgcbafemeaaDoor
open Go.RowKit

theorem szK_step {ks : List PExpr} {k : Nat} (h : k < ks.length) {d n : Nat} (hn : n < 1000) : szK (ks.drop k) d n = szK (ks.drop (k + 1)) d (n + szE ks[k] d) := by
  rw [List.drop_eq_getElem_cons h, szK_cons, if_pos hn]
theorem szK_stop {ks : List PExpr} {d n : Nat} (hn : ¬ n < 1000) : szK ks d n = n := by
  cases ks with
  | nil => rw [szK_nil]
  | cons k ks => rw [szK_cons, if_neg hn]
set_option maxHeartbeats 2000000 in
set_option maxRecDepth 100000 in
theorem sizeOf_any : ∀ e : PExpr, ∀ (d : Nat), d ≤ 16 → ∀ (S : Nat → Prop) (A : Option Addr) (c : Nat) (w : World), RdE w S e.kids A →
    Calls Tryd.prog 25 #[exprV e A c, .int .i64 (d : Int)] w (Ret (.int .i64 (szE e d : Nat)) w) := by
  intro e
  induction e using PExpr.ind with
  | h e ih =>
  intro d hd S A c w hr
  by_cases hc : 15 < d ∨ 8 < e.kids.length ∨ 20 < e.name.length
  · have HE : Hid (szE e d = 1000) := show szE e d = 1000 by rw [szE_eq, if_pos hc]
    have HN := Lib.hid (mkB_len e.name)
    unfold exprV
    by_cases h1 : 15 < d
    · have q1 : (15 : Int) < (d : Int) := by omega
      clear hc hr ih h1
      go_enter Tryd.func25, Tryd.ntmps25
      go_wp2_with fail
      go_ret
      exact ⟨by rw [HE.out]; rfl, grow_alloc (grow_refl _) _⟩
    · have q1 : ¬ (15 : Int) < (d : Int) := by omega
      by_cases h2 : 8 < e.kids.length
      · have q2 : (8 : Int) < (e.kids.length : Int) := by omega
        clear hc hr ih h1 h2
        go_enter Tryd.func25, Tryd.ntmps25
        go_wp2_with fail
        go_ret
        exact ⟨by rw [HE.out]; rfl, grow_alloc (grow_refl _) _⟩
      · have q2 : ¬ (8 : Int) < (e.kids.length : Int) := by omega
        have q3 : (20 : Int) < ((mkB e.name).size : Int) := by rw [HN.out]; omega
        clear hc hr ih h1 h2
        go_enter Tryd.func25, Tryd.ntmps25
        go_wp2_with fail
        go_ret
        exact ⟨by rw [HE.out]; rfl, grow_alloc (grow_refl _) _⟩
  · have HE : Hid (szE e d = szK e.kids (d + 1) 1) := show szE e d = _ by rw [szE_eq, if_neg hc]
    have q1 : ¬ (15 : Int) < (d : Int) := by omega
    have q2 : ¬ (8 : Int) < (e.kids.length : Int) := by omega
    have q3 : ¬ (20 : Int) < ((mkB e.name).size : Int) := by rw [mkB_len]; omega
    have hl8 : e.kids.length ≤ 8 := by omega
    have hd15 : d ≤ 15 := by omega
    have HR := Lib.hid hr
    have IH : Hid (∀ (i : Nat) (hi : i < e.kids.length) (d : Nat), d ≤ 16 → ∀ (S : Nat → Prop) (A : Option Addr) (c : Nat) (w : World), RdE w S e.kids[i].kids A → Calls Tryd.prog 25 #[exprV e.kids[i] A c, .int .i64 (d : Int)] w (Ret (.int .i64 (szE e.kids[i] d : Nat)) w)) :=
      fun i hi => ih _ (List.getElem_mem hi)
    clear hc hr ih
    unfold exprV
    go_enter Tryd.func25, Tryd.ntmps25
    go_wp2_with fail
    go_loopw [5, 6] (fun n i wr => ∃ (k m : Nat), k ≤ e.kids.length ∧ i = .int .i64 k ∧ n = .int .i64 m ∧ m ≤ 100000 ∧ szK e.kids (d + 1) 1 = szK (e.kids.drop k) (d + 1) m ∧ Below w.heap.size w wr ∧ wr.cell? ⟨w.heap.size, 3, none⟩ = some (.slice A e.kids.length c)) (fun _ i _ => e.kids.length - (intOf i).toNat)
    case atStart => exact ⟨0, 1, Nat.zero_le _, rfl, rfl, by omega, by simp, grow_alloc (grow_refl _) _, cell_of_row _ _ 3 _ _ _ (new_block _ _ rfl)⟩
    case round =>
      obtain ⟨k, m, hk, rfl, rfl, hm, hI, hbel, hbox⟩ := hrel
      have HI := Lib.hid hI
      clear hI
      by_cases hlt : k < e.kids.length
      · have hlt' : (k : Int) < (e.kids.length : Int) := by omega
        by_cases hm1 : m < 1000
        · have hm' : (m : Int) < 1000 := by omega
          obtain ⟨b, off, B, c1, rfl, -, hcells, -, hkid⟩ := (HR.out.keep ((Keeps.of_below hbel).in S) (fun _ h => h)).at hlt
          obtain ⟨c0, c1', c2, c3⟩ := cells_expr hcells
          have HK := Lib.hid (IH.out k hlt (d + 1) (by omega) S B c1 wr hkid)
          have hsz := szE_le e.kids[k] (d + 1) (by omega)
          have HS := Lib.hid (szK_step hlt (d := d + 1) hm1)
          obtain ⟨z, hz⟩ : ∃ z, szE e.kids[k] (d + 1) = z := ⟨_, rfl⟩
          rw [hz] at hsz HK HS
          have hz2 : z ≤ 20000 := by omega
          unfold exprV at HK
          rw [show ((d + 1 : Nat) : Int) = (d : Int) + 1 by omega] at HK
          clear hcells hkid hsz hz
          go_wp2_with (go_at_call 25; (with_reducible refine HK.out.mono ?_); rintro x w1 ⟨rfl, hb1⟩)
          go_roundw
          case rel => exact ⟨k + 1, m + z, by omega, by go_num, by go_num, by omega, HI.out.trans HS.out, grow_trans hbel hb1, Keeps.of_below hb1 _ _ hbox⟩
          case measure => simp [intOf]; omega
        · have hm' : ¬ (m : Int) < 1000 := by omega
          have HS := Lib.hid (szK_stop (ks := e.kids.drop k) (d := d + 1) hm1)
          go_wp2_with fail
          go_ret
          exact ⟨by rw [HE.out, HI.out, HS.out]; rfl, hbel⟩
      · have hk' : k = e.kids.length := by omega
        subst hk'
        go_wp2_with fail
        go_ret
        exact ⟨by rw [HE.out, HI.out, List.drop_length, szK_nil]; rfl, hbel⟩
theorem szL_step {ss : List PStmt} {k : Nat} (h : k < ss.length) {d n : Nat} (hn : n < 1000) : szL (ss.drop k) d n = if 20 < ss[k].name.length ∨ 20 < ss[k].kind.length then 1000 else szL (ss.drop (k + 1)) d (n + szT ss[k] d) := by
  rw [List.drop_eq_getElem_cons h, szL_cons, if_pos hn]
theorem szL_stop {ss : List PStmt} {d n : Nat} (hn : ¬ n < 1000) : szL ss d n = n := by
  cases ss with
  | nil => rw [szL_nil]
  | cons k ks => rw [szL_cons, if_neg hn]
def SizesC (ss : List PStmt) : Prop := ∀ (d : Nat), d ≤ 16 → ∀ (S : Nat → Prop) (A : Option Addr) (c : Nat) (w : World), RdS w S ss A →
    Calls Tryd.prog 13 #[.slice A ss.length c, .int .i64 (d : Int)] w (Ret (.int .i64 (szS ss d : Nat)) w)
set_option maxHeartbeats 4000000 in
set_option maxRecDepth 100000 in
theorem sizes_list (ss : List PStmt) (hq : ∀ s ∈ ss, SizesC s.th ∧ SizesC s.el) : SizesC ss := by
  intro d hd S A c w hr
  by_cases hc : 15 < d ∨ 30 < ss.length
  · have HE : Hid (szS ss d = 1000) := show szS ss d = 1000 by unfold szS; rw [if_pos hc]
    by_cases h1 : 15 < d
    · have q1 : (15 : Int) < (d : Int) := by omega
      clear hc hr hq h1
      go_enter Tryd.func13, Tryd.ntmps13
      go_wp2_with fail
      go_ret
      exact ⟨by rw [HE.out]; rfl, grow_refl _⟩
    · have q1 : ¬ (15 : Int) < (d : Int) := by omega
      have q2 : (30 : Int) < (ss.length : Int) := by omega
      clear hc hr hq h1
      go_enter Tryd.func13, Tryd.ntmps13
      go_wp2_with fail
      go_ret
      exact ⟨by rw [HE.out]; rfl, grow_refl _⟩
  · have HE : Hid (szS ss d = szL ss d 0) := show szS ss d = _ by unfold szS; rw [if_neg hc]
    have q1 : ¬ (15 : Int) < (d : Int) := by omega
    have q2 : ¬ (30 : Int) < (ss.length : Int) := by omega
    have hl8 : ss.length ≤ 30 := by omega
    have hd15 : d ≤ 15 := by omega
    have HR := Lib.hid hr
    have HQ := Lib.hid hq
    clear hc hr hq
    go_enter Tryd.func13, Tryd.ntmps13
    go_wp2_with fail
    go_loopw [5, 6] (fun n i wr => ∃ (k m : Nat), k ≤ ss.length ∧ i = .int .i64 k ∧ n = .int .i64 m ∧ m ≤ 10000000000 ∧ szL ss d 0 = szL (ss.drop k) d m ∧ Below w.heap.size w wr) (fun _ i _ => ss.length - (intOf i).toNat)
    case atStart => exact ⟨0, 0, Nat.zero_le _, rfl, rfl, by omega, by simp, grow_refl _⟩
    case round =>
      obtain ⟨k, m, hk, rfl, rfl, hm, hI, hbel⟩ := hrel
      have HI := Lib.hid hI
      clear hI
      by_cases hlt : k < ss.length
      · have hlt' : (k : Int) < (ss.length : Int) := by omega
        by_cases hm1 : m < 1000
        · have hm' : (m : Int) < 1000 := by omega
          obtain ⟨b, off, X, x, T, t, L, l, rfl, -, hcells, hnum, hX, hT, hL⟩ := (HR.out.keep ((Keeps.of_below hbel).in S) (fun _ h => h)).at hlt
          obtain ⟨c0, c1, c2, c3, c4, c5, c6, c7⟩ := cells_stmt hcells
          have hst := szL_step hlt (d := d) hm1
          obtain ⟨s, hs⟩ : ∃ s, ss[k] = s := ⟨_, rfl⟩
          have hsm : s ∈ ss := hs ▸ List.getElem_mem hlt
          rw [hs] at hcells hnum hX hT hL c0 c1 c2 c3 c4 c5 c6 c7 hst
          have HN := Lib.hid (mkB_len s.name)
          have HKD := Lib.hid (mkB_len s.kind)
          by_cases hbig : 20 < s.name.length ∨ 20 < s.kind.length
          · rw [if_pos hbig] at hst
            have HS := Lib.hid hst
            by_cases hb1 : 20 < s.name.length
            · have q3 : (20 : Int) < ((mkB s.name).size : Int) := by rw [mkB_len]; omega
              clear hcells hX hT hL hnum hst hbig hb1
              go_wp2_with fail
              go_ret
              exact ⟨by rw [HE.out, HI.out, HS.out]; rfl, hbel⟩
            · have q3 : ¬ (20 : Int) < ((mkB s.name).size : Int) := by rw [mkB_len]; omega
              have q4 : (20 : Int) < ((mkB s.kind).size : Int) := by rw [mkB_len]; omega
              clear hcells hX hT hL hnum hst hbig hb1
              go_wp2_with fail
              go_ret
              exact ⟨by rw [HE.out, HI.out, HS.out]; rfl, hbel⟩
          · rw [if_neg hbig] at hst
            have q3 : ¬ (20 : Int) < ((mkB s.name).size : Int) := by rw [mkB_len]; omega
            have q4 : ¬ (20 : Int) < ((mkB s.kind).size : Int) := by rw [mkB_len]; omega
            have b1 := szE_le s.e 0 (by omega)
            have b2 := szS_bound s.th (d + 1) (by omega)
            have b3 := szS_bound s.el (d + 1) (by omega)
            rw [szT_eq] at hst
            have HX : ∀ w', Below wr.heap.size wr w' → Calls Tryd.prog 25 #[exprV s.e X x, .int .i64 ((0 : Nat) : Int)] w' (Ret (.int .i64 (szE s.e 0 : Nat)) w') :=
              fun w' hb => sizeOf_any s.e 0 (by omega) S X x w' (hX.keep ((Keeps.of_below hb).in S) (fun _ h => h))
            have HT : ∀ w', Below wr.heap.size wr w' → Calls Tryd.prog 13 #[.slice T s.th.length t, .int .i64 ((d + 1 : Nat) : Int)] w' (Ret (.int .i64 (szS s.th (d + 1) : Nat)) w') :=
              fun w' hb => (HQ.out s hsm).1 (d + 1) (by omega) S T t w' (hT.keep ((Keeps.of_below hb).in S) (fun _ h => h))
            have HL : ∀ w', Below wr.heap.size wr w' → Calls Tryd.prog 13 #[.slice L s.el.length l, .int .i64 ((d + 1 : Nat) : Int)] w' (Ret (.int .i64 (szS s.el (d + 1) : Nat)) w') :=
              fun w' hb => (HQ.out s hsm).2 (d + 1) (by omega) S L l w' (hL.keep ((Keeps.of_below hb).in S) (fun _ h => h))
            obtain ⟨z1, hz1⟩ : ∃ z, szE s.e 0 = z := ⟨_, rfl⟩
            obtain ⟨z2, hz2⟩ : ∃ z, szS s.th (d + 1) = z := ⟨_, rfl⟩
            obtain ⟨z3, hz3⟩ : ∃ z, szS s.el (d + 1) = z := ⟨_, rfl⟩
            rw [hz1] at HX hst b1
            rw [hz2] at HT hst b2
            rw [hz3] at HL hst b3
            rw [show ((d + 1 : Nat) : Int) = (d : Int) + 1 by omega] at HT HL
            rw [show ((0 : Nat) : Int) = 0 from rfl] at HX
            unfold exprV at HX
            have g1 : z1 ≤ 20000 := by omega
            have HXX := Lib.hid HX
            have HTT := Lib.hid HT
            have HLL := Lib.hid HL
            have HS := Lib.hid hst
            have HC := Lib.hid hcells
            have w1 : IntKind.i64.wrap ((m : Int) + 1) = (m : Int) + 1 := IntWalk.i64_in _ (by omega)
            have w2 : IntKind.i64.wrap ((d : Int) + 1) = (d : Int) + 1 := IntWalk.i64_in _ (by omega)
            have w3 : IntKind.i64.wrap ((m : Int) + 1 + z1) = (m : Int) + 1 + z1 := IntWalk.i64_in _ (by omega)
            have w4 : IntKind.i64.wrap ((m : Int) + 1 + z1 + z2) = (m : Int) + 1 + z1 + z2 := IntWalk.i64_in _ (by omega)
            have w5 : IntKind.i64.wrap ((m : Int) + 1 + z1 + z2 + z3) = (m : Int) + 1 + z1 + z2 + z3 := IntWalk.i64_in _ (by omega)
            clear hcells hX hT hL hnum hst hbig hz1 hz2 hz3 HX HT HL
            go_upto_region 9 with fail
            have HBS : Below wr.heap.size wr wr.drew := (Below.refl _ _).drew
            have HB0 : Below wr.heap.size wr wr := Below.refl _ _
            go_region_held3 (fun w' => Below wr.heap.size wr w' ∧ w'.cell? ⟨b, off + k * 8, none⟩ = some (.string (mkB s.kind)) ∧ w'.cell? ⟨b, off + k * 8 + 1, none⟩ = some (.string (mkB s.name)) ∧ w'.cell? ⟨b, off + k * 8 + 2, none⟩ = some (.string (mkB s.e.kind)) ∧ w'.cell? ⟨b, off + k * 8 + 3, none⟩ = some (.int .i64 s.e.num) ∧
                w'.cell? ⟨b, off + k * 8 + 4, none⟩ = some (.string (mkB s.e.name)) ∧ w'.cell? ⟨b, off + k * 8 + 5, none⟩ = some (.slice X s.e.kids.length x) ∧ w'.cell? ⟨b, off + k * 8 + 6, none⟩ = some (.slice T s.th.length t) ∧ w'.cell? ⟨b, off + k * 8 + 7, none⟩ = some (.slice L s.el.length l))
              (((with_reducible refine stmt_seen ?_ HC.out);
                first
                  | (simp (maxDischargeDepth := 20) only [bel_drew, HB0, hB3]; done)
                  | (simp (maxDischargeDepth := 20) only [bel_drew, HB0, hB2]; done)
                  | (simp (maxDischargeDepth := 20) only [bel_drew, HB0, hB1]; done)
                  | (simp (maxDischargeDepth := 20) only [bel_drew, HB0]; done)))
              (first
                | (go_at_call 25; (with_reducible refine (HXX.out _ (by simp only [bel_drew, HB0])).mono ?_); rintro y w12 ⟨rfl, hbT⟩; have hB1 : Below wr.heap.size wr w12 := grow_trans (by simp only [bel_drew, HB0]) hbT)
                | (go_at_call 13; (with_reducible refine (HTT.out _ (by simp only [hB1])).mono ?_); rintro y w12 ⟨rfl, hbT⟩; have hB2 : Below wr.heap.size wr w12 := grow_trans (by simp only [hB1]) hbT)
                | (go_at_call 13; (with_reducible refine (HLL.out _ (by simp only [hB2])).mono ?_); rintro y w12 ⟨rfl, hbT⟩; have hB3 : Below wr.heap.size wr w12 := grow_trans (by simp only [hB2]) hbT))
            clear HBS HB0 w1 w2 w3 w4 w5 c0 c1 c2 c3 c4 c5 c6 c7
            all_goals go_wp2_with fail
            go_roundw
            case rel => exact ⟨k + 1, m + 1 + z1 + z2 + z3, by omega, by go_num, by go_num, by omega, HI.out.trans (HS.out.trans (by congr 1; omega)), grow_trans hbel hB3⟩
            case measure => simp [intOf]; omega
        · have hm' : ¬ (m : Int) < 1000 := by omega
          have HS := Lib.hid (szL_stop (ss := ss.drop k) (d := d) hm1)
          go_wp2_with fail
          go_ret
          exact ⟨by rw [HE.out, HI.out, HS.out]; rfl, hbel⟩
      · have hk' : k = ss.length := by omega
        subst hk'
        go_wp2_with fail
        go_ret
        exact ⟨by rw [HE.out, HI.out, List.drop_length, szL_nil]; rfl, hbel⟩
theorem sizes_each : ∀ s : PStmt, SizesC s.th ∧ SizesC s.el := by
  intro s
  induction s using PStmt.ind with
  | h s iht ihl => exact ⟨sizes_list _ iht, sizes_list _ ihl⟩
theorem sizesOf_any (ss : List PStmt) : SizesC ss := sizes_list ss fun s _ => sizes_each s
end Go.Proofs.YteifmgcbafemeaaDoor

namespace Go.Proofs.YteifmgcbafemeaaDoor
open Go.RowKit

theorem largeF_step {fs : List PFun} {k : Nat} (h : k < fs.length) {most n : Nat} : largeF (fs.drop k) most n =
    if 8 < fs[k].params.length ∨ 20 < fs[k].name.length then true else if longT fs[k].params then true else if most < n + szS fs[k].body 0 then true else largeF (fs.drop (k + 1)) most (n + szS fs[k].body 0) := by
  rw [List.drop_eq_getElem_cons h, largeF]
theorem longT_step {ps : List (List UInt8)} {k : Nat} (h : k < ps.length) : longT (ps.drop k) = (decide (20 < ps[k].length) || longT (ps.drop (k + 1))) := by
  unfold longT; rw [List.drop_eq_getElem_cons h, List.any_cons]
def LV (fs : List PFun) (most : Nat) : Int := if largeP fs most then 1 else 0
set_option maxHeartbeats 4000000 in
set_option maxRecDepth 100000 in
theorem Large_any (fs : List PFun) (most : Nat) (hmost : most ≤ 1000000) (S : Nat → Prop) (A : Option Addr) (c : Nat) (w : World) (hr : RdF w S fs A) :
    Calls Tryd.prog 6 #[.slice A fs.length c, .int .i64 (most : Int)] w (Ret (.int .i64 (if largeP fs most then 1 else 0)) w) := by
  by_cases h1 : 10 < fs.length
  · have q1 : (10 : Int) < (fs.length : Int) := by omega
    have HE : Hid (largeP fs most = true) := show largeP fs most = true by simp [largeP, h1]
    have hp0 : (if largeP fs most then (1 : Int) else 0) = LV fs most := rfl
    rw [hp0]
    clear hr h1 hp0
    go_enter Tryd.func6, Tryd.ntmps6
    go_wp2_with fail
    go_ret
    exact ⟨by unfold LV; rw [HE.out]; rfl, grow_refl _⟩
  · have q1 : ¬ (10 : Int) < (fs.length : Int) := by omega
    have HE : Hid (largeP fs most = largeF fs most 0) := show largeP fs most = _ by simp [largeP, h1]
    have hl : fs.length ≤ 10 := by omega
    have HR := Lib.hid hr
    have hp0 : (if largeP fs most then (1 : Int) else 0) = LV fs most := rfl
    rw [hp0]
    clear hr h1 hp0
    go_enter Tryd.func6, Tryd.ntmps6
    go_wp2_with fail
    go_loopw [5, 6, 7] (fun n i _ wr => ∃ (k m : Nat), k ≤ fs.length ∧ i = .int .i64 k ∧ n = .int .i64 m ∧ m ≤ most ∧ largeF fs most 0 = largeF (fs.drop k) most m ∧ Below w.heap.size w wr) (fun _ i _ _ => fs.length - (intOf i).toNat)
    case atStart => exact ⟨0, 0, Nat.zero_le _, rfl, rfl, by omega, by simp, grow_refl _⟩
    case round =>
      obtain ⟨k, m, hk, rfl, rfl, hm, hI, hbel⟩ := hrel
      have HI := Lib.hid hI
      clear hI
      by_cases hlt : k < fs.length
      · have hlt' : (k : Int) < (fs.length : Int) := by omega
        obtain ⟨b, off, P, p, B, d, rfl, -, hcells, hp, hb⟩ := (HR.out.keep ((Keeps.of_below hbel).in S) (fun _ h => h)) k hlt
        obtain ⟨c0, c1, c2⟩ := cells_fun hcells
        have hst := largeF_step hlt (most := most) (n := m)
        obtain ⟨f, hf⟩ : ∃ f, fs[k] = f := ⟨_, rfl⟩
        rw [hf] at hcells hp hb c0 c1 c2 hst
        have HZ := Lib.hid hst
        have HB := Lib.hid hb
        have HP := Lib.hid hp
        clear hst hcells hf hb hp
        by_cases h2 : 8 < f.params.length
        · have q2 : (8 : Int) < (f.params.length : Int) := by omega
          have HS : Hid (largeF (fs.drop k) most m = true) := HZ.out.trans (by rw [if_pos (.inl h2)])
          clear h2
          go_wp2_with fail
          go_ret
          exact ⟨by unfold LV; rw [HE.out, HI.out, HS.out]; rfl, hbel⟩
        · have q2 : ¬ (8 : Int) < (f.params.length : Int) := by omega
          by_cases h3 : 20 < f.name.length
          · have q3 : (20 : Int) < ((mkB f.name).size : Int) := by rw [mkB_len]; omega
            have HS : Hid (largeF (fs.drop k) most m = true) := HZ.out.trans (by rw [if_pos (.inr h3)])
            clear h2 h3
            go_wp2_with fail
            go_ret
            exact ⟨by unfold LV; rw [HE.out, HI.out, HS.out]; rfl, hbel⟩
          · have q3 : ¬ (20 : Int) < ((mkB f.name).size : Int) := by rw [mkB_len]; omega
            have hz := HZ.out
            rw [if_neg (by omega)] at hz
            have HZ2 := Lib.hid hz
            have hl8 : f.params.length ≤ 8 := by omega
            clear h2 h3 hz HZ
            go_wp2_with fail
            go_loopw [7] (fun j wt => ∃ (i : Nat), i ≤ f.params.length ∧ j = .int .i64 i ∧ wt = wr ∧ longT f.params = longT (f.params.drop i)) (fun j _ => f.params.length - (intOf j).toNat)
            case atStart => exact ⟨0, Nat.zero_le _, rfl, rfl, by simp⟩
            case round =>
              obtain ⟨i, hi, rfl, rfl, hJ⟩ := hrel
              have HJ := Lib.hid hJ
              clear hJ
              by_cases hlt2 : i < f.params.length
              · have hlt2' : (i : Int) < (f.params.length : Int) := by omega
                obtain ⟨b2, off2, rfl, -, hc2⟩ := HP.out i hlt2
                have HK := Lib.hid (longT_step hlt2)
                by_cases h4 : 20 < f.params[i].length
                · have q4 : (20 : Int) < ((mkB f.params[i]).size : Int) := by rw [mkB_len]; omega
                  have HS : Hid (largeF (fs.drop k) most m = true) := HZ2.out.trans (by rw [HJ.out, HK.out]; simp [h4])
                  clear h4
                  go_wp2_with fail
                  go_ret
                  exact ⟨by unfold LV; rw [HE.out, HI.out, HS.out]; rfl, hbel⟩
                · have q4 : ¬ (20 : Int) < ((mkB f.params[i]).size : Int) := by rw [mkB_len]; omega
                  have HK2 : Hid (longT f.params = longT (f.params.drop (i + 1))) := HJ.out.trans (HK.out.trans (by simp [h4]))
                  clear h4
                  go_wp2_with fail
                  go_roundw
                  case rel => exact ⟨i + 1, by omega, by go_num, (by trivial), HK2.out⟩
                  case measure => simp [intOf]; omega
              · have hi' : i = f.params.length := by omega
                subst hi'
                have hlong : longT f.params = false := by rw [HJ.out, List.drop_length]; rfl
                have hz := HZ2.out
                rw [hlong] at hz
                have b2 := szS_bound f.body 0 (by omega)
                have HT := sizesOf_any f.body 0 (by omega) S B d _ HB.out
                rw [show ((0 : Nat) : Int) = 0 from rfl] at HT
                obtain ⟨z, hz1⟩ : ∃ z, szS f.body 0 = z := ⟨_, rfl⟩
                rw [hz1] at hz b2 HT
                have HTT := Lib.hid HT
                have HZ3 := Lib.hid hz
                clear hz hlong HT hz1
                by_cases h5 : most < m + z
                · have q5 : (most : Int) < (m : Int) + z := by omega
                  have HS : Hid (largeF (fs.drop k) most m = true) := HZ3.out.trans (by simp [h5])
                  clear h5
                  go_wp2_with (go_at_call 13; (with_reducible refine HTT.out.mono ?_); rintro x w1 ⟨rfl, hb1⟩)
                  go_ret
                  exact ⟨by unfold LV; rw [HE.out, HI.out, HS.out]; rfl, grow_trans hbel hb1⟩
                · have q5 : ¬ (most : Int) < (m : Int) + z := by omega
                  have HS : Hid (largeF (fs.drop k) most m = largeF (fs.drop (k + 1)) most (m + z)) := HZ3.out.trans (by simp [h5])
                  have h6 : m + z ≤ most := by omega
                  clear h5
                  go_wp2_with (go_at_call 13; (with_reducible refine HTT.out.mono ?_); rintro x w1 ⟨rfl, hb1⟩)
                  go_roundw
                  case rel => exact ⟨k + 1, m + z, by omega, by go_num, by go_num, by omega, HI.out.trans HS.out, grow_trans hbel hb1⟩
                  case measure => simp [intOf]; omega
      · have hk' : k = fs.length := by omega
        subst hk'
        have HS : Hid (largeF (fs.drop fs.length) most m = false) := show _ = false by rw [List.drop_length]; rfl
        go_wp2_with fail
        go_ret
        exact ⟨by unfold LV; rw [HE.out, HI.out, HS.out]; rfl, hbel⟩
end Go.Proofs.YteifmgcbafemeaaDoor

namespace Go.Proofs.YteifmgcbafemeaaDoor
open Go.RowKit

theorem Run_fine (E : Nat → Addr) (fs : List PFun) (hsm : ∀ f ∈ fs, SmF f) (S : Nat → Prop) (A : Option Addr) (c : Nat) (hl : fs.length ≤ 12) (hc : fs.length ≤ c) (name : Nm) (args : List Int) (ha : args.length ≤ 1000) (X : Option Addr) (xc : Nat) (T : Nat) (w : World) (hE : Laid E w) (hr : RdG w S fs A)
    (hX : Row w X (intVs args)) (hXl : ∀ a, X = some a → a.block < w.heap.size) (hz : (runC fs name args.length T).1 = 0) (o : Oc) (ho : runP fs name args T = o) :
    Calls Tryd.prog 8 #[.slice A fs.length c, .string (mkB name), .slice X args.length xc, .int .i64 T] w fun en w' => ∃ A' c', en = .returned (.tuple #[.agg #[.string (mkB o.1), .int .i64 o.2.1, .slice A' o.2.2.1.length c', .int .i64 o.2.2.2], .nilIface]) ∧ Row w' A' (intVs o.2.2.1) ∧ o.2.2.1.length ≤ c' ∧ Below w.heap.size w w' :=
  (Run_any E fs hsm S A c hl hc name args ha X xc T w hE hr hX hXl).mono fun en w' ⟨v, A', c', o', he, _, hv, ho', hrow, hcap, hb⟩ => by
    rw [if_pos hz, Int.toNat_natCast, ho] at ho'
    subst ho'
    have := hv.2 hz
    subst this
    exact ⟨A', c', he, hrow, hcap, hb⟩
theorem Run_bad (E : Nat → Addr) (fs : List PFun) (hsm : ∀ f ∈ fs, SmF f) (S : Nat → Prop) (A : Option Addr) (c : Nat) (hl : fs.length ≤ 12) (hc : fs.length ≤ c) (name : Nm) (args : List Int) (ha : args.length ≤ 1000) (X : Option Addr) (xc : Nat) (T : Nat) (w : World) (hE : Laid E w) (hr : RdG w S fs A)
    (hX : Row w X (intVs args)) (hXl : ∀ a, X = some a → a.block < w.heap.size) (hz : (runC fs name args.length T).1 ≠ 0) :
    Calls Tryd.prog 8 #[.slice A fs.length c, .string (mkB name), .slice X args.length xc, .int .i64 T] w fun en w' => ∃ A' c' t x, en = .returned (.tuple #[.agg #[.string (mkB []), .int .i64 0, .slice A' 0 c', .int .i64 0], .iface t x]) ∧ Below w.heap.size w w' :=
  (Run_any E fs hsm S A c hl hc name args ha X xc T w hE hr hX hXl).mono fun en w' ⟨v, A', c', o', he, hi, hv, ho', hrow, hcap, hb⟩ => by
    rw [if_neg hz] at ho'
    subst ho'
    obtain ⟨t, x, rfl⟩ := err_if2 hi hz
    exact ⟨A', c', t, x, he, hb⟩
theorem runC_range {fs : List PFun} {name : Nm} {n : Nat} {s t : Int} (hs : 0 ≤ s ∧ s ≤ 5000) (ht : 0 ≤ t ∧ t ≤ 5000) : runC fs name n s = runC fs name n t := by
  unfold runC
  rw [if_neg (show ¬ (s < 0 ∨ 5000 < s) by omega), if_neg (show ¬ (t < 0 ∨ 5000 < t) by omega)]
/-- No call of run.Run is reached. -/
def moreOut (fs : List PFun) (n : Nat) (ticks more : Int) : Bool := largeP fs 300 || decide (8 < n) || decide (ticks < 0) || decide (200 < ticks) || decide (more < 0) || decide (200 < more)
set_option maxHeartbeats 4000000 in
set_option maxRecDepth 100000 in
theorem more_early (E : Nat → Addr) (fs : List PFun) (A : Option Addr) (c : Nat) (name : Nm) (args : List Int) (X : Option Addr) (xc : Nat) (ticks more : Int) (w : World) (hE : Laid E w) (hr : RdF w (fun _ => True) fs A) (h : moreOut fs args.length ticks more = true) :
    Calls Tryd.prog 3 #[.slice A fs.length c, .string (mkB name), .slice X args.length xc, .int .i64 ticks, .int .i64 more] w (Ret (.bool true) w) := by
  have HS := Lib.hid (ran_any E w hE)
  have HLG : Hid (∀ w', Below w.heap.size w w' → Calls Tryd.prog 6 #[.slice A fs.length c, .int .i64 300] w' (Ret (.int .i64 (if largeP fs 300 then 1 else 0)) w')) := fun w' hb =>
    Large_any fs 300 (by omega) (fun _ => True) A c w' (hr.keep ((Keeps.of_below hb).in _) (fun _ h => h))
  clear hE hr
  unfold moreOut at h
  cases h1 : largeP fs 300
  · rw [h1] at HLG h
    by_cases h2 : 8 < args.length
    · have g2 : (8 : Int) < (args.length : Int) := by omega
      clear h h1
      go_enter Tryd.func3, Tryd.ntmps3
      go_wp2_with (first
        | (go_at_call 5; (with_reducible refine HS.out.mono ?_); rintro x w1 ⟨rfl, hb1⟩)
        | (go_at_call 6; (with_reducible refine (HLG.out _ hb1).mono ?_); rintro x w2 ⟨rfl, hb2⟩))
      go_ret
      exact ⟨rfl, grow_trans hb1 hb2⟩
    · have g2 : ¬ (8 : Int) < (args.length : Int) := by omega
      have h' : ticks < 0 ∨ (¬ ticks < 0 ∧ 200 < ticks) ∨ (¬ ticks < 0 ∧ ¬ 200 < ticks ∧ more < 0) ∨ (¬ ticks < 0 ∧ ¬ 200 < ticks ∧ ¬ more < 0 ∧ 200 < more) := by
        simp [h2] at h
        omega
      clear h h1 h2
      rcases h' with g3 | ⟨g3, g4⟩ | ⟨g3, g4, g5⟩ | ⟨g3, g4, g5, g6⟩
      all_goals
        go_enter Tryd.func3, Tryd.ntmps3
        go_wp2_with (first
          | (go_at_call 5; (with_reducible refine HS.out.mono ?_); rintro x w1 ⟨rfl, hb1⟩)
          | (go_at_call 6; (with_reducible refine (HLG.out _ hb1).mono ?_); rintro x w2 ⟨rfl, hb2⟩))
        go_ret
        exact ⟨rfl, grow_trans hb1 hb2⟩
  · rw [h1] at HLG
    clear h h1
    go_enter Tryd.func3, Tryd.ntmps3
    go_wp2_with (first
      | (go_at_call 5; (with_reducible refine HS.out.mono ?_); rintro x w1 ⟨rfl, hb1⟩)
      | (go_at_call 6; (with_reducible refine (HLG.out _ hb1).mono ?_); rintro x w2 ⟨rfl, hb2⟩))
    go_ret
    exact ⟨rfl, grow_trans hb1 hb2⟩
theorem more_in {fs : List PFun} {n : Nat} {ticks more : Int} (h : moreOut fs n ticks more = false) : ((((largeP fs 300 = false ∧ ¬ 8 < n) ∧ ¬ ticks < 0) ∧ ¬ 200 < ticks) ∧ ¬ more < 0) ∧ ¬ 200 < more := by
  unfold moreOut at h
  simpa using h
set_option maxHeartbeats 8000000 in
set_option maxRecDepth 100000 in
theorem more_bad (E : Nat → Addr) (fs : List PFun) (A : Option Addr) (c : Nat) (name : Nm) (args : List Int) (X : Option Addr) (xc : Nat) (ticks more : Int) (w : World) (hE : Laid E w) (hr : RdF w (fun _ => True) fs A) (hX : Row w X (intVs args)) (h : moreOut fs args.length ticks more = false) (hz : (runC fs name args.length 0).1 ≠ 0) :
    Calls Tryd.prog 3 #[.slice A fs.length c, .string (mkB name), .slice X args.length xc, .int .i64 ticks, .int .i64 more] w (Ret (.bool true) w) := by
  obtain ⟨⟨⟨⟨⟨hlg, h2⟩, h3⟩, h4⟩, h5⟩, h6⟩ := more_in h
  obtain ⟨h10, hsm, -, -⟩ := largeP_small (by omega) hlg
  obtain ⟨T, rfl⟩ : ∃ T : Nat, ticks = T := ⟨ticks.toNat, by omega⟩
  obtain ⟨M, rfl⟩ : ∃ M : Nat, more = M := ⟨more.toNat, by omega⟩
  have HS := Lib.hid (ran_any E w hE)
  have HLG : Hid (∀ w', Below w.heap.size w w' → Calls Tryd.prog 6 #[.slice A fs.length c, .int .i64 300] w' (Ret (.int .i64 0) w')) := fun w' hb => by
    have := Large_any fs 300 (by omega) (fun _ => True) A c w' (hr.keep ((Keeps.of_below hb).in _) (fun _ h => h))
    rwa [hlg] at this
  have HAS : Hid (∀ w', Below w.heap.size w w' → Calls Tryd.prog 7 #[.slice A fs.length c] w' fun x w'' => ∃ B d, x = .returned (.slice B fs.length d) ∧ fs.length ≤ d ∧ RdG w'' (newAt w') fs B ∧ Below w'.heap.size w' w'') := fun w' hb =>
    AsFuns_cap fs h10 hsm (fun _ => True) A c w' (hr.keep ((Keeps.of_below hb).in _) (fun _ h => h))
  have g2 : ¬ (8 : Int) < (args.length : Int) := by omega
  have g3 : ¬ (T : Int) < 0 := by omega
  have g4 : ¬ (200 : Int) < (T : Int) := by omega
  have g5 : ¬ (M : Int) < 0 := by omega
  have g6 : ¬ (200 : Int) < (M : Int) := by omega
  have hT : T ≤ 200 := by omega
  have hM : M ≤ 200 := by omega
  have ha : args.length ≤ 8 := by omega
  have HRN : Hid (∀ (t : Nat) w' B d A' c', t ≤ 400 → Below w.heap.size w w' → fs.length ≤ d → RdG w' (fun _ => True) fs B → Row w' A' (intVs args) → (∀ a, A' = some a → a.block < w'.heap.size) → Calls Tryd.prog 8 #[.slice B fs.length d, .string (mkB name), .slice A' args.length c', .int .i64 t] w' fun en w'' => ∃ A' c' t x, en = .returned (.tuple #[.agg #[.string (mkB []), .int .i64 0, .slice A' 0 c', .int .i64 0], .iface t x]) ∧ Below w'.heap.size w' w'') := fun t w' B d A' c' ht hb hd hg hX hXl =>
    Run_bad E fs hsm _ B d (by omega) hd name args (by omega) A' c' t w' (hE.keep hb) hg hX hXl (by rw [runC_range (t := 0) (by omega) (by omega)]; exact hz)
  have HRN2 : Hid (∀ w' B d A' c', Below w.heap.size w w' → fs.length ≤ d → RdG w' (fun _ => True) fs B → Row w' A' (intVs args) → (∀ a, A' = some a → a.block < w'.heap.size) → Calls Tryd.prog 8 #[.slice B fs.length d, .string (mkB name), .slice A' args.length c', .int .i64 ((T : Int) + (M : Int))] w' fun en w'' => ∃ A' c' t x, en = .returned (.tuple #[.agg #[.string (mkB []), .int .i64 0, .slice A' 0 c', .int .i64 0], .iface t x]) ∧ Below w'.heap.size w' w'') := fun w' B d A' c' hb hd hg hX hXl => by
    have := HRN.out (T + M) w' B d A' c' (by omega) hb hd hg hX hXl
    rwa [show (((T + M : Nat)) : Int) = (T : Int) + (M : Int) by omega] at this
  have HX := Lib.hid hX
  clear hr hE hlg hsm hz hX h2 h3 h4 h5 h6 h h10
  go_enter Tryd.func3, Tryd.ntmps3
  go_wp2_with (first
    | (go_at_call 5; (with_reducible refine HS.out.mono ?_); rintro x w1 ⟨rfl, hb1⟩)
    | (go_at_call 6; (with_reducible refine (HLG.out _ hb1).mono ?_); rintro x w2 ⟨rfl, hb2⟩)
    | (go_at_call 7; (with_reducible refine (HAS.out _ (grow_trans hb1 hb2)).mono ?_); rintro x w3 ⟨B, d, rfl, hd, hg, hb3⟩; have HG := Lib.hid (hg.keep ((Keeps.refl _).in _) (S' := fun _ => True) (fun _ _ => trivial)); have HB3 := Lib.hid (grow_trans (grow_trans hb1 hb2) hb3); clear hg)
    | (at_builtin; refine wpList_append_ints0 rfl (.tmp 54) (.tmp 55) rfl args rfl X xc rfl (HX.out.keep (Keeps.of_below HB3.out)) (by omega) ?_; intro A4 c4 w4 hr4 hl4 hb4; have HR4 := Lib.hid hr4; have HL4 := Lib.hid hl4; have HB4 := Lib.hid (grow_trans HB3.out hb4); have HG4 := Lib.hid (HG.out.keep ((Keeps.of_below hb4).in _) (fun _ h => h)); clear hr4 hl4 hb4)
    | (go_at_call 8; (with_reducible refine (HRN.out T _ _ _ _ _ (by omega) HB4.out hd HG4.out HR4.out HL4.out).mono ?_); rintro x w5 ⟨A5, c5, t5, x5, rfl, hb5⟩; have HB5 := Lib.hid (grow_trans HB4.out hb5); have HG5 := Lib.hid (HG4.out.keep ((Keeps.of_below hb5).in _) (fun _ h => h)); clear hb5)
    | (at_builtin; refine wpList_append_ints0 rfl (.tmp 64) (.tmp 65) rfl args rfl X xc rfl (HX.out.keep (Keeps.of_below (grow_alloc HB5.out _))) (by omega) ?_; intro A6 c6 w6 hr6 hl6 hb6; have HR6 := Lib.hid hr6; have HL6 := Lib.hid hl6; have HB6 := Lib.hid (grow_trans (grow_alloc HB5.out _) hb6); have HG6 := Lib.hid (HG5.out.keep ((Keeps.of_below (grow_trans (grow_alloc (grow_refl _) _) hb6)).in _) (fun _ h => h)); clear hr6 hl6 hb6)
    | (go_at_call 8; (with_reducible refine (HRN2.out _ _ _ _ _ HB6.out hd HG6.out HR6.out HL6.out).mono ?_); rintro x w7 ⟨A7, c7, t7, x7, rfl, hb7⟩; have HB7 := Lib.hid (grow_trans HB6.out hb7); clear hb7))
  go_ret
  exact ⟨rfl, grow_alloc HB7.out _⟩
set_option maxHeartbeats 8000000 in
set_option maxRecDepth 100000 in
theorem more_tired (E : Nat → Addr) (fs : List PFun) (A : Option Addr) (c : Nat) (name : Nm) (args : List Int) (X : Option Addr) (xc : Nat) (ticks more : Int) (w : World) (hE : Laid E w) (hr : RdF w (fun _ => True) fs A) (hX : Row w X (intVs args)) (h : moreOut fs args.length ticks more = false) (hz : (runC fs name args.length 0).1 = 0) (htd : (runP fs name args ticks.toNat).1 = tiredN) :
    Calls Tryd.prog 3 #[.slice A fs.length c, .string (mkB name), .slice X args.length xc, .int .i64 ticks, .int .i64 more] w (Ret (.bool true) w) := by
  obtain ⟨⟨⟨⟨⟨hlg, h2⟩, h3⟩, h4⟩, h5⟩, h6⟩ := more_in h
  obtain ⟨h10, hsm, -, -⟩ := largeP_small (by omega) hlg
  obtain ⟨T, rfl⟩ : ∃ T : Nat, ticks = T := ⟨ticks.toNat, by omega⟩
  obtain ⟨M, rfl⟩ : ∃ M : Nat, more = M := ⟨more.toNat, by omega⟩
  have HS := Lib.hid (ran_any E w hE)
  have HLG : Hid (∀ w', Below w.heap.size w w' → Calls Tryd.prog 6 #[.slice A fs.length c, .int .i64 300] w' (Ret (.int .i64 0) w')) := fun w' hb => by
    have := Large_any fs 300 (by omega) (fun _ => True) A c w' (hr.keep ((Keeps.of_below hb).in _) (fun _ h => h))
    rwa [hlg] at this
  have HAS : Hid (∀ w', Below w.heap.size w w' → Calls Tryd.prog 7 #[.slice A fs.length c] w' fun x w'' => ∃ B d, x = .returned (.slice B fs.length d) ∧ fs.length ≤ d ∧ RdG w'' (newAt w') fs B ∧ Below w'.heap.size w' w'') := fun w' hb =>
    AsFuns_cap fs h10 hsm (fun _ => True) A c w' (hr.keep ((Keeps.of_below hb).in _) (fun _ h => h))
  have g2 : ¬ (8 : Int) < (args.length : Int) := by omega
  have g3 : ¬ (T : Int) < 0 := by omega
  have g4 : ¬ (200 : Int) < (T : Int) := by omega
  have g5 : ¬ (M : Int) < 0 := by omega
  have g6 : ¬ (200 : Int) < (M : Int) := by omega
  have hT : T ≤ 200 := by omega
  have hM : M ≤ 200 := by omega
  have ha : args.length ≤ 8 := by omega
  have HRN : Hid (∀ (t : Nat) (o : Oc) w' B d A' c', runP fs name args t = o → t ≤ 400 → Below w.heap.size w w' → fs.length ≤ d → RdG w' (fun _ => True) fs B → Row w' A' (intVs args) → (∀ a, A' = some a → a.block < w'.heap.size) → Calls Tryd.prog 8 #[.slice B fs.length d, .string (mkB name), .slice A' args.length c', .int .i64 t] w' fun en w'' => ∃ A' c', en = .returned (.tuple #[.agg #[.string (mkB o.1), .int .i64 o.2.1, .slice A' o.2.2.1.length c', .int .i64 o.2.2.2], .nilIface]) ∧ Row w'' A' (intVs o.2.2.1) ∧ o.2.2.1.length ≤ c' ∧ Below w'.heap.size w' w'') := fun t o w' B d A' c' ho ht hb hd hg hX hXl =>
    Run_fine E fs hsm _ B d (by omega) hd name args (by omega) A' c' t w' (hE.keep hb) hg hX hXl (by rw [runC_range (t := 0) (by omega) (by omega)]; exact hz) o ho
  have hmo := runP_more fs name args (T := T) (T' := T + M) (by omega)
  have hti := runP_ticks fs name args (T + M)
  rw [Int.toNat_natCast] at htd
  obtain ⟨o1, ho1⟩ : ∃ o, runP fs name args T = o := ⟨_, rfl⟩
  obtain ⟨o2, ho2⟩ : ∃ o, runP fs name args (T + M) = o := ⟨_, rfl⟩
  rw [ho1, ho2] at hmo
  rw [ho2] at hti
  rw [ho1] at htd
  obtain ⟨m1, m2, m3, m4, m5⟩ := hmo
  have HR1 := Lib.hid (fun w' B d A' c' => HRN.out T o1 w' B d A' c' ho1 (by omega))
  have HR2 : Hid (∀ w' B d A' c', Below w.heap.size w w' → fs.length ≤ d → RdG w' (fun _ => True) fs B → Row w' A' (intVs args) → (∀ a, A' = some a → a.block < w'.heap.size) → Calls Tryd.prog 8 #[.slice B fs.length d, .string (mkB name), .slice A' args.length c', .int .i64 ((T : Int) + (M : Int))] w' fun en w'' => ∃ A' c', en = .returned (.tuple #[.agg #[.string (mkB o2.1), .int .i64 o2.2.1, .slice A' o2.2.2.1.length c', .int .i64 o2.2.2.2], .nilIface]) ∧ Row w'' A' (intVs o2.2.2.1) ∧ o2.2.2.1.length ≤ c' ∧ Below w'.heap.size w' w'') := fun w' B d A' c' hb hd hg hX hXl => by
    have := HRN.out (T + M) o2 w' B d A' c' ho2 (by omega) hb hd hg hX hXl
    rwa [show (((T + M : Nat)) : Int) = (T : Int) + (M : Int) by omega] at this
  obtain ⟨h1, v1, l1, t1⟩ := o1
  obtain ⟨h2', v2, l2, t2⟩ := o2
  simp only at m1 m2 m3 m4 m5 hti htd HR1 HR2
  have hlen := m2.length_le
  have htk : l2.take l1.length = l1 := by obtain ⟨q, rfl⟩ := m2; simp
  obtain ⟨N1, hN1⟩ : ∃ N : Int, (t1 : Int) = N := ⟨_, rfl⟩
  obtain ⟨N2, hN2⟩ : ∃ N : Int, (t2 : Int) = N := ⟨_, rfl⟩
  rw [hN1] at HR1
  rw [hN2] at HR2
  have q1 : ¬ (T : Int) < N1 := by omega
  have q2 : ¬ (T : Int) + (M : Int) < N2 := by omega
  have q3 : ¬ (l2.length : Int) < (l1.length : Int) := by omega
  have q3' : ¬ l2.length < l1.length := by omega
  have q4 : ¬ N2 < N1 := by omega
  have HL1 : Hid (l1.length ≤ 1000 ∧ l2.length ≤ 1000) := ⟨by omega, hti.2⟩
  have HTK := Lib.hid htk
  have HLN := Lib.hid hlen
  obtain ⟨g7, g8⟩ := m5 htd
  have g9 : (N1 == (T : Int)) = true := by simp; omega
  have g10 : (v1 == 0) = true := by simpa using g8
  have g11 : ((mkB h1).toList != [116, 105, 114, 101, 100]) = false := by rw [mkB_toList, htd]; decide
  have g12 : ((mkB h1).toList == [116, 105, 114, 101, 100]) = true := by rw [mkB_toList, htd]; decide
  clear g7 g8
  have HX := Lib.hid hX
  clear hr hE hlg hsm hz hX h2 h3 h4 h5 h6 h h10 ho1 ho2 m1 m2 m3 m4 m5 hti htd hlen htk hN1 hN2 HRN
  go_enter Tryd.func3, Tryd.ntmps3
  go_wp2_with (first
    | (go_at_call 5; (with_reducible refine HS.out.mono ?_); rintro x w1 ⟨rfl, hb1⟩)
    | (go_at_call 6; (with_reducible refine (HLG.out _ hb1).mono ?_); rintro x w2 ⟨rfl, hb2⟩)
    | (go_at_call 7; (with_reducible refine (HAS.out _ (grow_trans hb1 hb2)).mono ?_); rintro x w3 ⟨B, d, rfl, hd, hg, hb3⟩; have HG := Lib.hid (hg.keep ((Keeps.refl _).in _) (S' := fun _ => True) (fun _ _ => trivial)); have HB3 := Lib.hid (grow_trans (grow_trans hb1 hb2) hb3); clear hg)
    | (at_builtin; refine wpList_append_ints0 rfl (.tmp 54) (.tmp 55) rfl args rfl X xc rfl (HX.out.keep (Keeps.of_below HB3.out)) (by omega) ?_; intro A4 c4 w4 hr4 hl4 hb4; have HR4 := Lib.hid hr4; have HL4 := Lib.hid hl4; have HB4 := Lib.hid (grow_trans HB3.out hb4); have HG4 := Lib.hid (HG.out.keep ((Keeps.of_below hb4).in _) (fun _ h => h)); clear hr4 hl4 hb4)
    | (go_at_call 8; (with_reducible refine (HR1.out _ _ _ _ _ HB4.out hd HG4.out HR4.out HL4.out).mono ?_); rintro x w5 ⟨A5, c5, rfl, hr5, hc5, hb5⟩; have HB5 := Lib.hid (grow_trans HB4.out hb5); have HG5 := Lib.hid (HG4.out.keep ((Keeps.of_below hb5).in _) (fun _ h => h)); have HR5 := Lib.hid hr5; have HK5 := Lib.hid (heap_alloc_new w5 (.cells #[.string (mkB h1), .int .i64 v1, .slice A5 l1.length c5, .int .i64 N1] 29)); clear hb5 hr5)
    | (at_builtin; refine wpList_append_ints0 rfl (.tmp 64) (.tmp 65) rfl args rfl X xc rfl (HX.out.keep (Keeps.of_below (grow_alloc HB5.out _))) (by omega) ?_; intro A6 c6 w6 hr6 hl6 hb6; have HR6 := Lib.hid hr6; have HL6 := Lib.hid hl6; have HB6 := Lib.hid (grow_trans (grow_alloc HB5.out _) hb6); have HB56 := Lib.hid (grow_trans (grow_alloc (grow_refl w5) _) hb6); have HG6 := Lib.hid (HG5.out.keep ((Keeps.of_below HB56.out).in _) (fun _ h => h)); have HK6 := Lib.hid ((hb6.block _ (by simp)).trans HK5.out); clear hr6 hl6 hb6)
    | (go_at_call 8; (with_reducible refine (HR2.out _ _ _ _ _ HB6.out hd HG6.out HR6.out HL6.out).mono ?_); rintro x w7 ⟨A7, c7, rfl, hr7, hc7, hb7⟩; have hk7 := (hb7.block _ (Array.getElem?_eq_some_iff.1 HK6.out).1).trans HK6.out; obtain ⟨e0, e1, e2, e3⟩ := row4 (((grow_alloc (grow_refl w7) (.cells #[.string (mkB h2'), .int .i64 v2, .slice A7 l2.length c7, .int .i64 N2] 29)).block _ (Array.getElem?_eq_some_iff.1 hk7).1).trans hk7); have HB7 := Lib.hid (grow_trans HB6.out hb7); have HR57 := Lib.hid (HR5.out.keep (Keeps.of_below (grow_trans HB56.out hb7))); have HR7 := Lib.hid hr7; have q7 : (l1.length : Int) ≤ (c7 : Int) := (by have := HLN.out; omega); have HK7 := Lib.hid hk7; clear hb7 hr7 hk7))
  have HSI : Hid (∀ n : Nat, Calls Tryd.prog 9 #[.slice A5 l1.length c5, .slice A7 l1.length c7] ((w7.alloc (.cells #[.string (mkB h2'), .int .i64 v2, .slice A7 l2.length c7, .int .i64 N2] 29)).drewN n) (Quiet (.bool true) ((w7.alloc (.cells #[.string (mkB h2'), .int .i64 v2, .slice A7 l2.length c7, .int .i64 N2] 29)).drewN n))) := fun n => by
    have hr7' : Row w7 A7 (intVs l1) := fun j u hj => HR7.out j u (by
      have := HTK.out
      rw [← this] at hj
      unfold intVs at hj ⊢
      rw [List.map_take, List.getElem?_take] at hj
      split at hj
      · exact hj
      · cases hj)
    have hk := Keeps.of_below (grow_alloc (grow_refl w7) (.cells #[.string (mkB h2'), .int .i64 v2, .slice A7 l2.length c7, .int .i64 N2] 29))
    have := SameInts_any A5 A7 l1 l1 c5 c7 ((w7.alloc (.cells #[.string (mkB h2'), .int .i64 v2, .slice A7 l2.length c7, .int .i64 N2] 29)).drewN n) (HR57.out.keep hk) (hr7'.keep hk) (by have := HL1.out; omega) (by have := HL1.out; omega)
    rwa [beq_self_eq_true] at this
  go_quiet ((go_at_call 9; exact Calls.quiet_of (HSI.out _)))
  go_wp2_with fail
  go_ret
  exact ⟨rfl, grow_drew (grow_alloc HB7.out _) _⟩
set_option maxHeartbeats 8000000 in
set_option maxRecDepth 100000 in
theorem more_same (E : Nat → Addr) (fs : List PFun) (A : Option Addr) (c : Nat) (name : Nm) (args : List Int) (X : Option Addr) (xc : Nat) (ticks more : Int) (w : World) (hE : Laid E w) (hr : RdF w (fun _ => True) fs A) (hX : Row w X (intVs args)) (h : moreOut fs args.length ticks more = false) (hz : (runC fs name args.length 0).1 = 0) (htd : (runP fs name args ticks.toNat).1 ≠ tiredN) :
    Calls Tryd.prog 3 #[.slice A fs.length c, .string (mkB name), .slice X args.length xc, .int .i64 ticks, .int .i64 more] w (Ret (.bool true) w) := by
  obtain ⟨⟨⟨⟨⟨hlg, h2⟩, h3⟩, h4⟩, h5⟩, h6⟩ := more_in h
  obtain ⟨h10, hsm, -, -⟩ := largeP_small (by omega) hlg
  obtain ⟨T, rfl⟩ : ∃ T : Nat, ticks = T := ⟨ticks.toNat, by omega⟩
  obtain ⟨M, rfl⟩ : ∃ M : Nat, more = M := ⟨more.toNat, by omega⟩
  have HS := Lib.hid (ran_any E w hE)
  have HLG : Hid (∀ w', Below w.heap.size w w' → Calls Tryd.prog 6 #[.slice A fs.length c, .int .i64 300] w' (Ret (.int .i64 0) w')) := fun w' hb => by
    have := Large_any fs 300 (by omega) (fun _ => True) A c w' (hr.keep ((Keeps.of_below hb).in _) (fun _ h => h))
    rwa [hlg] at this
  have HAS : Hid (∀ w', Below w.heap.size w w' → Calls Tryd.prog 7 #[.slice A fs.length c] w' fun x w'' => ∃ B d, x = .returned (.slice B fs.length d) ∧ fs.length ≤ d ∧ RdG w'' (newAt w') fs B ∧ Below w'.heap.size w' w'') := fun w' hb =>
    AsFuns_cap fs h10 hsm (fun _ => True) A c w' (hr.keep ((Keeps.of_below hb).in _) (fun _ h => h))
  have g2 : ¬ (8 : Int) < (args.length : Int) := by omega
  have g3 : ¬ (T : Int) < 0 := by omega
  have g4 : ¬ (200 : Int) < (T : Int) := by omega
  have g5 : ¬ (M : Int) < 0 := by omega
  have g6 : ¬ (200 : Int) < (M : Int) := by omega
  have hT : T ≤ 200 := by omega
  have hM : M ≤ 200 := by omega
  have ha : args.length ≤ 8 := by omega
  have HRN : Hid (∀ (t : Nat) (o : Oc) w' B d A' c', runP fs name args t = o → t ≤ 400 → Below w.heap.size w w' → fs.length ≤ d → RdG w' (fun _ => True) fs B → Row w' A' (intVs args) → (∀ a, A' = some a → a.block < w'.heap.size) → Calls Tryd.prog 8 #[.slice B fs.length d, .string (mkB name), .slice A' args.length c', .int .i64 t] w' fun en w'' => ∃ A' c', en = .returned (.tuple #[.agg #[.string (mkB o.1), .int .i64 o.2.1, .slice A' o.2.2.1.length c', .int .i64 o.2.2.2], .nilIface]) ∧ Row w'' A' (intVs o.2.2.1) ∧ o.2.2.1.length ≤ c' ∧ Below w'.heap.size w' w'') := fun t o w' B d A' c' ho ht hb hd hg hX hXl =>
    Run_fine E fs hsm _ B d (by omega) hd name args (by omega) A' c' t w' (hE.keep hb) hg hX hXl (by rw [runC_range (t := 0) (by omega) (by omega)]; exact hz) o ho
  have hmo := runP_more fs name args (T := T) (T' := T + M) (by omega)
  have hti := runP_ticks fs name args (T + M)
  rw [Int.toNat_natCast] at htd
  obtain ⟨o1, ho1⟩ : ∃ o, runP fs name args T = o := ⟨_, rfl⟩
  obtain ⟨o2, ho2⟩ : ∃ o, runP fs name args (T + M) = o := ⟨_, rfl⟩
  rw [ho1, ho2] at hmo
  rw [ho2] at hti
  rw [ho1] at htd
  obtain ⟨m1, m2, m3, m4, m5⟩ := hmo
  have HR1 := Lib.hid (fun w' B d A' c' => HRN.out T o1 w' B d A' c' ho1 (by omega))
  have HR2 : Hid (∀ w' B d A' c', Below w.heap.size w w' → fs.length ≤ d → RdG w' (fun _ => True) fs B → Row w' A' (intVs args) → (∀ a, A' = some a → a.block < w'.heap.size) → Calls Tryd.prog 8 #[.slice B fs.length d, .string (mkB name), .slice A' args.length c', .int .i64 ((T : Int) + (M : Int))] w' fun en w'' => ∃ A' c', en = .returned (.tuple #[.agg #[.string (mkB o2.1), .int .i64 o2.2.1, .slice A' o2.2.2.1.length c', .int .i64 o2.2.2.2], .nilIface]) ∧ Row w'' A' (intVs o2.2.2.1) ∧ o2.2.2.1.length ≤ c' ∧ Below w'.heap.size w' w'') := fun w' B d A' c' hb hd hg hX hXl => by
    have := HRN.out (T + M) o2 w' B d A' c' ho2 (by omega) hb hd hg hX hXl
    rwa [show (((T + M : Nat)) : Int) = (T : Int) + (M : Int) by omega] at this
  obtain ⟨h1, v1, l1, t1⟩ := o1
  obtain ⟨h2', v2, l2, t2⟩ := o2
  simp only at m1 m2 m3 m4 m5 hti htd HR1 HR2
  have hlen := m2.length_le
  have htk : l2.take l1.length = l1 := by obtain ⟨q, rfl⟩ := m2; simp
  obtain ⟨N1, hN1⟩ : ∃ N : Int, (t1 : Int) = N := ⟨_, rfl⟩
  obtain ⟨N2, hN2⟩ : ∃ N : Int, (t2 : Int) = N := ⟨_, rfl⟩
  rw [hN1] at HR1
  rw [hN2] at HR2
  have q1 : ¬ (T : Int) < N1 := by omega
  have q2 : ¬ (T : Int) + (M : Int) < N2 := by omega
  have q3 : ¬ (l2.length : Int) < (l1.length : Int) := by omega
  have q3' : ¬ l2.length < l1.length := by omega
  have q4 : ¬ N2 < N1 := by omega
  have HL1 : Hid (l1.length ≤ 1000 ∧ l2.length ≤ 1000) := ⟨by omega, hti.2⟩
  have HTK := Lib.hid htk
  have HLN := Lib.hid hlen
  have heq := m4 htd
  simp only [Prod.mk.injEq] at heq
  obtain ⟨rfl, rfl, rfl, rfl⟩ := heq
  have hNN : N1 = N2 := hN1.symm.trans hN2
  subst hNN
  have g11 : ((mkB h1).toList != [116, 105, 114, 101, 100]) = true := by rw [mkB_toList]; exact bne_iff_ne.2 htd
  have g12 : ((mkB h1).toList == [116, 105, 114, 101, 100]) = false := by rw [mkB_toList]; exact beq_eq_false_iff_ne.2 htd
  have HN := Lib.hid hN1
  have HX := Lib.hid hX
  clear hr hE hlg hsm hz hX h2 h3 h4 h5 h6 h h10 ho1 ho2 m1 m2 m3 m4 m5 hti htd hlen htk hN1 hN2 HRN
  go_enter Tryd.func3, Tryd.ntmps3
  go_wp2_with (first
    | (go_at_call 5; (with_reducible refine HS.out.mono ?_); rintro x w1 ⟨rfl, hb1⟩)
    | (go_at_call 6; (with_reducible refine (HLG.out _ hb1).mono ?_); rintro x w2 ⟨rfl, hb2⟩)
    | (go_at_call 7; (with_reducible refine (HAS.out _ (grow_trans hb1 hb2)).mono ?_); rintro x w3 ⟨B, d, rfl, hd, hg, hb3⟩; have HG := Lib.hid (hg.keep ((Keeps.refl _).in _) (S' := fun _ => True) (fun _ _ => trivial)); have HB3 := Lib.hid (grow_trans (grow_trans hb1 hb2) hb3); clear hg)
    | (at_builtin; refine wpList_append_ints0 rfl (.tmp 54) (.tmp 55) rfl args rfl X xc rfl (HX.out.keep (Keeps.of_below HB3.out)) (by omega) ?_; intro A4 c4 w4 hr4 hl4 hb4; have HR4 := Lib.hid hr4; have HL4 := Lib.hid hl4; have HB4 := Lib.hid (grow_trans HB3.out hb4); have HG4 := Lib.hid (HG.out.keep ((Keeps.of_below hb4).in _) (fun _ h => h)); clear hr4 hl4 hb4)
    | (go_at_call 8; (with_reducible refine (HR1.out _ _ _ _ _ HB4.out hd HG4.out HR4.out HL4.out).mono ?_); rintro x w5 ⟨A5, c5, rfl, hr5, hc5, hb5⟩; have HB5 := Lib.hid (grow_trans HB4.out hb5); have HG5 := Lib.hid (HG4.out.keep ((Keeps.of_below hb5).in _) (fun _ h => h)); have HR5 := Lib.hid hr5; have HK5 := Lib.hid (heap_alloc_new w5 (.cells #[.string (mkB h1), .int .i64 v1, .slice A5 l1.length c5, .int .i64 N1] 29)); clear hb5 hr5)
    | (at_builtin; refine wpList_append_ints0 rfl (.tmp 64) (.tmp 65) rfl args rfl X xc rfl (HX.out.keep (Keeps.of_below (grow_alloc HB5.out _))) (by omega) ?_; intro A6 c6 w6 hr6 hl6 hb6; have HR6 := Lib.hid hr6; have HL6 := Lib.hid hl6; have HB6 := Lib.hid (grow_trans (grow_alloc HB5.out _) hb6); have HB56 := Lib.hid (grow_trans (grow_alloc (grow_refl w5) _) hb6); have HG6 := Lib.hid (HG5.out.keep ((Keeps.of_below HB56.out).in _) (fun _ h => h)); have HK6 := Lib.hid ((hb6.block _ (by simp)).trans HK5.out); clear hr6 hl6 hb6)
    | (go_at_call 8; (with_reducible refine (HR2.out _ _ _ _ _ HB6.out hd HG6.out HR6.out HL6.out).mono ?_); rintro x w7 ⟨A7, c7, rfl, hr7, hc7, hb7⟩; have hk7 := (hb7.block _ (Array.getElem?_eq_some_iff.1 HK6.out).1).trans HK6.out; obtain ⟨e0, e1, e2, e3⟩ := row4 (((grow_alloc (grow_refl w7) (.cells #[.string (mkB h1), .int .i64 v1, .slice A7 l1.length c7, .int .i64 N1] 29)).block _ (Array.getElem?_eq_some_iff.1 hk7).1).trans hk7); have HB7 := Lib.hid (grow_trans HB6.out hb7); have HR57 := Lib.hid (HR5.out.keep (Keeps.of_below (grow_trans HB56.out hb7))); have HR7 := Lib.hid hr7; have q7 : (l1.length : Int) ≤ (c7 : Int) := (by have := HLN.out; omega); have HK7 := Lib.hid hk7; clear hb7 hr7 hk7))
  have HSI : Hid (∀ n : Nat, Calls Tryd.prog 9 #[.slice A5 l1.length c5, .slice A7 l1.length c7] ((w7.alloc (.cells #[.string (mkB h1), .int .i64 v1, .slice A7 l1.length c7, .int .i64 N1] 29)).drewN n) (Quiet (.bool true) ((w7.alloc (.cells #[.string (mkB h1), .int .i64 v1, .slice A7 l1.length c7, .int .i64 N1] 29)).drewN n))) := fun n => by
    have hr7' : Row w7 A7 (intVs l1) := fun j u hj => HR7.out j u (by
      have := HTK.out
      rw [← this] at hj
      unfold intVs at hj ⊢
      rw [List.map_take, List.getElem?_take] at hj
      split at hj
      · exact hj
      · cases hj)
    have hk := Keeps.of_below (grow_alloc (grow_refl w7) (.cells #[.string (mkB h1), .int .i64 v1, .slice A7 l1.length c7, .int .i64 N1] 29))
    have := SameInts_any A5 A7 l1 l1 c5 c7 ((w7.alloc (.cells #[.string (mkB h1), .int .i64 v1, .slice A7 l1.length c7, .int .i64 N1] 29)).drewN n) (HR57.out.keep hk) (hr7'.keep hk) (by have := HL1.out; omega) (by have := HL1.out; omega)
    rwa [beq_self_eq_true] at this
  go_quiet ((go_at_call 9; exact Calls.quiet_of (HSI.out _)))
  have HSO : Hid (∀ n : Nat, Calls Tryd.prog 10 #[.agg #[.string (mkB h1), .int .i64 v1, .slice A5 l1.length c5, .int .i64 N1], .agg #[.string (mkB h1), .int .i64 v1, .slice A7 l1.length c7, .int .i64 N1]] ((w7.alloc (.cells #[.string (mkB h1), .int .i64 v1, .slice A7 l1.length c7, .int .i64 N1] 29)).drewN n) (Ret (.bool true) ((w7.alloc (.cells #[.string (mkB h1), .int .i64 v1, .slice A7 l1.length c7, .int .i64 N1] 29)).drewN n))) := fun n => by
    have hk := Keeps.of_below (grow_alloc (grow_refl w7) (.cells #[.string (mkB h1), .int .i64 v1, .slice A7 l1.length c7, .int .i64 N1] 29))
    have := SameOutcome_eq (h1, v1, l1, t1) A5 A7 c5 c7 ((w7.alloc (.cells #[.string (mkB h1), .int .i64 v1, .slice A7 l1.length c7, .int .i64 N1] 29)).drewN n) (HR57.out.keep hk) (HR7.out.keep hk) (by have := HL1.out; simp only; omega)
    unfold ocV at this
    simp only at this
    rw [HN.out] at this
    exact this
  go_wp2_with (go_at_call 10; (with_reducible refine (HSO.out _).mono ?_); rintro x w9 ⟨rfl, hb9⟩)
  go_ret
  exact ⟨rfl, grow_trans (grow_drew (grow_alloc HB7.out _) _) hb9⟩
theorem RunMore_walk (E : Nat → Addr) (fs : List PFun) (A : Option Addr) (c : Nat) (name : Nm) (args : List Int) (X : Option Addr) (xc : Nat) (ticks more : Int) (w : World) (hE : Laid E w) (hr : RdF w (fun _ => True) fs A) (hX : Row w X (intVs args)) :
    Calls Tryd.prog 3 #[.slice A fs.length c, .string (mkB name), .slice X args.length xc, .int .i64 ticks, .int .i64 more] w (Ret (.bool true) w) := by
  cases h : moreOut fs args.length ticks more
  · by_cases hz : (runC fs name args.length 0).1 = 0
    · by_cases htd : (runP fs name args ticks.toNat).1 = tiredN
      · exact more_tired E fs A c name args X xc ticks more w hE hr hX h hz htd
      · exact more_same E fs A c name args X xc ticks more w hE hr hX h hz htd
    · exact more_bad E fs A c name args X xc ticks more w hE hr hX h hz
  · exact more_early E fs A c name args X xc ticks more w hE hr h
end Go.Proofs.YteifmgcbafemeaaDoor

namespace Go.Proofs.YteifmgcbafemeaaDoor
open Go.RowKit

/-! check.Vars, Calls -/
theorem strsInfo : (Tryd.prog.info? 37).map (fun i => (i.zero, i.size, i.bytes)) = some (some (.slice none 0 0), 1, 24) := by kernel_rfl
theorem strs_ne_str : (37 : TypeId) ≠ 9 := by decide
theorem expr_ne_str : (43 : TypeId) ≠ 9 := by decide
theorem fun_ne_str : (48 : TypeId) ≠ 9 := by decide
/-- A variable at block q holds a slice of these texts. -/
structure OutAt (base q : Nat) (xs : List Nm) (w : World) : Prop where
  low : base ≤ q
  lt : q < w.heap.size
  cell : ∃ v, w.heap[q]? = some (.cells #[v] 37 (0, 0)) ∧ w.ownsRow base 9 1 v xs.length (strVs xs) ∧ v.ownBlock ≠ some q
theorem OutAt.keep {base q : Nat} {xs : List Nm} {w w' : World} (h : OutAt base q xs w) (hb : Below w.heap.size w w') : OutAt base q xs w' := by
  obtain ⟨v, h1, h2, h3⟩ := h.cell
  exact ⟨h.low, Nat.lt_of_lt_of_le h.lt hb.size, v, (hb.block q h.lt).trans h1, ownsRow_below h2 hb, h3⟩
theorem OutAt.base_le {base q : Nat} {xs : List Nm} {w : World} (h : OutAt base q xs w) : base ≤ w.heap.size := by have := h.low; have := h.lt; omega
structure OutPost (base q : Nat) (xs : List Nm) (w w' : World) : Prop where
  bel : Below base w w'
  kp : KpC q w w'
  out : OutAt base q xs w'
theorem OutPost.below {base q : Nat} {xs : List Nm} {w w' : World} (h : OutAt base q xs w) (hb : Below w.heap.size w w') : OutPost base q xs w w' := ⟨hb.mono h.base_le, KpC.below hb, h.keep hb⟩
theorem OutPost.trans {base q : Nat} {xs ys : List Nm} {w w' w'' : World} (h : OutPost base q xs w w') (k : OutPost base q ys w' w'') : OutPost base q ys w w'' := ⟨h.bel.trans k.bel, h.kp.trans k.kp, k.out⟩
/-- An append to the variable, and the store. -/
theorem out_push {base q : Nat} {xs : List Nm} {x : Nm} {w w0 w' : World} {o : Obj} {v v' : Value} (hw0 : OutAt base q xs w) (hb0 : Below w.heap.size w w0) (hv : w0.heap[q]? = some (.cells #[v] 37 (0, 0))) (hown : w0.ownsRow base 9 1 v xs.length (strVs xs)) (hne : v.ownBlock ≠ some q)
    (h1 : w'.ownsRow base 9 1 v' (xs.length + 1) (strVs xs ++ [.string (mkB x)])) (hg : (w0.alloc o).grownBy w' v.ownBlock) (hat : v'.ownBlock = v.ownBlock ∨ ∃ m, w0.heap.size ≤ m ∧ v'.ownBlock = some m) :
    w'.heap[q]? = some (.cells #[v] 37 (0, 0)) ∧ OutPost base q (xs ++ [x]) w (w'.setCell ⟨q, 0, none⟩ v') := by
  have hq := hw0.lt
  have hs0 := hb0.size
  have hqw : w'.heap[q]? = some (.cells #[v] 37 (0, 0)) := by
    rw [hg.block q (by simp; omega) (fun e => hne e.symm), old_block _ _ (by omega)]; exact hv
  have hne' : v'.ownBlock ≠ some q := by
    rcases hat with e | ⟨m, hm, e⟩
    · rw [e]; exact hne
    · rw [e]; intro e2; simp at e2; omega
  have hbase := hw0.base_le
  have hb' : Below base w w' := Below.grown ((hb0.mono hbase).alloc (by omega) _) hg (by simp; omega) (fun k hk => (hown.lt k hk).1)
  have hkp : KpC q w w' := (KpC.below hb0).trans (KpC.append hown hg)
  refine ⟨hqw, hb'.setCell hw0.low _, hkp.trans (KpC.store q 0 w' _), hw0.low, by have := hg.size; simp at this; simp; omega, v', row_set (j := 0) _ hqw (by simp), ?_, hne'⟩
  rw [strVs_snoc, List.length_append]
  exact setRow_owns _ h1 hne'
theorem pushN_has {xs : List Nm} {x : Nm} (h : xs.contains x = true) : pushN xs x = xs := by unfold pushN; rw [if_pos h]
theorem pushN_new {xs : List Nm} {x : Nm} (h : xs.contains x = false) : pushN xs x = xs ++ [x] := by unfold pushN; rw [if_neg (by rw [h]; decide)]
set_option maxHeartbeats 2000000 in
set_option maxRecDepth 100000 in
theorem calls11_any (base q : Nat) (xs : List Nm) (hxs : xs.length ≤ 10000) (x : Nm) (w : World) (h : OutAt base q xs w) :
    Calls Tryd.prog 23 #[.string (mkB x), .pointer (some ⟨q, 0, none⟩)] w fun e w' => e = .returned (.tuple #[]) ∧ OutPost base q (pushN xs x) w w' := by
  have HB0 : Hid (Below w.heap.size w w) := Below.refl _ _
  have HH := Lib.hid h
  obtain ⟨v, q1, q2, q3⟩ := h.cell
  obtain ⟨A, c, rfl, hrow, -⟩ := owns_Row q2
  have c0 : w.cell? ⟨q, 0, none⟩ = some (.slice A xs.length c) := cell_of_row _ _ 0 _ _ _ q1
  have z0 := row_frozen q1 0
  obtain ⟨i0, hi, hz0, hz1, hz2⟩ := info_parts strInfo2
  have HCN := Lib.hid (has_any xs x A c w hrow (by omega))
  have HO := Lib.hid q2
  have HQ := Lib.hid q1
  have HN := Lib.hid q3
  have hbase := h.base_le
  clear h q1 q2 q3 hrow
  cases hc : xs.contains x
  · rw [hc] at HCN
    have HS := Lib.hid (pushN_new hc)
    clear hc
    go_enter Tryd.func23, Tryd.ntmps23
    go_wp2_with (first
      | (go_at_call 24; (with_reducible refine HCN.out.mono ?_); rintro y w1 ⟨rfl, rfl⟩)
      | (at_builtin; refine wpList_append_own_at _ rfl _ _ 37 rfl base 9 i0 _ 1 16 Tryd.underlying37 hi hz0 hz1 hz2 rfl (by decide) _ _ _ rfl (HO.out.alloc _) ⟨w1.heap.size, 0, none⟩ 1 1 [.string (mkB x)] rfl rfl ?c1 ?c2 ?c3 ?c4 ?c5 ?_))
    case c1 =>
      intro i u hu
      match i, hu with
      | 0, hu => simp at hu; subst hu; simp [Addr.add]
    case c2 => intro u hu; simp at hu; subst hu; rfl
    case c3 => unfold maxLen; omega
    case c4 => omega
    case c5 => simp; omega
    · intro v' w2 hown' hgrow _ hat
      obtain ⟨A', c', rfl⟩ := owns_slice hown'
      obtain ⟨r1, r2⟩ := out_push (x := x) HH.out HB0.out HQ.out HO.out HN.out hown' hgrow (hat.imp id fun e => ⟨_, by simp, e⟩)
      have f0 := cell_of_row _ _ 0 _ _ _ r1
      have y0 := row_frozen r1 0
      have HR := Lib.hid r2
      clear hown' hgrow hat r1 r2 c0 z0
      go_wp2_with fail
      go_end0
      exact ⟨rfl, by rw [HS.out]; exact HR.out⟩
  · rw [hc] at HCN
    have HS := Lib.hid (pushN_has hc)
    clear hc
    go_enter Tryd.func23, Tryd.ntmps23
    go_wp2_with (go_at_call 24; (with_reducible refine HCN.out.mono ?_); rintro y w1 ⟨rfl, rfl⟩)
    go_end0
    exact ⟨rfl, by rw [HS.out]; exact OutPost.below HH.out HB0.out⟩
theorem callK_step {ks : List PExpr} {k : Nat} (h : k < ks.length) (xs : List Nm) : callK (ks.drop k) xs = callK (ks.drop (k + 1)) (callE ks[k] xs) := by
  rw [List.drop_eq_getElem_cons h, callK_cons]
theorem cntK_step {ks : List PExpr} {k : Nat} (h : k < ks.length) : cntK (ks.drop k) = cntE ks[k] + cntK (ks.drop (k + 1)) := by
  rw [List.drop_eq_getElem_cons h, cntK_cons]
set_option maxHeartbeats 4000000 in
set_option maxRecDepth 100000 in
theorem calls_any (base q : Nat) : ∀ e : PExpr, SmE e → ∀ (xs : List Nm), xs.length + cntE e ≤ 10000 → ∀ (A : Option Addr) (c : Nat) (w : World), OutAt base q xs w → RdE w (fun k => k < base) e.kids A →
    Calls Tryd.prog 22 #[exprV e A c, .func (.func 23) #[] #[.pointer (some ⟨q, 0, none⟩)]] w fun r w' => r = .returned (.tuple #[]) ∧ OutPost base q (callE e xs) w w' := by
  intro e
  induction e using PExpr.ind with
  | h e ih =>
  intro hsm xs hxs A c w hw hr
  have h8 := hsm.len
  have hb0 : Below w.heap.size w (w.alloc (exprO e A c)) := grow_alloc (grow_refl _) _
  have HP0 := Lib.hid (OutPost.below hw hb0)
  have HBK := Lib.hid (heap_alloc_new w (exprO e A c))
  have hq : w.heap.size ≠ q := by have := hw.lt; omega
  have HQ := Lib.hid hq
  have IH : Hid (∀ (i : Nat) (hi : i < e.kids.length) (xs : List Nm), xs.length + cntE e.kids[i] ≤ 10000 → ∀ (A : Option Addr) (c : Nat) (w : World), OutAt base q xs w → RdE w (fun k => k < base) e.kids[i].kids A →
    Calls Tryd.prog 22 #[exprV e.kids[i] A c, .func (.func 23) #[] #[.pointer (some ⟨q, 0, none⟩)]] w fun r w' => r = .returned (.tuple #[]) ∧ OutPost base q (callE e.kids[i] xs) w w') :=
    fun i hi => ih _ (List.getElem_mem hi) (hsm.kid _ (List.getElem_mem hi))
  have HR := Lib.hid hr
  have HCE := Lib.hid (callE_eq e xs)
  have HCC := Lib.hid (cntE_eq e)
  have HX := Lib.hid hxs
  clear ih hsm hxs hw hr hb0 hq
  unfold exprV at *
  unfold exprO at *
  go_enter Tryd.func22, Tryd.ntmps22
  go_wp2_with fail
  go_loopw [5, 9] (fun _ i wr => ∃ (k : Nat) (ys : List Nm), k ≤ e.kids.length ∧ i = .int .i64 k ∧ callK e.kids xs = callK (e.kids.drop k) ys ∧ ys.length + cntK (e.kids.drop k) < 10000 ∧ OutPost base q ys w wr ∧ wr.heap[w.heap.size]? = some (exprO e A c)) (fun _ i _ => e.kids.length - (intOf i).toNat)
  case atStart => exact ⟨0, xs, Nat.zero_le _, rfl, by simp, by have := HCC.out; have := HX.out; simp; omega, HP0.out, HBK.out⟩
  case round =>
    obtain ⟨k, ys, hk, rfl, hI, hcn, hp, hbox⟩ := hrel
    have HI := Lib.hid hI
    clear hI
    unfold exprO at hbox
    by_cases hlt : k < e.kids.length
    · obtain ⟨b', off, B, d, rfl, -, hcells, hnum, hkid⟩ := (HR.out.keep (keepsLow hp.bel) (fun _ h => h)).at hlt
      obtain ⟨c0, c1, c2, c3⟩ := cells_expr hcells
      have hlt' : (k : Int) < (e.kids.length : Int) := by omega
      have HS := Lib.hid (callK_step hlt ys)
      have hcs := cntK_step hlt
      have hln := callE_len e.kids[k] ys
      have hal : Below wr.heap.size wr (wr.alloc (exprO e.kids[k] B d)) := grow_alloc (grow_refl _) _
      have hp1 := hp.trans (OutPost.below hp.out hal)
      have hcall := IH.out k hlt ys (by omega) B d _ hp1.out (hkid.keep (keepsLow (hal.mono hp.out.base_le)) (fun _ h => h))
      unfold exprO at hcall hp1
      have HC := Lib.hid hcall
      have HP1 := Lib.hid hp1
      have HBX : Hid ((wr.alloc (exprO e.kids[k] B d)).heap[w.heap.size]? = some (exprO e (some ⟨b', off, none⟩) c)) := show _ = _ from (old_block wr _ (Array.getElem?_eq_some_iff.1 hbox).1).trans hbox
      have HN := Lib.hid (And.intro hcs hln)
      unfold exprO at HBX
      clear hcells hnum hkid hcs hln hal hp hp1 hcall hbox
      go_wp2_with (go_at_call 22; (with_reducible refine HC.out.mono ?_); rintro y w1 ⟨rfl, hp2⟩)
      go_roundw
      case rel => exact ⟨k + 1, callE e.kids[k] ys, by omega, by go_num, HI.out.trans HS.out, by have := HN.out.1; have := HN.out.2; omega, HP1.out.trans hp2, hp2.kp _ _ _ _ HQ.out expr_ne_str HBX.out⟩
      case measure => simp [intOf]; omega
    · have hk' : k = e.kids.length := by omega
      subst hk'
      have hys : callK e.kids xs = ys := by rw [HI.out, List.drop_length, callK_nil]
      have hyl : ys.length ≤ 10000 := by omega
      have d0 := cell_of_row _ _ 0 _ _ _ hbox
      have d2 := cell_of_row _ _ 2 _ _ _ hbox
      have HC := Lib.hid (calls11_any base q ys hyl e.name wr hp.out)
      have HP := Lib.hid hp
      by_cases hcl : e.kind = xCall
      · have t1 : ((mkB e.kind).toList == [99, 97, 108, 108]) = true := by rw [mkB_toList, hcl]; rfl
        have HF : Hid (callE e xs = pushN ys e.name) := show _ = _ by rw [HCE.out, if_pos hcl, hys]
        clear hcl hys hyl hp hbox
        go_wp2_with (go_at_call 23; (with_reducible refine HC.out.mono ?_); rintro y w1 ⟨rfl, hp2⟩)
        go_end0
        exact ⟨rfl, by rw [HF.out]; exact HP.out.trans hp2⟩
      · have t1 : ((mkB e.kind).toList == [99, 97, 108, 108]) = false := by rw [mkB_toList]; exact beq_eq_false_iff_ne.2 hcl
        have HF : Hid (callE e xs = ys) := show _ = _ by rw [HCE.out, if_neg hcl, hys]
        clear hcl hys hyl hp hbox
        go_wp2_with fail
        go_end0
        exact ⟨rfl, by rw [HF.out]; exact HP.out⟩
set_option maxHeartbeats 2000000 in
set_option maxRecDepth 100000 in
theorem calls1_any (base q : Nat) (xs : List Nm) (s : PStmt) (hsm : SmE s.e) (hxs : xs.length + cntE s.e ≤ 10000) (X : Option Addr) (x : Nat) (T : Option Addr) (t : Nat) (L : Option Addr) (l : Nat) (w : World) (h : OutAt base q xs w) (hX : RdE w (fun k => k < base) s.e.kids X) :
    Calls Tryd.prog 21 #[stmtV s X x T t L l, .pointer (some ⟨q, 0, none⟩)] w fun e w' => e = .returned (.tuple #[]) ∧ OutPost base q (stepC s xs) w w' := by
  have hb0 : Below w.heap.size w (w.alloc (stmtO s X x T t L l)) := grow_alloc (grow_refl _) _
  have hp0 := OutPost.below h hb0
  have hc := calls_any base q s.e hsm xs hxs X x _ hp0.out (hX.keep (keepsLow hp0.bel) (fun _ h => h))
  have HP0 := Lib.hid hp0
  unfold exprV at hc
  have HC := Lib.hid hc
  clear hb0 hp0 hc h hX
  unfold stmtV
  unfold stmtO at *
  go_enter Tryd.func21, Tryd.ntmps21
  go_wp2_with (go_at_call 22; (with_reducible refine HC.out.mono ?_); rintro y w1 ⟨rfl, hp2⟩)
  go_end0
  exact ⟨rfl, HP0.out.trans hp2⟩
theorem walkS_step (σ : PStmt → List Nm → List Nm) {ss : List PStmt} {k : Nat} (h : k < ss.length) (xs : List Nm) : walkS σ (ss.drop k) xs = walkS σ (ss.drop (k + 1)) (walkS σ ss[k].el (walkS σ ss[k].th (σ ss[k] xs))) := by
  rw [List.drop_eq_getElem_cons h, walkS_cons, walkT_eq]
theorem cntS_step {ss : List PStmt} {k : Nat} (h : k < ss.length) : cntS (ss.drop k) = cntT ss[k] + cntS (ss.drop (k + 1)) := by
  rw [List.drop_eq_getElem_cons h, cntS_cons]
def WalkC (base q : Nat) (ss : List PStmt) : Prop := ∀ (xs : List Nm), xs.length + cntS ss ≤ 10000 → ∀ (A : Option Addr) (c : Nat) (w : World), OutAt base q xs w → RdS w (fun k => k < base) ss A →
  Calls Tryd.prog 20 #[.slice A ss.length c, .func (.func 21) #[] #[.pointer (some ⟨q, 0, none⟩)]] w fun r w' => r = .returned (.tuple #[]) ∧ OutPost base q (walkS stepC ss xs) w w'
set_option maxHeartbeats 4000000 in
set_option maxRecDepth 100000 in
theorem walkC_list (base q : Nat) (ss : List PStmt) (hlen : ss.length ≤ 30) (hsm : ∀ s ∈ ss, SmS s) (ih : ∀ s ∈ ss, WalkC base q s.th ∧ WalkC base q s.el) : WalkC base q ss := by
  intro xs hxs A c w hw hr
  have HP0 : Hid (OutPost base q xs w w) := OutPost.below hw (Below.refl _ _)
  have HR := Lib.hid hr
  have IH := Lib.hid ih
  have HSM := Lib.hid hsm
  have hq : w.heap.size ≠ q := by have := hw.lt; omega
  clear hr ih hsm hw
  go_enter Tryd.func20, Tryd.ntmps20
  go_wp2_with fail
  go_loopw [5, 8] (fun _ i wr => ∃ (k : Nat) (ys : List Nm), k ≤ ss.length ∧ i = .int .i64 k ∧ walkS stepC ss xs = walkS stepC (ss.drop k) ys ∧ ys.length + cntS (ss.drop k) ≤ 10000 ∧ OutPost base q ys w wr) (fun _ i _ => ss.length - (intOf i).toNat)
  case atStart => exact ⟨0, xs, Nat.zero_le _, rfl, by simp, by simpa using hxs, HP0.out⟩
  case round =>
    obtain ⟨k, ys, hk, rfl, hI, hcn, hp⟩ := hrel
    have HI := Lib.hid hI
    clear hI
    by_cases hlt : k < ss.length
    · obtain ⟨b', off, X, x, T, t, L, l, rfl, -, hcells, hnum, hX, hT, hL⟩ := (HR.out.keep (keepsLow hp.bel) (fun _ h => h)).at hlt
      obtain ⟨c0, c1, c2, c3, c4, c5, c6, c7⟩ := cells_stmt hcells
      have hlt' : (k : Int) < (ss.length : Int) := by omega
      have hst := walkS_step stepC hlt ys
      have hcs := cntS_step hlt
      have hih := IH.out ss[k] (List.getElem_mem hlt)
      have hsm := HSM.out ss[k] (List.getElem_mem hlt)
      obtain ⟨s, hs⟩ : ∃ s, ss[k] = s := ⟨_, rfl⟩
      rw [hs] at hcells hnum hX hT hL c0 c1 c2 c3 c4 c5 c6 c7 hst hcs hih hsm
      have hct := cntT_eq s
      have hl1 := stepC_ok s ys
      have hl2 := walkB_len stepC_ok s.th (stepC s ys)
      have hl3 := walkB_len stepC_ok s.el (walkS stepC s.th (stepC s ys))
      have hal : Below wr.heap.size wr (wr.alloc (stmtO s X x T t L l)) := grow_alloc (grow_refl _) _
      have hp1 := hp.trans (OutPost.below hp.out hal)
      have hkl := keepsLow (hal.mono hp.out.base_le)
      have hqr : wr.heap.size ≠ q := by have := hp.out.lt; omega
      have HBX := Lib.hid (heap_alloc_new wr (stmtO s X x T t L l))
      have HSEE := Lib.hid (calls1_any base q ys s hsm.expr (by omega) X x T t L l _ hp1.out (hX.keep hkl (fun _ h => h)))
      have HTH : Hid (∀ w', OutPost base q (stepC s ys) (wr.alloc (stmtO s X x T t L l)) w' → Calls Tryd.prog 20 #[.slice T s.th.length t, .func (.func 21) #[] #[.pointer (some ⟨q, 0, none⟩)]] w' fun r w'' => r = .returned (.tuple #[]) ∧ OutPost base q (walkS stepC s.th (stepC s ys)) w' w'') := fun w' hb =>
        hih.1 (stepC s ys) (by omega) T t w' hb.out ((hT.keep hkl (fun _ h => h)).keep (keepsLow hb.bel) (fun _ h => h))
      have HEL : Hid (∀ w', OutPost base q (walkS stepC s.th (stepC s ys)) (wr.alloc (stmtO s X x T t L l)) w' → Calls Tryd.prog 20 #[.slice L s.el.length l, .func (.func 21) #[] #[.pointer (some ⟨q, 0, none⟩)]] w' fun r w'' => r = .returned (.tuple #[]) ∧ OutPost base q (walkS stepC s.el (walkS stepC s.th (stepC s ys))) w' w'') := fun w' hb =>
        hih.2 (walkS stepC s.th (stepC s ys)) (by omega) L l w' hb.out ((hL.keep hkl (fun _ h => h)).keep (keepsLow hb.bel) (fun _ h => h))
      have HP1 := Lib.hid hp1
      have HST := Lib.hid hst
      have HNN : Hid ((walkS stepC s.el (walkS stepC s.th (stepC s ys))).length + cntS (ss.drop (k + 1)) ≤ 10000) := show _ ≤ _ by omega
      have HQR := Lib.hid hqr
      unfold stmtV at HSEE
      unfold stmtO at *
      clear hcells hnum hX hT hL hst hcs hih hsm hs hct hl1 hl2 hl3 hal hp hp1 hkl hqr
      go_wp2_with (first
        | (go_at_call 21; (with_reducible refine HSEE.out.mono ?_); rintro y w1 ⟨rfl, hp2⟩; have HK2 := Lib.hid (hp2.kp _ _ _ _ HQR.out stmt_ne_str HBX.out); obtain ⟨d0, d1, d2, d3, d4, d5, d6, d7⟩ := row8 HK2.out; have HP2 := Lib.hid hp2; clear hp2)
        | (go_at_call 20; (with_reducible refine (HTH.out _ HP2.out).mono ?_); rintro y w2 ⟨rfl, hp3⟩; have HK3 := Lib.hid (hp3.kp _ _ _ _ HQR.out stmt_ne_str HK2.out); obtain ⟨e0, e1, e2, e3, e4, e5, e6, e7⟩ := row8 HK3.out; have HP3 := Lib.hid (HP2.out.trans hp3); clear hp3)
        | (go_at_call 20; (with_reducible refine (HEL.out _ HP3.out).mono ?_); rintro y w3 ⟨rfl, hp4⟩))
      go_roundw
      case rel => exact ⟨k + 1, _, by omega, by go_num, HI.out.trans HST.out, HNN.out, HP1.out.trans (HP3.out.trans hp4)⟩
      case measure => simp [intOf]; omega
    · have hk' : k = ss.length := by omega
      subst hk'
      have HF : Hid (walkS stepC ss xs = ys) := show _ = _ by rw [HI.out, List.drop_length, walkS_nil]
      have HP := Lib.hid hp
      clear hp
      go_wp2_with fail
      go_end0
      exact ⟨rfl, by rw [HF.out]; exact HP.out⟩
theorem walkC_any (base q : Nat) (ss : List PStmt) (hlen : ss.length ≤ 30) (hsm : ∀ s ∈ ss, SmS s) : WalkC base q ss := by
  have each : ∀ s : PStmt, SmS s → WalkC base q s.th ∧ WalkC base q s.el := by
    intro s
    induction s using PStmt.ind with
    | h s iht ihl =>
      intro h
      exact ⟨walkC_list base q s.th h.lenT h.kidT fun k hk => iht k hk (h.kidT k hk), walkC_list base q s.el h.lenL h.kidL fun k hk => ihl k hk (h.kidL k hk)⟩
  exact walkC_list base q ss hlen hsm fun s hs => each s (hsm s hs)
end Go.Proofs.YteifmgcbafemeaaDoor

namespace Go.Proofs.YteifmgcbafemeaaDoor
open Go.RowKit

/-- A call that hands texts back. -/
def RetT (xs : List Nm) (w : World) : Ending → World → Prop := fun e w' => ∃ A c, e = .returned (.slice A xs.length c) ∧ Row w' A (strVs xs) ∧ xs.length ≤ c ∧ Below w.heap.size w w'
theorem vars_len {f : PFun} (h : SmF f) (hz : szS f.body 0 < 1000) : (varsP f).length ≤ 1008 := by
  have h1 := walkB_len stepV_ok f.body f.params
  have h2 := cntB_le hz
  have := h.params
  unfold varsP; omega
theorem calls_len {f : PFun} (hz : szS f.body 0 < 1000) : (callsP f).length ≤ 1000 := by
  have h1 := walkB_len stepC_ok f.body []
  have h2 := cntB_le hz
  unfold callsP; simp at h1; omega
theorem out_made {w0 w1 : World} {base : Nat} {xs : List Nm} {v : Value} (hb : base ≤ w0.heap.size) (hb1 : Below w0.heap.size w0 w1) (h : w1.ownsRow w0.heap.size 9 1 v xs.length (strVs xs)) : OutAt base w1.heap.size xs (w1.alloc (.cells #[v] 37)) := by
  have s1 := hb1.size
  have o1 := owned_mono h hb
  exact ⟨by omega, by simp, v, heap_alloc_new w1 _, o1.alloc _, fun e => by have := (o1.lt _ e).2; omega⟩
theorem out_slice {base q : Nat} {xs : List Nm} {w : World} (h : OutAt base q xs w) : ∃ A c, w.cell? ⟨q, 0, none⟩ = some (.slice A xs.length c) ∧ Row w A (strVs xs) ∧ xs.length ≤ c := by
  obtain ⟨v, h1, h2, _⟩ := h.cell
  obtain ⟨A, c, rfl, h3, h4⟩ := owns_Row h2
  exact ⟨A, c, cell_of_row _ _ 0 _ _ _ h1, h3, h4⟩
set_option maxHeartbeats 2000000 in
set_option maxRecDepth 100000 in
theorem Calls_any (f : PFun) (hsm : SmF f) (hz : szS f.body 0 < 1000) (S : Nat → Prop) (P : Option Addr) (p : Nat) (B : Option Addr) (c : Nat) (w : World) (hB : RdS w S f.body B) :
    Calls Tryd.prog 11 #[funV f P p B c] w (RetT (callsP f) w) := by
  have hb0 : Below w.heap.size w (w.alloc (funO f P p B c)) := grow_alloc (grow_refl _) _
  have HBK := Lib.hid (heap_alloc_new w (funO f P p B c))
  have hcn := cntB_le hz
  have HWK : Hid (∀ q w', OutAt (w.heap.size + 1) q [] w' → Below w.heap.size w w' → Calls Tryd.prog 20 #[.slice B f.body.length c, .func (.func 21) #[] #[.pointer (some ⟨q, 0, none⟩)]] w' fun r w'' => r = .returned (.tuple #[]) ∧ OutPost (w.heap.size + 1) q (callsP f) w' w'') := fun q w' ho hb =>
    walkC_any (w.heap.size + 1) q f.body hsm.body hsm.stmts [] (by simp; omega) B c w' ho ((hB.lt.keep ((Keeps.of_below hb).in _) (fun _ h => h)).keep ((Keeps.refl _).in _) (fun k hk => by have := hk.2; omega))
  have HB0 := Lib.hid hb0
  have HO : Hid (OutAt (w.heap.size + 1) (w.heap.size + 1) [] ((w.alloc (funO f P p B c)).alloc (.cells #[.slice none 0 0] 37))) := by
    have := out_made (w0 := w.alloc (funO f P p B c)) (w1 := w.alloc (funO f P p B c)) (base := w.heap.size + 1) (xs := []) (v := .slice none 0 0) (by simp) (Below.refl _ _) (World.ownsRow_nil _ _ _ _)
    rw [show (w.alloc (funO f P p B c)).heap.size = w.heap.size + 1 by simp] at this
    exact this
  have HB1 := Lib.hid (grow_alloc hb0 (.cells #[.slice none 0 0] 37))
  clear hB hb0 hcn
  unfold funV
  unfold funO at *
  go_enter Tryd.func11, Tryd.ntmps11
  go_wp2_with (go_at_call 20; (with_reducible refine (HWK.out _ _ HO.out HB1.out).mono ?_); rintro y w2 ⟨rfl, hp2⟩; obtain ⟨A2, c2, e0, hrow, hcap⟩ := out_slice hp2.out; have HR := Lib.hid hrow; have HP := Lib.hid hp2.bel; clear hp2 hrow)
  go_ret
  exact ⟨A2, c2, rfl, HR.out, hcap, HB1.out.trans (HP.out.mono (by omega))⟩
end Go.Proofs.YteifmgcbafemeaaDoor

namespace Go.Proofs.YteifmgcbafemeaaDoor
open Go.RowKit

theorem prnT_cnt : ∀ s : PStmt, prnT s ≤ cntT s := by
  intro s
  induction s using PStmt.ind with
  | h s iht ihl =>
    have hL : ∀ (ss : List PStmt), (∀ s ∈ ss, prnT s ≤ cntT s) → prnS ss ≤ cntS ss := by
      intro ss
      induction ss with
      | nil => intro _; rw [prnS_nil]; exact Nat.zero_le _
      | cons x xs ih =>
        intro h
        rw [prnS_cons, cntS_cons]
        have h1 := h x (by simp)
        have h2 := ih fun y hy => h y (by simp [hy])
        omega
    have h1 := hL s.th iht
    have h2 := hL s.el ihl
    rw [prnT_eq, cntT_eq]
    split <;> omega
theorem prnS_cnt : ∀ ss : List PStmt, prnS ss ≤ cntS ss := by
  intro ss
  induction ss with
  | nil => rw [prnS_nil]; exact Nat.zero_le _
  | cons x xs ih => rw [prnS_cons, cntS_cons]; have := prnT_cnt x; omega
theorem prnS_drop {ss : List PStmt} {k : Nat} (h : k < ss.length) : prnS (ss.drop k) = prnT ss[k] + prnS (ss.drop (k + 1)) := by
  rw [List.drop_eq_getElem_cons h, prnS_cons]
theorem prnS_le {ss : List PStmt} {k : Nat} (h : k < ss.length) : prnT ss[k] ≤ prnS ss := by
  induction ss generalizing k with
  | nil => simp at h
  | cons x xs ih =>
    rw [prnS_cons]
    cases k with
    | zero => simp
    | succ k => have := ih (k := k) (by simpa using h); simp only [List.getElem_cons_succ]; omega
def CPrn (ss : List PStmt) : Prop := ∀ (S : Nat → Prop) (A : Option Addr) (c : Nat) (w : World), RdS w S ss A → Calls Tryd.prog 12 #[.slice A ss.length c] w (Quiet (.int .i64 (prnS ss)) w)
set_option maxHeartbeats 2000000 in
set_option maxRecDepth 100000 in
theorem prints_list (ss : List PStmt) (hlen : ss.length ≤ 1000) (hp : prnS ss ≤ 100000) (ih : ∀ s ∈ ss, CPrn s.th ∧ CPrn s.el) : CPrn ss := by
  intro S A c w hr
  have HR := Lib.hid hr
  have HIH := Lib.hid ih
  clear hr ih
  go_enter Tryd.func12, Tryd.ntmps12
  go_wp2_with fail
  go_loopw [3, 4] (fun n i wr => ∃ k m q : Nat, k ≤ ss.length ∧ i = .int .i64 k ∧ n = .int .i64 m ∧ m + prnS (ss.drop k) = prnS ss ∧ wr = w.drewN q) (fun _ i _ => ss.length - (intOf i).toNat)
  case atStart => exact ⟨0, 0, 0, Nat.zero_le _, rfl, rfl, by simp, rfl⟩
  case round =>
    obtain ⟨k, m, q, hk, rfl, rfl, hm, hwr⟩ := hrel
    have HW := Lib.hid hwr
    have HR2 : Hid (RdS wr S ss A) := show RdS wr S ss A by rw [HW.out]; exact HR.out.keep ((Keeps.drewN w q).in _) (fun _ h => h)
    clear hwr
    by_cases hlt : k < ss.length
    · obtain ⟨b, off, X, x, T, t, L, l, rfl, -, hcells, hnum, hX, hT, hL⟩ := HR2.out.at hlt
      obtain ⟨c0, c1, c2, c3, c4, c5, c6, c7⟩ := cells_stmt hcells
      have hlt' : (k : Int) < (ss.length : Int) := by omega
      have hd := prnS_drop hlt
      have hle := prnS_le hlt
      have hi := HIH.out ss[k] (List.getElem_mem hlt)
      obtain ⟨s, hs⟩ : ∃ s, ss[k] = s := ⟨_, rfl⟩
      rw [hs] at hcells hnum hX hT hL c0 c1 c2 c3 c4 c5 c6 c7 hd hle hi
      have HT : Hid (∀ n, Calls Tryd.prog 12 #[.slice T s.th.length t] (wr.drewN n) fun e w' => e = .returned (.int .i64 (prnS s.th)) ∧ ∃ m, w' = wr.drewN m) := fun n => Calls.quiet_of (hi.1 S T t (wr.drewN n) (hT.keep ((Keeps.drewN wr n).in _) (fun _ h => h)))
      have HL : Hid (∀ n, Calls Tryd.prog 12 #[.slice L s.el.length l] (wr.drewN n) fun e w' => e = .returned (.int .i64 (prnS s.el)) ∧ ∃ m, w' = wr.drewN m) := fun n => Calls.quiet_of (hi.2 S L l (wr.drewN n) (hL.keep ((Keeps.drewN wr n).in _) (fun _ h => h)))
      rw [prnT_eq] at hd hle
      obtain ⟨a, ha⟩ : ∃ a : Int, ((prnS s.th : Nat) : Int) = a := ⟨_, rfl⟩
      obtain ⟨e, he⟩ : ∃ e : Int, ((prnS s.el : Nat) : Int) = e := ⟨_, rfl⟩
      rw [ha] at HT
      rw [he] at HL
      by_cases hk2 : s.kind = sPrint
      · have g := kind_yes hk2
        unfold sPrint at g
        rw [if_pos hk2] at hd hle
        obtain ⟨n, hn⟩ : ∃ n : Int, (m : Int) = n := ⟨_, rfl⟩
        have w1 : IntKind.i64.wrap (n + 1 + a) = n + 1 + a := IntWalk.i64_in _ (by omega)
        have w2 : IntKind.i64.wrap (n + 1 + a + e) = n + 1 + a + e := IntWalk.i64_in _ (by omega)
        have b0 : 0 ≤ n := by omega
        have b1 : n ≤ 1000000 := by omega
        rw [hn]
        have HA := Lib.hid (And.intro ha (And.intro he hn))
        have HD := Lib.hid (And.intro hd hm)
        clear hcells hnum hX hT hL hs hd hle hi hk2 ha he hn hm
        go_wp2_with fail
        go_quiet ((go_at_call 12; first | with_reducible exact HT.out _ | with_reducible exact HL.out _))
        clear w1 w2
        go_wp2_with fail
        go_roundw
        case rel => exact ⟨k + 1, m + 1 + prnS s.th + prnS s.el, _, by omega, by go_num, by have := HA.out; congr 1; omega, by have := HD.out; omega, by rw [HW.out, World.drewN_drewN]⟩
        case measure => simp [intOf]; omega
      · have g := kind_no hk2
        unfold sPrint at g
        rw [if_neg hk2] at hd hle
        obtain ⟨n, hn⟩ : ∃ n : Int, (m : Int) = n := ⟨_, rfl⟩
        have w1 : IntKind.i64.wrap (n + a) = n + a := IntWalk.i64_in _ (by omega)
        have w2 : IntKind.i64.wrap (n + a + e) = n + a + e := IntWalk.i64_in _ (by omega)
        rw [hn]
        have HA := Lib.hid (And.intro ha (And.intro he hn))
        have HD := Lib.hid (And.intro hd hm)
        clear hcells hnum hX hT hL hs hd hle hi hk2 ha he hn hm
        go_wp2_with fail
        go_quiet ((go_at_call 12; first | with_reducible exact HT.out _ | with_reducible exact HL.out _))
        clear w1 w2
        go_wp2_with fail
        go_roundw
        case rel => exact ⟨k + 1, m + prnS s.th + prnS s.el, _, by omega, by go_num, by have := HA.out; congr 1; omega, by have := HD.out; omega, by rw [HW.out, World.drewN_drewN]⟩
        case measure => simp [intOf]; omega
    · have hk' : k = ss.length := by omega
      rw [hk', List.drop_length, prnS_nil] at hm
      have HM : Hid (m = prnS ss) := show m = _ by omega
      have hnl : ¬ ((k : Int) < (ss.length : Int)) := by omega
      clear hm hk' hlt HR2 hk
      go_wp2_with fail
      go_ret
      rw [HW.out]
      exact Quiet.drew_of _ (by rw [← HM.out]; rfl)
theorem prints_any : ∀ s : PStmt, SmS s → prnS s.th ≤ 100000 → prnS s.el ≤ 100000 → CPrn s.th ∧ CPrn s.el := by
  intro s
  induction s using PStmt.ind with
  | h s iht ihl =>
    intro hs h1 h2
    have down : ∀ (ss : List PStmt), prnS ss ≤ 100000 → ∀ k ∈ ss, prnS k.th ≤ 100000 ∧ prnS k.el ≤ 100000 := fun ss hp k hk => by
      obtain ⟨i, hi, e⟩ := List.mem_iff_getElem.1 hk
      subst e
      have := prnS_le hi
      rw [prnT_eq] at this
      omega
    exact ⟨prints_list s.th (by have := hs.lenT; omega) h1 fun k hk => iht k hk (hs.kidT k hk) (down _ h1 k hk).1 (down _ h1 k hk).2,
      prints_list s.el (by have := hs.lenL; omega) h2 fun k hk => ihl k hk (hs.kidL k hk) (down _ h2 k hk).1 (down _ h2 k hk).2⟩
theorem prints_fun (f : PFun) (hsm : SmF f) (hz : szS f.body 0 < 1000) : CPrn f.body := by
  have hc := cntB_le hz
  have hp : prnS f.body ≤ 100000 := by have := prnS_cnt f.body; omega
  refine prints_list f.body (by have := hsm.body; omega) hp fun s hs => ?_
  obtain ⟨i, hi, e⟩ := List.mem_iff_getElem.1 hs
  subst e
  have := prnS_le hi
  rw [prnT_eq] at this
  exact prints_any _ (hsm.stmts _ hs) (by omega) (by omega)
end Go.Proofs.YteifmgcbafemeaaDoor

namespace Go.Proofs.YteifmgcbafemeaaDoor
open Go.RowKit

/-! functions, appended to one that was just made -/
theorem RdG.tail {w : World} {S : Nat → Prop} {f : PFun} {fs : List PFun} {b off : Nat} (h : RdG w S (f :: fs) (some ⟨b, off, none⟩)) : RdG w S fs (some ⟨b, off + 3, none⟩) := fun i hi => by
  obtain ⟨b', off', P, p, B, c, e, hs, hc, hp, hn, hb⟩ := h (i + 1) (by simp; omega)
  injection e with e
  injection e with e1 e2 e3
  subst e1 e2
  simp only [List.getElem_cons_succ] at hc hp hn hb
  exact ⟨b, off + 3, P, p, B, c, rfl, hs, by rw [show off + 3 + i * 3 = off + (i + 1) * 3 by omega]; exact hc, hp, hn, hb⟩
theorem rdG_fc {w : World} {S : Nat → Prop} {b : Nat} : ∀ (fs : List PFun) (off : Nat), RdG w S fs (some ⟨b, off, none⟩) → ∃ ts : List FC, ts.map (·.f) = fs ∧ (∀ j u, (ts.flatMap FC.cells)[j]? = some u → w.cell? ⟨b, off + j, none⟩ = some u) ∧ ∀ t ∈ ts, t.Ok w S ∧ PrmOk t.f t.P t.p := by
  intro fs
  induction fs with
  | nil => intro off _; exact ⟨[], rfl, fun j u h => by simp at h, fun t h => by cases h⟩
  | cons f fs ih =>
    intro off h
    obtain ⟨ts, h1, h2, h3⟩ := ih (off + 3) h.tail
    obtain ⟨b', off', P, p, B, c, e, hs, hc, hp, hn, hb⟩ := h 0 (by simp)
    injection e with e
    injection e with e1 e2 e3
    subst e1 e2
    simp only [List.getElem_cons_zero] at hc hp hn hb
    refine ⟨⟨f, P, p, B, c⟩ :: ts, by simp [h1], fun j u hj => ?_, fun t ht => ?_⟩
    · rw [List.flatMap_cons] at hj
      have hl : (FC.cells ⟨f, P, p, B, c⟩).length = 3 := rfl
      by_cases hlt : j < 3
      · rw [List.getElem?_append_left (by omega)] at hj
        have := hc j u hj
        simpa using this
      · rw [List.getElem?_append_right (by omega), hl] at hj
        have := h2 _ u hj
        rwa [show off + 3 + (j - 3) = off + j by omega] at this
    · rcases List.mem_cons.1 ht with rfl | ht
      · exact ⟨⟨hp, hb⟩, hn⟩
      · exact h3 t ht
theorem fc_len (ts : List FC) : (ts.flatMap FC.cells).length = ts.length * 3 := by
  induction ts with
  | nil => rfl
  | cons t ts ih => rw [List.flatMap_cons, List.length_append, ih, show (FC.cells t).length = 3 from rfl, List.length_cons]; omega
theorem fc_one (ts : List FC) : ∀ u ∈ ts.flatMap FC.cells, u.oneCell' = true := by
  intro u hu
  obtain ⟨t, _, h⟩ := List.mem_flatMap.1 hu
  unfold FC.cells funL at h
  simp only [List.mem_cons, List.not_mem_nil, or_false] at h
  rcases h with rfl | rfl | rfl <;> rfl
def zzC (q : Nat) : FC := ⟨zzF, none, 0, some ⟨q, 0, none⟩, 1⟩
def zzO1 : Obj := .cells (stmtL zzS none 0 none 0 none 0).toArray 46
def zzO2 (q : Nat) : Obj := .cells (zzC q).cells.toArray 48
theorem own_zz {w : World} {S : Nat → Prop} {fs : List PFun} {A : Option Addr} {q : Nat} (hg : RdG w S fs A) (hS : ∀ n, S n → n < q) (h0 : 0 < fs.length)
    (hb : w.heap[q]? = some (.cells (stmtL zzS none 0 none 0 none 0).toArray 46 (0, 0))) (hr : w.heap[q + 1]? = some (.cells (zzC q).cells.toArray 48 (0, 0))) :
    ∃ ad news, A = some ad ∧ news.length = fs.length * 3 ∧ (∀ j u, news[j]? = some u → w.cell? (ad.add j) = some u) ∧ (∀ u ∈ news, u.oneCell' = true) ∧ w.ownsRow 0 48 3 (.slice (some ⟨q + 1, 0, none⟩) 1 1) 1 (zzC q).cells ∧
      ∀ v' w', w'.ownsRow 0 48 3 v' (1 + fs.length) ((zzC q).cells ++ news) → w.grownBy w' (some (q + 1)) → (v'.ownBlock = some (q + 1) ∨ v'.ownBlock = some w.heap.size) →
        ∃ A' c', v' = .slice A' (fs.length + 1) c' ∧ fs.length + 1 ≤ c' ∧ RdG w' (fun _ => True) (zzF :: fs) A' := by
  obtain ⟨b, off, P, p, B, c, rfl, -⟩ := hg 0 h0
  obtain ⟨ts, rfl, h2, h3⟩ := rdG_fc fs off hg.lt
  refine ⟨_, ts.flatMap FC.cells, rfl, by rw [fc_len, List.length_map], fun j u hj => by
    have := h2 j u hj
    by_cases hj0 : j = 0
    · subst hj0; simpa [Addr.add] using this
    · simpa [Addr.add, hj0] using this, fc_one ts, ⟨rfl, .inr ⟨q + 1, 1, _, rfl, Nat.zero_le _, hr, Nat.le_refl _, by decide, rfl, rfl⟩⟩, fun v' w' g1 g2 hat => ?_⟩
  have hk : KeepsIn (fun n => Apart 0 (.slice (some ⟨q + 1, 0, none⟩) 1 1) n ∧ n < w.heap.size) w w' := fun a u hs hc => g2.cell hc hs.1.2
  have hq := (Array.getElem?_eq_some_iff.1 hr).1
  have hz : (zzC q).Ok w (fun n => Apart 0 (.slice (some ⟨q + 1, 0, none⟩) 1 1) n ∧ n < w.heap.size) :=
    ⟨fun i hi => by simp [zzC, zzF] at hi, ⟨[zzS], some ⟨q, 0, none⟩, q, 0, fun _ => none, fun _ => none, fun _ => none, fun _ => 0, fun _ => 0, fun _ => 0, fun _ => ⟨rfl, ⟨Nat.zero_le _, by show some q ≠ some (q + 1); simp⟩, by omega⟩,
      fun i hi => by
        have : i = 0 := by simp at hi; omega
        subst this
        intro j u hj
        have := cell_of_row w q j _ _ _ hb
        rw [List.getElem?_toArray] at this
        simp only [Nat.zero_mul, Nat.zero_add]
        exact this.trans hj,
      fun i hi => by
        have : i = 0 := by simp at hi; omega
        subst this
        exact show okN 1 from ⟨by decide, by decide⟩, fun i hi => by
        have : i = 0 := by simp at hi; omega
        subst this
        exact RdE.nil _ _ _, fun i hi => by
        have : i = 0 := by simp at hi; omega
        subst this
        exact RdS.nil _ _ _, fun i hi => by
        have : i = 0 := by simp at hi; omega
        subst this
        exact RdS.nil _ _ _⟩⟩
  have ho : OwnF w' 0 v' (zzF :: ts.map (·.f)) := by
    refine ⟨zzC q :: ts, rfl, ?_, fun t ht => ?_, fun t ht => ?_⟩
    · rw [List.flatMap_cons, List.length_cons, Nat.add_comm]
      rw [List.length_map] at g1
      exact g1
    · have hw := apart_own (w1 := w) (v := .slice (some ⟨q + 1, 0, none⟩) 1 1) (base := 0) hat (Nat.le_refl _)
      rcases List.mem_cons.1 ht with rfl | ht
      · exact hz.keep hk hw
      · exact ((h3 t ht).1.keep (S' := fun n => Apart 0 (.slice (some ⟨q + 1, 0, none⟩) 1 1) n ∧ n < w.heap.size) ((Keeps.refl w).in _) (fun n hn => ⟨⟨Nat.zero_le _, by have := hS n hn.1; show some n ≠ some (q + 1); simp; omega⟩, hn.2⟩)).keep hk hw
    · rcases List.mem_cons.1 ht with rfl | ht
      · exact ⟨fun _ => rfl, by simp [zzC, zzF]⟩
      · exact (h3 t ht).2
  obtain ⟨A', c', hv, hc, hrd⟩ := ho.rd
  exact ⟨A', c', hv, hc, hrd.keep ((Keeps.refl _).in _) fun _ _ => trivial⟩
end Go.Proofs.YteifmgcbafemeaaDoor
