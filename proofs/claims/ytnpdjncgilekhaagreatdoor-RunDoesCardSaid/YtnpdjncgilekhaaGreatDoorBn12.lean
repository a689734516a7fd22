import Derived.Test.YtnpdjncgilekhaaGreatDoorBn11
namespace Go.Proofs.YtnpdjncgilekhaaGreatDoor
open Go.RowKit

/-! what a program that is well has, for its run -/
/-- An expression: small, bare, whom it calls has so many parameters. -/
inductive WfE (t : Tab) : PExpr → Prop
  | mk (e : PExpr) (hs : e.kids.length ≤ 8 ∧ e.name.length ≤ 20) (hb : bareB e = true) (hc : e.kind = xCall → argsOf t e.name = some e.kids.length) (hk : ∀ k ∈ e.kids, WfE t k) : WfE t e
theorem WfE.small {t : Tab} {e : PExpr} (h : WfE t e) : e.kids.length ≤ 8 ∧ e.name.length ≤ 20 := by cases h; assumption
theorem WfE.bare {t : Tab} {e : PExpr} (h : WfE t e) : bareB e = true := by cases h; assumption
theorem WfE.call {t : Tab} {e : PExpr} (h : WfE t e) : e.kind = xCall → argsOf t e.name = some e.kids.length := by cases h; assumption
theorem WfE.kid {t : Tab} {e : PExpr} (h : WfE t e) : ∀ k ∈ e.kids, WfE t k := by cases h; assumption
theorem wfE_of {t : Tab} {vis : List Nm} : ∀ e : PExpr, SmE e → exprC t vis e = 0 → WfE t e := by
  intro e
  induction e using PExpr.ind with
  | h e ih =>
    intro hs h
    rw [exprC_eq] at h
    split at h
    · rename_i hb
      split at h
      · rename_i hk
        refine ⟨e, ⟨hs.len, hs.nameLen⟩, hb, fun hc => ?_, fun k hkm => ih k hkm (hs.kid k hkm) ((kidsC_ok e.kids).1 hk k hkm)⟩
        unfold selfC at h
        rw [if_neg (by rw [hc]; decide), if_pos hc, callC_ok] at h
        exact h
      · rename_i hk; exact absurd h hk
    · cases h
/-- A statement: small, shaped, whose names are of L. -/
inductive WfS (t : Tab) (L : List Nm) : PStmt → Prop
  | mk (s : PStmt) (hs : s.name.length ≤ 20 ∧ s.th.length ≤ 30 ∧ s.el.length ≤ 30) (hb : shapedB s.kind s.name s.th.length s.el.length = true) (he : WfE t s.e) (hn : s.kind = sVar ∨ s.kind = sSet → s.name ∈ L) (ht : ∀ k ∈ s.th, WfS t L k) (hl : ∀ k ∈ s.el, WfS t L k) : WfS t L s
section
variable {t : Tab} {L : List Nm} {s : PStmt}
theorem WfS.small (h : WfS t L s) : s.name.length ≤ 20 ∧ s.th.length ≤ 30 ∧ s.el.length ≤ 30 := by cases h; assumption
theorem WfS.shaped (h : WfS t L s) : shapedB s.kind s.name s.th.length s.el.length = true := by cases h; assumption
theorem WfS.expr (h : WfS t L s) : WfE t s.e := by cases h; assumption
theorem WfS.name (h : WfS t L s) : s.kind = sVar ∨ s.kind = sSet → s.name ∈ L := by cases h; assumption
theorem WfS.kidT (h : WfS t L s) : ∀ k ∈ s.th, WfS t L k := by cases h; assumption
theorem WfS.kidL (h : WfS t L s) : ∀ k ∈ s.el, WfS t L k := by cases h; assumption
end
def SubN (a b : List Nm) : Prop := ∀ y ∈ a, y ∈ b
theorem SubN.refl (a : List Nm) : SubN a a := fun _ h => h
theorem SubN.trans {a b c : List Nm} (h : SubN a b) (k : SubN b c) : SubN a c := fun y hy => k y (h y hy)
structure StmWf (t : Tab) (s : PStmt) (all vis : List Nm) : Prop where
  wf : WfS t (stmtC t s all vis).2.1 s
  mono : SubN all (stmtC t s all vis).2.1
  vis : SubN (stmtC t s all vis).2.2 (stmtC t s all vis).2.1
structure BlkWf (t : Tab) (ss : List PStmt) (all vis : List Nm) : Prop where
  wf : ∀ s ∈ ss, WfS t (blockC t ss all vis).2 s
  mono : SubN all (blockC t ss all vis).2
theorem WfS.wide {t : Tab} {L L' : List Nm} (hL : SubN L L') : ∀ s : PStmt, WfS t L s → WfS t L' s := by
  intro s
  induction s using PStmt.ind with
  | h s iht ihl => intro h; exact ⟨s, h.small, h.shaped, h.expr, fun q => hL _ (h.name q), fun k hk => iht k hk (h.kidT k hk), fun k hk => ihl k hk (h.kidL k hk)⟩
theorem blkWf_of {t : Tab} : ∀ (ss : List PStmt), (∀ s ∈ ss, SmS s ∧ ∀ all vis, (stmtC t s all vis).1 = 0 → SubN vis all → StmWf t s all vis) → ∀ all vis, (blockC t ss all vis).1 = 0 → SubN vis all → BlkWf t ss all vis := by
  intro ss
  induction ss with
  | nil => intro _ all vis _ _; exact ⟨fun s hs => (by cases hs), by rw [blockC_nil]; exact SubN.refl _⟩
  | cons s ss ih =>
    intro h all vis h0 hv
    rw [blockC_cons] at h0
    split at h0
    · rename_i hz
      have h1 := (h s (by simp)).2 all vis hz hv
      have h2 := ih (fun x hx => h x (by simp [hx])) _ _ h0 h1.vis
      have e : blockC t (s :: ss) all vis = blockC t ss (stmtC t s all vis).2.1 (stmtC t s all vis).2.2 := by rw [blockC_cons, if_pos hz]
      refine ⟨fun x hx => ?_, ?_⟩
      · rw [e]
        rcases List.mem_cons.1 hx with rfl | hx
        · exact h1.wf.wide h2.mono
        · exact h2.wf x hx
      · rw [e]; exact h1.mono.trans h2.mono
    · rename_i hz; exact absurd h0 hz
theorem stmWf_of {t : Tab} (s : PStmt) (hs : SmS s) (hT : ∀ all vis, (blockC t s.th all vis).1 = 0 → SubN vis all → BlkWf t s.th all vis) (hL : ∀ all vis, (blockC t s.el all vis).1 = 0 → SubN vis all → BlkWf t s.el all vis) (all vis : List Nm) (h : (stmtC t s all vis).1 = 0) (hv : SubN vis all) : StmWf t s all vis := by
  have hsm : s.name.length ≤ 20 ∧ s.th.length ≤ 30 ∧ s.el.length ≤ 30 := ⟨hs.name, hs.lenT, hs.lenL⟩
  rw [stmtC_eq] at h
  by_cases hb : shapedB s.kind s.name s.th.length s.el.length = true
  · rw [if_pos hb] at h
    by_cases he : exprC t vis s.e = 0
    · rw [if_pos he] at h
      have hw := wfE_of s.e hs.expr he
      by_cases hk : s.kind = sVar
      · rw [if_pos hk] at h
        have e : stmtC t s all vis = addC s.name all vis := by rw [stmtC_eq, if_pos hb, if_pos he, if_pos hk]
        have h2 := hb
        rw [hk] at h2
        obtain ⟨h3, h4⟩ := shaped_var h2
        have e2 : addC s.name all vis = (0, all ++ [s.name], vis ++ [s.name]) := by
          unfold addC at h ⊢
          split
          · rename_i q; rw [if_pos q] at h; cases h
          · rename_i q
            rw [if_neg q] at h
            split
            · rename_i q2; rw [if_pos q2] at h; cases h
            · rfl
        refine ⟨?_, ?_, ?_⟩
        · rw [e, e2]
          exact ⟨s, hsm, hb, hw, fun _ => by simp, fun k hk => (by rw [List.length_eq_zero_iff.1 h3] at hk; cases hk), fun k hk => (by rw [List.length_eq_zero_iff.1 h4] at hk; cases hk)⟩
        · rw [e, e2]; intro y hy; simp [hy]
        · rw [e, e2]; intro y hy
          simp only [List.mem_append, List.mem_singleton] at hy ⊢
          rcases hy with hy | hy
          · exact .inl (hv y hy)
          · exact .inr hy
      · rw [if_neg hk] at h
        by_cases hset : s.kind = sSet ∧ vis.contains s.name = false
        · rw [if_pos hset] at h; cases h
        · rw [if_neg hset] at h
          by_cases hz : (blockC t s.th all vis).1 = 0
          · rw [if_pos hz] at h
            have h1 := hT all vis hz hv
            have h2 := hL (blockC t s.th all vis).2 vis h (hv.trans h1.mono)
            have e : stmtC t s all vis = ((blockC t s.el (blockC t s.th all vis).2 vis).1, (blockC t s.el (blockC t s.th all vis).2 vis).2, vis) := by
              rw [stmtC_eq, if_pos hb, if_pos he, if_neg hk, if_neg hset, if_pos hz]
            have hm := h1.mono.trans h2.mono
            refine ⟨?_, ?_, ?_⟩
            · rw [e]
              refine ⟨s, hsm, hb, hw, fun q => ?_, fun k hkm => (h1.wf k hkm).wide h2.mono, fun k hkm => h2.wf k hkm⟩
              rcases q with q | q
              · exact absurd q hk
              · have : vis.contains s.name = true := by
                  cases hc : vis.contains s.name
                  · exact absurd ⟨q, hc⟩ hset
                  · rfl
                exact hm _ (hv _ (by simpa using this))
            · rw [e]; exact hm
            · rw [e]; exact hv.trans hm
          · rw [if_neg hz] at h; exact absurd h hz
    · rw [if_neg he] at h; exact absurd h he
  · rw [if_neg hb] at h; cases h
theorem stmWf_any {t : Tab} : ∀ s : PStmt, SmS s → ∀ all vis, (stmtC t s all vis).1 = 0 → SubN vis all → StmWf t s all vis := by
  intro s
  induction s using PStmt.ind with
  | h s iht ihl =>
    intro hs
    exact stmWf_of s hs (blkWf_of s.th fun k hk => ⟨hs.kidT k hk, iht k hk (hs.kidT k hk)⟩) (blkWf_of s.el fun k hk => ⟨hs.kidL k hk, ihl k hk (hs.kidL k hk)⟩)
/-- A function: small; its names are of L. -/
structure WfF (t : Tab) (f : PFun) : Prop where
  small : SmF f
  four : f.params.length ≤ 4
  body : ∃ L : List Nm, L.length ≤ 12 ∧ SubN f.params L ∧ ∀ s ∈ f.body, WfS t L s
theorem wfF_of {t : Tab} {a : List PFun} {f : PFun} (hs : SmF f) (h : funC t a f = 0) : WfF t f := by
  obtain ⟨h1, h2⟩ := funC_ok.1 h
  obtain ⟨_, _, h3, _⟩ := namesC_ok.1 h1
  have hb := blkWf_of f.body (fun s hm => ⟨hs.stmts s hm, stmWf_any s (hs.stmts s hm)⟩) f.params f.params h2 (SubN.refl _)
  have hl := leftB_any t f.body f.params f.params
  exact ⟨hs, h3, _, hl.2.1 (by omega), hb.mono, hb.wf⟩
theorem wfF_prog {fs : List PFun} (hs : ∀ f ∈ fs, SmF f) (h : (progC fs).1 = 0) : ∀ f ∈ fs, WfF (tabOf fs) f := fun f hf => by
  obtain ⟨i, hi, e⟩ := List.mem_iff_getElem.1 hf
  subst e
  exact wfF_of (hs _ hf) ((progC_ok.1 h).2 i hi)
/-- Whom the table has is there. -/
theorem find_there {fs : List PFun} {n : Nm} {k : Nat} (h : argsOf (tabOf fs) n = some k) : ∃ f, findF fs n = some f ∧ f ∈ fs ∧ f.name = n ∧ f.params.length = k := by
  unfold argsOf tabOf findF at *
  induction fs with
  | nil => cases h
  | cons f fs ih =>
    rw [List.map_cons, List.find?_cons] at h
    rw [List.find?_cons]
    by_cases hf : (f.name == n) = true
    · have hf' : f.name = n := by simpa using hf
      simp only [hf, Option.map_some, Option.some.injEq] at h
      simp only [hf]
      exact ⟨f, rfl, by simp, hf', h⟩
    · simp only [Bool.not_eq_true] at hf
      simp only [hf] at h ⊢
      obtain ⟨g, h1, h2, h3⟩ := ih h
      exact ⟨g, h1, by simp [h2], h3⟩
end Go.Proofs.YtnpdjncgilekhaaGreatDoor

namespace Go.Proofs.YtnpdjncgilekhaaGreatDoor
open Go.RowKit

/-! machine.over, machine.tick -/
section
variable {base m fb nf T : Nat} {F : Nm → Option Value}
theorem MaAt.fb_ne {d : Nat} {st : St} {v : Value} {w : World} (h : MaAt base m fb nf T F d st v w) : fb ≠ m := by
  obtain ⟨D, ⟨es, clock, h1, _⟩, _⟩ := h.funs
  intro e
  rw [e, h.blk] at h1
  cases h1
theorem Mv.refl {base : Nat} {S : List Nat} {v : Value} {w : World} : Mv base S v v w w := ⟨Below.refl _ _, fun _ _ _ _ => rfl, .inl rfl⟩
theorem Mv.store {base : Nat} {S : List Nat} {v : Value} {w : World} {p j : Nat} {u : Value} (hb : base ≤ p) (hp : p ∈ S) : Mv base S v v w (w.setCell ⟨p, j, none⟩ u) :=
  ⟨(Below.refl base w).setCell hb _, fun k _ hk _ => Below.heap_setCell _ _ _ _ (fun e => hk (by simp only at e; rw [e]; exact hp)), .inl rfl⟩
/-- The machine's cells. -/
def maL (fb T d : Nat) (st : St) (v : Value) : Array Value := #[.map (some fb), .string (mkB st.how), .int .i64 0, v, .int .i64 st.ticks, .int .i64 ((T - st.ticks : Nat) : Int), .int .i64 d]
/-- A cell of the machine is stored. -/
theorem MaAt.store {d d' : Nat} {st st' : St} {v : Value} {w : World} (h : MaAt base m fb nf T F d st v w) {j : Nat} (u : Value)
    (hc : maL fb T d' st' v = (maL fb T d st v).setIfInBounds j u) (ho : st'.out = st.out) (ht : st'.ticks ≤ T) : MaAt base m fb nf T F d' st' v (w.setCell ⟨m, j, none⟩ u) := by
  refine ⟨h.low, row_set (j := j) u h.blk hc, ?_, h.funs.keep (Below.heap_setCell _ _ _ _ h.fb_ne), ht, by rw [ho]; exact h.out, h.fbl⟩
  rw [ho]; exact setRow_owns u h.own h.own_m
theorem row7 {w : World} {q : Nat} {v0 v1 v2 v3 v4 v5 v6 : Value} {T : TypeId} {fz : Nat × Nat} (hrow : w.heap[q]? = some (.cells #[v0, v1, v2, v3, v4, v5, v6] T fz)) :
    w.cell? ⟨q, 0, none⟩ = some v0 ∧ w.cell? ⟨q, 1, none⟩ = some v1 ∧ w.cell? ⟨q, 2, none⟩ = some v2 ∧ w.cell? ⟨q, 3, none⟩ = some v3 ∧ w.cell? ⟨q, 4, none⟩ = some v4 ∧ w.cell? ⟨q, 5, none⟩ = some v5 ∧ w.cell? ⟨q, 6, none⟩ = some v6 :=
  ⟨cell_of_row _ _ 0 _ _ _ hrow, cell_of_row _ _ 1 _ _ _ hrow, cell_of_row _ _ 2 _ _ _ hrow, cell_of_row _ _ 3 _ _ _ hrow, cell_of_row _ _ 4 _ _ _ hrow, cell_of_row _ _ 5 _ _ _ hrow, cell_of_row _ _ 6 _ _ _ hrow⟩
theorem over_any {d : Nat} {st : St} {v : Value} {w : World} (h : MaAt base m fb nf T F d st v w) :
    Calls Tryz.prog 42 #[.pointer (some ⟨m, 0, none⟩)] w fun e w' => e = .returned (.bool st.over) ∧ w = w' := by
  have c1 := (row7 h.blk).2.1
  clear h
  obtain ⟨how, out, ticks⟩ := st
  cases how with
  | nil =>
    have e : St.over ⟨[], out, ticks⟩ = false := rfl
    rw [e]
    rw [show (mkB (St.how ⟨[], out, ticks⟩)) = (⟨#[]⟩ : ByteArray) from rfl] at c1
    clear e
    go_enter Tryz.func42, Tryz.ntmps42
    go_wp2_with fail
    go_ret
    exact ⟨rfl, rfl⟩
  | cons x xs =>
    have e : St.over ⟨x :: xs, out, ticks⟩ = true := rfl
    rw [e]
    obtain ⟨s, hs⟩ : ∃ s, mkB (St.how ⟨x :: xs, out, ticks⟩) = s := ⟨_, rfl⟩
    have e1 : (s.toList.isEmpty) = false := by rw [← hs, mkB_toList]; rfl
    rw [hs] at c1
    clear e hs
    go_enter Tryz.func42, Tryz.ntmps42
    go_wp2_with fail
    go_ret
    exact ⟨rfl, rfl⟩
/-- Two cells of the machine are stored. -/
theorem MaAt.store2 {d d' : Nat} {st st' : St} {v : Value} {w : World} (h : MaAt base m fb nf T F d st v w) {j k : Nat} (u u' : Value)
    (hc : maL fb T d' st' v = ((maL fb T d st v).setIfInBounds j u).setIfInBounds k u') (ho : st'.out = st.out) (ht : st'.ticks ≤ T) : MaAt base m fb nf T F d' st' v ((w.setCell ⟨m, j, none⟩ u).setCell ⟨m, k, none⟩ u') := by
  refine ⟨h.low, row_set (j := k) u' (row_set (j := j) u h.blk rfl) hc, ?_, (h.funs.keep (Below.heap_setCell _ _ _ _ h.fb_ne)).keep (Below.heap_setCell _ _ _ _ h.fb_ne), ht, by rw [ho]; exact h.out, h.fbl⟩
  rw [ho]; exact setRow_owns u' (setRow_owns u h.own h.own_m) h.own_m
theorem tick_any {d : Nat} {st : St} {v : Value} {w : World} (h : MaAt base m fb nf T F d st v w) (hT : T ≤ 5000) :
    Calls Tryz.prog 59 #[.pointer (some ⟨m, 0, none⟩)] w fun e w' => e = .returned (.bool (decide (st.ticks < T))) ∧ MaAt base m fb nf T F d (tickP T st) v w' ∧ Mv base [m] v v w w' := by
  obtain ⟨c0, c1, c2, c3, c4, c5, c6⟩ := row7 h.blk
  have z1 := row_frozen h.blk 1
  have z4 := row_frozen h.blk 4
  have z5 := row_frozen h.blk 5
  have ht := h.ticks
  have hlow := h.low
  by_cases hl : st.ticks < T
  · have hd : decide (st.ticks < T) = true := decide_eq_true hl
    rw [hd]
    have hst : tickP T st = { st with ticks := st.ticks + 1 } := by unfold tickP; rw [if_pos hl]
    rw [hst]
    obtain ⟨n, hn⟩ : ∃ n : Int, ((T - st.ticks : Nat) : Int) = n := ⟨_, rfl⟩
    have hn1 : 1 ≤ n := by omega
    have hn2 : n ≤ 5000 := by omega
    have hn3 : (n == 0) = false := beq_eq_false_iff_ne.2 (by omega)
    have HS : Hid (MaAt base m fb nf T F d { st with ticks := st.ticks + 1 } v ((w.setCell ⟨m, 5, none⟩ (.int .i64 (n - 1))).setCell ⟨m, 4, none⟩ (.int .i64 (st.ticks + 1)))) :=
      h.store2 _ _ (by unfold maL; simp; omega) rfl (by simp; omega)
    rw [hn] at c5
    have t5 : (st.ticks : Int) ≤ 5000 := by omega
    have HLO := Lib.hid hlow
    clear hn hl hd hst h ht c0 c1 c2 c3 c6 hlow
    go_enter Tryz.func59, Tryz.ntmps59
    go_wp2_with fail
    go_ret
    refine ⟨rfl, ?_, (Mv.store HLO.out (by simp)).trans (Mv.store HLO.out (by simp))⟩
    exact HS.out
  · have hd : decide (st.ticks < T) = false := decide_eq_false hl
    rw [hd]
    have hst : tickP T st = { st with how := tiredN } := by unfold tickP; rw [if_neg hl]
    rw [hst]
    have hn : ((T - st.ticks : Nat) : Int) = 0 := by omega
    have HS : Hid (MaAt base m fb nf T F d { st with how := tiredN } v (w.setCell ⟨m, 1, none⟩ (.string (mkB tiredN)))) :=
      h.store _ (by unfold maL; simp) rfl ht
    rw [hn] at c5
    have HLO := Lib.hid hlow
    clear hn hl hd hst h ht c0 c2 c3 c4 c6 hlow
    go_enter Tryz.func59, Tryz.ntmps59
    go_wp2_with fail
    go_ret
    exact ⟨rfl, HS.out, Mv.store HLO.out (by simp)⟩
end
end Go.Proofs.YtnpdjncgilekhaaGreatDoor
