import Derived.Test.YtgoifbkogboppaaDoorBn5
set_option linter.unusedVariables false
set_option linter.unusedSimpArgs false
namespace Go.Proofs.YtgoifbkogboppaaDoor
open Go.RowKit

/-! a machine with more ticks; with a function, and a word, behind all others -/
structure Less (a b : PMs) : Prop where
  out : a.out <+: b.out
  ticks : a.ticks ≤ b.ticks
theorem Less.refl (a : PMs) : Less a a := ⟨List.prefix_refl _, Nat.le_refl _⟩
theorem Less.trans {a b c : PMs} (h : Less a b) (k : Less b c) : Less a c := ⟨h.out.trans k.out, Nat.le_trans h.ticks k.ticks⟩
theorem less_tick (T : Nat) (s : PMs) : Less s (tickM T s) := by
  unfold tickM
  split
  · exact ⟨List.prefix_refl _, by simp⟩
  · exact ⟨List.prefix_refl _, Nat.le_refl _⟩
theorem less_print (n : Int) (s : PMs) : Less s (printM n s) := by
  unfold printM
  split
  · exact ⟨List.prefix_refl _, Nat.le_refl _⟩
  · exact ⟨List.prefix_append _ _, Nat.le_refl _⟩
theorem less_enter (fs : List PFn) (T k d : Nat) (args : List Int) (s : PMs) : Less s (enterM fs T k d args s) := by
  have h := less_tick T s
  unfold enterM
  split
  · exact h
  · split
    · exact ⟨h.out, h.ticks⟩
    · exact ⟨h.out, h.ticks⟩
theorem less_top (x : PFr) (s : PMs) : Less s (topM x s) := ⟨List.prefix_refl _, Nat.le_refl _⟩
theorem less_end (how : Txt) (s : PMs) : Less s (endM how s) := ⟨List.prefix_refl _, Nat.le_refl _⟩
theorem less_back (v : Int) (s : PMs) : Less s (backM v s) := by
  unfold backM
  split <;> exact ⟨List.prefix_refl _, Nat.le_refl _⟩
theorem less_stepI (fs : List PFn) (T : Nat) (i : PIns) (x : PFr) (s : PMs) : Less s (stepI fs T i x s) := by
  unfold stepI flowP moveP
  repeat (first | exact less_tick _ _ | exact less_print _ _ | exact less_top _ _ | exact less_back _ _ | exact Less.refl _ | exact (less_top _ _).trans (less_enter _ _ _ _ _ _) | exact (less_top _ _).trans (less_end _ _) | exact less_end _ _ | split)
theorem less_step (m : PImg) (T : Nat) (s : PMs) : Less s (stepM m T s) := by
  unfold stepM
  split
  · exact less_end _ _
  · exact (less_top _ _).trans (less_stepI _ _ _ _ _)
theorem less_run (m : PImg) (T : Nat) : ∀ (n : Nat) (s b : PMs), runN m T n s = some b → Less s b := by
  intro n
  induction n with
  | zero =>
    intro s b h
    unfold runN at h
    split at h
    · cases h; exact Less.refl _
    · cases h
  | succ n ih =>
    intro s b h
    unfold runN at h
    split at h
    · cases h; exact Less.refl _
    · exact (less_step m T s).trans (ih _ _ h)
theorem run_over {m : PImg} {T n : Nat} {s : PMs} (h : s.over = true) : runN m T n s = some s := by cases n <;> (unfold runN; rw [if_pos h])
theorem run_ends {m : PImg} {T : Nat} : ∀ {n : Nat} {s b : PMs}, runN m T n s = some b → b.over = true := by
  intro n
  induction n with
  | zero =>
    intro s b h
    unfold runN at h
    split at h
    · rename_i ho; cases h; exact ho
    · cases h
  | succ n ih =>
    intro s b h
    unfold runN at h
    split at h
    · rename_i ho; cases h; exact ho
    · exact ih h
/-- The one ended tired where the other goes on. -/
structure Tired (s a : PMs) : Prop where
  how : a.how = tiredT
  out : a.out = s.out
  ticks : a.ticks = s.ticks
  val : a.val = s.val
theorem Tired.over {s a : PMs} (h : Tired s a) : a.over = true := by unfold PMs.over; rw [h.how]; rfl
theorem more_tick {T T' : Nat} (h : T ≤ T') (s : PMs) : tickM T s = tickM T' s ∨ Tired s (tickM T s) := by
  unfold tickM
  by_cases h1 : s.ticks < T
  · rw [if_pos h1, if_pos (by omega)]; exact .inl rfl
  · rw [if_neg h1]; exact .inr ⟨rfl, rfl, rfl, rfl⟩
theorem more_enter {T T' : Nat} (h : T ≤ T') (fs : List PFn) (k d : Nat) (args : List Int) (s : PMs) : enterM fs T k d args s = enterM fs T' k d args s ∨ Tired s (enterM fs T k d args s) := by
  rcases more_tick h s with e | e
  · unfold enterM; rw [e]; exact .inl rfl
  · right
    unfold enterM
    rw [if_pos e.over]
    exact e
theorem more_stepI {T T' : Nat} (h : T ≤ T') (fs : List PFn) (i : PIns) (x : PFr) (s : PMs) : stepI fs T i x s = stepI fs T' i x s ∨ Tired s (stepI fs T i x s) := by
  unfold stepI
  split
  · unfold flowP
    split
    · exact more_tick h s
    · split
      · exact .inl rfl
      · split
        · exact .inl rfl
        · split
          · exact .inl rfl
          · split
            · exact .inl rfl
            · split
              · rcases more_enter h fs i.imm.toNat i.d.toNat x.next (topM { x with next := zero4 } s) with e | e
                · exact .inl e
                · exact .inr ⟨e.how, e.out, e.ticks, e.val⟩
              · exact .inl rfl
  · exact .inl rfl
theorem more_step {m : PImg} {T T' : Nat} (h : T ≤ T') (s : PMs) : stepM m T s = stepM m T' s ∨ Tired s (stepM m T s) := by
  unfold stepM
  split
  · exact .inl rfl
  · rcases more_stepI h m.funs (insP (m.words.getD s.top.pc 0)) { s.top with pc := s.top.pc + 1 } (topM { s.top with pc := s.top.pc + 1 } s) with e | e
    · exact .inl e
    · exact .inr ⟨e.how, e.out, e.ticks, e.val⟩
theorem more_run {m : PImg} {T T' : Nat} (h : T ≤ T') : ∀ {n : Nat} {s b : PMs}, runN m T' n s = some b → ∃ a, runN m T n s = some a ∧ (a = b ∨ a.how = tiredT ∧ Less a b) := by
  intro n
  induction n with
  | zero =>
    intro s b hb
    refine ⟨b, ?_, .inl rfl⟩
    unfold runN at hb ⊢
    exact hb
  | succ n ih =>
    intro s b hb
    by_cases ho : s.over = true
    · rw [run_over ho] at hb
      cases hb
      exact ⟨s, run_over ho, .inl rfl⟩
    · unfold runN at hb ⊢
      rw [if_neg ho] at hb ⊢
      rcases more_step h s with e | e
      · rw [e]; exact ih hb
      · refine ⟨_, run_over e.over, .inr ⟨e.how, ?_⟩⟩
        have h1 := (less_step m T' s).trans (less_run m T' n _ _ hb)
        exact ⟨by rw [e.out]; exact h1.out, by rw [e.ticks]; exact h1.ticks⟩
theorem more_mach {m : PImg} {T T' : Nat} (h : T ≤ T') {k n : Nat} {args : List Int} {b : PMs} (hb : machP m k args T' n = some b) : ∃ a, machP m k args T n = some a ∧ (a = b ∨ a.how = tiredT ∧ Less a b) := by
  unfold machP at hb ⊢
  rcases more_enter h m.funs k 0 (args4 args) Ms0 with e | e
  · unfold startM at hb ⊢
    rw [e]
    exact more_run h hb
  · unfold startM at hb ⊢
    refine ⟨_, run_over e.over, .inr ⟨e.how, ?_⟩⟩
    exact ⟨by rw [e.out]; exact List.nil_prefix, by rw [e.ticks]; exact Nat.zero_le _⟩

/-! a function, and a word, behind all others -/
def zzT : Txt := [122, 122]
def zzFn : PFn := ⟨zzT, 0, 0, 0⟩
def tickW : Int := 648518346341351424
def moreI (m : PImg) : PImg := ⟨m.funs ++ [zzFn], m.words ++ [tickW]⟩
theorem tickW_ok : errW tickW = 0 ∧ (insP tickW).op = tickT := by decide
theorem far_more {nw nf nw' nf' : Nat} (h1 : nw ≤ nw') (h2 : nf ≤ nf') {i : PIns} (h : farW nw nf i = false) : farW nw' nf' i = false := by
  unfold farW at h ⊢
  unfold mostW at h ⊢
  split at h
  · rename_i q
    rw [if_pos q]
    simp at h ⊢
    omega
  · rename_i q
    rw [if_neg q]
    split at h
    · rename_i q2
      rw [if_pos q2]
      simp at h ⊢
      omega
    · rename_i q2
      rw [if_neg q2]
      exact h
theorem word_more {nw nf nw' nf' : Nat} (h1 : nw ≤ nw') (h2 : nf ≤ nf') {v : Int} (h : wordC nw nf v = 0) : wordC nw' nf' v = 0 := by
  unfold wordC at h ⊢
  split at h
  · rename_i q; exact absurd h q
  · rename_i q
    rw [if_neg q]
    cases hf : farW nw nf (insP v)
    · rw [far_more h1 h2 hf]; rfl
    · rw [hf] at h; simp at h
theorem fn_more {nw nw' : Nat} (h1 : nw ≤ nw') {l : List PFn} {f : PFn} (h : fnC nw l f = 0) : fnC nw' l f = 0 := by
  obtain ⟨a, b, c, d⟩ := fn_ok h
  unfold fnC
  rw [d]
  simp only [Bool.false_eq_true, if_false]
  rw [if_neg (by omega), if_neg (by omega)]
theorem good_more {m : PImg} (hg : GoodI m) (h8 : m.funs.length < 8) (hw : m.words.length < 8000) (hz : ∀ f ∈ m.funs, f.name ≠ zzT) : GoodI (moreI m) := by
  refine ⟨by simp [moreI]; omega, by simp [moreI]; omega, fun k hk => ?_, fun k hk => ?_⟩
  · simp only [moreI, List.length_append, List.length_singleton] at hk ⊢
    by_cases hk2 : k < m.funs.length
    · rw [List.getElem_append_left hk2, List.take_append_of_le_length (by omega)]
      exact fn_more (by omega) (hg.funs k hk2)
    · have e : k = m.funs.length := by omega
      subst e
      rw [List.getElem_append_right (Nat.le_refl _)]
      simp only [Nat.sub_self, List.getElem_cons_zero]
      rw [List.take_append_of_le_length (Nat.le_refl _), List.take_length]
      have hn : fnameB m.funs zzFn = false := by
        unfold fnameB
        rw [show zzFn.name.isEmpty = false from rfl, Bool.false_or, List.any_eq_false]
        intro g hg2
        simpa [zzFn] using hz g hg2
      unfold fnC
      rw [hn]
      simp [zzFn]
  · simp only [moreI, List.length_append, List.length_singleton] at hk ⊢
    by_cases hk2 : k < m.words.length
    · rw [List.getElem_append_left hk2]
      exact word_more (by omega) (by omega) (hg.words k hk2)
    · have e : k = m.words.length := by omega
      subst e
      rw [List.getElem_append_right (Nat.le_refl _)]
      simp only [Nat.sub_self, List.getElem_cons_zero]
      unfold wordC farW mostW
      rw [tickW_ok.1, tickW_ok.2]
      rfl
theorem stepI_more {m : PImg} {T : Nat} {i : PIns} (hi : InsOk m i) (x : PFr) (s : PMs) : stepI (moreI m).funs T i x s = stepI m.funs T i x s := by
  unfold stepI
  split
  · rename_i hf
    unfold flowP
    split
    · rfl
    · split
      · rfl
      · split
        · rfl
        · split
          · rfl
          · split
            · rfl
            · rename_i h1 h2 h3 h4 h5
              have ho : i.op = callT := by
                unfold flowB at hf
                simpa [h1, h2, h3, h4, h5] using hf
              have hc := hi.call ho
              have e : (moreI m).funs.getD i.imm.toNat fn0 = m.funs.getD i.imm.toNat fn0 := by
                rw [List.getD_eq_getElem?_getD, List.getD_eq_getElem?_getD]
                unfold moreI
                rw [List.getElem?_append_left (by omega)]
              unfold enterM
              rw [e]
  · rfl
theorem run_more {m : PImg} {T : Nat} (hg : GoodI m) : ∀ {n : Nat} {s b : PMs}, MsOk m T s → runN m T n s = some b → b.how ≠ stuckT → runN (moreI m) T n s = some b := by
  intro n
  induction n with
  | zero =>
    intro s b _ hb _
    unfold runN at hb ⊢
    exact hb
  | succ n ih =>
    intro s b hs hb hn
    by_cases ho : s.over = true
    · rw [run_over ho] at hb ⊢; exact hb
    · unfold runN at hb ⊢
      rw [if_neg ho] at hb ⊢
      simp only [Bool.not_eq_true] at ho
      have hst := hs.step hg ho
      by_cases hp : m.words.length ≤ s.top.pc
      · exfalso
        have e : stepM m T s = endM stuckT s := by unfold stepM; rw [if_pos hp]
        rw [e, run_over (over_end stuckT (by decide))] at hb
        cases hb
        exact hn rfl
      · have e : stepM (moreI m) T s = stepM m T s := by
          have hp' : s.top.pc < m.words.length := by omega
          have hw : (moreI m).words.getD s.top.pc 0 = m.words[s.top.pc] := by
            rw [List.getD_eq_getElem?_getD]
            unfold moreI
            rw [List.getElem?_append_left hp', List.getElem?_eq_getElem hp']
            rfl
          have hw' : m.words.getD s.top.pc 0 = m.words[s.top.pc] := by rw [List.getD_eq_getElem?_getD, List.getElem?_eq_getElem hp']; rfl
          unfold stepM
          rw [if_neg hp, if_neg (by unfold moreI; simp; omega), hw, hw']
          exact stepI_more (ins_ok hg hp') _ _
        rw [e]
        exact ih hst hb hn
theorem mach_more {m : PImg} {T : Nat} (hg : GoodI m) {k n : Nat} (hk : k < m.funs.length) {args : List Int} (h6 : ∀ n ∈ args, I64 n) {b : PMs} (hb : machP m k args T n = some b) (hn : b.how ≠ stuckT) : machP (moreI m) k args T n = some b := by
  unfold machP at hb ⊢
  have e : startM (moreI m) T k args = startM m T k args := by
    unfold startM enterM
    have : (moreI m).funs.getD k fn0 = m.funs.getD k fn0 := by
      rw [List.getD_eq_getElem?_getD, List.getD_eq_getElem?_getD]
      unfold moreI
      rw [List.getElem?_append_left hk]
    rw [this]
  rw [e]
  exact run_more hg (start_ok hg hk h6) hb hn
end Go.Proofs.YtgoifbkogboppaaDoor
