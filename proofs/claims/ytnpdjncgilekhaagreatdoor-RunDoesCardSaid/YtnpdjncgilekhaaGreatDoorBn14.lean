import Derived.Test.YtnpdjncgilekhaaGreatDoorBn13
namespace Go.Proofs.YtnpdjncgilekhaaGreatDoor
open Go.RowKit

/-! the whole of a frame; machine.call -/
section
variable (E : Nat → Addr) (fs : List PFun) (base m fb nf T : Nat) (F : Nm → Option Value)
theorem expr_each (call : Caller) (hg : GoC T call) (t : Tab) (d x b : Nat) (hcl : CCall E fs base m fb nf T F call t d) : ∀ e : PExpr, WfE t e → CExprR E fs base m fb nf T F call d x b e := by
  intro e
  induction e using PExpr.ind with
  | h e ih => intro hw; exact expr_any E fs base m fb nf T F call hg t d x b hcl e hw (values_list E fs base m fb nf T F call hg d x b e.kids hw.small.1 fun k hk => ih k hk (hw.kid k hk))
theorem stmt_any (hT : T ≤ 5000) (call : Caller) (hg : GoC T call) (t : Tab) (d x b : Nat) (N : List Nm) (hN12 : N.length ≤ 12) (s : PStmt) (hwf : WfS t N s) (hqe : CExprR E fs base m fb nf T F call d x b s.e) (hqt : CBlockR E fs base m fb nf T F call d x b N s.th) (hql : CBlockR E fs base m fb nf T F call d x b N s.el) : CStmtR E fs base m fb nf T F call d x b N s := by
  by_cases hw : s.kind = sWhile
  · exact stmt_while E fs base m fb nf T F call d x b N s hw (loop_any E fs base m fb nf T F hT call hg d x b N s hqe hqt)
  · intro fr st v X xc H h L l w hN hE hM hF hX hH hL
    cases hro : (evalP call fr.vars s.e st).2.over
    · by_cases h1 : s.kind = sVar ∨ s.kind = sSet
      · exact stmt_put E fs base m fb nf T F call hg t d x b N s hwf hN12 hqe hqt hql hw h1 fr st v X xc H h L l w hN hE hM hF hX hH hL hro
      · by_cases h2 : s.kind = sPrint
        · exact stmt_print E fs base m fb nf T F call hg t d x b N s hwf hN12 hqe hqt hql hw h2 fr st v X xc H h L l w hN hE hM hF hX hH hL hro
        · by_cases h3 : s.kind = sReturn
          · exact stmt_return E fs base m fb nf T F call hg t d x b N s hwf hN12 hqe hqt hql hw h3 fr st v X xc H h L l w hN hE hM hF hX hH hL hro
          · have h4 : s.kind = sIf := by
              have := hwf.shaped
              unfold shapedB at this
              rw [if_neg h1] at this
              by_cases h4 : s.kind = sIf
              · exact h4
              · rw [if_neg h4, if_neg hw, if_neg (fun q => by rcases q with q | q; exact h3 q; exact h2 q)] at this; cases this
            by_cases hc : (evalP call fr.vars s.e st).1 = 0
            · exact stmt_else E fs base m fb nf T F call hg t d x b N s hwf hN12 hqe hqt hql hw h4 fr st v X xc H h L l w hN hE hM hF hX hH hL hro hc
            · exact stmt_then E fs base m fb nf T F call hg t d x b N s hwf hN12 hqe hqt hql hw h4 fr st v X xc H h L l w hN hE hM hF hX hH hL hro hc
    · exact stmt_over E fs base m fb nf T F call hg t d x b N s hwf hN12 hqe hqt hql hw fr st v X xc H h L l w hN hE hM hF hX hH hL hro
theorem stmt_each (hT : T ≤ 5000) (call : Caller) (hg : GoC T call) (t : Tab) (d x b : Nat) (N : List Nm) (hN12 : N.length ≤ 12) (hcl : CCall E fs base m fb nf T F call t d) : ∀ s : PStmt, WfS t N s → CStmtR E fs base m fb nf T F call d x b N s := by
  intro s
  induction s using PStmt.ind with
  | h s iht ihl =>
    intro hw
    exact stmt_any E fs base m fb nf T F hT call hg t d x b N hN12 s hw (expr_each E fs base m fb nf T F call hg t d x b hcl s.e hw.expr)
      (block_list E fs base m fb nf T F call d x b N s.th hw.small.2.1 fun k hk => iht k hk (hw.kidT k hk)) (block_list E fs base m fb nf T F call d x b N s.el hw.small.2.2 fun k hk => ihl k hk (hw.kidL k hk))
theorem block_any (hT : T ≤ 5000) (call : Caller) (hg : GoC T call) (t : Tab) (d x b : Nat) (N : List Nm) (hN12 : N.length ≤ 12) (hcl : CCall E fs base m fb nf T F call t d) (ss : List PStmt) (hlen : ss.length ≤ 30) (hw : ∀ s ∈ ss, WfS t N s) : CBlockR E fs base m fb nf T F call d x b N ss :=
  block_list E fs base m fb nf T F call d x b N ss hlen fun s hs => stmt_each E fs base m fb nf T F hT call hg t d x b N hN12 hcl s (hw s hs)
end
theorem bindP_step : ∀ (ps : List Nm) (l : List Int) (vs : Vs) (k : Nat) (h : k < ps.length) (h' : k < l.length), bindP (ps.take (k + 1)) l vs = putV (bindP (ps.take k) l vs) ps[k] l[k] := by
  intro ps
  induction ps with
  | nil => intro l vs k h; simp at h
  | cons p ps ih =>
    intro l vs k h h'
    cases l with
    | nil => simp at h'
    | cons a l =>
      cases k with
      | zero => simp [bindP]
      | succ k =>
        have := ih l (putV vs p a) k (by simpa using h) (by simpa using h')
        simpa [bindP] using this
theorem zeroFun (w : World) : (zeroValue 39).run Tryz.prog w = .ok (.agg #[.string ⟨#[]⟩, .slice none 0 0, .slice none 0 0]) w := by kernel_rfl
section
variable {base m fb nf T : Nat} {F : Nm → Option Value}
theorem deep_up {d : Nat} {st : St} {v : Value} {w : World} (h : MaAt base m fb nf T F d st v w) : MaAt base m fb nf T F (d + 1) st v (w.setCell ⟨m, 6, none⟩ (.int .i64 (d + 1))) := h.store _ (by unfold maL; simp) rfl h.ticks
theorem deep_down {d : Nat} {st : St} {v : Value} {w : World} (h : MaAt base m fb nf T F (d + 1) st v w) : MaAt base m fb nf T F d st v (w.setCell ⟨m, 6, none⟩ (.int .i64 d)) := h.store _ (by unfold maL; simp) rfl h.ticks
theorem cell_same {w w' : World} {p : Addr} {v : Value} (h : w.cell? p = some v) (e : w'.heap[p.block]? = w.heap[p.block]?) : w'.cell? p = some v := (World.cell?_of_block e).trans h
theorem callP_over {fs : List PFun} {T d : Nat} {name : Nm} {l : List Int} {st : St} (h : st.over = true) : callP fs T d name l st = (0, st) := by
  cases d with
  | zero => unfold callP; rw [if_pos h]
  | succ d => unfold callP; rw [if_pos h]
theorem callP_tired {fs : List PFun} {T d : Nat} {name : Nm} {l : List Int} {st : St} (h : st.over = false) (ht : ¬ st.ticks < T) : callP fs T d name l st = (0, tickP T st) := by
  have ho : (tickP T st).over = true := by unfold tickP; rw [if_neg ht]; rfl
  cases d with
  | zero => unfold callP; rw [if_neg (by rw [h]; decide), if_pos ho]
  | succ d => unfold callP; rw [if_neg (by rw [h]; decide), if_pos ho]
theorem callP_deep {fs : List PFun} {T : Nat} {name : Nm} {l : List Int} {st : St} (h : st.over = false) (ht : st.ticks < T) : callP fs T 0 name l st = (0, { tickP T st with how := deepN }) := by
  unfold callP; rw [if_neg (by rw [h]; decide), if_neg (by rw [tick_over h ht]; decide)]
theorem callP_body {fs : List PFun} {T d : Nat} {name : Nm} {l : List Int} {st : St} {f : PFun} (h : st.over = false) (ht : st.ticks < T) (hf : findF fs name = some f) : callP fs T (d + 1) name l st = bodyP (callP fs T d) T f l (tickP T st) := by
  rw [callP, if_neg (by rw [h]; decide), if_neg (by rw [tick_over h ht]; decide), hf]
end
set_option maxHeartbeats 4000000 in
set_option maxRecDepth 100000 in
theorem call_over (E : Nat → Addr) (fs : List PFun) (base m fb nf T : Nat) (F : Nm → Option Value) (hT : T ≤ 5000) (t : Tab) (d : Nat) (name : Nm) (l : List Int) (st : St) (v : Value) (A : Option Addr) (c : Nat) (w : World) (hM : MaAt base m fb nf T F d st v w) (ho : st.over = true) :
    Calls Tryz.prog 41 #[.pointer (some ⟨m, 0, none⟩), .string (mkB name), .slice A l.length c] w fun en w' => ∃ n : Int, en = .returned (.int .i64 n) ∧ ((callP fs T (40 - d) name l st).2.over = false → n = (callP fs T (40 - d) name l st).1) ∧ MvTo base m fb nf T F d [m] (callP fs T (40 - d) name l st).2 v w w' := by
  rw [callP_over ho]
  have hov := over_any hM
  rw [ho] at hov
  have HOV := Lib.hid hov
  have HM := Lib.hid hM
  clear hov hM
  go_enter Tryz.func41, Tryz.ntmps41
  go_wp2_with (go_at_call 42; (with_reducible refine HOV.out.mono ?_); rintro y w1 ⟨rfl, rfl⟩)
  go_ret
  exact ⟨0, rfl, fun _ => rfl, v, HM.out, Mv.refl⟩
set_option maxHeartbeats 4000000 in
set_option maxRecDepth 100000 in
theorem call_tired (E : Nat → Addr) (fs : List PFun) (base m fb nf T : Nat) (F : Nm → Option Value) (hT : T ≤ 5000) (t : Tab) (d : Nat) (name : Nm) (l : List Int) (st : St) (v : Value) (A : Option Addr) (c : Nat) (w : World) (hM : MaAt base m fb nf T F d st v w) (ho : st.over = false) (ht : ¬ st.ticks < T) :
    Calls Tryz.prog 41 #[.pointer (some ⟨m, 0, none⟩), .string (mkB name), .slice A l.length c] w fun en w' => ∃ n : Int, en = .returned (.int .i64 n) ∧ ((callP fs T (40 - d) name l st).2.over = false → n = (callP fs T (40 - d) name l st).1) ∧ MvTo base m fb nf T F d [m] (callP fs T (40 - d) name l st).2 v w w' := by
  rw [callP_tired ho ht]
  have hov := over_any hM
  have htk := tick_any hM hT
  rw [ho] at hov
  rw [decide_eq_false ht] at htk
  have HOV := Lib.hid hov
  have HTK := Lib.hid htk
  clear hov hM htk ht ho
  go_enter Tryz.func41, Tryz.ntmps41
  go_wp2_with (first
    | (go_at_call 42; (with_reducible refine HOV.out.mono ?_); rintro y w1 ⟨rfl, rfl⟩)
    | (go_at_call 59; (with_reducible refine HTK.out.mono ?_); rintro y w2 ⟨rfl, hma2, hmv2⟩; have HMA2 := Lib.hid hma2; have HMV2 := Lib.hid hmv2; clear hma2 hmv2))
  go_ret
  exact ⟨0, rfl, fun _ => rfl, v, HMA2.out, HMV2.out⟩
set_option maxHeartbeats 4000000 in
set_option maxRecDepth 100000 in
theorem call_deep (E : Nat → Addr) (fs : List PFun) (base m fb nf T : Nat) (F : Nm → Option Value) (hT : T ≤ 5000) (t : Tab) (name : Nm) (l : List Int) (st : St) (v : Value) (A : Option Addr) (c : Nat) (w : World) (hM : MaAt base m fb nf T F 40 st v w) (ho : st.over = false) (ht : st.ticks < T) :
    Calls Tryz.prog 41 #[.pointer (some ⟨m, 0, none⟩), .string (mkB name), .slice A l.length c] w fun en w' => ∃ n : Int, en = .returned (.int .i64 n) ∧ ((callP fs T 0 name l st).2.over = false → n = (callP fs T 0 name l st).1) ∧ MvTo base m fb nf T F 40 [m] (callP fs T 0 name l st).2 v w w' := by
  rw [callP_deep ho ht]
  have hov := over_any hM
  have htk := tick_any hM hT
  rw [ho] at hov
  rw [decide_eq_true ht] at htk
  have HOV := Lib.hid hov
  have HTK := Lib.hid htk
  clear hov hM htk ht ho
  go_enter Tryz.func41, Tryz.ntmps41
  go_wp2_with (first
    | (go_at_call 42; (with_reducible refine HOV.out.mono ?_); rintro y w1 ⟨rfl, rfl⟩)
    | (go_at_call 59; (with_reducible refine HTK.out.mono ?_); rintro y w2 ⟨rfl, hma2, hmv2⟩; obtain ⟨c0, c1, c2, c3, c4, c5, c6⟩ := row7 hma2.blk; have z1 := row_frozen hma2.blk 1; have HMA2 := Lib.hid hma2; have HMV2 := Lib.hid hmv2; clear hma2 hmv2))
  go_ret
  exact ⟨0, rfl, fun _ => rfl, v, HMA2.out.store (.string (mkB deepN)) (by unfold maL; simp) rfl HMA2.out.ticks, HMV2.out.trans (Mv.store HMA2.out.low (by simp))⟩
set_option maxHeartbeats 4000000 in
set_option maxRecDepth 100000 in
theorem call_body (E : Nat → Addr) (fs : List PFun) (base m fb nf T : Nat) (F : Nm → Option Value) (hT : T ≤ 5000) (d : Nat) (hd : d < 40) (call : Caller) (name : Nm) (l : List Int) (st : St) (v : Value) (A : Option Addr) (c : Nat) (w : World) (hE : Ctx E fs F base w) (hM : MaAt base m fb nf T F d st v w) (hA : Row w A (intVs l)) (hAm : ∀ a, A = some a → a.block ≠ m ∧ v.ownBlock ≠ some a.block)
    (hn : name.length ≤ 20) (f : PFun) (hf : findF fs name = some f) (hp : f.params.length = l.length) (hp4 : f.params.length ≤ 4) (N : List Nm) (hN12 : N.length ≤ 12) (hPN : SubN f.params N) (hpn : ∀ p ∈ f.params, p.length ≤ 20) (hbk : ∀ x b, CBlockR E fs base m fb nf T F call (d + 1) x b N f.body) (ho : st.over = false) (ht : st.ticks < T) :
    Calls Tryz.prog 41 #[.pointer (some ⟨m, 0, none⟩), .string (mkB name), .slice A l.length c] w fun en w' => ∃ n : Int, en = .returned (.int .i64 n) ∧ ((bodyP call T f l (tickP T st)).2.over = false → n = (bodyP call T f l (tickP T st)).1) ∧ MvTo base m fb nf T F d [m] (bodyP call T f l (tickP T st)).2 v w w' := by
  have hov := over_any hM
  have htk := tick_any hM hT
  rw [ho] at hov
  rw [decide_eq_true ht] at htk
  obtain ⟨P, p, B, c', hF, hP, hB⟩ := hE.funs name f hf
  have hmm := @run_makeMap Tryz.prog
  have HGET : Hid (∀ w', MaAt base m fb nf T F (d + 1) (tickP T st) v w' → (Instr.lookup 84 (.map (some fb)) (.string (mkB name)) false).run Tryz.prog w' = .ok (.agg #[.string (mkB f.name), .slice P f.params.length p, .slice B f.body.length c']) w') := fun w' h => by
    have := h.funs.get Tryz.underlying84 (zeroFun w') name (by omega)
    rw [hF] at this
    exact this
  have hbl := hM.base_le
  have hne40 : (((d : Nat) : Int) == 40) = false := beq_eq_false_iff_ne.2 (by omega)
  have HOV := Lib.hid hov
  have HTK := Lib.hid htk
  have HM := Lib.hid hM
  have HD := Lib.hid hd
  have hd1 : (d : Int) ≤ 40 := by omega
  have hd0 : (0 : Int) ≤ d := by omega
  have HA := Lib.hid hA
  have HAM := Lib.hid hAm
  have HE := Lib.hid hE
  have HP := Lib.hid hP
  have HB := Lib.hid hB
  have HBK := Lib.hid hbk
  have HPL := Lib.hid hp
  have HPN := Lib.hid hpn
  have HPS := Lib.hid hPN
  clear hov hM htk ht ho hE hA hAm hn hf hF hP hB hbk hp hpn hPN hd
  go_enter Tryz.func41, Tryz.ntmps41
  go_wp2_with (first
    | (go_at_call 42; (with_reducible refine HOV.out.mono ?_); rintro y w1 ⟨rfl, rfl⟩)
    | (go_at_call 59; (with_reducible refine HTK.out.mono ?_); rintro y w2 ⟨rfl, hma2, hmv2⟩; obtain ⟨c0, c1, c2, c3, c4, c5, c6⟩ := row7 hma2.blk; have z6 := row_frozen hma2.blk 6; have hma3 := deep_up hma2; obtain ⟨c0', -, -, -, -, -, -⟩ := row7 hma3.blk; have look := HGET.out _ hma3; have HLT2 := Lib.hid hma2.base_le; have HMA3 := Lib.hid hma3; have HMV2 := Lib.hid hmv2; clear hma2 hmv2 hma3))
  have hma3 := HMA3.out
  have hmv3 : Mv base [m] v v w (w2.setCell ⟨m, 6, none⟩ (.int .i64 (d + 1))) := HMV2.out.trans (Mv.store hma3.low (by simp))
  have hsz3 : (w2.setCell ⟨m, 6, none⟩ (.int .i64 (d + 1))).heap.size = w2.heap.size := by simp
  obtain ⟨w3, hw3⟩ : ∃ w3, w2.setCell ⟨m, 6, none⟩ (.int .i64 (d + 1)) = w3 := ⟨_, rfl⟩
  rw [hw3] at hma3 hmv3 hsz3
  rw [hw3]
  rw [← hsz3]
  obtain ⟨x, hx⟩ : ∃ x, w3.heap.size + 1 + 1 = x := ⟨_, rfl⟩
  obtain ⟨b, hb⟩ : ∃ b, w3.heap.size + 1 = b := ⟨_, rfl⟩
  have hb5 : Below w3.heap.size w3 (((w3.alloc (.cells #[.string (mkB f.name), .slice P f.params.length p, .slice B f.body.length c'] 39)).alloc (.map #[] 0)).alloc (.cells #[.pointer (some ⟨m, 0, none⟩), .map (some b), .int .i64 0, .bool false] 119)) := grow_alloc (grow_alloc (grow_alloc (grow_refl _) _) _) _
  have hma5 := hma3.below hb5
  have hbl3 := hma3.base_le
  have hmv5 := hmv3.trans (Mv.below (S := [m]) hbl3 hb5)
  have hfb5 : (((w3.alloc (.cells #[.string (mkB f.name), .slice P f.params.length p, .slice B f.body.length c'] 39)).alloc (.map #[] 0)).alloc (.cells #[.pointer (some ⟨m, 0, none⟩), .map (some b), .int .i64 0, .bool false] 119)).heap[w3.heap.size]? = some (.cells #[.string (mkB f.name), .slice P f.params.length p, .slice B f.body.length c'] 39) :=
    ((grow_alloc (grow_alloc (grow_refl (w3.alloc (.cells #[.string (mkB f.name), .slice P f.params.length p, .slice B f.body.length c'] 39))) (.map #[] 0)) (.cells #[.pointer (some ⟨m, 0, none⟩), .map (some b), .int .i64 0, .bool false] 119)).block _ (by simp)).trans (heap_alloc_new w3 _)
  have hf5 : FrAt base m x b ⟨bindP (f.params.take 0) l [], none⟩ (((w3.alloc (.cells #[.string (mkB f.name), .slice P f.params.length p, .slice B f.body.length c'] 39)).alloc (.map #[] 0)).alloc (.cells #[.pointer (some ⟨m, 0, none⟩), .map (some b), .int .i64 0, .bool false] 119)) := by
    refine ⟨by omega, by omega, ?_, ?_⟩
    · have := heap_alloc_new ((w3.alloc (.cells #[.string (mkB f.name), .slice P f.params.length p, .slice B f.body.length c'] 39)).alloc (.map #[] 0)) (.cells #[.pointer (some ⟨m, 0, none⟩), .map (some b), .int .i64 0, .bool false] 119)
      rw [show ((w3.alloc (.cells #[.string (mkB f.name), .slice P f.params.length p, .slice B f.body.length c'] 39)).alloc (.map #[] 0)).heap.size = x by simp; omega] at this
      exact this
    · have h1 := VarAt.made (w3.alloc (.cells #[.string (mkB f.name), .slice P f.params.length p, .slice B f.body.length c'] 39))
      rw [show (w3.alloc (.cells #[.string (mkB f.name), .slice P f.params.length p, .slice B f.body.length c'] 39)).heap.size = b by simp; omega] at h1
      exact h1.keep ((grow_alloc (grow_refl _) _).block b (by simp; omega))
  rw [hx, hb]
  obtain ⟨q, hq⟩ : ∃ q, w3.heap.size = q := ⟨_, rfl⟩
  rw [hq] at hfb5
  rw [hq]
  obtain ⟨w5, hw5⟩ : ∃ w5, ((w3.alloc (.cells #[.string (mkB f.name), .slice P f.params.length p, .slice B f.body.length c'] 39)).alloc (.map #[] 0)).alloc (.cells #[.pointer (some ⟨m, 0, none⟩), .map (some b), .int .i64 0, .bool false] 119) = w5 := ⟨_, rfl⟩
  rw [hw5] at hma5 hmv5 hfb5 hf5
  rw [hw5]
  have hNEW : w.heap.size ≤ q ∧ q < b ∧ b < x := ⟨by have := hmv3.bel.size; have := HMV2.out.bel.size; rw [← hq, hsz3]; exact this, by omega, by omega⟩
  have HNEW := Lib.hid hNEW
  have HMA5 := Lib.hid hma5
  have HMV5 := Lib.hid hmv5
  have HFB5 := Lib.hid hfb5
  have HF5 := Lib.hid hf5
  clear hma3 hmv3 hsz3 hw3 hb5 hma5 hmv5 hfb5 hf5 hw5 hbl3 hNEW hx hb hq look c0 c0' c1 c2 c3 c4 c5 c6 z6 HMA3 HMV2 HLT2
  go_loopw [9, 10, 47] (fun _ _ i wr => ∃ k : Nat, k ≤ f.params.length ∧ i = .int .i64 k ∧ FrAt base m x b ⟨bindP (f.params.take k) l [], none⟩ wr ∧ OnlyIn (bindP (f.params.take k) l []) N ∧ MaAt base m fb nf T F (d + 1) (tickP T st) v wr ∧ Mv base [m, x, b] v v w5 wr) (fun _ _ i _ => f.params.length - (intOf i).toNat)
  case atStart => exact ⟨0, Nat.zero_le _, rfl, HF5.out, OnlyIn.nil _, HMA5.out, Mv.refl⟩
  case round =>
    obtain ⟨k, hk, rfl, hfr, hon, hma, hmv⟩ := hrel
    have hfb : wr.heap[q]? = some (.cells #[.string (mkB f.name), .slice P f.params.length p, .slice B f.body.length c'] 39) := by
      have h1 := HNEW.out
      have h2 := HM.out.lt
      refine (hmv.kp q (Array.getElem?_eq_some_iff.1 HFB5.out).1 ?_ (fun e => by have := (owns_lt HM.out.own e).2; omega)).trans HFB5.out
      simp only [List.mem_cons, List.not_mem_nil, or_false, not_or]
      exact ⟨by omega, by omega, by omega⟩
    obtain ⟨e0, e1, e2⟩ := row3 hfb
    obtain ⟨z0, z1, z2, z3⟩ := row4 hfr.blk
    by_cases hlt : k < f.params.length
    · have hlt' : (k : Int) < (f.params.length : Int) := by omega
      have hltl : k < l.length := by have := HPL.out; omega
      have hltl' : (k : Int) < (l.length : Int) := by omega
      obtain ⟨bP, oP, rfl, -, hcP⟩ := (HP.out.keep (keepsLow (HMV5.out.bel.trans hmv.bel)) (fun _ h => h)) k hlt
      obtain ⟨bA, oA, rfl, hcA⟩ := HA.out k _ (intVs_get hltl)
      have hA1 := HAM.out _ rfl
      have hA2 := World.block_lt_of_cell? w _ hcA
      have hcA2 : wr.cell? ⟨bA, oA + k, none⟩ = some (.int .i64 l[k]) := by
        have h1 := HNEW.out
        have e5 := HMV5.out.kp bA hA2 (by simp only [List.mem_singleton]; exact hA1.1) hA1.2
        refine cell_same hcA ((hmv.kp bA (Nat.lt_of_lt_of_le hA2 HMV5.out.bel.size) ?_ hA1.2).trans e5)
        simp only [List.mem_cons, List.not_mem_nil, or_false, not_or]
        simp only at hA2
        exact ⟨hA1.1, by omega, by omega⟩
      have hbs := bindP_step f.params l [] k hlt hltl
      have hky : keyOf Tryz.prog 9 (.string (mkB f.params[k])) = some (.string f.params[k]) := strKey f.params[k] (by have := HPN.out _ (List.getElem_mem hlt); omega)
      have hin : f.params[k] ∈ N := HPS.out _ (List.getElem_mem hlt)
      obtain ⟨pk, hpk⟩ : ∃ pk, f.params[k] = pk := ⟨_, rfl⟩
      obtain ⟨nk, hnk⟩ : ∃ nk, l[k] = nk := ⟨_, rfl⟩
      rw [hpk] at hcP hbs hky hin
      rw [hnk] at hcA2 hbs
      obtain ⟨D, o1, o2, o3, o4⟩ := hfr.vars
      have hvl := hon.len
      have HO1 : Hid (wr.drew.ownsMap Tryz.prog 9 hR b (Maps.size D) D) := o1
      have hsz : Maps.size D ≤ 12 := by simp only at o3; omega
      have HFD := Lib.hid (And.intro o2 (And.intro o3 o4))
      have HOO := Lib.hid o1
      have HBS := Lib.hid hbs
      have HKY := Lib.hid hky
      have HIN := Lib.hid hin
      have HFR := Lib.hid hfr
      have HON := Lib.hid hon
      have HMA := Lib.hid hma
      have HMV := Lib.hid hmv
      clear o1 o2 o3 o4 hvl hbs hky hin hpk hnk hcA hA1 hA2 hfr hon hma hmv hfb
      go_wp2_with fail
      go_still_tail 9, (by kernel_rfl)
      change wpList _ _ _ _ _ wr.drew
      go_wp2_with (at_mapUpdate; refine wpList_mapUpdate_own _ rfl _ _ _ 64 rfl 9 3 strKeyed Tryz.underlying64 hR b (Maps.size D) D rfl HO1.out (by unfold maxLen; omega) _ _ (.string pk) rfl rfl HKY.out (.held (.int .i64 nk)) [] rfl ?_)
      intro w4 hown4 hgrow4
      have hva := VarAt.of_put HOO.out HFD.out.1 HFD.out.2.1 HFD.out.2.2 hown4
      have HFIN := Lib.hid (put_fin HMA.out HFR.out hgrow4 hva)
      clear hown4 hgrow4 hva
      go_wp2_with fail
      go_roundw
      case rel => exact ⟨k + 1, by omega, by go_num, by rw [HBS.out]; exact HFIN.out.1, by rw [HBS.out]; exact HON.out.put HIN.out _, HFIN.out.2.1, HMV.out.trans HFIN.out.2.2⟩
      case measure => simp [intOf]; omega
    · have hk' : k = f.params.length := by omega
      subst hk'
      rw [List.take_length] at hfr hon
      have hbc := HBK.out x b ⟨bindP f.params l [], none⟩ (tickP T st) v B c' wr hon (HE.out.keep (HMV5.out.bel.trans hmv.bel)) hma hfr (HB.out.keep (keepsLow (HMV5.out.bel.trans hmv.bel)) (fun _ h => h))
      unfold SPost at hbc
      have hbo : bodyP call T f l (tickP T st) = ((blockP call T f.body (⟨bindP f.params l [], none⟩, tickP T st)).1.ans.getD 0, (blockP call T f.body (⟨bindP f.params l [], none⟩, tickP T st)).2) := rfl
      obtain ⟨z, hz⟩ : ∃ z, blockP call T f.body (⟨bindP f.params l [], none⟩, tickP T st) = z := ⟨_, rfl⟩
      rw [hz] at hbc hbo
      have HBO := Lib.hid hbo
      have HBC := Lib.hid hbc
      have HMV := Lib.hid hmv
      clear hbc hbo hz hfr hon hma hmv hfb
      go_wp2_with (go_at_call 60; (with_reducible refine HBC.out.mono ?_); rintro y w6 ⟨rfl, hf6, -, v6, hma6, hmv6⟩; obtain ⟨-, -, -, -, -, -, c6⟩ := row7 hma6.blk; have y6 := row_frozen hma6.blk 6; have hma7 := deep_down hma6; have hf7 := hf6.mv hma6 (Mv.store (S := [m]) (j := 6) (u := .int .i64 d) hma6.low (by simp)); have x2 := (row4 hf7.blk).2.2.1; have HMA7 := Lib.hid hma7; have HMV6 := Lib.hid hmv6; have HLO := Lib.hid hma6.low; clear hf6 hma6 hmv6 hma7 hf7)
      go_ret
      rw [HBO.out]
      have hall := (HMV5.out.wide (S' := [m, x, b]) (by simp)).trans (HMV.out.trans (HMV6.out.trans (Mv.store (j := 6) (u := .int .i64 d) HLO.out (by simp))))
      refine ⟨_, rfl, fun _ => rfl, v6, HMA7.out, Mv.made hbl (Below.refl _ _) hall fun k hk => ?_⟩
      have h1 := HNEW.out
      simp only [List.mem_cons, List.not_mem_nil, or_false] at hk
      rcases hk with rfl | rfl | rfl
      · exact .inl (by simp)
      · exact .inr (by omega)
      · exact .inr (by omega)
end Go.Proofs.YtnpdjncgilekhaaGreatDoor

namespace Go.Proofs.YtnpdjncgilekhaaGreatDoor
open Go.RowKit

theorem clone_any (ps : List Nm) (hl : ps.length ≤ 8) (P : Option Addr) (p : Nat) (w : World) (hr : Row w P (strVs ps)) (he : ps = [] → P = none) :
    Calls Tryz.prog 29 #[.slice P ps.length p] w fun e w' => ∃ v, e = .returned v ∧ w'.ownsRow w.heap.size 9 1 v ps.length (strVs ps) ∧ Below w.heap.size w w' := by
  cases P with
  | none =>
    have h0 : ps = [] := by
      cases ps with
      | nil => rfl
      | cons x xs => obtain ⟨b, off, e, _⟩ := hr 0 _ (strVs_get (by simp)); cases e
    subst h0
    refine (Tryz.slices_Clone_string_nil _ p w).mono ?_
    rintro e w' ⟨rfl, rfl⟩
    exact ⟨_, rfl, World.ownsRow_nil _ _ _ _, Below.refl _ _⟩
  | some a =>
    have hne : ps ≠ [] := fun e => by cases he e
    have hlen : 0 < ps.length := List.length_pos_iff.2 hne
    obtain ⟨b, off, e0, _⟩ := hr 0 _ (strVs_get hlen)
    injection e0 with e0
    subst e0
    refine (Tryz.slices_Clone_string b off ps.length p (ps.map mkB) w (by simp) (by omega) (fun j hj => ?_)).mono ?_
    · have hj' : j < ps.length := by simpa using hj
      obtain ⟨b', off', e1, hc⟩ := hr j _ (strVs_get hj')
      injection e1 with e1
      injection e1 with e1 e2 _
      subst e1; subst e2
      rw [hc]
      simp [List.getD, hj']
    · rintro e w' ⟨v, rfl, h1, -, h3⟩
      have e4 : ((ps.map mkB).take ps.length).map Value.string = strVs ps := by
        rw [List.take_of_length_le (by simp)]; simp [strVs]
      rw [e4] at h1
      exact ⟨v, rfl, h1, h3⟩
theorem owned_mono {w : World} {base base' : Nat} {e : TypeId} {size : Nat} {v : Value} {n : Nat} {xs : List Value} (h : w.ownsRow base e size v n xs) (hb : base' ≤ base) : w.ownsRow base' e size v n xs := by
  refine ⟨h.1, ?_⟩
  rcases h.2 with q | ⟨g, cap, cur, h1, h2, h3⟩
  · exact .inl q
  · exact .inr ⟨g, cap, cur, h1, by omega, h3⟩
theorem own_two {w0 w1 w2 : World} {e : TypeId} {v1 v2 : Value} {n : Nat} {xs : List Value} (h1 : w1.ownsRow w0.heap.size e 1 v1 n xs) (h2 : w2.ownsRow w1.heap.size e 1 v2 n xs) : v2.ownBlock = none ∨ v1.ownBlock ≠ v2.ownBlock := by
  cases h : v2.ownBlock with
  | none => exact .inl rfl
  | some g =>
    right; intro e
    have a := (h1.lt g e).2
    have b := (h2.lt g h).1
    omega
/-- The checker that body makes. -/
theorem chk_made {w0 w1 w2 : World} {base b n : Nat} {fs : Tab} {ps : List Nm} {v1 v2 : Value} (hb : base ≤ w0.heap.size) (hm : MapAt w2 b n (tabF fs)) (hlt : b < base) (hb1 : Below w0.heap.size w0 w1) (hb2 : Below w1.heap.size w1 w2)
    (h1 : w1.ownsRow w0.heap.size 9 1 v1 ps.length (strVs ps)) (h2 : w2.ownsRow w1.heap.size 9 1 v2 ps.length (strVs ps)) :
    ChkAt base w2.heap.size b n fs ps ps (w2.alloc (.cells #[.map (some b), v1, v2] 109)) ∧ ChkAt base w2.heap.size b n fs ps ps (w2.alloc (.cells #[.map (some b), v2, v1] 109)) := by
  have s1 := hb1.size
  have s2 := hb2.size
  have o1 := owned_mono (ownsRow_below h1 hb2) hb
  have o2 := owned_mono h2 (base' := base) (by omega)
  have n1 : v1.ownBlock ≠ some w2.heap.size := fun e => by have := (o1.lt _ e).2; omega
  have n2 : v2.ownBlock ≠ some w2.heap.size := fun e => by have := (o2.lt _ e).2; omega
  have h12 := own_two h1 h2
  refine ⟨⟨by omega, by simp, hlt, hm.below (grow_alloc (grow_refl _) _), v1, v2, heap_alloc_new w2 _, o1.alloc _, o2.alloc _, n1, n2, h12⟩, ⟨by omega, by simp, hlt, hm.below (grow_alloc (grow_refl _) _), v2, v1, heap_alloc_new w2 _, o2.alloc _, o1.alloc _, n2, n1, ?_⟩⟩
  rcases h12 with q | q
  · cases h : v1.ownBlock with
    | none => exact .inl rfl
    | some g => right; rw [q]; simp
  · exact .inr (fun e => q e.symm)
set_option maxHeartbeats 4000000 in
set_option maxRecDepth 100000 in
theorem body_any (E : Nat → Addr) (b n : Nat) (fs : Tab) (hs : TabSmall fs) (f : PFun) (hsm : SmF f) (S : Nat → Prop) (P : Option Addr) (p : Nat) (B : Option Addr) (c : Nat) (w : World) (hE : Laid E w) (hM : MapAt w b n (tabF fs)) (hT : RdT w S f.params P) (hok : PrmOk f P p) (hB : RdS w S f.body B) (hp4 : f.params.length ≤ 4) :
    Calls Tryz.prog 26 #[funV f P p B c, .map (some b)] w (Ret (eV E (blockC fs f.body f.params f.params).1) w) := by
  have hb0 : Below w.heap.size w (w.alloc (funO f P p B c)) := grow_alloc (grow_refl _) _
  have HBK := Lib.hid (heap_alloc_new w (funO f P p B c))
  have HCL : Hid (∀ w', Below w.heap.size w w' → Calls Tryz.prog 29 #[.slice P f.params.length p] w' fun e w'' => ∃ v, e = .returned v ∧ w''.ownsRow w'.heap.size 9 1 v f.params.length (strVs f.params) ∧ Below w'.heap.size w' w'') := fun w' hb =>
    clone_any f.params (by omega) P p w' (rdT_row (hT.keep ((Keeps.of_below hb).in S) (fun _ h => h))) hok.1
  have HBL : Hid (∀ q w', ChkAt (w.heap.size + 1) q b n fs f.params f.params w' → Below w.heap.size w w' → Calls Tryz.prog 54 #[.pointer (some ⟨q, 0, none⟩), .slice B f.body.length c] w' fun e w'' => e = .returned (eV E (blockC fs f.body f.params f.params).1) ∧ Below (w.heap.size + 1) w' w'') := fun q w' hc hb =>
    (cblock_any E (w.heap.size + 1) q b n fs hs f.body hsm.body hsm.stmts f.params f.params B c w' ⟨w, hE, by omega, hb⟩ hc ((hB.lt.keep ((Keeps.of_below hb).in _) (fun _ h => h)).keep ((Keeps.refl _).in _) (fun k hk => by have := hk.2; omega)) (by omega) (Nat.le_refl _)).mono fun e w'' ⟨h1, h2⟩ => ⟨h1, h2.bel⟩
  have HMM : Hid (∀ w', Below w.heap.size w w' → MapAt w' b n (tabF fs)) := fun w' hb => hM.below hb
  have hlt := hM.lt
  have HB0 : Below (w.alloc (funO f P p B c)).heap.size (w.alloc (funO f P p B c)) (w.alloc (funO f P p B c)) := Below.refl _ _
  have HBB := Lib.hid hb0
  clear hE hT hok hB hM hb0
  unfold funV
  unfold funO at *
  go_enter Tryz.func26, Tryz.ntmps26
  go_upto_region 1 with fail
  obtain ⟨wa, hwa⟩ : ∃ wa, w.alloc (.cells #[.string (mkB f.name), .slice P f.params.length p, .slice B f.body.length c] 39) = wa := ⟨_, rfl⟩
  have HSZ : Hid (wa.heap.size = w.heap.size + 1) := show _ = _ by rw [← hwa]; simp
  rw [hwa] at HBK HB0 HBB
  rw [hwa]
  clear hwa
  go_region_held3 (fun w' => w'.cell? ⟨w.heap.size, 0, none⟩ = some (.string (mkB f.name)) ∧ w'.cell? ⟨w.heap.size, 1, none⟩ = some (.slice P f.params.length p) ∧ w'.cell? ⟨w.heap.size, 2, none⟩ = some (.slice B f.body.length c))
    (first
      | (exact row3 (((grow_alloc hB2 _).block _ (by rw [HSZ.out]; omega)).trans HBK.out))
      | (exact row3 ((hB2.block _ (by rw [HSZ.out]; omega)).trans HBK.out))
      | (exact row3 ((hB1.block _ (by rw [HSZ.out]; omega)).trans HBK.out))
      | (exact row3 HBK.out))
    (first
      | (go_at_call 29; (with_reducible refine (HCL.out _ (grow_trans HBB.out (by simp only [bel_drew, HB0]))).mono ?_); rintro y w11 ⟨v1, rfl, ho1, hbT⟩; obtain ⟨A1, c1, rfl⟩ := owns_slice ho1; have hB1 : Below wa.heap.size wa w11 := grow_trans (by simp only [bel_drew, HB0]) hbT; have HO1 := Lib.hid ho1; have HT1 := Lib.hid hbT; clear ho1 hbT)
      | (go_at_call 29; (with_reducible refine (HCL.out _ (grow_trans HBB.out hB1)).mono ?_); rintro y w12 ⟨v2, rfl, ho2, hbT⟩; obtain ⟨A2, c2, rfl⟩ := owns_slice ho2; have hB2 : Below wa.heap.size wa w12 := grow_trans hB1 hbT; have HO2 := Lib.hid ho2; have HT2 := Lib.hid hbT; clear ho2 hbT))
  have HCK := Lib.hid (chk_made (w0 := wa.drew) (base := w.heap.size + 1) (b := b) (n := n) (fs := fs) (Nat.le_of_eq HSZ.out.symm) (HMM.out _ (grow_trans HBB.out hB2)) (by omega) HT1.out HT2.out HO1.out HO2.out).1
  have HB3 := Lib.hid (grow_alloc (grow_trans HBB.out hB2) (.cells #[.map (some b), .slice A1 f.params.length c1, .slice A2 f.params.length c2] 109))
  obtain ⟨d0, d1, d2⟩ := row3 (((grow_alloc hB2 (.cells #[.map (some b), .slice A1 f.params.length c1, .slice A2 f.params.length c2] 109)).block w.heap.size (by rw [HSZ.out]; omega)).trans HBK.out)
  clear HB0 hB1 hB2
  go_wp2_with (go_at_call 54; (with_reducible refine (HBL.out _ _ HCK.out HB3.out).mono ?_); rintro y w13 ⟨rfl, hb13⟩)
  go_ret
  exact ⟨rfl, HB3.out.trans (hb13.mono (by omega))⟩
end Go.Proofs.YtnpdjncgilekhaaGreatDoor

namespace Go.Proofs.YtnpdjncgilekhaaGreatDoor
open Go.RowKit

/-! check.Program -/
theorem argsOf_snoc (t : Tab) (f : PFun) (x : Nm) : argsOf (t ++ [(f.name, f.params.length)]) x = match argsOf t x with
    | some m => some m
    | none => if f.name == x then some f.params.length else none := by
  unfold argsOf
  rw [List.find?_append]
  cases h : t.find? fun f => f.1 == x with
  | some y => rfl
  | none =>
    simp only [Option.none_or, Option.map_none, List.find?_cons, List.find?_nil]
    cases hx : (f.name == x) <;> simp
theorem tabOf_snoc (fs : List PFun) (f : PFun) : tabOf (fs ++ [f]) = tabOf fs ++ [(f.name, f.params.length)] := by simp [tabOf]
theorem tabF_old {fs : List PFun} {f : PFun} {m : Nat} (h : argsOf (tabOf fs) f.name = some m) : tabF (tabOf (fs ++ [f])) = tabF (tabOf fs) := by
  funext x
  unfold tabF
  rw [tabOf_snoc, argsOf_snoc]
  cases hx : argsOf (tabOf fs) x with
  | some y => rfl
  | none =>
    have : (f.name == x) = false := by rw [beq_eq_false_iff_ne]; rintro rfl; rw [h] at hx; cases hx
    simp [this]
theorem tabF_new {fs : List PFun} {f : PFun} (h : argsOf (tabOf fs) f.name = none) : tabF (tabOf (fs ++ [f])) = putF (tabF (tabOf fs)) f.name (.int .i64 (f.params.length : Int)) := by
  funext x
  unfold tabF putF
  rw [tabOf_snoc, argsOf_snoc]
  by_cases hx : x = f.name
  · subst hx; rw [h]; simp
  · have : (f.name == x) = false := by rw [beq_eq_false_iff_ne]; exact fun e => hx e.symm
    rw [if_neg hx]
    show Option.map _ _ = Option.map _ (argsOf (tabOf fs) x)
    generalize argsOf (tabOf fs) x = o
    cases o <;> simp [this]
theorem argsOf_mem {fs : List PFun} {x : Nm} {m : Nat} (h : argsOf (tabOf fs) x = some m) : ∃ f ∈ fs, f.params.length = m := by
  unfold argsOf at h
  cases hf : (tabOf fs).find? fun f => f.1 == x with
  | none => rw [hf] at h; cases h
  | some y =>
    rw [hf] at h
    have := List.mem_of_find?_eq_some hf
    unfold tabOf at this
    obtain ⟨f, h1, rfl⟩ := List.mem_map.1 this
    exact ⟨f, h1, by simpa using h⟩
theorem tabSmall {fs : List PFun} (h : ∀ f ∈ fs, SmF f) : TabSmall (tabOf fs) := fun k m hm => by
  obtain ⟨f, h1, rfl⟩ := argsOf_mem hm
  have := (h f h1).params; omega
theorem progFrom_step {t : Tab} {fs : List PFun} {k : Nat} (h : k < fs.length) : progFrom t (fs.take k) (fs.drop k) = if funC t (fs.take k) fs[k] = 0 then progFrom t (fs.take (k + 1)) (fs.drop (k + 1)) else (funC t (fs.take k) fs[k], (k : Int)) := by
  rw [List.drop_eq_getElem_cons h, progFrom, ← List.take_succ_eq_append_getElem h, List.length_take, Nat.min_eq_left (by omega)]
theorem funC_names {t : Tab} {a : List PFun} {f : PFun} (h : namesC f a ≠ 0) : funC t a f = namesC f a := by unfold funC; rw [if_neg h]
theorem funC_body {t : Tab} {a : List PFun} {f : PFun} (h : namesC f a = 0) : funC t a f = (blockC t f.body f.params f.params).1 := by unfold funC; rw [if_pos h]
theorem namesC_params {f : PFun} {a : List PFun} (h : namesC f a = 0) : f.params.length ≤ 4 := by
  unfold namesC at h
  by_cases h4 : 4 < f.params.length
  · simp only [h4, if_true] at h
    repeat (first | omega | split at h)
  · omega
theorem rdG_take {w : World} {S : Nat → Prop} {fs : List PFun} {A : Option Addr} (h : RdG w S fs A) (k : Nat) : RdG w S (fs.take k) A := fun i hi => by
  have hi' : i < fs.length := by rw [List.length_take] at hi; omega
  obtain ⟨b, off, P, p, B, c, h1⟩ := h i hi'
  rw [List.getElem_take]
  exact ⟨b, off, P, p, B, c, h1⟩
theorem keyMk (k : List UInt8) (h : k.length ≤ 1000000) : keyOf Tryz.prog 9 (.string (mkB k)) = some (.string k) := strKey k h
theorem errIs_es {E : Nat → Addr} {w : World} {n : Nat} (h : n ≠ 0) (h10 : n ≤ 10) : ErrIs E w (eV E n) n (-1) := by
  rw [eV_pos E h]
  have := ErrIs.es (E := E) (w := w) (i := n - 1) (by omega)
  rwa [show ((n - 1 : Nat) : Int) + 1 = n by omega] at this
theorem fault_is (E : Nat → Addr) (W : World) {z : Nat} (k : Int) (hz : z ≠ 0) (h10 : z ≤ 10) : ErrIs E (W.alloc (.cells #[.int .i64 k, esV (E (z - 1))] 70)) (ftV ⟨W.heap.size, 0, none⟩) z k :=
  .inr (.inr ⟨z - 1, W.heap.size, 0, by omega, rfl, cell_of_row _ _ 0 _ _ _ (heap_alloc_new W _), cell_of_row _ _ 1 _ _ _ (heap_alloc_new W _), by omega⟩)
def ProgPost (E : Nat → Addr) (fs : List PFun) (w : World) : Ending → World → Prop := fun e w' => ∃ v, e = .returned v ∧ ErrIs E w' v (progC fs).1 (progC fs).2 ∧ Below w.heap.size w w' ∧ (v = .nilIface ↔ (progC fs).1 = 0)
theorem prog_done {E : Nat → Addr} {fs : List PFun} {w w' : World} {z : Nat} {at' : Int} {v : Value} {e : Ending} (h : progC fs = (z, at')) (he : e = .returned v) (h1 : ErrIs E w' v z at') (hb : Below w.heap.size w w') (hv : v = .nilIface ↔ z = 0) : ProgPost E fs w e w' := by
  unfold ProgPost; rw [h]; exact ⟨v, he, h1, hb, hv⟩
set_option maxHeartbeats 4000000 in
set_option maxRecDepth 100000 in
theorem Program_any (E : Nat → Addr) (fs : List PFun) (hsm : ∀ f ∈ fs, SmF f) (S : Nat → Prop) (A : Option Addr) (c : Nat) (hl : fs.length ≤ 12) (hc : fs.length ≤ c) (w : World) (hE : Laid E w) (hr : RdG w S fs A) :
    Calls Tryz.prog 9 #[.slice A fs.length c] w (ProgPost E fs w) := by
  by_cases h8 : 8 < fs.length
  · have q8 : (8 : Int) < (fs.length : Int) := by omega
    have HP : Hid (progC fs = (8, -1)) := show _ = _ by unfold progC; rw [if_pos h8]
    have g7 := hE.c7
    clear hE hr hsm hc h8
    go_enter Tryz.func9, Tryz.ntmps9
    go_wp2_with fail
    go_ret
    unfold ProgPost
    rw [HP.out]
    exact ⟨_, rfl, .es (i := 7) (by omega), Below.refl _ _, by simp⟩
  · have q8 : ¬ (8 : Int) < (fs.length : Int) := by omega
    have HP : Hid (progC fs = progFrom (tabOf fs) [] fs) := show _ = _ by unfold progC; rw [if_neg h8]
    have hl8 : fs.length ≤ 8 := by omega
    have HR := Lib.hid hr
    have HE := Lib.hid hE
    have HSM := Lib.hid hsm
    have HPO : Hid (ProgPost E fs w = ProgPost E fs w) := Lib.hid rfl
    obtain ⟨Q, hQ⟩ : ∃ Q, ProgPost E fs w = Q := ⟨_, rfl⟩
    have HQ := Lib.hid hQ
    rw [hQ]
    clear hE hr hsm h8 hl hQ HPO
    have hmm := @run_makeMap Tryz.prog
    go_enter Tryz.func9, Tryz.ntmps9
    go_wp2_with fail
    go_loopw [5, 6, 7, 18] (fun _ _ _ i wr => ∃ k : Nat, k ≤ fs.length ∧ i = .int .i64 k ∧ MapAt wr w.heap.size k (tabF (tabOf (fs.take k))) ∧ Below w.heap.size w wr ∧ w.heap.size + 1 ≤ wr.heap.size) (fun _ _ _ i _ => fs.length - (intOf i).toNat)
    case atStart => exact ⟨0, Nat.zero_le _, rfl, MapAt.made w, grow_alloc (grow_refl _) _, by simp⟩
    case round =>
      obtain ⟨k, hk, rfl, hm, hbel, hsz⟩ := hrel
      by_cases hlt : k < fs.length
      · obtain ⟨b, off, P, p, B, d, rfl, -, hcells, -, -, -⟩ := (HR.out.keep ((Keeps.of_below hbel).in S) (fun _ h => h)) k hlt
        obtain ⟨c0, c1, c2⟩ := cells_fun hcells
        have hlt' : (k : Int) < (fs.length : Int) := by omega
        have htk := List.take_succ_eq_append_getElem hlt
        have hsf := HSM.out fs[k] (List.getElem_mem hlt)
        obtain ⟨f, hf⟩ : ∃ f, fs[k] = f := ⟨_, rfl⟩
        rw [hf] at hcells c0 c1 c2 htk hsf
        have hm1 : MapAt (wr.alloc (funO f P p B d)) w.heap.size k (tabF (tabOf (fs.take k))) := hm.below (grow_alloc (grow_refl _) _)
        have look := hm1.look Tryz.underlying64 (zeroInt _) f.name (by have := hsf.name; omega)
        have hb1 : Below w.heap.size w (wr.alloc (funO f P p B d)) := grow_alloc hbel _
        rw [show ({ data := f.name.toArray } : ByteArray) = mkB f.name from rfl] at look
        have HTK := Lib.hid htk
        have HBB := Lib.hid hb1
        have hp8 := hsf.params
        cases ha : argsOf (tabOf (fs.take k)) f.name with
        | none =>
          have HNEW := Lib.hid (tabF_new ha)
          have ht : tabF (tabOf (fs.take k)) f.name = none := by unfold tabF; rw [ha]; rfl
          rw [ht] at look
          obtain ⟨D, ho, hmap, hfd⟩ := hm1
          have HO := Lib.hid ho
          have HFD := Lib.hid (And.intro hmap hfd)
          have HKY := Lib.hid (keyMk f.name (by have := hsf.name; omega))
          unfold funO at *
          clear hcells htk hm hbel hb1 ha ht ho hmap hfd hf hsf
          go_wp2_with (at_mapUpdate; refine wpList_mapUpdate_own _ rfl _ _ _ 64 rfl 9 3 strKeyed Tryz.underlying64 hR w.heap.size k D rfl HO.out (by unfold maxLen; omega) _ _ (.string f.name) rfl rfl HKY.out (.held (.int .i64 (f.params.length : Int))) [] rfl ?_)
          intro w2 hown2 hgrow2
          have hput := MapAt.of_put HFD.out.1 HFD.out.2 hown2
          have HMP : Hid (MapAt w2 w.heap.size (k + 1) (tabF (tabOf (fs.take (k + 1))))) := show MapAt _ _ _ _ by
            rw [HTK.out, HNEW.out]; exact hput
          have HB2 : Hid (Below w.heap.size w w2) := Below.grown HBB.out hgrow2 HBB.out.size (fun q hq => by simp at hq; omega)
          have hsz2 : w.heap.size + 1 ≤ w2.heap.size := by have := hgrow2.size; simp at this; omega
          clear hown2 hgrow2 hput
          go_wp2_with fail
          go_roundw
          case rel => exact ⟨k + 1, by omega, by go_num, HMP.out, HB2.out, hsz2⟩
          case measure => simp [intOf]; omega
        | some m =>
          have HOLD := Lib.hid (tabF_old ha)
          have ht : tabF (tabOf (fs.take k)) f.name = some (.int .i64 m) := by unfold tabF; rw [ha]; rfl
          rw [ht] at look
          have HM := Lib.hid (hm1.mono (Nat.le_succ k))
          unfold funO at *
          clear hcells htk hm hbel hb1 ha ht hf hsf hm1
          go_wp2_with fail
          go_roundw
          case rel => exact ⟨k + 1, by omega, by go_num, by rw [HTK.out, HOLD.out]; exact HM.out, HBB.out, by simp; omega⟩
          case measure => simp [intOf]; omega
      · have hk' : k = fs.length := by omega
        subst hk'
        rw [List.take_length] at hm
        have HM0 := Lib.hid hm
        have HB00 := Lib.hid hbel
        obtain ⟨wo, rfl⟩ : ∃ wo : World, wo = wr := ⟨_, rfl⟩
        clear hm hbel hsz
        go_wp2_with fail
        go_loopw [8, 9, 10, 40] (fun _ _ _ i wr => ∃ k : Nat, k ≤ fs.length ∧ i = .int .i64 k ∧ progC fs = progFrom (tabOf fs) (fs.take k) (fs.drop k) ∧ Below wo.heap.size wo wr) (fun _ _ _ i _ => fs.length - (intOf i).toNat)
        case atStart => exact ⟨0, Nat.zero_le _, rfl, by rw [HP.out]; simp, grow_refl _⟩
        case round =>
          obtain ⟨k, hk, rfl, hI, hbel⟩ := hrel
          have HI := Lib.hid hI
          clear hI
          have hbw := grow_trans HB00.out hbel
          by_cases hlt : k < fs.length
          · have hrd := HR.out.keep ((Keeps.of_below hbw).in S) (fun _ h => h)
            obtain ⟨b, off, P, p, B, d, rfl, -, hcells, hprm, hok, hbody⟩ := hrd k hlt
            obtain ⟨c0, c1, c2⟩ := cells_fun hcells
            have hlt' : (k : Int) < (fs.length : Int) := by omega
            have hkc : (k : Int) ≤ (c : Int) := by omega
            have hst := progFrom_step (t := tabOf fs) hlt
            have hsf := HSM.out fs[k] (List.getElem_mem hlt)
            obtain ⟨f, hf⟩ : ∃ f, fs[k] = f := ⟨_, rfl⟩
            rw [hf] at hcells hprm hok hbody c0 c1 c2 hst hsf
            have hE1 := HE.out.keep hbw
            have HNM : Hid (∀ w', Below wr.heap.size wr w' → Calls Tryz.prog 25 #[.agg #[.string (mkB f.name), .slice P f.params.length p, .slice B f.body.length d], .slice (some ⟨b, off, none⟩) k c] w' (Ret (eV E (namesC f (fs.take k))) w')) := fun w' hb => by
              have := names_any E f (fs.take k) hsf.params (by rw [List.length_take]; omega) S S P p B d (some ⟨b, off, none⟩) c w' (hE1.keep hb) (hprm.keep ((Keeps.of_below hb).in S) (fun _ h => h)) hok (rdG_take (hrd.keep ((Keeps.of_below hb).in S) (fun _ h => h)) k)
              rwa [List.length_take, Nat.min_eq_left hk] at this
            have HBD : Hid (∀ w', Below wr.heap.size wr w' → namesC f (fs.take k) = 0 → Calls Tryz.prog 26 #[.agg #[.string (mkB f.name), .slice P f.params.length p, .slice B f.body.length d], .map (some w.heap.size)] w' (Ret (eV E (blockC (tabOf fs) f.body f.params f.params).1) w')) := fun w' hb h0 =>
              body_any E w.heap.size fs.length (tabOf fs) (tabSmall HSM.out) f hsf S P p B d w' (hE1.keep hb) ((HM0.out.below hbel).below hb) (hprm.keep ((Keeps.of_below hb).in S) (fun _ h => h)) hok (hbody.keep ((Keeps.of_below hb).in S) (fun _ h => h)) (namesC_params h0)
            have HBX := Lib.hid (heap_alloc_new wr (funO f P p B d))
            have HBA := Lib.hid (grow_alloc (grow_refl wr) (funO f P p B d))
            have HBW := Lib.hid hbw
            have HBL := Lib.hid hbel
            unfold funO at *
            clear hcells hprm hok hbody hf hsf hE1 hrd hbw hbel
            by_cases hn : namesC f (fs.take k) = 0
            · rw [funC_body hn] at hst
              have HN0 := Lib.hid hn
              rw [hn] at HNM
              rw [eV_zero] at HNM
              by_cases hb0 : (blockC (tabOf fs) f.body f.params f.params).1 = 0
              · rw [if_pos hb0] at hst
                rw [hb0] at HBD
                rw [eV_zero] at HBD
                have HS := Lib.hid hst
                clear hst hn hb0
                go_upto_region 14 with fail
                go_region_held3 (fun w' => w'.cell? ⟨wr.heap.size, 0, none⟩ = some (.string (mkB f.name)) ∧ w'.cell? ⟨wr.heap.size, 1, none⟩ = some (.slice P f.params.length p) ∧ w'.cell? ⟨wr.heap.size, 2, none⟩ = some (.slice B f.body.length d))
                  (first
                    | (exact row3 ((hB1.block _ (by simp)).trans HBX.out))
                    | (exact row3 HBX.out))
                  (first | (go_at_call 25; (with_reducible refine (HNM.out _ HBA.out.drew).mono ?_); rintro y w11 ⟨rfl, hB1⟩))
                have HB11 := Lib.hid (grow_trans HBA.out.drew hB1)
                have HX11 := Lib.hid ((hB1.block wr.heap.size (by simp)).trans HBX.out)
                clear hB1
                obtain ⟨d0, d1, d2⟩ := row3 HX11.out
                go_wp2_with (go_at_call 26; (with_reducible refine (HBD.out _ HB11.out HN0.out).mono ?_); rintro y w12 ⟨rfl, hb12⟩)
                go_roundw
                case rel => exact ⟨k + 1, by omega, by go_num, HI.out.trans HS.out, grow_trans HBL.out (grow_trans HB11.out hb12)⟩
                case measure => simp [intOf]; omega
              · rw [if_neg hb0] at hst
                have HS := Lib.hid hst
                have HZ := Lib.hid hb0
                have hc10 := (leftB_any (tabOf fs) f.body f.params f.params).1
                obtain ⟨z, hz⟩ : ∃ z, (blockC (tabOf fs) f.body f.params f.params).1 = z := ⟨_, rfl⟩
                rw [hz] at HBD HS HZ hc10
                have hze := eV_pos E HZ.out
                rw [hze] at HBD
                clear hst hn hz hze hb0
                go_upto_region 14 with fail
                go_region_held3 (fun w' => w'.cell? ⟨wr.heap.size, 0, none⟩ = some (.string (mkB f.name)) ∧ w'.cell? ⟨wr.heap.size, 1, none⟩ = some (.slice P f.params.length p) ∧ w'.cell? ⟨wr.heap.size, 2, none⟩ = some (.slice B f.body.length d))
                  (first
                    | (exact row3 ((hB1.block _ (by simp)).trans HBX.out))
                    | (exact row3 HBX.out))
                  (first | (go_at_call 25; (with_reducible refine (HNM.out _ HBA.out.drew).mono ?_); rintro y w11 ⟨rfl, hB1⟩))
                have HB11 := Lib.hid (grow_trans HBA.out.drew hB1)
                have HX11 := Lib.hid ((hB1.block wr.heap.size (by simp)).trans HBX.out)
                clear hB1
                obtain ⟨d0, d1, d2⟩ := row3 HX11.out
                go_wp2_with (go_at_call 26; (with_reducible refine (HBD.out _ HB11.out HN0.out).mono ?_); rintro y w12 ⟨rfl, hb12⟩)
                rw [← HQ.out]
                exact prog_done (HI.out.trans HS.out) rfl (fault_is E w12 _ HZ.out hc10) (grow_alloc (grow_trans HBW.out (grow_trans HB11.out hb12)) _) (by simp [HZ.out])
            · rw [funC_names hn, if_neg hn] at hst
              have HS := Lib.hid hst
              have HZ := Lib.hid hn
              have hc10 := namesC_code f (fs.take k)
              obtain ⟨z, hz⟩ : ∃ z, namesC f (fs.take k) = z := ⟨_, rfl⟩
              rw [hz] at HNM HS HZ hc10
              have hze := eV_pos E HZ.out
              rw [hze] at HNM
              clear hst hn hz hze HBD
              go_upto_region 14 with fail
              go_region_held3 (fun w' => w'.cell? ⟨wr.heap.size, 0, none⟩ = some (.string (mkB f.name)) ∧ w'.cell? ⟨wr.heap.size, 1, none⟩ = some (.slice P f.params.length p) ∧ w'.cell? ⟨wr.heap.size, 2, none⟩ = some (.slice B f.body.length d))
                (first
                  | (exact row3 ((hB1.block _ (by simp)).trans HBX.out))
                  | (exact row3 HBX.out))
                (first | (go_at_call 25; (with_reducible refine (HNM.out _ HBA.out.drew).mono ?_); rintro y w11 ⟨rfl, hB1⟩))
              have HB11 := Lib.hid (grow_trans HBA.out.drew hB1)
              have HX11 := Lib.hid ((hB1.block wr.heap.size (by simp)).trans HBX.out)
              clear hB1
              go_wp2_with fail
              rw [← HQ.out]
              exact prog_done (HI.out.trans HS.out) rfl (fault_is E w11 _ HZ.out hc10) (grow_alloc (grow_trans HBW.out HB11.out) _) (by simp [HZ.out])
          · have hk' : k = fs.length := by omega
            subst hk'
            have HZ : Hid (progC fs = (0, -1)) := show _ = _ by rw [HI.out, List.drop_length]; rfl
            have HBW := Lib.hid hbw
            clear hbw hbel
            go_wp2_with fail
            rw [← HQ.out]
            exact prog_done HZ.out rfl .nil_ HBW.out (by simp)
end Go.Proofs.YtnpdjncgilekhaaGreatDoor

namespace Go.Proofs.YtnpdjncgilekhaaGreatDoor
open Go.RowKit

/-! run.Run -/
theorem run1_any (g : PFun) (P : Option Addr) (p : Nat) (B : Option Addr) (c q : Nat) (n : Nm) (w : World) (h : w.cell? ⟨q, 0, none⟩ = some (.string (mkB n))) :
    Calls Tryz.prog 40 #[funV g P p B c, .pointer (some ⟨q, 0, none⟩)] w (Ret (.bool (g.name == n)) w) := by
  have h1 : (w.alloc (funO g P p B c)).cell? ⟨q, 0, none⟩ = some (.string (mkB n)) := Keeps.alloc _ _ _ _ h
  have HE : Hid (((mkB g.name).toList == (mkB n).toList) = (g.name == n)) := show _ = _ by rw [mkB_toList, mkB_toList]
  unfold funO at h1
  unfold funV
  clear h
  go_enter Tryz.func40, Tryz.ntmps40
  go_wp2_with fail
  go_ret
  exact ⟨by rw [← HE.out]; rfl, grow_alloc (grow_refl _) _⟩
set_option maxRecDepth 100000 in
theorem idxRun_any (n : Nm) (gs : List PFun) (hl : gs.length ≤ 1000) (q : Nat) (S : Nat → Prop) (A : Option Addr) (c : Nat) (w : World) (hr : RdG w S gs A) (h : w.cell? ⟨q, 0, none⟩ = some (.string (mkB n))) :
    Calls Tryz.prog 39 #[.slice A gs.length c, .func (.func 40) #[] #[.pointer (some ⟨q, 0, none⟩)]] w (Ret (.int .i64 (firstFn n gs 0)) w) := by
  have HR := Lib.hid hr
  have HQ := Lib.hid h
  clear hr h
  go_enter Tryz.func39, Tryz.ntmps39
  go_wp2_with fail
  go_loopw [5, 8] (fun _ i wr => ∃ k : Nat, k ≤ gs.length ∧ i = .int .i64 k ∧ firstFn n gs 0 = firstFn n (gs.drop k) k ∧ Below w.heap.size w wr) (fun _ i _ => gs.length - (intOf i).toNat)
  case atStart => exact ⟨0, Nat.zero_le _, rfl, by simp, grow_refl _⟩
  case round =>
    obtain ⟨k, hk, rfl, hI, hbel⟩ := hrel
    have HI := Lib.hid hI
    clear hI
    by_cases hlt : k < gs.length
    · obtain ⟨b, off, P, p, B, d, rfl, -, hcells, -, -, -⟩ := (HR.out.keep ((Keeps.of_below hbel).in S) (fun _ h => h)) k hlt
      obtain ⟨c0, c1, c2⟩ := cells_fun hcells
      have hlt' : (k : Int) < (gs.length : Int) := by omega
      have HS := Lib.hid (firstFn_drop (n := n) hlt)
      have h1 := run1_any gs[k] P p B d q n wr (Keeps.of_below hbel _ _ HQ.out)
      unfold funV at h1
      have HN := Lib.hid h1
      clear h1 hcells
      cases hn : (gs[k].name == n)
      · rw [hn] at HN HS
        have HF : Hid (firstFn n gs 0 = firstFn n (gs.drop (k + 1)) (k + 1)) := show _ = _ from HI.out.trans HS.out
        clear hn
        go_wp2_with (go_at_call 40; (with_reducible refine HN.out.mono ?_); rintro y w1 ⟨rfl, hb1⟩)
        go_roundw
        case rel => exact ⟨k + 1, by omega, by go_num, HF.out, grow_trans hbel hb1⟩
        case measure => simp [intOf]; omega
      · rw [hn] at HN HS
        have HF : Hid (firstFn n gs 0 = (k : Int)) := show _ = _ from HI.out.trans HS.out
        clear hn
        go_wp2_with (go_at_call 40; (with_reducible refine HN.out.mono ?_); rintro y w1 ⟨rfl, hb1⟩)
        go_ret
        exact ⟨by rw [HF.out]; rfl, grow_trans hbel hb1⟩
    · have hk' : k = gs.length := by omega
      subst hk'
      go_wp2_with fail
      go_ret
      exact ⟨by rw [HI.out, List.drop_length]; rfl, hbel⟩
theorem firstFn_find (n : Nm) : ∀ (gs : List PFun) (k0 : Nat), (findF gs n = none ∧ firstFn n gs k0 = -1) ∨ ∃ i, ∃ hi : i < gs.length, firstFn n gs k0 = ((k0 + i : Nat) : Int) ∧ findF gs n = some gs[i] ∧ gs[i].name = n := by
  intro gs
  induction gs with
  | nil => intro k0; exact .inl ⟨rfl, rfl⟩
  | cons g gs ih =>
    intro k0
    unfold firstFn findF
    rw [List.find?_cons]
    by_cases h : (g.name == n) = true
    · rw [if_pos h, h]
      exact .inr ⟨0, by simp, by simp, by simp, by simpa using h⟩
    · simp only [Bool.not_eq_true] at h
      rw [h, if_neg (by decide)]
      rcases ih (k0 + 1) with ⟨h1, h2⟩ | ⟨i, hi, h1, h2, h3⟩
      · exact .inl ⟨h1, h2⟩
      · exact .inr ⟨i + 1, by simpa using hi, by rw [h1]; congr 1; omega, by simpa [findF] using h2, by simpa using h3⟩
theorem err_if2 {E : Nat → Addr} {w : World} {v : Value} {c a : Int} (h : ErrIs E w v c a) (hc : c ≠ 0) : ∃ t x, v = .iface t x := by
  rcases h with ⟨_, h, _⟩ | ⟨i, _, h, _, _⟩ | ⟨i, fb, fo, _, h, _, _, _⟩
  · exact absurd h hc
  · exact ⟨_, _, h⟩
  · exact ⟨_, _, h⟩
/-- An outcome: how, value, out, ticks. -/
abbrev Oc := Nm × Int × List Int × Nat
def oc0 : Oc := ([], 0, [], 0)
def ocV (o : Oc) (A : Option Addr) (c : Nat) : Value := .agg #[.string (mkB o.1), .int .i64 o.2.1, .slice A o.2.2.1.length c, .int .i64 o.2.2.2]
/-- What is wrong with a run: number and place. -/
def runC (fs : List PFun) (name : Nm) (nargs : Nat) (ticks : Int) : Int × Int :=
  if (progC fs).1 ≠ 0 then (((progC fs).1 : Int), (progC fs).2) else match findF fs name with
    | none => (6, -1)
    | some f => if f.params.length ≠ nargs then (9, -1) else if ticks < 0 ∨ 5000 < ticks then (2, -1) else (0, -1)
def RunPost (E : Nat → Addr) (fs : List PFun) (name : Nm) (args : List Int) (ticks : Int) (w : World) : Ending → World → Prop := fun en w' =>
  ∃ v A c o, en = .returned (.tuple #[ocV o A c, v]) ∧ ErrIs E w' v (runC fs name args.length ticks).1 (runC fs name args.length ticks).2 ∧ (v = .nilIface ↔ (runC fs name args.length ticks).1 = 0) ∧
    o = (if (runC fs name args.length ticks).1 = 0 then runP fs name args ticks.toNat else oc0) ∧ Row w' A (intVs o.2.2.1) ∧ o.2.2.1.length ≤ c ∧ Below w.heap.size w w'
theorem set4 {w : World} {q : Nat} {a0 a1 a2 a3 v0 v1 v2 v3 : Value} {T : TypeId} {fz : Nat × Nat} (h : w.heap[q]? = some (.cells #[a0, a1, a2, a3] T fz)) :
    ((((w.setCell ⟨q, 0, none⟩ v0).setCell ⟨q, 1, none⟩ v1).setCell ⟨q, 2, none⟩ v2).setCell ⟨q, 3, none⟩ v3).heap[q]? = some (.cells #[v0, v1, v2, v3] T fz) :=
  row_set (j := 3) v3 (row_set (j := 2) v2 (row_set (j := 1) v1 (row_set (j := 0) v0 h rfl) rfl) rfl) (by simp)
theorem below4 {w0 w : World} {q : Nat} {v0 v1 v2 v3 : Value} (h : Below w0.heap.size w0 w) (hq : w0.heap.size ≤ q) : Below w0.heap.size w0 ((((w.setCell ⟨q, 0, none⟩ v0).setCell ⟨q, 1, none⟩ v1).setCell ⟨q, 2, none⟩ v2).setCell ⟨q, 3, none⟩ v3) :=
  (((h.setCell hq _).setCell hq _).setCell hq _).setCell hq _
theorem row1 {w : World} {q : Nat} {v0 : Value} {T : TypeId} {fz : Nat × Nat} (hrow : w.heap[q]? = some (.cells #[v0] T fz)) : w.cell? ⟨q, 0, none⟩ = some v0 := cell_of_row _ _ 0 _ _ _ hrow
theorem errIs_far {E : Nat → Addr} {w w' : World} {v : Value} {c a : Int} {q : Nat} {cs : Array Value} {T : TypeId} {fz : Nat × Nat} (h : ErrIs E w v c a) (hq : w.heap[q]? = some (.cells cs T fz)) (hno : ∀ (j : Nat) (u : Value), cs[j]? = some u → ∀ t x, u ≠ Value.iface t x) (hs : ∀ k, k ≠ q → w'.heap[k]? = w.heap[k]?) : ErrIs E w' v c a := by
  rcases h with h | h | ⟨i, fb, fo, h1, h2, h3, h4, h5⟩
  · exact .inl h
  · exact .inr (.inl h)
  · have hne : fb ≠ q := by
      intro e
      subst e
      rw [cell_of_row w fb (fo + 1) _ _ _ hq] at h4
      exact hno _ _ h4 _ _ rfl
    have e := hs fb hne
    exact .inr (.inr ⟨i, fb, fo, h1, h2, (World.cell?_of_block e).trans h3, (World.cell?_of_block e).trans h4, h5⟩)
theorem far4 {w : World} {q : Nat} {v0 v1 v2 v3 : Value} (k : Nat) (hk : k ≠ q) : ((((w.setCell ⟨q, 0, none⟩ v0).setCell ⟨q, 1, none⟩ v1).setCell ⟨q, 2, none⟩ v2).setCell ⟨q, 3, none⟩ v3).heap[k]? = w.heap[k]? :=
  (Below.heap_setCell _ _ _ _ hk).trans ((Below.heap_setCell _ _ _ _ hk).trans ((Below.heap_setCell _ _ _ _ hk).trans (Below.heap_setCell _ _ _ _ hk)))
theorem noIface4 {a b : Int} {s : ByteArray} {A : Option Addr} {n c : Nat} : ∀ (j : Nat) (u : Value), (#[Value.string s, .int .i64 a, .slice A n c, .int .i64 b] : Array Value)[j]? = some u → ∀ t x, u ≠ Value.iface t x := by
  intro j u h t x
  rcases j with _ | _ | _ | _ | j
  · simp at h; subst h; simp
  · simp at h; subst h; simp
  · simp at h; subst h; simp
  · simp at h; subst h; simp
  · simp at h
set_option maxHeartbeats 4000000 in
set_option maxRecDepth 100000 in
theorem run_fault (E : Nat → Addr) (fs : List PFun) (hsm : ∀ f ∈ fs, SmF f) (S : Nat → Prop) (A : Option Addr) (c : Nat) (hl : fs.length ≤ 12) (hc : fs.length ≤ c) (name : Nm) (args : List Int) (X : Option Addr) (xc : Nat) (ticks : Int) (w : World) (hE : Laid E w) (hr : RdG w S fs A) (hp : (progC fs).1 ≠ 0) :
    Calls Tryz.prog 17 #[.slice A fs.length c, .string (mkB name), .slice X args.length xc, .int .i64 ticks] w (RunPost E fs name args ticks w) := by
  have HPR : Hid (∀ w', Below w.heap.size w w' → Calls Tryz.prog 9 #[.slice A fs.length c] w' (ProgPost E fs w')) := fun w' hb => Program_any E fs hsm S A c hl hc w' (hE.keep hb) (hr.keep ((Keeps.of_below hb).in _) (fun _ h => h))
  have HC : Hid (runC fs name args.length ticks = (((progC fs).1 : Int), (progC fs).2)) := show _ = _ by unfold runC; rw [if_pos hp]
  have HP := Lib.hid hp
  have hb2 : Below w.heap.size w ((w.alloc (.cells #[.string (mkB name)] 9)).alloc (.cells #[.string ⟨#[]⟩, .int .i64 0, .slice none 0 0, .int .i64 0] 47)) := grow_alloc (grow_alloc (grow_refl _) _) _
  have hk := heap_alloc_new (w.alloc (.cells #[.string (mkB name)] 9)) (.cells #[.string ⟨#[]⟩, .int .i64 0, .slice none 0 0, .int .i64 0] 47)
  rw [show (w.alloc (.cells #[.string (mkB name)] 9)).heap.size = w.heap.size + 1 by simp] at hk
  have HB2 := Lib.hid hb2
  have HK := Lib.hid hk
  clear hp hsm hr hE hb2 hk
  go_enter Tryz.func17, Tryz.ntmps17
  go_wp2_with (go_at_call 9; (with_reducible refine (HPR.out _ HB2.out).mono ?_); rintro y w3 ⟨v3, rfl, he3, hb3, hn3⟩; obtain ⟨ty, vx, rfl⟩ := err_if2 he3 (by have := HP.out; omega); have hk3 := (hb3.block _ (by simp)).trans HK.out; obtain ⟨e0, e1, e2, e3⟩ := row4 hk3; have y0 := row_frozen hk3 0; have y1 := row_frozen hk3 1; have y2 := row_frozen hk3 2; have y3 := row_frozen hk3 3; have HK3 := Lib.hid hk3; have HE3 := Lib.hid he3; have HN3 := Lib.hid hn3; have HB3 := Lib.hid hb3; clear he3 hn3 hb3 hk3)
  obtain ⟨z0, z1, z2, z3⟩ := row4 (set4 (v0 := .string ⟨#[]⟩) (v1 := .int .i64 0) (v2 := .slice none 0 0) (v3 := .int .i64 0) HK3.out)
  refine bodyPost_ret (v := .tuple #[.agg #[.string ⟨#[]⟩, .int .i64 0, .slice none 0 0, .int .i64 0], .iface ty vx]) (by simp [results, Tryz.results17, go_sem, z0, z1, z2, z3]; try rfl) rfl ?_
  unfold RunPost
  rw [HC.out]
  have hp := HP.out
  refine ⟨.iface ty vx, none, 0, oc0, rfl, ?_, ⟨fun e => (by cases e), fun e => absurd e (by simp only; omega)⟩, by rw [if_neg (by simp only; omega)], Row.nil _ _, Nat.le_refl _, below4 (grow_trans HB2.out HB3.out) (by omega)⟩
  exact errIs_far HE3.out HK3.out noIface4 far4
set_option maxHeartbeats 4000000 in
set_option maxRecDepth 100000 in
theorem run_none (E : Nat → Addr) (fs : List PFun) (hsm : ∀ f ∈ fs, SmF f) (S : Nat → Prop) (A : Option Addr) (c : Nat) (hl : fs.length ≤ 12) (hc : fs.length ≤ c) (name : Nm) (args : List Int) (ha : args.length ≤ 1000) (X : Option Addr) (xc : Nat) (ticks : Int) (w : World) (hE : Laid E w) (hr : RdG w S fs A) (hp : (progC fs).1 = 0) (hf : findF fs name = none) :
    Calls Tryz.prog 17 #[.slice A fs.length c, .string (mkB name), .slice X args.length xc, .int .i64 ticks] w (RunPost E fs name args ticks w) := by
  have HPR : Hid (∀ w', Below w.heap.size w w' → Calls Tryz.prog 9 #[.slice A fs.length c] w' (ProgPost E fs w')) := fun w' hb => Program_any E fs hsm S A c hl hc w' (hE.keep hb) (hr.keep ((Keeps.of_below hb).in _) (fun _ h => h))
  have HIX : Hid (∀ w', Below w.heap.size w w' → w'.cell? ⟨w.heap.size, 0, none⟩ = some (.string (mkB name)) → Calls Tryz.prog 39 #[.slice A fs.length c, .func (.func 40) #[] #[.pointer (some ⟨w.heap.size, 0, none⟩)]] w' (Ret (.int .i64 (firstFn name fs 0)) w')) := fun w' hb hcell => idxRun_any name fs (by omega) w.heap.size S A c w' (hr.keep ((Keeps.of_below hb).in _) (fun _ h => h)) hcell
  have HLD : Hid (∀ w', Below w.heap.size w w' → Laid E w') := fun w' hb => hE.keep hb
  have HRG := Lib.hid hr
  have HG8 : Hid (2 < w.heap.size) := World.block_lt_of_cell? w _ hE.c8
  have HG1 : Hid (3 < w.heap.size) := World.block_lt_of_cell? w _ hE.c1
  have HG5 : Hid (1 < w.heap.size) := World.block_lt_of_cell? w _ hE.c5
  have HP := Lib.hid hp
  have hb2 : Below w.heap.size w ((w.alloc (.cells #[.string (mkB name)] 9)).alloc (.cells #[.string ⟨#[]⟩, .int .i64 0, .slice none 0 0, .int .i64 0] 47)) := grow_alloc (grow_alloc (grow_refl _) _) _
  have hk := heap_alloc_new (w.alloc (.cells #[.string (mkB name)] 9)) (.cells #[.string ⟨#[]⟩, .int .i64 0, .slice none 0 0, .int .i64 0] 47)
  rw [show (w.alloc (.cells #[.string (mkB name)] 9)).heap.size = w.heap.size + 1 by simp] at hk
  have hkn := ((grow_alloc (grow_refl (w.alloc (.cells #[.string (mkB name)] 9))) (.cells #[.string ⟨#[]⟩, .int .i64 0, .slice none 0 0, .int .i64 0] 47)).block w.heap.size (by simp)).trans (heap_alloc_new w (.cells #[.string (mkB name)] 9))
  have HB2 := Lib.hid hb2
  have HK := Lib.hid hk
  have HKN := Lib.hid hkn
  have HC : Hid (runC fs name args.length ticks = (6, -1)) := show _ = _ by unfold runC; rw [if_neg (by rw [hp]; decide), hf]
  have hfi : firstFn name fs 0 = -1 := by
    rcases firstFn_find name fs 0 with ⟨h1, h2⟩ | ⟨i, hi, h1, h2, _⟩
    · exact h2
    · rw [hf] at h2; cases h2
  rw [hfi] at HIX
  clear hfi hf hp
  clear hsm hr hE hb2 hk hkn
  go_enter Tryz.func17, Tryz.ntmps17
  go_wp2_with (first
    | (go_at_call 9; (with_reducible refine (HPR.out _ HB2.out).mono ?_); rintro y w3 ⟨v3, rfl, he3, hb3, hn3⟩; obtain rfl := hn3.2 HP.out; have hk3 := (hb3.block _ (by simp)).trans HK.out; have hkn3 := (hb3.block _ (by simp; omega)).trans HKN.out; have HK3 := Lib.hid hk3; have HKN3 := Lib.hid hkn3; have HCN : Hid (w3.cell? ⟨w.heap.size, 0, none⟩ = some (.string (mkB name))) := Lib.hid (row1 hkn3); have HB3 := Lib.hid (grow_trans HB2.out hb3); clear he3 hn3 hb3 hk3 hkn3)
    | (go_at_call 39; (with_reducible refine (HIX.out _ HB3.out HCN.out).mono ?_); rintro y w4 ⟨rfl, hb4⟩; have hk4 := (hb4.block _ (Array.getElem?_eq_some_iff.1 HK3.out).1).trans HK3.out; obtain ⟨e0, e1, e2, e3⟩ := row4 hk4; have y0 := row_frozen hk4 0; have y1 := row_frozen hk4 1; have y2 := row_frozen hk4 2; have y3 := row_frozen hk4 3; have hb04 := grow_trans HB3.out hb4; have ld := HLD.out _ hb04; have g5 := ld.c5; have g8 := ld.c8; have g1 := ld.c1; have g8x := cell_same g8 (far4 (w := w4) (q := w.heap.size + 1) (v0 := .string ⟨#[]⟩) (v1 := .int .i64 0) (v2 := .slice none 0 0) (v3 := .int .i64 0) _ (by have := HG8.out; simp only; omega)); have g1x := cell_same g1 (far4 (w := w4) (q := w.heap.size + 1) (v0 := .string ⟨#[]⟩) (v1 := .int .i64 0) (v2 := .slice none 0 0) (v3 := .int .i64 0) _ (by have := HG1.out; simp only; omega)); have g5x := cell_same g5 (far4 (w := w4) (q := w.heap.size + 1) (v0 := .string ⟨#[]⟩) (v1 := .int .i64 0) (v2 := .slice none 0 0) (v3 := .int .i64 0) _ (by have := HG5.out; simp only; omega)); have hkn4 := (hb4.block _ (Array.getElem?_eq_some_iff.1 HKN3.out).1).trans HKN3.out; have HK4 := Lib.hid hk4; have HKN4 := Lib.hid hkn4; have HB4 := Lib.hid hb04;  clear hb4 hk4 hkn4 hb04 ld))
  go_region
  all_goals go_wp2_with fail
  all_goals
    have hk5 := set4 (w := w4) (v0 := .string ⟨#[]⟩) (v1 := .int .i64 0) (v2 := .slice none 0 0) (v3 := .int .i64 0) HK4.out
    have hb5 := below4 (w := w4) (q := w.heap.size + 1) (v0 := .string ⟨#[]⟩) (v1 := .int .i64 0) (v2 := .slice none 0 0) (v3 := .int .i64 0) HB4.out (by omega)
    obtain ⟨wf, hwf⟩ : ∃ wf, (((w4.setCell ⟨w.heap.size + 1, 0, none⟩ (.string ⟨#[]⟩)).setCell ⟨w.heap.size + 1, 1, none⟩ (.int .i64 0)).setCell ⟨w.heap.size + 1, 2, none⟩ (.slice none 0 0)).setCell ⟨w.heap.size + 1, 3, none⟩ (.int .i64 0) = wf := ⟨_, rfl⟩
    rw [hwf] at hk5 hb5
    rw [hwf]
    obtain ⟨z0, z1, z2, z3⟩ := row4 hk5
    refine bodyPost_ret (v := .tuple #[.agg #[.string ⟨#[]⟩, .int .i64 0, .slice none 0 0, .int .i64 0], esV (E 5)]) (by simp [results, Tryz.results17, go_sem, z0, z1, z2, z3]; try rfl) rfl ?_
    unfold RunPost
    rw [HC.out]
    exact ⟨esV (E 5), none, 0, oc0, rfl, ErrIs.es (by omega), ⟨fun e => (by cases e), fun e => absurd e (by decide)⟩, by rw [if_neg (by decide)], Row.nil _ _, Nat.le_refl _, hb5.drew⟩
set_option maxHeartbeats 4000000 in
set_option maxRecDepth 100000 in
theorem run_args (E : Nat → Addr) (fs : List PFun) (hsm : ∀ f ∈ fs, SmF f) (S : Nat → Prop) (A : Option Addr) (c : Nat) (hl : fs.length ≤ 12) (hc : fs.length ≤ c) (name : Nm) (args : List Int) (ha : args.length ≤ 1000) (X : Option Addr) (xc : Nat) (ticks : Int) (w : World) (hE : Laid E w) (hr : RdG w S fs A) (hp : (progC fs).1 = 0) (f : PFun) (hf : findF fs name = some f) (hn : f.params.length ≠ args.length) :
    Calls Tryz.prog 17 #[.slice A fs.length c, .string (mkB name), .slice X args.length xc, .int .i64 ticks] w (RunPost E fs name args ticks w) := by
  have HPR : Hid (∀ w', Below w.heap.size w w' → Calls Tryz.prog 9 #[.slice A fs.length c] w' (ProgPost E fs w')) := fun w' hb => Program_any E fs hsm S A c hl hc w' (hE.keep hb) (hr.keep ((Keeps.of_below hb).in _) (fun _ h => h))
  have HIX : Hid (∀ w', Below w.heap.size w w' → w'.cell? ⟨w.heap.size, 0, none⟩ = some (.string (mkB name)) → Calls Tryz.prog 39 #[.slice A fs.length c, .func (.func 40) #[] #[.pointer (some ⟨w.heap.size, 0, none⟩)]] w' (Ret (.int .i64 (firstFn name fs 0)) w')) := fun w' hb hcell => idxRun_any name fs (by omega) w.heap.size S A c w' (hr.keep ((Keeps.of_below hb).in _) (fun _ h => h)) hcell
  have HLD : Hid (∀ w', Below w.heap.size w w' → Laid E w') := fun w' hb => hE.keep hb
  have HRG := Lib.hid hr
  have HG8 : Hid (2 < w.heap.size) := World.block_lt_of_cell? w _ hE.c8
  have HG1 : Hid (3 < w.heap.size) := World.block_lt_of_cell? w _ hE.c1
  have HG5 : Hid (1 < w.heap.size) := World.block_lt_of_cell? w _ hE.c5
  have HP := Lib.hid hp
  have hb2 : Below w.heap.size w ((w.alloc (.cells #[.string (mkB name)] 9)).alloc (.cells #[.string ⟨#[]⟩, .int .i64 0, .slice none 0 0, .int .i64 0] 47)) := grow_alloc (grow_alloc (grow_refl _) _) _
  have hk := heap_alloc_new (w.alloc (.cells #[.string (mkB name)] 9)) (.cells #[.string ⟨#[]⟩, .int .i64 0, .slice none 0 0, .int .i64 0] 47)
  rw [show (w.alloc (.cells #[.string (mkB name)] 9)).heap.size = w.heap.size + 1 by simp] at hk
  have hkn := ((grow_alloc (grow_refl (w.alloc (.cells #[.string (mkB name)] 9))) (.cells #[.string ⟨#[]⟩, .int .i64 0, .slice none 0 0, .int .i64 0] 47)).block w.heap.size (by simp)).trans (heap_alloc_new w (.cells #[.string (mkB name)] 9))
  have HB2 := Lib.hid hb2
  have HK := Lib.hid hk
  have HKN := Lib.hid hkn
  have HC : Hid (runC fs name args.length ticks = (9, -1)) := show _ = _ by unfold runC; rw [if_neg (by rw [hp]; decide), hf]; simp only; rw [if_pos hn]
  obtain ⟨i, hi, hfi, hfi2, -⟩ : ∃ i, ∃ hi : i < fs.length, firstFn name fs 0 = ((i : Nat) : Int) ∧ findF fs name = some fs[i] ∧ fs[i].name = name := by
    rcases firstFn_find name fs 0 with ⟨h1, h2⟩ | ⟨i, hi, h1, h2, h3⟩
    · rw [hf] at h1; cases h1
    · exact ⟨i, hi, by rw [h1]; simp, h2, h3⟩
  have hfe : fs[i] = f := by rw [hf] at hfi2; exact (Option.some.inj hfi2).symm
  have HFE := Lib.hid hfe
  rw [hfi] at HIX
  have hi1 : (i : Int) < (fs.length : Int) := by omega
  have hi2 : (0 : Int) ≤ (i : Int) := by omega
  have hi3 : ¬ ((i : Int) < 0) := by omega
  have HHI := Lib.hid hi
  have hnn : ((f.params.length : Int) != (args.length : Int)) = true := by rw [bne_iff_ne]; omega
  clear hfi hfi2 hf hp hn hfe
  clear hsm hr hE hb2 hk hkn
  go_enter Tryz.func17, Tryz.ntmps17
  go_wp2_with (first
    | (go_at_call 9; (with_reducible refine (HPR.out _ HB2.out).mono ?_); rintro y w3 ⟨v3, rfl, he3, hb3, hn3⟩; obtain rfl := hn3.2 HP.out; have hk3 := (hb3.block _ (by simp)).trans HK.out; have hkn3 := (hb3.block _ (by simp; omega)).trans HKN.out; have HK3 := Lib.hid hk3; have HKN3 := Lib.hid hkn3; have HCN : Hid (w3.cell? ⟨w.heap.size, 0, none⟩ = some (.string (mkB name))) := Lib.hid (row1 hkn3); have HB3 := Lib.hid (grow_trans HB2.out hb3); clear he3 hn3 hb3 hk3 hkn3)
    | (go_at_call 39; (with_reducible refine (HIX.out _ HB3.out HCN.out).mono ?_); rintro y w4 ⟨rfl, hb4⟩; have hk4 := (hb4.block _ (Array.getElem?_eq_some_iff.1 HK3.out).1).trans HK3.out; obtain ⟨e0, e1, e2, e3⟩ := row4 hk4; have y0 := row_frozen hk4 0; have y1 := row_frozen hk4 1; have y2 := row_frozen hk4 2; have y3 := row_frozen hk4 3; have hb04 := grow_trans HB3.out hb4; have ld := HLD.out _ hb04; have g5 := ld.c5; have g8 := ld.c8; have g1 := ld.c1; have g8x := cell_same g8 (far4 (w := w4) (q := w.heap.size + 1) (v0 := .string ⟨#[]⟩) (v1 := .int .i64 0) (v2 := .slice none 0 0) (v3 := .int .i64 0) _ (by have := HG8.out; simp only; omega)); have g1x := cell_same g1 (far4 (w := w4) (q := w.heap.size + 1) (v0 := .string ⟨#[]⟩) (v1 := .int .i64 0) (v2 := .slice none 0 0) (v3 := .int .i64 0) _ (by have := HG1.out; simp only; omega)); have g5x := cell_same g5 (far4 (w := w4) (q := w.heap.size + 1) (v0 := .string ⟨#[]⟩) (v1 := .int .i64 0) (v2 := .slice none 0 0) (v3 := .int .i64 0) _ (by have := HG5.out; simp only; omega)); have hkn4 := (hb4.block _ (Array.getElem?_eq_some_iff.1 HKN3.out).1).trans HKN3.out; have HK4 := Lib.hid hk4; have HKN4 := Lib.hid hkn4; have HB4 := Lib.hid hb04; obtain ⟨bq, oq, P, p, B, d', rfl, -, hcells, -, -, -⟩ := (HRG.out.keep ((Keeps.of_below hb04).in S) (fun _ h => h)) i HHI.out; rw [HFE.out] at hcells; obtain ⟨q0, q1, q2⟩ := cells_fun hcells; clear hcells; clear hb4 hk4 hkn4 hb04 ld))
  go_region
  all_goals go_wp2_with fail
  all_goals
    have hk5 := set4 (w := w4) (v0 := .string ⟨#[]⟩) (v1 := .int .i64 0) (v2 := .slice none 0 0) (v3 := .int .i64 0) HK4.out
    have hb5 := below4 (w := w4) (q := w.heap.size + 1) (v0 := .string ⟨#[]⟩) (v1 := .int .i64 0) (v2 := .slice none 0 0) (v3 := .int .i64 0) HB4.out (by omega)
    obtain ⟨wf, hwf⟩ : ∃ wf, (((w4.setCell ⟨w.heap.size + 1, 0, none⟩ (.string ⟨#[]⟩)).setCell ⟨w.heap.size + 1, 1, none⟩ (.int .i64 0)).setCell ⟨w.heap.size + 1, 2, none⟩ (.slice none 0 0)).setCell ⟨w.heap.size + 1, 3, none⟩ (.int .i64 0) = wf := ⟨_, rfl⟩
    rw [hwf] at hk5 hb5
    rw [hwf]
    obtain ⟨z0, z1, z2, z3⟩ := row4 hk5
    refine bodyPost_ret (v := .tuple #[.agg #[.string ⟨#[]⟩, .int .i64 0, .slice none 0 0, .int .i64 0], esV (E 8)]) (by simp [results, Tryz.results17, go_sem, z0, z1, z2, z3]; try rfl) rfl ?_
    unfold RunPost
    rw [HC.out]
    exact ⟨esV (E 8), none, 0, oc0, rfl, ErrIs.es (by omega), ⟨fun e => (by cases e), fun e => absurd e (by decide)⟩, by rw [if_neg (by decide)], Row.nil _ _, Nat.le_refl _, hb5.drew⟩
set_option maxHeartbeats 4000000 in
set_option maxRecDepth 100000 in
theorem run_bound (E : Nat → Addr) (fs : List PFun) (hsm : ∀ f ∈ fs, SmF f) (S : Nat → Prop) (A : Option Addr) (c : Nat) (hl : fs.length ≤ 12) (hc : fs.length ≤ c) (name : Nm) (args : List Int) (ha : args.length ≤ 1000) (X : Option Addr) (xc : Nat) (ticks : Int) (w : World) (hE : Laid E w) (hr : RdG w S fs A) (hp : (progC fs).1 = 0) (f : PFun) (hf : findF fs name = some f) (hn : f.params.length = args.length) (ht : ticks < 0 ∨ 5000 < ticks) :
    Calls Tryz.prog 17 #[.slice A fs.length c, .string (mkB name), .slice X args.length xc, .int .i64 ticks] w (RunPost E fs name args ticks w) := by
  have HPR : Hid (∀ w', Below w.heap.size w w' → Calls Tryz.prog 9 #[.slice A fs.length c] w' (ProgPost E fs w')) := fun w' hb => Program_any E fs hsm S A c hl hc w' (hE.keep hb) (hr.keep ((Keeps.of_below hb).in _) (fun _ h => h))
  have HIX : Hid (∀ w', Below w.heap.size w w' → w'.cell? ⟨w.heap.size, 0, none⟩ = some (.string (mkB name)) → Calls Tryz.prog 39 #[.slice A fs.length c, .func (.func 40) #[] #[.pointer (some ⟨w.heap.size, 0, none⟩)]] w' (Ret (.int .i64 (firstFn name fs 0)) w')) := fun w' hb hcell => idxRun_any name fs (by omega) w.heap.size S A c w' (hr.keep ((Keeps.of_below hb).in _) (fun _ h => h)) hcell
  have HLD : Hid (∀ w', Below w.heap.size w w' → Laid E w') := fun w' hb => hE.keep hb
  have HRG := Lib.hid hr
  have HG8 : Hid (2 < w.heap.size) := World.block_lt_of_cell? w _ hE.c8
  have HG1 : Hid (3 < w.heap.size) := World.block_lt_of_cell? w _ hE.c1
  have HG5 : Hid (1 < w.heap.size) := World.block_lt_of_cell? w _ hE.c5
  have HP := Lib.hid hp
  have hb2 : Below w.heap.size w ((w.alloc (.cells #[.string (mkB name)] 9)).alloc (.cells #[.string ⟨#[]⟩, .int .i64 0, .slice none 0 0, .int .i64 0] 47)) := grow_alloc (grow_alloc (grow_refl _) _) _
  have hk := heap_alloc_new (w.alloc (.cells #[.string (mkB name)] 9)) (.cells #[.string ⟨#[]⟩, .int .i64 0, .slice none 0 0, .int .i64 0] 47)
  rw [show (w.alloc (.cells #[.string (mkB name)] 9)).heap.size = w.heap.size + 1 by simp] at hk
  have hkn := ((grow_alloc (grow_refl (w.alloc (.cells #[.string (mkB name)] 9))) (.cells #[.string ⟨#[]⟩, .int .i64 0, .slice none 0 0, .int .i64 0] 47)).block w.heap.size (by simp)).trans (heap_alloc_new w (.cells #[.string (mkB name)] 9))
  have HB2 := Lib.hid hb2
  have HK := Lib.hid hk
  have HKN := Lib.hid hkn
  have HC : Hid (runC fs name args.length ticks = (2, -1)) := show _ = _ by unfold runC; rw [if_neg (by rw [hp]; decide), hf]; simp only; rw [if_neg (by simp [hn]), if_pos ht]
  obtain ⟨i, hi, hfi, hfi2, -⟩ : ∃ i, ∃ hi : i < fs.length, firstFn name fs 0 = ((i : Nat) : Int) ∧ findF fs name = some fs[i] ∧ fs[i].name = name := by
    rcases firstFn_find name fs 0 with ⟨h1, h2⟩ | ⟨i, hi, h1, h2, h3⟩
    · rw [hf] at h1; cases h1
    · exact ⟨i, hi, by rw [h1]; simp, h2, h3⟩
  have hfe : fs[i] = f := by rw [hf] at hfi2; exact (Option.some.inj hfi2).symm
  have HFE := Lib.hid hfe
  rw [hfi] at HIX
  have hi1 : (i : Int) < (fs.length : Int) := by omega
  have hi2 : (0 : Int) ≤ (i : Int) := by omega
  have hi3 : ¬ ((i : Int) < 0) := by omega
  have HHI := Lib.hid hi
  have hnn : ((f.params.length : Int) != (args.length : Int)) = false := by rw [hn]; simp
  clear hfi hfi2 hf hp hn hfe
  clear hsm hr hE hb2 hk hkn
  rcases ht with ht | ht
  all_goals
    go_enter Tryz.func17, Tryz.ntmps17
    go_wp2_with (first
      | (go_at_call 9; (with_reducible refine (HPR.out _ HB2.out).mono ?_); rintro y w3 ⟨v3, rfl, he3, hb3, hn3⟩; obtain rfl := hn3.2 HP.out; have hk3 := (hb3.block _ (by simp)).trans HK.out; have hkn3 := (hb3.block _ (by simp; omega)).trans HKN.out; have HK3 := Lib.hid hk3; have HKN3 := Lib.hid hkn3; have HCN : Hid (w3.cell? ⟨w.heap.size, 0, none⟩ = some (.string (mkB name))) := Lib.hid (row1 hkn3); have HB3 := Lib.hid (grow_trans HB2.out hb3); clear he3 hn3 hb3 hk3 hkn3)
      | (go_at_call 39; (with_reducible refine (HIX.out _ HB3.out HCN.out).mono ?_); rintro y w4 ⟨rfl, hb4⟩; have hk4 := (hb4.block _ (Array.getElem?_eq_some_iff.1 HK3.out).1).trans HK3.out; obtain ⟨e0, e1, e2, e3⟩ := row4 hk4; have y0 := row_frozen hk4 0; have y1 := row_frozen hk4 1; have y2 := row_frozen hk4 2; have y3 := row_frozen hk4 3; have hb04 := grow_trans HB3.out hb4; have ld := HLD.out _ hb04; have g5 := ld.c5; have g8 := ld.c8; have g1 := ld.c1; have g8x := cell_same g8 (far4 (w := w4) (q := w.heap.size + 1) (v0 := .string ⟨#[]⟩) (v1 := .int .i64 0) (v2 := .slice none 0 0) (v3 := .int .i64 0) _ (by have := HG8.out; simp only; omega)); have g1x := cell_same g1 (far4 (w := w4) (q := w.heap.size + 1) (v0 := .string ⟨#[]⟩) (v1 := .int .i64 0) (v2 := .slice none 0 0) (v3 := .int .i64 0) _ (by have := HG1.out; simp only; omega)); have g5x := cell_same g5 (far4 (w := w4) (q := w.heap.size + 1) (v0 := .string ⟨#[]⟩) (v1 := .int .i64 0) (v2 := .slice none 0 0) (v3 := .int .i64 0) _ (by have := HG5.out; simp only; omega)); have hkn4 := (hb4.block _ (Array.getElem?_eq_some_iff.1 HKN3.out).1).trans HKN3.out; have HK4 := Lib.hid hk4; have HKN4 := Lib.hid hkn4; have HB4 := Lib.hid hb04; obtain ⟨bq, oq, P, p, B, d', rfl, -, hcells, -, -, -⟩ := (HRG.out.keep ((Keeps.of_below hb04).in S) (fun _ h => h)) i HHI.out; rw [HFE.out] at hcells; obtain ⟨q0, q1, q2⟩ := cells_fun hcells; clear hcells; clear hb4 hk4 hkn4 hb04 ld))
    go_region
    all_goals go_wp2_with fail
    all_goals
      have hk5 := set4 (w := w4) (v0 := .string ⟨#[]⟩) (v1 := .int .i64 0) (v2 := .slice none 0 0) (v3 := .int .i64 0) HK4.out
      have hb5 := below4 (w := w4) (q := w.heap.size + 1) (v0 := .string ⟨#[]⟩) (v1 := .int .i64 0) (v2 := .slice none 0 0) (v3 := .int .i64 0) HB4.out (by omega)
      obtain ⟨wf, hwf⟩ : ∃ wf, (((w4.setCell ⟨w.heap.size + 1, 0, none⟩ (.string ⟨#[]⟩)).setCell ⟨w.heap.size + 1, 1, none⟩ (.int .i64 0)).setCell ⟨w.heap.size + 1, 2, none⟩ (.slice none 0 0)).setCell ⟨w.heap.size + 1, 3, none⟩ (.int .i64 0) = wf := ⟨_, rfl⟩
      rw [hwf] at hk5 hb5
      rw [hwf]
      obtain ⟨z0, z1, z2, z3⟩ := row4 hk5
      refine bodyPost_ret (v := .tuple #[.agg #[.string ⟨#[]⟩, .int .i64 0, .slice none 0 0, .int .i64 0], esV (E 1)]) (by simp [results, Tryz.results17, go_sem, z0, z1, z2, z3]; try rfl) rfl ?_
      unfold RunPost
      rw [HC.out]
      exact ⟨esV (E 1), none, 0, oc0, rfl, ErrIs.es (by omega), ⟨fun e => (by cases e), fun e => absurd e (by decide)⟩, by rw [if_neg (by decide)], Row.nil _ _, Nat.le_refl _, hb5.drew⟩
/-! the run itself -/
theorem rdG_vals {w : World} {S : Nat → Prop} {fs : List PFun} {A : Option Addr} (h : RdG w S fs A) : ∃ V : Nat → Value, ∀ i (hi : i < fs.length), ∃ b off P p B c, A = some ⟨b, off, none⟩ ∧ CellsAt w b (off + i * 3) (funL fs[i] P p B c) ∧
    V i = .agg #[.string (mkB fs[i].name), .slice P fs[i].params.length p, .slice B fs[i].body.length c] ∧ RdT w (fun k => k < w.heap.size) fs[i].params P ∧ RdS w (fun k => k < w.heap.size) fs[i].body B := by
  have one : ∀ i (hi : i < fs.length), ∃ y : Value, ∃ b off P p B c, A = some ⟨b, off, none⟩ ∧ CellsAt w b (off + i * 3) (funL fs[i] P p B c) ∧
      y = .agg #[.string (mkB fs[i].name), .slice P fs[i].params.length p, .slice B fs[i].body.length c] ∧ RdT w (fun k => k < w.heap.size) fs[i].params P ∧ RdS w (fun k => k < w.heap.size) fs[i].body B := fun i hi => by
    obtain ⟨b, off, P, p, B, c, e, _, hc, hp, _, hb⟩ := h i hi
    exact ⟨_, b, off, P, p, B, c, e, hc, rfl, fun j hj => by
      obtain ⟨b', off', e', _, hc'⟩ := hp j hj
      exact ⟨b', off', e', World.block_lt_of_cell? w _ hc', hc'⟩, (hb.lt).keep ((Keeps.refl _).in _) (fun k hk => hk.2)⟩
  exact ⟨fun i => if hi : i < fs.length then Classical.choose (one i hi) else .bool false, fun i hi => by
    simp only [dif_pos hi]
    exact Classical.choose_spec (one i hi)⟩
/-- The functions' map, up to k. -/
def FunsTo (fs : List PFun) (V : Nat → Value) (k : Nat) (F : Nm → Option Value) : Prop := ∀ i (hi : i < fs.length), i < k → F fs[i].name = some (V i)
theorem names_apart {fs : List PFun} (h : (progC fs).1 = 0) {i j : Nat} (hi : i < fs.length) (hj : j < fs.length) (hij : i < j) : fs[i].name ≠ fs[j].name := by
  intro e
  have h1 := (progC_ok.1 h).2 j hj
  have h2 := (namesC_ok.1 (funC_ok.1 h1).1).2.1
  rw [List.any_eq_false] at h2
  have hm : fs[i] ∈ fs.take j := by
    rw [List.mem_take_iff_getElem]
    exact ⟨i, by omega, rfl⟩
  exact h2 _ hm (by simpa using e)
theorem FunsTo.step {fs : List PFun} {V : Nat → Value} {k : Nat} {F : Nm → Option Value} (hp : (progC fs).1 = 0) (h : FunsTo fs V k F) (hk : k < fs.length) : FunsTo fs V (k + 1) (putF F fs[k].name (V k)) := by
  intro i hi hik
  unfold putF
  by_cases e : i = k
  · subst e; rw [if_pos rfl]
  · rw [if_neg (names_apart hp hi hk (by omega))]
    exact h i hi (by omega)
theorem funs_in {fs : List PFun} {V : Nat → Value} {F : Nm → Option Value} {base : Nat} {w w' : World} {A : Option Addr} (hb : w.heap.size ≤ base) (hw : Below w.heap.size w w') (hF : FunsTo fs V fs.length F) (hV : ∀ i (hi : i < fs.length), ∃ b off P p B c, A = some ⟨b, off, none⟩ ∧ CellsAt w b (off + i * 3) (funL fs[i] P p B c) ∧
    V i = .agg #[.string (mkB fs[i].name), .slice P fs[i].params.length p, .slice B fs[i].body.length c] ∧ RdT w (fun k => k < w.heap.size) fs[i].params P ∧ RdS w (fun k => k < w.heap.size) fs[i].body B) : FunsIn fs F base w' := by
  intro name f hf
  rcases firstFn_find name fs 0 with ⟨h1, h2⟩ | ⟨i, hi, h1, h2, h3⟩
  · rw [hf] at h1; cases h1
  · rw [hf] at h2
    have e := Option.some.inj h2
    subst e
    obtain ⟨b, off, P, p, B, c, _, _, e, hP, hB⟩ := hV i hi
    refine ⟨P, p, B, c, ?_, hP.keep ((Keeps.of_below hw).in _) (fun k hk => Nat.lt_of_lt_of_le hk hb), hB.keep ((Keeps.of_below hw).in _) (fun k hk => Nat.lt_of_lt_of_le hk hb)⟩
    have := hF i hi hi
    rw [h3] at this
    rw [this, e]
end Go.Proofs.YtnpdjncgilekhaaGreatDoor

namespace Go.Proofs.YtnpdjncgilekhaaGreatDoor
open Go.RowKit

theorem args_there {fs : List PFun} {n : Nm} {f : PFun} (h : findF fs n = some f) : argsOf (tabOf fs) n = some f.params.length := by
  unfold findF at h
  unfold argsOf tabOf
  induction fs with
  | nil => cases h
  | cons g gs ih =>
    rw [List.find?_cons] at h
    rw [List.map_cons, List.find?_cons]
    by_cases hg : (g.name == n) = true
    · rw [hg] at h
      simp only [hg]
      have := Option.some.inj h
      subst this; rfl
    · simp only [Bool.not_eq_true] at hg
      rw [hg] at h
      simp only [hg]
      exact ih h
theorem call_each (E : Nat → Addr) (fs : List PFun) (base m fb nf T : Nat) (F : Nm → Option Value) (hT : T ≤ 5000) (hwf : ∀ f ∈ fs, WfF (tabOf fs) f) : ∀ e, e ≤ 40 → CCall E fs base m fb nf T F (callP fs T e) (tabOf fs) (40 - e) := by
  intro e
  induction e with
  | zero =>
    intro _ name l st v A c w hE hM hA hAm hn ha
    cases ho : st.over
    · by_cases ht : st.ticks < T
      · exact call_deep E fs base m fb nf T F hT (tabOf fs) name l st v A c w hM ho ht
      · exact call_tired E fs base m fb nf T F hT (tabOf fs) 40 name l st v A c w hM ho ht
    · exact call_over E fs base m fb nf T F hT (tabOf fs) 40 name l st v A c w hM ho
  | succ e ih =>
    intro he name l st v A c w hE hM hA hAm hn ha
    obtain ⟨d, hd⟩ : ∃ d, 40 - (e + 1) = d := ⟨_, rfl⟩
    have h40 : 40 - d = e + 1 := by omega
    rw [hd] at hM ⊢
    cases ho : st.over
    · by_cases ht : st.ticks < T
      · obtain ⟨f, hf, hfm, hfn, hp⟩ := find_there ha
        have hw := hwf f hfm
        obtain ⟨N, hN12, hPN, hs⟩ := hw.body
        have ih' := ih (by omega)
        rw [show 40 - e = d + 1 by omega] at ih'
        rw [callP_body ho ht hf]
        exact call_body E fs base m fb nf T F hT d (by omega) (callP fs T e) name l st v A c w hE hM hA hAm hn f hf hp hw.four N hN12 hPN hw.small.texts
          (fun x b => block_any E fs base m fb nf T F hT (callP fs T e) (go_call fs T e) (tabOf fs) (d + 1) x b N hN12 ih' f.body hw.small.body hs) ho ht
      · have := call_tired E fs base m fb nf T F hT (tabOf fs) d name l st v A c w hM ho ht
        rw [h40] at this
        exact this
    · have := call_over E fs base m fb nf T F hT (tabOf fs) d name l st v A c w hM ho
      rw [h40] at this
      exact this
set_option maxHeartbeats 8000000 in
set_option maxRecDepth 100000 in
theorem run_ok (E : Nat → Addr) (fs : List PFun) (hsm : ∀ f ∈ fs, SmF f) (S : Nat → Prop) (A : Option Addr) (c : Nat) (hl : fs.length ≤ 12) (hc : fs.length ≤ c) (name : Nm) (hnl : name.length ≤ 1000) (args : List Int) (ha : args.length ≤ 1000) (X : Option Addr) (xc : Nat) (ticks : Int) (w : World) (hE : Laid E w) (hr : RdG w S fs A) (hp : (progC fs).1 = 0)
    (hX : Row w X (intVs args)) (hXl : ∀ a, X = some a → a.block < w.heap.size) (f : PFun) (hf : findF fs name = some f) (hn : f.params.length = args.length) (ht1 : ¬ ticks < 0) (ht2 : ¬ 5000 < ticks) :
    Calls Tryz.prog 17 #[.slice A fs.length c, .string (mkB name), .slice X args.length xc, .int .i64 ticks] w (RunPost E fs name args ticks w) := by
  have HPR : Hid (∀ w', Below w.heap.size w w' → Calls Tryz.prog 9 #[.slice A fs.length c] w' (ProgPost E fs w')) := fun w' hb => Program_any E fs hsm S A c hl hc w' (hE.keep hb) (hr.keep ((Keeps.of_below hb).in _) (fun _ h => h))
  have HIX : Hid (∀ w', Below w.heap.size w w' → w'.cell? ⟨w.heap.size, 0, none⟩ = some (.string (mkB name)) → Calls Tryz.prog 39 #[.slice A fs.length c, .func (.func 40) #[] #[.pointer (some ⟨w.heap.size, 0, none⟩)]] w' (Ret (.int .i64 (firstFn name fs 0)) w')) := fun w' hb hcell => idxRun_any name fs (by omega) w.heap.size S A c w' (hr.keep ((Keeps.of_below hb).in _) (fun _ h => h)) hcell
  have HWF := Lib.hid (wfF_prog hsm hp)
  have HLD := Lib.hid hE
  have HRG := Lib.hid hr
  have HSM := Lib.hid hsm
  have HP := Lib.hid hp
  have HX := Lib.hid hX
  have HXL := Lib.hid hXl
  have HF := Lib.hid hf
  have hmm := @run_makeMap Tryz.prog
  obtain ⟨V, hV⟩ := rdG_vals hr
  have HV := Lib.hid hV
  have hb2 : Below w.heap.size w ((w.alloc (.cells #[.string (mkB name)] 9)).alloc (.cells #[.string ⟨#[]⟩, .int .i64 0, .slice none 0 0, .int .i64 0] 47)) := grow_alloc (grow_alloc (grow_refl _) _) _
  have hk := heap_alloc_new (w.alloc (.cells #[.string (mkB name)] 9)) (.cells #[.string ⟨#[]⟩, .int .i64 0, .slice none 0 0, .int .i64 0] 47)
  rw [show (w.alloc (.cells #[.string (mkB name)] 9)).heap.size = w.heap.size + 1 by simp] at hk
  have hkn := ((grow_alloc (grow_refl (w.alloc (.cells #[.string (mkB name)] 9))) (.cells #[.string ⟨#[]⟩, .int .i64 0, .slice none 0 0, .int .i64 0] 47)).block w.heap.size (by simp)).trans (heap_alloc_new w (.cells #[.string (mkB name)] 9))
  have HB2 := Lib.hid hb2
  have HK := Lib.hid hk
  have HKN := Lib.hid hkn
  have HC : Hid (runC fs name args.length ticks = (0, -1)) := show _ = _ by unfold runC; rw [if_neg (by rw [hp]; decide), hf]; simp only; rw [if_neg (by simp [hn]), if_neg (by omega)]
  obtain ⟨i, hi, hfi, hfi2, hin⟩ : ∃ i, ∃ hi : i < fs.length, firstFn name fs 0 = ((i : Nat) : Int) ∧ findF fs name = some fs[i] ∧ fs[i].name = name := by
    rcases firstFn_find name fs 0 with ⟨h1, h2⟩ | ⟨i, hi, h1, h2, h3⟩
    · rw [hf] at h1; cases h1
    · exact ⟨i, hi, by rw [h1]; simp, h2, h3⟩
  have hfe : fs[i] = f := by rw [hf] at hfi2; exact (Option.some.inj hfi2).symm
  have HFE := Lib.hid hfe
  rw [hfi] at HIX
  have hi1 : (i : Int) < (fs.length : Int) := by omega
  have hi2 : (0 : Int) ≤ (i : Int) := by omega
  have hi3 : decide ((i : Int) < 0) = false := decide_eq_false (by omega)
  have HHI := Lib.hid hi
  have hnn : ((f.params.length : Int) != (args.length : Int)) = false := by rw [hn]; simp
  obtain ⟨T, hT⟩ : ∃ T : Nat, ticks = T := ⟨ticks.toNat, by omega⟩
  subst hT
  have hT5 : T ≤ 5000 := by omega
  have ht3 : decide ((T : Int) < 0) = false := decide_eq_false (by omega)
  have ht4 : decide ((5000 : Int) < T) = false := decide_eq_false (by omega)
  have HAR : Hid (argsOf (tabOf fs) name = some args.length) := show _ = _ by rw [args_there hf, hn]
  have HNL : Hid (name.length ≤ 20) := by
    have h1 := (hsm _ (List.getElem_mem hi)).name
    rw [hin] at h1
    exact h1
  clear hsm hr hE hb2 hk hkn hfi hfi2 hf hp hn hfe hX hXl hV ht1 ht2 hin
  go_enter Tryz.func17, Tryz.ntmps17
  go_wp2_with (first
    | (go_at_call 9; (with_reducible refine (HPR.out _ HB2.out).mono ?_); rintro y w3 ⟨v3, rfl, he3, hb3, hn3⟩; obtain rfl := hn3.2 HP.out; have hk3 := (hb3.block _ (by simp)).trans HK.out; have hkn3 := (hb3.block _ (by simp; omega)).trans HKN.out; have HK3 := Lib.hid hk3; have HKN3 := Lib.hid hkn3; have HCN : Hid (w3.cell? ⟨w.heap.size, 0, none⟩ = some (.string (mkB name))) := Lib.hid (row1 hkn3); have HB3 := Lib.hid (grow_trans HB2.out hb3); clear he3 hn3 hb3 hk3 hkn3)
    | (go_at_call 39; (with_reducible refine (HIX.out _ HB3.out HCN.out).mono ?_); rintro y w4 ⟨rfl, hb4⟩; have hk4 := (hb4.block _ (Array.getElem?_eq_some_iff.1 HK3.out).1).trans HK3.out; have hb04 := grow_trans HB3.out hb4; have hkn4 := (hb4.block _ (Array.getElem?_eq_some_iff.1 HKN3.out).1).trans HKN3.out; obtain ⟨bq, oq, P, p, B, d', rfl, -, hcells, -, -, -⟩ := (HRG.out.keep ((Keeps.of_below hb04).in S) (fun _ h => h)) i HHI.out; rw [HFE.out] at hcells; obtain ⟨q0, q1, q2⟩ := cells_fun hcells; clear hcells; have HK4 := Lib.hid hk4; have HKN4 := Lib.hid hkn4; have HB4 := Lib.hid hb04; clear hb4 hk4 hkn4 hb04))
  have hsz4 : w.heap.size + 2 ≤ w4.heap.size := by have := (Array.getElem?_eq_some_iff.1 HK4.out).1; omega
  have hb6 : Below w4.heap.size w4 ((w4.alloc (.map #[] 0)).alloc (.cells #[.map (some w4.heap.size), .string ⟨#[]⟩, .int .i64 0, .slice none 0 0, .int .i64 0, .int .i64 T, .int .i64 0] 86)) := grow_alloc (grow_alloc (grow_refl _) _) _
  have hm6 := heap_alloc_new (w4.alloc (.map #[] 0)) (.cells #[.map (some w4.heap.size), .string ⟨#[]⟩, .int .i64 0, .slice none 0 0, .int .i64 0, .int .i64 T, .int .i64 0] 86)
  rw [show (w4.alloc (.map #[] 0)).heap.size = w4.heap.size + 1 by simp] at hm6
  have hf6 := (MapAt.made w4).below (grow_alloc (grow_refl _) (.cells #[.map (some w4.heap.size), .string ⟨#[]⟩, .int .i64 0, .slice none 0 0, .int .i64 0, .int .i64 T, .int .i64 0] 86))
  have hs6 : ((w4.alloc (.map #[] 0)).alloc (.cells #[.map (some w4.heap.size), .string ⟨#[]⟩, .int .i64 0, .slice none 0 0, .int .i64 0, .int .i64 T, .int .i64 0] 86)).heap.size = w4.heap.size + 2 := by simp
  have hb06 := grow_trans HB4.out hb6
  obtain ⟨z, hz⟩ : ∃ z, w4.heap.size = z := ⟨_, rfl⟩
  rw [hz] at hb6 hm6 hf6 hs6 hb06 hsz4
  rw [hz]
  obtain ⟨w6, hw6⟩ : ∃ w6, (w4.alloc (.map #[] 0)).alloc (.cells #[.map (some z), .string ⟨#[]⟩, .int .i64 0, .slice none 0 0, .int .i64 0, .int .i64 T, .int .i64 0] 86) = w6 := ⟨_, rfl⟩
  rw [hw6] at hb6 hm6 hf6 hs6 hb06
  rw [hw6]
  have hk6 := (hb6.block (w.heap.size + 1) (by omega)).trans HK4.out
  have hkn6 := (hb6.block w.heap.size (by omega)).trans HKN4.out
  have HM6 := Lib.hid hm6
  have HF6 := Lib.hid hf6
  have HB6 := Lib.hid hb06
  have HK6 := Lib.hid hk6
  have HKN6 := Lib.hid hkn6
  have HS6 := Lib.hid hs6
  clear hb6 hm6 hf6 hb06 hk6 hkn6 hw6 q0 q1 q2 hs6 hz
  go_loopw [14, 57] (fun _ i wr => ∃ (k : Nat) (F : Nm → Option Value), k ≤ fs.length ∧ i = .int .i64 k ∧ MapAt wr z k F ∧ FunsTo fs V k F ∧ w6.heap.size ≤ wr.heap.size ∧ (∀ j, j < w6.heap.size → j ≠ z → wr.heap[j]? = w6.heap[j]?) ∧ Below w.heap.size w wr) (fun _ i _ => fs.length - (intOf i).toNat)
  case atStart => exact ⟨0, _, Nat.zero_le _, rfl, HF6.out, (fun i hi h => absurd h (by omega)), Nat.le_refl _, (fun _ _ _ => rfl), HB6.out⟩
  case round =>
    obtain ⟨k, F, hk, rfl, hma, hft, hsr, hfar, hbel⟩ := hrel
    have hmr := (hfar (z + 1) (by rw [HS6.out]; omega) (by omega)).trans HM6.out
    obtain ⟨c0, c1, c2, c3, c4, c5, c6⟩ := row7 hmr
    by_cases hlt : k < fs.length
    · obtain ⟨bq', oq', P', p', B', d'', hAe, hcells, hVk, -, -⟩ := HV.out k hlt
      simp only [Option.some.injEq, Addr.mk.injEq, and_true] at hAe
      obtain ⟨rfl, rfl⟩ := hAe
      have hcells2 := hcells.keep fun a v _ hv => Keeps.of_below hbel a v hv
      obtain ⟨q0, q1, q2⟩ := cells_fun hcells2
      have hlt' : (k : Int) < (fs.length : Int) := by omega
      have hst := hft.step HP.out hlt
      have hnl := (HSM.out _ (List.getElem_mem hlt)).name
      obtain ⟨g, hg⟩ : ∃ g, fs[k] = g := ⟨_, rfl⟩
      rw [hg] at q0 q1 q2 hVk hst hnl
      have hky : keyOf Tryz.prog 9 (.string (mkB g.name)) = some (.string g.name) := strKey g.name (by omega)
      have hal : Below wr.heap.size wr (wr.alloc (.cells #[.string (mkB g.name), .slice P' g.params.length p', .slice B' g.body.length d''] 39)) := grow_alloc (grow_refl _) _
      obtain ⟨D, o1, o2, o3⟩ := hma.below hal
      have ha0 : (wr.alloc (.cells #[.string (mkB g.name), .slice P' g.params.length p', .slice B' g.body.length d''] 39)).cell? ⟨z + 1, 0, none⟩ = some (.map (some z)) := Keeps.alloc _ _ _ _ c0
      obtain ⟨a0, a1, a2⟩ := row3 (heap_alloc_new wr (.cells #[.string (mkB g.name), .slice P' g.params.length p', .slice B' g.body.length d''] 39))
      have hsa : (wr.alloc (.cells #[.string (mkB g.name), .slice P' g.params.length p', .slice B' g.body.length d''] 39)).heap.size = wr.heap.size + 1 := by simp
      have hoa : ∀ j, j < wr.heap.size → (wr.alloc (.cells #[.string (mkB g.name), .slice P' g.params.length p', .slice B' g.body.length d''] 39)).heap[j]? = wr.heap[j]? := fun j hj => old_block _ _ hj
      have HA0 := Lib.hid ha0
      have HA1 := Lib.hid (And.intro a0 (And.intro a1 a2))
      have HSA := Lib.hid hsa
      have HOA := Lib.hid hoa
      have HO := Lib.hid o1
      have HFD := Lib.hid (And.intro o2 o3)
      have HKY := Lib.hid hky
      rw [hVk] at hst
      have HST := Lib.hid hst
      have HFAR := Lib.hid hfar
      have HBEL := Lib.hid hbel
      have HSR := Lib.hid hsr
      have hzl : z < wr.heap.size := hma.lt
      have HZL := Lib.hid hzl
      have HAL := Lib.hid hal
      clear hcells hcells2 hst hVk hky hal o1 o2 o3 hfar hbel hg hma hft hmr hsr hnl hzl ha0 a0 a1 a2 hsa hoa
      go_wp2_with fail
      have ha0 := HA0.out
      obtain ⟨a0, a1, a2⟩ := HA1.out
      obtain ⟨wa, hwa⟩ : ∃ wa, wr.alloc (.cells #[.string (mkB g.name), .slice P' g.params.length p', .slice B' g.body.length d''] 39) = wa := ⟨_, rfl⟩
      rw [hwa] at ha0 a0 a1 a2 HO HSA HOA HAL
      rw [hwa]
      have HO1 : Hid (wa.drew.ownsMap Tryz.prog 9 hR z k D) := HO.out
      clear hwa q0 q1 q2 c0 c1 c2 c3 c4 c5 c6 HA0 HA1
      go_still_tail 7, (by kernel_rfl)
      change wpList _ _ _ _ _ wa.drew
      go_wp2_with (at_mapUpdate; refine wpList_mapUpdate_own _ rfl _ _ _ 84 rfl 9 39 strKeyed Tryz.underlying84 hR z k D rfl HO1.out (by unfold maxLen; omega) _ _ (.string g.name) rfl rfl HKY.out (.held (.agg #[.string (mkB g.name), .slice P' g.params.length p', .slice B' g.body.length d''])) [] rfl ?_)
      intro w8 hown8 hgrow8
      have HPUT := Lib.hid (MapAt.of_put HFD.out.1 HFD.out.2 hown8)
      have hs8 : wr.heap.size + 1 ≤ w8.heap.size := by rw [← HSA.out]; exact hgrow8.size
      have HFAR8 : Hid (∀ j, j < w6.heap.size → j ≠ z → w8.heap[j]? = w6.heap[j]?) := show ∀ j, _ from fun j hj hne => by
        have h1 := HSR.out
        have h3 := HSA.out
        rw [hgrow8.block j (by show j < wa.heap.size; omega) (fun e => hne (Option.some.inj e))]
        exact (HOA.out j (by omega)).trans (HFAR.out j hj hne)
      have HBEL8 : Hid (Below w.heap.size w w8) := show Below _ _ _ from Below.grown ((grow_trans HBEL.out HAL.out).drew) hgrow8 (by have := HBEL.out.size; have := HSA.out; show w.heap.size ≤ wa.heap.size; omega) (fun q hq => by have := Option.some.inj hq; omega)
      have HS8 := Lib.hid hs8
      clear hown8 hgrow8 hs8
      go_wp2_with fail
      go_roundw
      case rel => exact ⟨k + 1, _, by omega, by go_num, HPUT.out, HST.out, by have := HS8.out; have := HSR.out; omega, HFAR8.out, HBEL8.out⟩
      case measure => simp [intOf]; omega
    · have hk' : k = fs.length := by omega
      subst hk'
      have hma0 : MaAt (z + 1) (z + 1) z fs.length T F 0 St0 (.slice none 0 0) wr := ⟨Nat.le_refl _, hmr, World.ownsRow_nil _ _ _ _, hma, Nat.zero_le _, by simp [St0], Nat.lt_succ_self _⟩
      have hctx : Ctx E fs F (z + 1) wr := ⟨⟨w, HLD.out, by omega, hbel⟩, funs_in (by omega) hbel hft HV.out⟩
      have hcall := call_each E fs (z + 1) (z + 1) z fs.length T F hT5 HWF.out 40 (Nat.le_refl _) name args St0 (.slice none 0 0) X xc wr hctx hma0 (HX.out.keep (Keeps.of_below hbel)) (fun a ha => ⟨by have := HXL.out a ha; omega, by simp [Value.ownBlock]⟩) HNL.out HAR.out
      have hrun : runP fs name args T = if (callP fs T 40 name args St0).2.over then ((callP fs T 40 name args St0).2.how, 0, (callP fs T 40 name args St0).2.out, (callP fs T 40 name args St0).2.ticks) else (doneN, (callP fs T 40 name args St0).1, (callP fs T 40 name args St0).2.out, (callP fs T 40 name args St0).2.ticks) := rfl
      obtain ⟨r, hr⟩ : ∃ r, callP fs T 40 name args St0 = r := ⟨_, rfl⟩
      unfold MvTo at hcall
      rw [hr] at hcall hrun
      have hkr := (hfar (w.heap.size + 1) (by rw [HS6.out]; omega) (by omega)).trans HK6.out
      have hnr := row1 ((hfar w.heap.size (by rw [HS6.out]; omega) (by omega)).trans HKN6.out)
      have hqlt : w.heap.size + 1 < wr.heap.size := (Array.getElem?_eq_some_iff.1 hkr).1
      have hne1 : ¬ w.heap.size = z := by omega
      have hne2 : ¬ z = w.heap.size := by omega
      have HCALL := Lib.hid hcall
      have HKR := Lib.hid hkr
      have HBEL := Lib.hid hbel
      have HRUN := Lib.hid hrun
      clear hma0 hctx hcall hr hrun hma hft hfar hbel hsr hmr hkr hqlt c0 c1 c2 c3 c4 c5 c6
      cases hro : r.2.over
      · have HRO := Lib.hid hro
        clear hro
        go_wp2_with (first
          | (go_at_call 41; (with_reducible refine HCALL.out.mono ?_); rintro y w9 ⟨n, rfl, hn9, v9, hma9, hmv9⟩; have hov := over_any hma9; rw [HRO.out] at hov; have HOV := Lib.hid hov; obtain ⟨A9, c9, rfl⟩ := owns_slice hma9.own; have hk9 := (hmv9.bel.block (w.heap.size + 1) (by omega)).trans HKR.out; obtain ⟨k0, k1, k2, k3⟩ := row4 hk9; have u0 := row_frozen hk9 0; have u1 := row_frozen hk9 1; have u2 := row_frozen hk9 2; have u3 := row_frozen hk9 3; obtain ⟨c0, c1, c2, c3, c4, c5, c6⟩ := row7 hma9.blk; have m1 := row_frozen hma9.blk 1; have m2 := row_frozen hma9.blk 2; have HN9 := Lib.hid (hn9 HRO.out); have HMA9 := Lib.hid hma9; have HMV9 := Lib.hid hmv9; have HK9 := Lib.hid hk9; clear hn9 hma9 hmv9 hov hk9)
          | (go_at_call 42; (with_reducible refine HOV.out.mono ?_); rintro y w10 ⟨rfl, rfl⟩))
        have hown := HMA9.out.own
        have hnm := HMA9.out.own_m
        have hnq : Value.ownBlock (.slice A9 r.2.out.length c9) ≠ some (w.heap.size + 1) := fun e => by have := (owns_lt hown e).1; omega
        have hfar11 : ((w9.setCell ⟨z + 1, 1, none⟩ (.string (mkB doneN))).setCell ⟨z + 1, 2, none⟩ (.int .i64 n)).heap[w.heap.size + 1]? = w9.heap[w.heap.size + 1]? := (Below.heap_setCell _ _ _ _ (by simp only; omega)).trans (Below.heap_setCell _ _ _ _ (by simp only; omega))
        have hown11 := setRow_owns (p := z + 1) (j := 2) (.int .i64 n) (setRow_owns (p := z + 1) (j := 1) (.string (mkB doneN)) hown hnm) hnm
        have hb11 := ((HBEL.out.trans (HMV9.out.bel.mono (by omega))).setCell (p := ⟨z + 1, 1, none⟩) (by show w.heap.size ≤ z + 1; omega) (.string (mkB doneN))).setCell (p := ⟨z + 1, 2, none⟩) (by show w.heap.size ≤ z + 1; omega) (.int .i64 n)
        obtain ⟨w11, hw11⟩ : ∃ w11, (w9.setCell ⟨z + 1, 1, none⟩ (.string (mkB doneN))).setCell ⟨z + 1, 2, none⟩ (.int .i64 n) = w11 := ⟨_, rfl⟩
        rw [hw11] at hfar11 hown11 hb11
        change bodyPost _ _ _ _ _ (((((((w9.setCell ⟨z + 1, 1, none⟩ (.string (mkB doneN))).setCell ⟨z + 1, 2, none⟩ (.int .i64 n))).setCell _ _).setCell _ _).setCell _ _).setCell _ _)
        rw [hw11]
        have hk11 : w11.heap[w.heap.size + 1]? = _ := hfar11.trans HK9.out
        have hk12 := set4 (v0 := .string (mkB doneN)) (v1 := .int .i64 n) (v2 := .slice A9 r.2.out.length c9) (v3 := .int .i64 r.2.ticks) hk11
        have hown12 := setRow_owns (p := w.heap.size + 1) (j := 3) (.int .i64 r.2.ticks) (setRow_owns (p := w.heap.size + 1) (j := 2) (.slice A9 r.2.out.length c9) (setRow_owns (p := w.heap.size + 1) (j := 1) (.int .i64 n) (setRow_owns (p := w.heap.size + 1) (j := 0) (.string (mkB doneN)) hown11 hnq) hnq) hnq) hnq
        have hb12 := below4 (q := w.heap.size + 1) (v0 := .string (mkB doneN)) (v1 := .int .i64 n) (v2 := .slice A9 r.2.out.length c9) (v3 := .int .i64 r.2.ticks) hb11 (by omega)
        change bodyPost _ _ _ _ _ ((((w11.setCell ⟨w.heap.size + 1, 0, none⟩ (.string (mkB doneN))).setCell ⟨w.heap.size + 1, 1, none⟩ (.int .i64 n)).setCell ⟨w.heap.size + 1, 2, none⟩ (.slice A9 r.2.out.length c9)).setCell ⟨w.heap.size + 1, 3, none⟩ (.int .i64 r.2.ticks))
        obtain ⟨wf, hwf⟩ : ∃ wf, ((((w11.setCell ⟨w.heap.size + 1, 0, none⟩ (.string (mkB doneN))).setCell ⟨w.heap.size + 1, 1, none⟩ (.int .i64 n)).setCell ⟨w.heap.size + 1, 2, none⟩ (.slice A9 r.2.out.length c9)).setCell ⟨w.heap.size + 1, 3, none⟩ (.int .i64 r.2.ticks)) = wf := ⟨_, rfl⟩
        rw [hwf] at hk12 hown12 hb12
        rw [hwf]
        obtain ⟨z0, z1, z2, z3⟩ := row4 hk12
        obtain ⟨A', c', e', hc', hrow⟩ := owns_row hown12
        simp only [Value.slice.injEq, true_and] at e'
        obtain ⟨rfl, rfl⟩ := e'
        refine bodyPost_ret (v := .tuple #[.agg #[.string (mkB doneN), .int .i64 n, .slice A9 r.2.out.length c9, .int .i64 r.2.ticks], .nilIface]) (by simp [results, Tryz.results17, go_sem, z0, z1, z2, z3]; try rfl) rfl ?_
        unfold RunPost
        rw [HC.out]
        refine ⟨.nilIface, A9, c9, (doneN, n, r.2.out, r.2.ticks), rfl, ErrIs.nil_, ⟨fun _ => rfl, fun _ => rfl⟩, ?_, hrow, hc', hb12⟩
        rw [if_pos rfl, Int.toNat_natCast, HRUN.out]
        rw [if_neg (by rw [HRO.out]; decide), HN9.out]
      · have HRO := Lib.hid hro
        clear hro
        go_wp2_with (first
          | (go_at_call 41; (with_reducible refine HCALL.out.mono ?_); rintro y w9 ⟨n, rfl, hn9, v9, hma9, hmv9⟩; have hov := over_any hma9; rw [HRO.out] at hov; have HOV := Lib.hid hov; obtain ⟨A9, c9, rfl⟩ := owns_slice hma9.own; have hk9 := (hmv9.bel.block (w.heap.size + 1) (by omega)).trans HKR.out; obtain ⟨k0, k1, k2, k3⟩ := row4 hk9; have u0 := row_frozen hk9 0; have u1 := row_frozen hk9 1; have u2 := row_frozen hk9 2; have u3 := row_frozen hk9 3; obtain ⟨c0, c1, c2, c3, c4, c5, c6⟩ := row7 hma9.blk; have m1 := row_frozen hma9.blk 1; have m2 := row_frozen hma9.blk 2; have HMA9 := Lib.hid hma9; have HMV9 := Lib.hid hmv9; have HK9 := Lib.hid hk9; clear hn9 hma9 hmv9 hov hk9)
          | (go_at_call 42; (with_reducible refine HOV.out.mono ?_); rintro y w10 ⟨rfl, rfl⟩))
        have hown := HMA9.out.own
        have hnm := HMA9.out.own_m
        have hnq : Value.ownBlock (.slice A9 r.2.out.length c9) ≠ some (w.heap.size + 1) := fun e => by have := (owns_lt hown e).1; omega
        have hfar11 : w9.heap[w.heap.size + 1]? = w9.heap[w.heap.size + 1]? := rfl
        have hown11 := hown
        have hb11 := HBEL.out.trans (HMV9.out.bel.mono (by omega))
        have hk11 : w9.heap[w.heap.size + 1]? = _ := hfar11.trans HK9.out
        have hk12 := set4 (v0 := .string (mkB r.2.how)) (v1 := .int .i64 0) (v2 := .slice A9 r.2.out.length c9) (v3 := .int .i64 r.2.ticks) hk11
        have hown12 := setRow_owns (p := w.heap.size + 1) (j := 3) (.int .i64 r.2.ticks) (setRow_owns (p := w.heap.size + 1) (j := 2) (.slice A9 r.2.out.length c9) (setRow_owns (p := w.heap.size + 1) (j := 1) (.int .i64 0) (setRow_owns (p := w.heap.size + 1) (j := 0) (.string (mkB r.2.how)) hown11 hnq) hnq) hnq) hnq
        have hb12 := below4 (q := w.heap.size + 1) (v0 := .string (mkB r.2.how)) (v1 := .int .i64 0) (v2 := .slice A9 r.2.out.length c9) (v3 := .int .i64 r.2.ticks) hb11 (by omega)
        change bodyPost _ _ _ _ _ ((((w9.setCell ⟨w.heap.size + 1, 0, none⟩ (.string (mkB r.2.how))).setCell ⟨w.heap.size + 1, 1, none⟩ (.int .i64 0)).setCell ⟨w.heap.size + 1, 2, none⟩ (.slice A9 r.2.out.length c9)).setCell ⟨w.heap.size + 1, 3, none⟩ (.int .i64 r.2.ticks))
        obtain ⟨wf, hwf⟩ : ∃ wf, ((((w9.setCell ⟨w.heap.size + 1, 0, none⟩ (.string (mkB r.2.how))).setCell ⟨w.heap.size + 1, 1, none⟩ (.int .i64 0)).setCell ⟨w.heap.size + 1, 2, none⟩ (.slice A9 r.2.out.length c9)).setCell ⟨w.heap.size + 1, 3, none⟩ (.int .i64 r.2.ticks)) = wf := ⟨_, rfl⟩
        rw [hwf] at hk12 hown12 hb12
        rw [hwf]
        obtain ⟨z0, z1, z2, z3⟩ := row4 hk12
        obtain ⟨A', c', e', hc', hrow⟩ := owns_row hown12
        simp only [Value.slice.injEq, true_and] at e'
        obtain ⟨rfl, rfl⟩ := e'
        refine bodyPost_ret (v := .tuple #[.agg #[.string (mkB r.2.how), .int .i64 0, .slice A9 r.2.out.length c9, .int .i64 r.2.ticks], .nilIface]) (by simp [results, Tryz.results17, go_sem, z0, z1, z2, z3]; try rfl) rfl ?_
        unfold RunPost
        rw [HC.out]
        refine ⟨.nilIface, A9, c9, (r.2.how, 0, r.2.out, r.2.ticks), rfl, ErrIs.nil_, ⟨fun _ => rfl, fun _ => rfl⟩, ?_, hrow, hc', hb12⟩
        rw [if_pos rfl, Int.toNat_natCast, HRUN.out]
        rw [if_pos HRO.out]
end Go.Proofs.YtnpdjncgilekhaaGreatDoor

namespace Go.Proofs.YtnpdjncgilekhaaGreatDoor
open Go.RowKit

/-! run.Run, whole; the closed fact -/
theorem Run_any (E : Nat → Addr) (fs : List PFun) (hsm : ∀ f ∈ fs, SmF f) (S : Nat → Prop) (A : Option Addr) (c : Nat) (hl : fs.length ≤ 12) (hc : fs.length ≤ c) (name : Nm) (args : List Int) (ha : args.length ≤ 1000) (X : Option Addr) (xc : Nat) (ticks : Int) (w : World) (hE : Laid E w) (hr : RdG w S fs A)
    (hX : Row w X (intVs args)) (hXl : ∀ a, X = some a → a.block < w.heap.size) :
    Calls Tryz.prog 17 #[.slice A fs.length c, .string (mkB name), .slice X args.length xc, .int .i64 ticks] w (RunPost E fs name args ticks w) := by
  by_cases hp : (progC fs).1 = 0
  · cases hf : findF fs name with
    | none => exact run_none E fs hsm S A c hl hc name args ha X xc ticks w hE hr hp hf
    | some f =>
      by_cases hn : f.params.length = args.length
      · by_cases ht : ticks < 0 ∨ 5000 < ticks
        · exact run_bound E fs hsm S A c hl hc name args ha X xc ticks w hE hr hp f hf hn ht
        · have hnl : name.length ≤ 1000 := by
            rcases firstFn_find name fs 0 with ⟨h1, _⟩ | ⟨i, hi, _, _, h3⟩
            · rw [hf] at h1; cases h1
            · have := (hsm _ (List.getElem_mem hi)).name
              rw [h3] at this
              omega
          exact run_ok E fs hsm S A c hl hc name hnl args ha X xc ticks w hE hr hp hX hXl f hf hn (fun h => ht (.inl h)) (fun h => ht (.inr h))
      · exact run_args E fs hsm S A c hl hc name args ha X xc ticks w hE hr hp f hf hn
  · exact run_fault E fs hsm S A c hl hc name args X xc ticks w hE hr hp
def rnE : PExpr := ⟨xName, 0, [97], []⟩
def rnS : PStmt := ⟨sReturn, [], rnE, [], []⟩
def rnF : PFun := ⟨[102], [[97]], [rnS]⟩
theorem rnF_prog : (progC [rnF]).1 = 0 := by
  have h2 : bareB rnE = true := by decide
  have h3 : exprC (tabOf [rnF]) [[97]] rnE = 0 := by
    rw [exprC_eq, h2, if_pos rfl]
    rw [show rnE.kids = [] from rfl, kidsC_nil, if_pos rfl]
    decide
  have h4 : (stmtC (tabOf [rnF]) rnS [[97]] [[97]]).1 = 0 := by
    rw [stmtC_eq]
    rw [show rnS.e = rnE from rfl, h3]
    rw [if_pos (by decide), if_pos rfl, if_neg (by decide), if_neg (by decide), show rnS.th = [] from rfl, show rnS.el = [] from rfl, blockC_nil, if_pos rfl, blockC_nil]
  have h5 : funC (tabOf [rnF]) [] rnF = 0 := by
    unfold funC
    have hn : namesC rnF [] = 0 := by decide
    rw [if_pos hn]
    show (blockC (tabOf [rnF]) [rnS] [[97]] [[97]]).1 = 0
    rw [blockC_cons, if_pos h4, blockC_nil]
  unfold progC
  rw [if_neg (by decide), progFrom, if_pos h5, progFrom]
theorem rnF_small : SmF rnF where
  name := by decide
  params := by decide
  texts := by decide
  body := by decide
  stmts := fun s hs => by
    have : s = rnS := by simpa [rnF] using hs
    subst this
    exact ⟨rnS, by decide, by decide, ⟨rnE, by decide, by decide, (fun k hk => by cases hk)⟩, by decide, by decide, (fun k hk => by cases hk), (fun k hk => by cases hk)⟩
theorem rn_run : runP [rnF] [102] [7] 5 = (doneN, 7, [], 1) := by
  have h1 : findF [rnF] [102] = some rnF := rfl
  have h2 : callP [rnF] 5 40 [102] [7] St0 = (7, ⟨[], [], 1⟩) := by
    rw [callP_body (by decide) (by decide) h1]
    have e1 : tickP 5 St0 = ⟨[], [], 1⟩ := rfl
    rw [e1]
    unfold bodyP
    have e2 : bindP rnF.params [7] [] = [([97], 7)] := by decide
    rw [e2, show rnF.body = [rnS] from rfl, blockP_cons, if_neg (by decide), blockP_nil, stmtP_eq, if_neg (by decide)]
    have e3 : ∀ c, evalP c [([97], 7)] rnS.e ⟨[], [], 1⟩ = (7, ⟨[], [], 1⟩) := fun c => by
      rw [show rnS.e = rnE from rfl, evalP_eq, if_neg (by decide), show rnE.kids = [] from rfl, kidsP_nil]
      unfold selfP
      rw [if_neg (by decide), if_pos (by decide)]
      rfl
    simp only [e3]
    rw [if_neg (by decide), if_neg (by decide), if_neg (by decide), if_pos (by decide)]
    rfl
  unfold runP
  rw [h2, if_neg (by decide)]
theorem rn_code : runC [rnF] [102] 1 5 = (0, -1) := by
  unfold runC
  rw [if_neg (by rw [rnF_prog]; decide), show findF [rnF] [102] = some rnF from rfl]
  decide
def rnO0 : Obj := .cells #[.string ⟨#[97]⟩] 9
def rnO1 : Obj := .cells #[.string ⟨#[114, 101, 116, 117, 114, 110]⟩, .string ⟨#[]⟩, .string ⟨#[110, 97, 109, 101]⟩, .int .i64 0, .string ⟨#[97]⟩, .slice none 0 0, .slice none 0 0, .slice none 0 0] 58
def rnO2 (h : Nat) : Obj := .cells #[.string ⟨#[102]⟩, .slice (some ⟨h, 0, none⟩) 1 1, .slice (some ⟨h + 1, 0, none⟩) 1 1] 39
def rnO3 : Obj := .cells #[.int .i64 7] 3
def rnW (w : World) : World := (((w.alloc rnO0).alloc rnO1).alloc (rnO2 w.heap.size)).alloc rnO3
theorem rn_below (w : World) : Below w.heap.size w (rnW w) := grow_alloc (grow_alloc (grow_alloc (grow_alloc (grow_refl _) _) _) _) _
theorem rn_b3 (w : World) : (rnW w).heap[w.heap.size + 3]? = some rnO3 := new_block _ _ (by simp)
theorem rn_b2 (w : World) : (rnW w).heap[w.heap.size + 2]? = some (rnO2 w.heap.size) := (old_block _ _ (by simp)).trans (new_block _ _ (by simp))
theorem rn_b1 (w : World) : (rnW w).heap[w.heap.size + 1]? = some rnO1 := (old_block _ _ (by simp)).trans ((old_block _ _ (by simp)).trans (new_block _ _ (by simp)))
theorem rn_b0 (w : World) : (rnW w).heap[w.heap.size]? = some rnO0 := (old_block _ _ (by simp; omega)).trans ((old_block _ _ (by simp; omega)).trans ((old_block _ _ (by simp)).trans (new_block _ _ rfl)))
theorem rn_laid (w : World) : RdG (rnW w) (fun _ => True) [rnF] (some ⟨w.heap.size + 2, 0, none⟩) := fun i hi => by
  have hi0 : i = 0 := by simp at hi; omega
  subst hi0
  refine ⟨w.heap.size + 2, 0, some ⟨w.heap.size, 0, none⟩, 1, some ⟨w.heap.size + 1, 0, none⟩, 1, rfl, trivial, fun j u hj => ?_, fun k hk => ?_, ⟨fun h => (by cases h), by simp [rnF]⟩, ?_⟩
  · rw [show 0 + 0 * 3 + j = j by omega, cell_of_row _ _ j _ _ _ (rn_b2 w), ← Array.getElem?_toList]; exact hj
  · have hk0 : k = 0 := by simp [rnF] at hk; omega
    subst hk0
    exact ⟨w.heap.size, 0, rfl, trivial, cell_of_row _ _ 0 _ _ _ (rn_b0 w)⟩
  · refine ⟨[rnS], _, w.heap.size + 1, 0, fun _ => none, fun _ => none, fun _ => none, fun _ => 0, fun _ => 0, fun _ => 0, fun _ => ⟨rfl, trivial⟩, fun k hk j u hj => ?_, fun k hk => ?_, fun k hk => ?_, fun k hk => ?_, fun k hk => ?_⟩
    all_goals
      have hk0 : k = 0 := by simp at hk; omega
      subst hk0
    · rw [show 0 + 0 * 8 + j = j by omega, cell_of_row _ _ j _ _ _ (rn_b1 w), ← Array.getElem?_toList]; exact hj
    · exact ⟨by show (-9223372036854775808 : Int) ≤ 0; decide, by show (0 : Int) ≤ 9223372036854775807; decide⟩
    · exact RdE.nil _ _ _
    · exact RdS.nil _ _ _
    · exact RdS.nil _ _ _
set_option maxHeartbeats 2000000 in
set_option maxRecDepth 100000 in
theorem ran_any (E : Nat → Addr) (w : World) (hE : Laid E w) : Calls Tryz.prog 16 #[] w (Ret (.bool true) w) := by
  have hb := rn_below w
  have HB := Lib.hid hb
  have h1 := Run_any E [rnF] (fun f hf => by simp at hf; subst hf; exact rnF_small) (fun _ => True) (some ⟨w.heap.size + 2, 0, none⟩) 1 (by simp) (by simp) [102] [7] (by simp) (some ⟨w.heap.size + 3, 0, none⟩) 1 5 (rnW w) (hE.keep hb) (rn_laid w)
    (by have := Row.block (rn_b3 w); exact this) (fun a ha => by injection ha with ha; subst ha; exact (Array.getElem?_eq_some_iff.1 (rn_b3 w)).1)
  unfold RunPost at h1
  rw [show ([7] : List Int).length = 1 from rfl, rn_code, if_pos rfl, show ((5 : Int)).toNat = 5 from rfl, rn_run] at h1
  have H1 : Hid (Calls Tryz.prog 17 #[.slice (some ⟨w.heap.size + 2, 0, none⟩) 1 1, .string ⟨#[102]⟩, .slice (some ⟨w.heap.size + 3, 0, none⟩) 1 1, .int .i64 5] (rnW w) fun en w' => ∃ A c, en = .returned (.tuple #[.agg #[.string ⟨#[100, 111, 110, 101]⟩, .int .i64 7, .slice A 0 c, .int .i64 1], .nilIface]) ∧ Below (rnW w).heap.size (rnW w) w') := h1.mono fun en w' ⟨v, A, c, o, he, _, hv, ho, _, _, hb⟩ => by
    subst ho
    have := hv.2 rfl
    subst this
    exact ⟨A, c, he, hb⟩
  clear hE hb h1
  unfold rnW rnO0 rnO1 rnO2 rnO3 at *
  go_enter Tryz.func16, Tryz.ntmps16
  go_wp2_with (go_at_call 17; (with_reducible refine H1.out.mono ?_); rintro y w1 ⟨A, c, rfl, hb1⟩)
  go_ret
  exact ⟨rfl, grow_alloc (grow_trans HB.out hb1) _⟩
end Go.Proofs.YtnpdjncgilekhaaGreatDoor

namespace Go.Proofs.YtnpdjncgilekhaaGreatDoor
open Go.RowKit

/-! numbers beside numbers; outcomes beside outcomes; append to none -/
theorem eq_step {xs ys : List Int} {k : Nat} (h : k < xs.length) (h' : k < ys.length) : (xs.drop k == ys.drop k) = (xs[k] == ys[k] && xs.drop (k + 1) == ys.drop (k + 1)) := by
  rw [List.drop_eq_getElem_cons h, List.drop_eq_getElem_cons h']; rfl
theorem SameInts_any (A B : Option Addr) (xs ys : List Int) (c d : Nat) (w : World) (hr : Row w A (intVs xs)) (hs : Row w B (intVs ys)) (hn : xs.length ≤ 1000000) (_hm : ys.length ≤ 1000000) :
    Calls Tryz.prog 43 #[.slice A xs.length c, .slice B ys.length d] w (Quiet (.bool (xs == ys)) w) := by
  by_cases hl : xs.length = ys.length
  · have hl' : ((xs.length : Int) != (ys.length : Int)) = false := by simp [hl]
    have HL := Lib.hid hl
    clear hl
    go_enter Tryz.func43, Tryz.ntmps43
    go_wp2_with fail
    go_loopw [5] (fun i wr => ∃ k m : Nat, k ≤ xs.length ∧ i = .int .i64 k ∧ wr = w.drewN m ∧ (xs == ys) = (xs.drop k == ys.drop k)) (fun i _ => xs.length - (intOf i).toNat)
    case atStart => exact ⟨0, 0, Nat.zero_le _, rfl, rfl, by simp⟩
    case round =>
      obtain ⟨k, m, hk, rfl, rfl, hI⟩ := hrel
      have HI := Lib.hid hI
      clear hI
      by_cases hlt : k < xs.length
      · have hlt' : k < ys.length := by have := HL.out; omega
        obtain ⟨b, off, rfl, hc⟩ := hr k _ (intVs_get hlt)
        obtain ⟨b', off', rfl, hc'⟩ := hs k _ (intVs_get hlt')
        have HD := Lib.hid (eq_step hlt hlt')
        have i1 : (k : Int) < (xs.length : Int) := by omega
        have i2 : (k : Int) < (ys.length : Int) := by omega
        by_cases he : (xs[k] == ys[k]) = true
        · have HE := Lib.hid he
          have hne : (xs[k] != ys[k]) = false := by simpa using he
          clear he
          go_wp2_with fail
          go_quiet (fail)
          go_wp2_with fail
          go_roundw
          case rel => exact ⟨k + 1, _, by omega, by go_num, rfl, by rw [HI.out, HD.out, HE.out]; rfl⟩
          case measure => simp [intOf]; omega
        · have he' : (xs[k] == ys[k]) = false := by simpa using he
          have HE := Lib.hid he'
          have hne : (xs[k] != ys[k]) = true := by simpa using he
          clear he he'
          go_wp2_with fail
          go_quiet (fail)
          go_wp2_with fail
          go_ret
          rw [World.drewN_drewN]
          exact Quiet.drew_of _ (by rw [HI.out, HD.out, HE.out]; rfl)
      · have hk' : k = xs.length := by omega
        subst hk'
        go_wp2_with fail
        go_ret
        exact Quiet.drew_of _ (by rw [HI.out]; have := HL.out; simp [this])
  · have hl' : ((xs.length : Int) != (ys.length : Int)) = true := by simp; omega
    have HS : Hid ((xs == ys) = false) := beq_eq_false_iff_ne.2 fun e => hl (by rw [e])
    clear hl
    go_enter Tryz.func43, Tryz.ntmps43
    go_wp2_with fail
    go_ret
    exact Quiet.same_of (by rw [HS.out]; rfl)
set_option maxRecDepth 100000 in
theorem SameOutcome_eq (o : Oc) (A B : Option Addr) (c d : Nat) (w : World) (hr : Row w A (intVs o.2.2.1)) (hs : Row w B (intVs o.2.2.1)) (hn : o.2.2.1.length ≤ 1000000) :
    Calls Tryz.prog 19 #[ocV o A c, ocV o B d] w (Ret (.bool true) w) := by
  have HI : Hid (∀ w', Below w.heap.size w w' → Calls Tryz.prog 43 #[.slice A o.2.2.1.length c, .slice B o.2.2.1.length d] w' (Quiet (.bool true) w')) := fun w' hb => by
    have := SameInts_any A B o.2.2.1 o.2.2.1 c d w' (hr.keep (Keeps.of_below hb)) (hs.keep (Keeps.of_below hb)) hn hn
    rwa [beq_self_eq_true] at this
  have h0 : ((mkB o.1).toList == (mkB o.1).toList) = true := by simp
  unfold ocV
  clear hr hs
  go_enter Tryz.func19, Tryz.ntmps19
  go_wp2_with (go_at_call 43; (with_reducible refine (HI.out _ (grow_alloc (grow_alloc (grow_refl _) _) _)).mono ?_); rintro y w1 ⟨rfl, n, rfl⟩)
  go_ret
  exact ⟨rfl, grow_drew (grow_alloc (grow_alloc (grow_refl _) _) _) _⟩
theorem append_noneI {P : Program} (w : World) (t ty e : TypeId) (i : TypeInfo) (ht : P.underlying t = some (.slice e)) (hi : P.info? e = some i) (A : Option Addr) (n c : Nat) (hle : n ≤ c) (X : Option Addr) (d : Nat) :
    (Builtin.append_ #[t, t] ty #[.slice A n c, .slice X 0 d]).run P w = .ok (.slice A n c) w := by
  cases A <;> cases X <;> simp [Builtin.append_, run_underlying ht, sizeOf, typeInfo, hi, Builtin.lenOf, Builtin.firstCells, loadCells, loadCellsFrom, hle, storeCells]
set_option maxRecDepth 100000 in
/-- append(none, l...): numbers of one's own. -/
theorem wpList_append_ints0 {w : World} {ops : Array Oper} {rest : List Oper} {o : Oper} {a : Act} {Q : Exit → Act → World → Prop} (hgd : o.guard = none) (s x : Operand)
    (ho : o.op = .call { callee := .builtin .append, args := #[s, x], argTypes := #[45, 45] }) (ys : List Int) (hs : a.eval s = .slice none 0 0)
    (X : Option Addr) (c : Nat) (hx : a.eval x = .slice X ys.length c) (hrow : Row w X (intVs ys)) (hn : ys.length ≤ 100000)
    (h : ∀ A' c' w', Row w' A' (intVs ys) → (∀ a, A' = some a → a.block < w'.heap.size) → Below w.heap.size w w' → wpList Tryz.prog ops Q rest (a.put o.dst (.slice A' ys.length c')) w') :
    wpList Tryz.prog ops Q (o :: rest) a w := by
  obtain ⟨i0, hi, hz0, hz1, hz2⟩ := info_parts intInfo
  cases ys with
  | nil =>
    refine wpList_plain hgd fun K hK => ?_
    unfold Oper.wp execOp
    simp only [ho, resolve, invoke, builtin, Sem.run_bind, Sem.run_pure, Result.andThen_ok, List.map_toArray, List.map_cons, List.map_nil, hs, hx, List.length_nil, append_noneI w _ o.type _ i0 Tryz.underlying45 hi none 0 0 (Nat.le_refl _) X c]
    exact hK _ _ (h none 0 w (Row.nil _ _) (fun a ha => by cases ha) (Below.refl _ _))
  | cons y ys =>
    obtain ⟨b, off, rfl, -⟩ := hrow 0 _ rfl
    refine wpList_append_own_at _ hgd s x 45 ho w.heap.size 3 i0 _ 1 8 Tryz.underlying45 hi hz0 hz1 hz2 rfl (by decide) (.slice none 0 0) 0 [] hs (World.ownsRow_nil _ _ _ _) ⟨b, off, none⟩ (y :: ys).length c (intVs (y :: ys)) hx (by simp [intVs]) (fun j u hj => ?_) (fun u hu => ?_) (by unfold maxLen; omega) (by omega) (Nat.le_refl _) (fun v' w' g1 g2 _ g4 => ?_)
    · obtain ⟨b2, off2, e, hc⟩ := hrow j u hj
      injection e with e
      injection e with e1 e2 _
      subst e1; subst e2
      have hadd : (⟨b, off, none⟩ : Addr).add j = ⟨b, off + j, none⟩ := by unfold Addr.add; split <;> simp_all
      rw [hadd]; exact hc
    · simp only [intVs, List.mem_map] at hu
      obtain ⟨z, _, rfl⟩ := hu
      rfl
    · simp only [List.nil_append, Nat.zero_add] at g1
      obtain ⟨A', c', rfl, -, hr⟩ := owns_row g1
      refine h A' c' w' hr (fun a ha => ?_) (Below.grown (Below.refl _ _) g2 (Nat.le_refl _) (fun k hk => by cases hk))
      exact (owns_lt g1 (by rw [ha]; rfl)).2
end Go.Proofs.YtnpdjncgilekhaaGreatDoor
