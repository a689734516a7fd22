import Derived.Test.YteifmgcbafemeaaDoorBn6
namespace Go.Proofs.YteifmgcbafemeaaDoor
open Go.RowKit

/-! a function more, ahead of all; who prints nothing -/
def zzN : Nm := [122, 122]
def zzE : PExpr := ⟨xNum, 1, [], []⟩
def zzS : PStmt := ⟨sPrint, [], zzE, [], []⟩
def zzF : PFun := ⟨zzN, [], [zzS]⟩
theorem argsOf_cons {g : PFun} {fs : List PFun} {x : Nm} (h : x ≠ g.name) : argsOf (tabOf (g :: fs)) x = argsOf (tabOf fs) x := by
  unfold argsOf tabOf
  rw [List.map_cons, List.find?_cons]
  have : (g.name == x) = false := beq_eq_false_iff_ne.2 fun e => h e.symm
  simp only [this]
theorem findF_cons {g : PFun} {fs : List PFun} {x : Nm} (h : x ≠ g.name) : findF (g :: fs) x = findF fs x := by
  unfold findF
  rw [List.find?_cons]
  have : (g.name == x) = false := beq_eq_false_iff_ne.2 fun e => h e.symm
  simp only [this]
theorem prog_zz {fs : List PFun} (h : (progC fs).1 = 0) (hl : fs.length < 8) (hnew : ∀ f ∈ fs, f.name ≠ zzN) : (progC (zzF :: fs)).1 = 0 := by
  rw [progC_ok] at h ⊢
  refine ⟨by simp; omega, fun i hi => ?_⟩
  cases i with
  | zero =>
    show funC (tabOf (zzF :: fs)) [] zzF = 0
    rw [funC_ok]
    refine ⟨by decide, ?_⟩
    show (blockC (tabOf (zzF :: fs)) [zzS] [] []).1 = 0
    have h2 : exprC (tabOf (zzF :: fs)) [] zzE = 0 := by
      rw [exprC_eq, if_pos (by decide), show zzE.kids = [] from rfl, kidsC_nil, if_pos rfl]
      rfl
    have h3 : (stmtC (tabOf (zzF :: fs)) zzS [] []).1 = 0 := by
      rw [stmtC_eq, if_pos (by decide), show zzS.e = zzE from rfl, if_pos h2, if_neg (by decide), if_neg (by decide), show zzS.th = [] from rfl, show zzS.el = [] from rfl, blockC_nil, if_pos rfl, blockC_nil]
    rw [blockC_cons, if_pos h3, blockC_nil]
  | succ i =>
    have hi' : i < fs.length := by simpa using hi
    simp only [List.getElem_cons_succ, List.take_succ_cons]
    obtain ⟨h1, h2⟩ := funC_ok.1 (h.2 i hi')
    rw [funC_ok]
    refine ⟨?_, ?_⟩
    · rw [namesC_ok] at h1 ⊢
      refine ⟨h1.1, ?_, h1.2.2⟩
      rw [List.any_cons, h1.2.1, Bool.or_false]
      exact beq_eq_false_iff_ne.2 fun e => hnew fs[i] (List.getElem_mem hi') e.symm
    · rw [(blk_any (tabOf fs) fs[i].body).mono (tabOf (zzF :: fs)) _ _ h2 fun x _ m hm => ?_]
      · exact h2
      · obtain ⟨f, hf, hn⟩ := argsOf_there hm
        rw [argsOf_cons (by rw [← hn]; exact hnew f hf)]
        exact hm
section
variable {t : Tab} {call call' : Caller} (hs : ∀ n l st, argsOf t n = some l.length → call n l st = call' n l st)
theorem kidsP_len (call : Caller) (vs : Vs) : ∀ (ks : List PExpr) (st : St), (kidsP call vs ks st).1.length = ks.length := by
  intro ks
  induction ks with
  | nil => intro st; rw [kidsP_nil]; rfl
  | cons k ks ih => intro st; rw [kidsP_cons]; simp [ih]
theorem kidsP_same (vs : Vs) : ∀ (ks : List PExpr), (∀ k ∈ ks, ∀ st, evalP call vs k st = evalP call' vs k st) → ∀ st, kidsP call vs ks st = kidsP call' vs ks st := by
  intro ks
  induction ks with
  | nil => intro _ st; rw [kidsP_nil, kidsP_nil]
  | cons k ks ih =>
    intro h st
    rw [kidsP_cons, kidsP_cons, h k (by simp), ih (fun x hx => h x (by simp [hx]))]
include hs in
theorem evalP_same (vs : Vs) : ∀ e : PExpr, WfE t e → ∀ st, evalP call vs e st = evalP call' vs e st := by
  intro e
  induction e using PExpr.ind with
  | h e ih =>
    intro hw st
    rw [evalP_eq, evalP_eq, kidsP_same vs e.kids (fun k hk st => ih k hk (hw.kid k hk) st)]
    by_cases hc : e.kind = xCall
    · have := hs e.name (kidsP call' vs e.kids st).1 (kidsP call' vs e.kids st).2 (by rw [kidsP_len]; exact hw.call hc)
      unfold selfP
      rw [this]
    · unfold selfP
      simp only [if_neg hc]
include hs in
theorem loopP_same (T : Nat) (e : PExpr) (th : List PStmt) (he : WfE t e) (hb : ∀ s : FS, blockP call T th s = blockP call' T th s) : ∀ (n : Nat) (s : FS), loopP T (fun s => evalP call s.1.vars e s.2) (fun s => blockP call T th s) n s = loopP T (fun s => evalP call' s.1.vars e s.2) (fun s => blockP call' T th s) n s := by
  have h1 : (fun s : FS => evalP call s.1.vars e s.2) = fun s => evalP call' s.1.vars e s.2 := funext fun s => evalP_same hs s.1.vars e he s.2
  have h2 : (fun s : FS => blockP call T th s) = fun s => blockP call' T th s := funext hb
  intro n s
  rw [h1, h2]
theorem blockP_sameL (T : Nat) : ∀ ss : List PStmt, (∀ s ∈ ss, ∀ f, stmtP call T s f = stmtP call' T s f) → ∀ f, blockP call T ss f = blockP call' T ss f := by
  intro ss
  induction ss with
  | nil => intro _ f; rw [blockP_nil, blockP_nil]
  | cons s ss ih =>
    intro h f
    rw [blockP_cons, blockP_cons, h s (by simp), ih (fun x hx => h x (by simp [hx]))]
include hs in
theorem stmtP_same (T : Nat) {N : List Nm} : ∀ s : PStmt, WfS t N s → ∀ f, stmtP call T s f = stmtP call' T s f := by
  intro s
  induction s using PStmt.ind with
  | h s iht ihl =>
    intro hw f
    have hT := blockP_sameL T s.th fun x hx => iht x hx (hw.kidT x hx)
    have hL := blockP_sameL T s.el fun x hx => ihl x hx (hw.kidL x hx)
    rw [stmtP_eq, stmtP_eq, loopP_same hs T s.e s.th hw.expr hT, evalP_same hs f.1.vars s.e hw.expr, hT, hL]
end
theorem callP_zz {fs : List PFun} (hwf : ∀ f ∈ fs, WfF (tabOf fs) f) (hnew : ∀ f ∈ fs, f.name ≠ zzN) (T : Nat) : ∀ (d : Nat) (n : Nm) (l : List Int) (st : St), argsOf (tabOf fs) n = some l.length → callP (zzF :: fs) T d n l st = callP fs T d n l st := by
  intro d
  induction d with
  | zero => intro n l st _; rfl
  | succ d ih =>
    intro n l st h
    obtain ⟨f, hf, hm, hn⟩ := find_there h
    have hne : n ≠ zzN := by rw [← hn.1]; exact hnew f hm
    obtain ⟨N, _, _, hs⟩ := (hwf f hm).body
    have hb : ∀ s : FS, blockP (callP (zzF :: fs) T d) T f.body s = blockP (callP fs T d) T f.body s :=
      blockP_sameL T f.body fun x hx => stmtP_same (t := tabOf fs) (fun n l st h => ih n l st h) T x (hs x hx)
    unfold callP
    rw [findF_cons hne, hf]
    simp only [bodyP, hb]
theorem runP_zz {fs : List PFun} (hwf : ∀ f ∈ fs, WfF (tabOf fs) f) (hnew : ∀ f ∈ fs, f.name ≠ zzN) (T : Nat) {n : Nm} {l : List Int} (h : argsOf (tabOf fs) n = some l.length) : runP (zzF :: fs) n l T = runP fs n l T := by
  unfold runP
  rw [callP_zz hwf hnew T 40 n l St0 h]
/-! who prints nothing, and calls nobody -/
mutual
def prnT : PStmt → Nat
  | ⟨kind, _, _, th, el⟩ => (if kind = sPrint then 1 else 0) + prnS th + prnS el
def prnS : List PStmt → Nat
  | [] => 0
  | s :: ss => prnT s + prnS ss
end
theorem prnT_eq (s : PStmt) : prnT s = (if s.kind = sPrint then 1 else 0) + prnS s.th + prnS s.el := by cases s; rw [prnT]
theorem prnS_nil : prnS [] = 0 := by rw [prnS]
theorem prnS_cons (s : PStmt) (ss : List PStmt) : prnS (s :: ss) = prnT s + prnS ss := by rw [prnS]
theorem kidsP_out (call : Caller) (vs : Vs) : ∀ (ks : List PExpr), (∀ k ∈ ks, ∀ st, (evalP call vs k st).2.out = st.out) → ∀ st, (kidsP call vs ks st).2.out = st.out := by
  intro ks
  induction ks with
  | nil => intro _ st; rw [kidsP_nil]
  | cons k ks ih =>
    intro h st
    rw [kidsP_cons]
    exact (ih (fun x hx => h x (by simp [hx])) _).trans (h k (by simp) st)
theorem allK_mem {ks : List PExpr} (h : allK ks = []) : ∀ k ∈ ks, allE k = [] := by
  induction ks with
  | nil => intro k hk; cases hk
  | cons x xs ih =>
    rw [allK_cons, List.append_eq_nil_iff] at h
    intro k hk
    rcases List.mem_cons.1 hk with rfl | hk
    · exact h.1
    · exact ih h.2 k hk
theorem evalP_out (call : Caller) (vs : Vs) : ∀ e : PExpr, allE e = [] → ∀ st, (evalP call vs e st).2.out = st.out := by
  intro e
  induction e using PExpr.ind with
  | h e ih =>
    intro h st
    rw [allE_eq, List.append_eq_nil_iff] at h
    have hc : e.kind ≠ xCall := fun hc => by rw [if_pos hc] at h; cases h.2
    have hk := kidsP_out call vs e.kids (fun k hk st => ih k hk (allK_mem h.1 k hk) st) st
    rw [evalP_eq]
    split
    · rfl
    · unfold selfP
      repeat (first | exact hk | exact absurd ‹_› hc | split)
theorem tick_out (T : Nat) (st : St) : (tickP T st).out = st.out := by unfold tickP; split <;> rfl
theorem loopP_out {T : Nat} {cond : FS → Int × St} {body : FS → FS} (hc : ∀ s, (cond s).2.out = s.2.out) (hb : ∀ s, (body s).2.out = s.2.out) : ∀ (n : Nat) (s : FS), (loopP T cond body n s).2.out = s.2.out := by
  intro n
  induction n with
  | zero =>
    intro s
    unfold loopP
    split
    · rfl
    · exact tick_out T s.2
  | succ n ih =>
    intro s
    unfold loopP
    split
    · rfl
    · split
      · exact tick_out T s.2
      · split
        · exact (hc _).trans (tick_out T s.2)
        · exact (ih _).trans ((hb _).trans ((hc _).trans (tick_out T s.2)))
theorem blockP_outL (call : Caller) (T : Nat) : ∀ ss : List PStmt, (∀ s ∈ ss, ∀ f, (stmtP call T s f).2.out = f.2.out) → ∀ f, (blockP call T ss f).2.out = f.2.out := by
  intro ss
  induction ss with
  | nil => intro _ f; rw [blockP_nil]
  | cons s ss ih =>
    intro h f
    rw [blockP_cons]
    split
    · rfl
    · exact (ih (fun x hx => h x (by simp [hx])) _).trans (h s (by simp) f)
theorem allS_mem {ss : List PStmt} (h : allS ss = []) : ∀ s ∈ ss, allT s = [] := by
  induction ss with
  | nil => intro k hk; cases hk
  | cons x xs ih =>
    rw [allS_cons, List.append_eq_nil_iff] at h
    intro k hk
    rcases List.mem_cons.1 hk with rfl | hk
    · exact h.1
    · exact ih h.2 k hk
theorem prnS_mem {ss : List PStmt} (h : prnS ss = 0) : ∀ s ∈ ss, prnT s = 0 := by
  induction ss with
  | nil => intro k hk; cases hk
  | cons x xs ih =>
    rw [prnS_cons] at h
    intro k hk
    rcases List.mem_cons.1 hk with rfl | hk
    · omega
    · exact ih (by omega) k hk
theorem stmtP_out (call : Caller) (T : Nat) : ∀ s : PStmt, allT s = [] → prnT s = 0 → ∀ f, (stmtP call T s f).2.out = f.2.out := by
  intro s
  induction s using PStmt.ind with
  | h s iht ihl =>
    intro ha hp f
    rw [allT_eq, List.append_eq_nil_iff, List.append_eq_nil_iff] at ha
    rw [prnT_eq] at hp
    have hk : s.kind ≠ sPrint := fun e => by rw [if_pos e] at hp; omega
    have he := fun vs st => evalP_out call vs s.e ha.1.1 st
    have hT := blockP_outL call T s.th fun x hx => iht x hx (allS_mem ha.1.2 x hx) (prnS_mem (by omega) x hx)
    have hL := blockP_outL call T s.el fun x hx => ihl x hx (allS_mem ha.2 x hx) (prnS_mem (by omega) x hx)
    rw [stmtP_eq]
    split
    · exact loopP_out (fun s' => he _ _) (fun s' => hT s') _ f
    · split
      · exact he _ _
      · split
        · exact he _ _
        · split
          · exact he _ _
          · split
            · exact (hL _).trans (he _ _)
            · exact (hT _).trans (he _ _)
theorem runP_quiet {fs : List PFun} {n : Nm} {f : PFun} (hf : findF fs n = some f) (hc : callsP f = []) (hp : prnS f.body = 0) (l : List Int) (T : Nat) : (runP fs n l T).2.2.1 = [] := by
  have ha : allS f.body = [] := by
    rw [List.eq_nil_iff_forall_not_mem]
    intro x hx
    have := (callsP_mem f x).2 hx
    rw [hc] at this
    cases this
  have hb : ∀ call s, (blockP call T f.body s).2.out = s.2.out := fun call => blockP_outL call T f.body fun x hx => stmtP_out call T x (allS_mem ha x hx) (prnS_mem hp x hx)
  have h : (callP fs T 40 n l St0).2.out = [] := by
    unfold callP
    rw [hf]
    simp only
    split
    · rfl
    · split
      · rw [tick_out]; rfl
      · show (blockP _ _ _ _).2.out = []
        rw [hb, tick_out]; rfl
  unfold runP
  split <;> exact h
end Go.Proofs.YteifmgcbafemeaaDoor

namespace Go.Proofs.YteifmgcbafemeaaDoor
open Go.RowKit


theorem Index_any (s : ByteArray) (A : Option Addr) (xs : List ByteArray) (c : Nat) (w : World) (hr : Row w A (xs.map .string)) (hn : xs.length ≤ 1000000) :
    Calls Tryd.prog 31 #[.slice A xs.length c, .string s] w fun e w' => e = .returned (.int .i64 (idxV s xs 0)) ∧ w' = w := by
  go_enter Tryd.func31, Tryd.ntmps31
  go_wp2_with fail
  go_loop [8] (fun i => ∃ k : Nat, k ≤ xs.length ∧ i = .int .i64 k ∧ idxV s xs 0 = idxV s (xs.drop k) k) (fun i => xs.length - (intOf i).toNat)
  case atStart => exact ⟨0, Nat.zero_le _, rfl, by simp⟩
  case round =>
    obtain ⟨k, hk, rfl, hI⟩ := hrel
    have HI := Lib.hid hI
    clear hI
    by_cases hlt : k < xs.length
    · obtain ⟨b, off, rfl, hc⟩ := hr k _ (strs_get hlt)
      have HD := Lib.hid (idxV_drop (s := s) hlt)
      by_cases he : (s.toList == xs[k].toList) = true
      · go_wp2_with fail
        go_ret
        exact ⟨by rw [HI.out, HD.out, if_pos he]; rfl, rfl⟩
      · have he' : (s.toList == xs[k].toList) = false := by simpa using he
        have HE := Lib.hid he
        clear he
        go_wp2_with fail
        go_round
        case rel => exact ⟨k + 1, by omega, by go_num, by rw [HI.out, HD.out, if_neg HE.out]⟩
        case measure => simp [intOf]; omega
    · have hk' : k = xs.length := by omega
      subst hk'
      go_wp2_with fail
      go_ret
      exact ⟨by rw [HI.out]; simp [idxV], rfl⟩
theorem Contains_any (s : ByteArray) (A : Option Addr) (xs : List ByteArray) (c : Nat) (w : World) (hr : Row w A (xs.map .string)) (hn : xs.length ≤ 1000000) :
    Calls Tryd.prog 24 #[.slice A xs.length c, .string s] w fun e w' => e = .returned (.bool (isIn s xs)) ∧ w' = w := by
  have HB := Lib.hid (idxV_isIn s xs 0)
  go_enter Tryd.func24, Tryd.ntmps24
  go_wp2_with (go_at_call 31; refine (Index_any _ _ _ _ _ hr hn).mono ?_; rintro e w' ⟨rfl, rfl⟩)
  go_ret
  exact ⟨by rw [← HB.out]; rfl, rfl⟩
end Go.Proofs.YteifmgcbafemeaaDoor

namespace Go.Proofs.YteifmgcbafemeaaDoor
open Go.RowKit

def strV (l : List UInt8) : Value := .string (mkB l)
theorem isIn_strV (s : List UInt8) (r : List (List UInt8)) : isIn (mkB s) (r.map mkB) = r.contains s := by
  rw [isIn_mkB, mkB_toList, List.contains_eq_any_beq]
  congr 1
  funext x
  exact Bool.beq_comm ..
end Go.Proofs.YteifmgcbafemeaaDoor

namespace Go.Proofs.YteifmgcbafemeaaDoor
open Go.RowKit

/-! names -/
theorem mkB_size (l : List UInt8) : (mkB l).size = l.length := rfl
theorem mkB_get (l : List UInt8) (k : Nat) (_h : k < (mkB l).size) (h' : k < l.length) : (mkB l)[k] = l[k] := rfl
def wordsL2 : List ByteArray := wordsB.map mkB
theorem isIn_words2 (n : Nm) : isIn (mkB n) wordsL2 = wordsB.contains n := isIn_strV n wordsB
def nmFrom (n : Nm) (k : Nat) : Bool := (decide (0 < k) || isLetter (n.headD 0)) && (n.drop k).all alnum
theorem nmFrom_step {n : Nm} {k : Nat} (h : k < n.length) : nmFrom n k = ((isLetter n[k] || (isDigit n[k] && decide (0 < k))) && nmFrom n (k + 1)) := by
  unfold nmFrom
  rw [List.drop_eq_getElem_cons h, List.all_cons]
  have e1 : alnum n[k] = (isLetter n[k] || isDigit n[k]) := rfl
  have hd : n.headD 0 = n[0]'(by omega) := by cases n with
    | nil => simp at h
    | cons c l => rfl
  rw [e1, hd]
  cases k with
  | zero => cases h1 : isLetter n[0] <;> simp [h1]
  | succ k => simp
theorem nmFrom_end (n : Nm) (h : 0 < n.length) : nmFrom n n.length = true := by simp [nmFrom, h]
theorem nmOk_from (n : Nm) : nmOk n = (decide (1 ≤ n.length) && decide (n.length ≤ 8) && nmFrom n 0 && !wordsB.contains n) := by
  unfold nmOk nmFrom
  simp only [List.drop_zero, Nat.lt_irrefl, decide_false, Bool.false_or, Bool.and_assoc]
end Go.Proofs.YteifmgcbafemeaaDoor

namespace Go.Proofs.YteifmgcbafemeaaDoor
open Go.RowKit

theorem exprInfo : (Tryd.prog.info? 43).map (fun i => (i.zero, i.size, i.bytes)) = some (some (.agg #[.string ⟨#[]⟩, .int .i64 0, .string ⟨#[]⟩, .slice none 0 0]), 4, 64) := by kernel_rfl
def newAt (w : World) (n : Nat) : Prop := w.heap.size ≤ n
def exprV (e : PExpr) (A : Option Addr) (c : Nat) : Value := .agg #[.string (mkB e.kind), .int .i64 e.num, .string (mkB e.name), .slice A e.kids.length c]
set_option maxHeartbeats 1000000 in
set_option maxRecDepth 100000 in
theorem AsExpr_any : ∀ e : PExpr, SmE e → ∀ (S : Nat → Prop) (A : Option Addr) (c : Nat) (w : World), RdE w S e.kids A →
    Calls Tryd.prog 32 #[exprV e A c] w fun x w' => ∃ B d, x = .returned (exprV e B d) ∧ RdE w' (newAt w) e.kids B ∧ Below w.heap.size w w' := by
  intro e
  induction e using PExpr.ind with
  | h e ih =>
  intro hs S A c w hr
  have HS := Lib.hid hs
  have h8 := hs.len
  have HR := Lib.hid hr
  have IH : Hid (∀ (i : Nat) (hi : i < e.kids.length) (S : Nat → Prop) (A : Option Addr) (c : Nat) (w : World), RdE w S e.kids[i].kids A →
    Calls Tryd.prog 32 #[exprV e.kids[i] A c] w fun x w' => ∃ B d, x = .returned (exprV e.kids[i] B d) ∧ RdE w' (newAt w) e.kids[i].kids B ∧ Below w.heap.size w w') :=
    fun i hi => ih _ (List.getElem_mem hi) (hs.kid _ (List.getElem_mem hi))
  clear ih hs hr
  obtain ⟨ti, hi, hz0, hz1, hz2⟩ := info_parts exprInfo
  unfold exprV
  go_enter Tryd.func32, Tryd.ntmps32
  go_wp2_with fail
  go_loopw [4, 5] (fun i _ wr => ∃ (k : Nat) (v : Value) (ts : List EC), k ≤ e.kids.length ∧ i = .int .i64 k ∧ ts.map (·.e) = e.kids.take k ∧ wr.heap[w.heap.size + 1 + 1]? = some (.cells #[.string (mkB e.kind), .int .i64 e.num, .string (mkB e.name), v] 43 (0, 0)) ∧
    wr.ownsRow (w.heap.size + 3) 43 4 v k (ts.flatMap EC.cells) ∧ (∀ t ∈ ts, t.Ok wr (Apart (w.heap.size + 3) v)) ∧ Below w.heap.size w wr ∧ w.heap.size + 3 ≤ wr.heap.size ∧ wr.cell? ⟨w.heap.size, 3, none⟩ = some (.slice A e.kids.length c) ∧ wr.heap[w.heap.size + 1]? = some (.cells #[.string ⟨#[]⟩, .int .i64 0, .string ⟨#[]⟩, .slice none 0 0] 43 (0, 0))) (fun i _ _ => e.kids.length - (intOf i).toNat)
  case atStart => exact ⟨0, .slice none 0 0, [], Nat.zero_le _, rfl, rfl, new_block _ _ (by simp), World.ownsRow_nil _ _ _ _, (fun t h => by cases h), grow_alloc (grow_alloc (grow_alloc (grow_refl w) _) _) _, by simp, Keeps.alloc _ _ _ _ (Keeps.alloc _ _ _ _ (cell_of_row _ _ 3 _ _ _ (new_block _ _ rfl))), (old_block _ _ (by simp)).trans (new_block _ _ (by simp))⟩
  case round =>
    obtain ⟨k, v, ts, hk, rfl, hts, hout, hown, hok, hbel, hsz, hbox, hres⟩ := hrel
    have hout3 : wr.cell? ⟨w.heap.size + 1 + 1, 3, none⟩ = some v := cell_of_row _ _ 3 _ _ _ hout
    by_cases hlt : k < e.kids.length
    · obtain ⟨b, off, B, d, rfl, -, hcells, hnum, hkid⟩ := (HR.out.keep ((Keeps.of_below hbel).in S) (fun _ h => h)).at hlt
      obtain ⟨c0, c1, c2, c3⟩ := cells_expr hcells
      have hlt' : (k : Int) < (e.kids.length : Int) := by omega
      have HK := Lib.hid (IH.out k hlt S B d wr hkid)
      unfold exprV at HK
      have HO := Lib.hid hown
      have HOK := Lib.hid hok
      have HOUT := Lib.hid hout
      have HNUM := Lib.hid hnum
      have HRES := Lib.hid hres
      clear hown hok hcells hkid hout hnum hres
      go_wp2_with (first
        | (go_at_call 32; (with_reducible refine HK.out.mono ?_); rintro x w1 ⟨B1, d1, rfl, hr1, hb1⟩; have ho1 := Keeps.of_below hb1 _ _ hout3; have ho2 : (w1.alloc (.cells #[.string (mkB e.kids[k].kind), .int .i64 e.kids[k].num, .string (mkB e.kids[k].name), .slice B1 e.kids[k].kids.length d1] 43)).cell? ⟨w.heap.size + 1 + 1, 3, none⟩ = some v := Keeps.alloc _ _ _ _ ho1)
        | (at_builtin; refine wpList_append_own_at _ rfl _ _ 41 rfl (w.heap.size + 3) 43 ti _ 4 64 Tryd.underlying41 hi hz0 hz1 hz2 rfl (by decide) _ _ _ rfl (((ownsRow_below HO.out hb1).alloc _).alloc _) ⟨w1.heap.size + 1, 0, none⟩ 1 1 (exprL e.kids[k] B1 d1) rfl rfl ?c1 ?c2 ?c3 ?c4 ?c5 ?_))
      case c1 =>
        intro i u hu
        match i, hu with
        | 0, hu => simp [exprL] at hu; subst hu; simp [Addr.add]
        | 1, hu => simp [exprL] at hu; subst hu; simp [Addr.add]
        | 2, hu => simp [exprL] at hu; subst hu; simp [Addr.add]
        | 3, hu => simp [exprL] at hu; subst hu; simp [Addr.add]
      case c2 => intro u hu; simp [exprL] at hu; rcases hu with rfl | rfl | rfl | rfl <;> rfl
      case c3 => unfold maxLen; omega
      case c4 => omega
      case c5 => have := hb1.size; simp; omega
      · intro v' w2 hown' hgrow _ hat
        obtain ⟨A', c', rfl⟩ := owns_slice hown'
        have hsz1 := hb1.size
        have hout2 : w2.heap[w.heap.size + 1 + 1]? = some (.cells #[.string (mkB e.kind), .int .i64 e.num, .string (mkB e.name), v] 43 (0, 0)) := by
          have h1 := (hb1.block (w.heap.size + 1 + 1) (by omega)).trans HOUT.out
          have h2 := hgrow.block (w.heap.size + 1 + 1) (by simp; omega) (fun q => by have := (HO.out.lt _ q.symm).1; omega)
          rw [h2, old_block _ _ (by simp; omega), old_block _ _ (by omega)]
          exact h1
        have HRES2 : Hid (w2.heap[w.heap.size + 1]? = some (.cells #[.string ⟨#[]⟩, .int .i64 0, .string ⟨#[]⟩, .slice none 0 0] 43 (0, 0))) := by
          show w2.heap[w.heap.size + 1]? = _
          have h1 := (hb1.block (w.heap.size + 1) (by omega)).trans HRES.out
          have h2 := hgrow.block (w.heap.size + 1) (by simp; omega) (fun q => by have := (HO.out.lt _ q.symm).1; omega)
          rw [h2, old_block _ _ (by simp; omega), old_block _ _ (by omega)]
          exact h1
        have hb2 : Below w.heap.size w w2 := Below.grown ((((hbel.trans (hb1.mono hbel.size)).alloc (Nat.le_trans hbel.size hb1.size) _).alloc (by simp; have := hbel.size; omega) _)) hgrow (by simp; have := hbel.size; omega) (fun k hk => by have := (HO.out.lt k hk).1; omega)
        have hbox2 : w2.cell? ⟨w.heap.size, 3, none⟩ = some (.slice (some ⟨b, off, none⟩) e.kids.length c) := by
          have h1 := Keeps.of_below hb1 _ _ hbox
          exact hgrow.cell (Keeps.alloc _ _ _ _ (Keeps.alloc _ _ _ _ h1)) (fun q => by have := (HO.out.lt _ q.symm).1; simp at this; omega)
        have HOK2 : Hid (∀ t ∈ ts ++ [(⟨e.kids[k], B1, d1⟩ : EC)], t.Ok w2 (Apart (w.heap.size + 3) (.slice A' (k + 1) c'))) := by
          intro t ht
          rcases List.mem_append.1 ht with h | h
          · exact (((HOK.out t h).keep ((Keeps.of_below hb1).in _) (fun _ h => h)).lt).keep (apart_app hgrow) (apart_own (w1 := w1) hat (by omega))
          · simp only [List.mem_singleton] at h
            subst h
            refine EC.Ok.keep (apart_app hgrow) (apart_own (w1 := w1) hat (by omega)) (EC.Ok.lt (t := ⟨e.kids[k], B1, d1⟩) (S := Apart (w.heap.size + 3) v) ⟨HNUM.out, hr1.keep (Keeps.in (Keeps.refl _) _) (fun n hn => ⟨Nat.le_trans hsz hn, fun q => ?_⟩)⟩)
            have := (HO.out.lt _ q.symm).2
            have hn' : wr.heap.size ≤ n := hn
            omega
        have HOWN2 : Hid (w2.ownsRow (w.heap.size + 3) 43 4 (.slice A' (k + 1) c') (k + 1) ((ts ++ [(⟨e.kids[k], B1, d1⟩ : EC)]).flatMap EC.cells)) := by
          show w2.ownsRow _ _ _ _ _ _
          rw [List.flatMap_append, List.flatMap_singleton]
          exact hown'
        have hsz2 : w.heap.size + 3 ≤ w2.heap.size := by have := hgrow.size; simp at this; omega
        have f1 : w2.cell? ⟨w.heap.size + 1 + 1, 3, none⟩ = some v := cell_of_row _ _ 3 _ _ _ hout2
        have f2 : w2.frozen? ⟨w.heap.size + 1 + 1, 3, none⟩ = false := row_frozen hout2 3
        have HOUT2 := Lib.hid hout2
        clear hown' hgrow hat hr1 ho1 ho2 hb1 c0 c1 c2 c3 hout3 hout2
        go_wp2_with fail
        go_roundw
        case rel =>
          refine ⟨k + 1, .slice A' (k + 1) c', ts ++ [(⟨e.kids[k], B1, d1⟩ : EC)], by omega, by go_num, map_snoc hts hlt _ rfl, row_set _ HOUT2.out (by simp), ownsRow_store HOWN2.out (by omega) _, ?_, hb2.setCell (by simp; omega) _, by simpa using hsz2, ?_, ?_⟩
          · intro t ht
            exact (HOK2.out t ht).keep (keeps_store _ (fun n hn e => by have := hn.1; omega)) (fun _ h => h)
          · exact (World.cell?_of_block (Below.heap_setCell _ _ _ _ (by simp; omega))).trans hbox2
          · exact (Below.heap_setCell _ _ _ _ (by simp)).trans HRES2.out
        case measure => simp [intOf]; omega
    · have hk' : k = e.kids.length := by omega
      subst hk'
      have hl := map_len hts (Nat.le_refl _)
      rw [List.take_length] at hts
      have hown1 : wr.ownsRow (w.heap.size + 3) 43 4 v ts.length (ts.flatMap EC.cells) := by rw [hl]; exact hown
      obtain ⟨B, d, hv, hrd⟩ := EC.row hown1 hok
      rw [hl] at hv
      subst hv
      rw [hts] at hrd
      have r0 := cell_of_row _ _ 0 _ _ _ hres
      have r1 := cell_of_row _ _ 1 _ _ _ hres
      have r2 := cell_of_row _ _ 2 _ _ _ hres
      have r3 := cell_of_row _ _ 3 _ _ _ hres
      have o0 := cell_of_row _ _ 0 _ _ _ hout
      have o1 := cell_of_row _ _ 1 _ _ _ hout
      have o2 := cell_of_row _ _ 2 _ _ _ hout
      have z0 := row_frozen hres 0
      have z1 := row_frozen hres 1
      have z2 := row_frozen hres 2
      have z3 := row_frozen hres 3
      have HOUT := Lib.hid hout
      have HRES := Lib.hid hres
      have HRD := Lib.hid hrd
      clear hout hres hrd hown hown1 hok hts hl IH HR
      go_wp2_with fail
      have hrow := row_set (j := 3) (cs' := #[.string (mkB e.kind), .int .i64 e.num, .string (mkB e.name), .slice B e.kids.length d]) (.slice B e.kids.length d) (row_set (j := 2) (cs' := #[.string (mkB e.kind), .int .i64 e.num, .string (mkB e.name), .slice none 0 0]) (.string (mkB e.name)) (row_set (j := 1) (cs' := #[.string (mkB e.kind), .int .i64 e.num, .string ⟨#[]⟩, .slice none 0 0]) (.int .i64 e.num) (row_set (j := 0) (cs' := #[.string (mkB e.kind), .int .i64 0, .string ⟨#[]⟩, .slice none 0 0]) (.string (mkB e.kind)) HRES.out (by simp)) (by simp)) (by simp)) (by simp)
      have q0 := cell_of_row _ _ 0 _ _ _ hrow
      have q1 := cell_of_row _ _ 1 _ _ _ hrow
      have q2 := cell_of_row _ _ 2 _ _ _ hrow
      have q3 := cell_of_row _ _ 3 _ _ _ hrow
      refine bodyPost_ret (by simp [results, Tryd.results32, go_sem, q0, q1, q2, q3]; try rfl) rfl ?_
      have hS : ∀ n, w.heap.size + 3 ≤ n → n ≠ w.heap.size + 1 := fun n hn e => by omega
      exact ⟨B, d, rfl, (((HRD.out.keep (keeps_store _ hS) (fun _ h => h)).keep (keeps_store _ hS) (fun _ h => h)).keep (keeps_store _ hS) (fun _ h => h)).keep (keeps_store _ hS) (fun n h => by unfold newAt; omega),
        (((hbel.setCell (by simp) _).setCell (by simp) _).setCell (by simp) _).setCell (by simp) _⟩
end Go.Proofs.YteifmgcbafemeaaDoor
