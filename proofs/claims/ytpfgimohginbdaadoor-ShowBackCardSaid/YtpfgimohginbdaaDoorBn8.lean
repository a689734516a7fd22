import Derived.OwnWalk
import Derived.Laws.OwnMore
import Derived.Maps.AppendAt
import Derived.Test.YtpfgimohginbdaaDoorBn7
set_option linter.unusedVariables false
set_option linter.unusedSimpArgs false
namespace Go.Proofs.YtpfgimohginbdaaDoor
open Go.RowKit

/-! small trees -/
inductive SmE : PExpr → Prop
  | mk (e : PExpr) (h : e.kids.length ≤ 8) (hn : e.name.length ≤ 20) (hk : ∀ k ∈ e.kids, SmE k) : SmE e
inductive SmS : PStmt → Prop
  | mk (s : PStmt) (hk : s.kind.length ≤ 20) (hn : s.name.length ≤ 20) (he : SmE s.e) (ht : s.th.length ≤ 30) (hl : s.el.length ≤ 30) (hts : ∀ k ∈ s.th, SmS k) (hls : ∀ k ∈ s.el, SmS k) : SmS s
structure SmF (f : PFun) : Prop where
  name : f.name.length ≤ 20
  params : f.params.length ≤ 8
  texts : ∀ p ∈ f.params, p.length ≤ 20
  body : f.body.length ≤ 30
  stmts : ∀ s ∈ f.body, SmS s
theorem SmE.len {e : PExpr} (h : SmE e) : e.kids.length ≤ 8 := by cases h; assumption
theorem SmE.nameLen {e : PExpr} (h : SmE e) : e.name.length ≤ 20 := by cases h; assumption
theorem SmE.kid {e : PExpr} (h : SmE e) : ∀ k ∈ e.kids, SmE k := by cases h; assumption
theorem SmS.kind {s : PStmt} (h : SmS s) : s.kind.length ≤ 20 := by cases h; assumption
theorem SmS.name {s : PStmt} (h : SmS s) : s.name.length ≤ 20 := by cases h; assumption
theorem SmS.expr {s : PStmt} (h : SmS s) : SmE s.e := by cases h; assumption
theorem SmS.lenT {s : PStmt} (h : SmS s) : s.th.length ≤ 30 := by cases h; assumption
theorem SmS.lenL {s : PStmt} (h : SmS s) : s.el.length ≤ 30 := by cases h; assumption
theorem SmS.kidT {s : PStmt} (h : SmS s) : ∀ k ∈ s.th, SmS k := by cases h; assumption
theorem SmS.kidL {s : PStmt} (h : SmS s) : ∀ k ∈ s.el, SmS k := by cases h; assumption

/-! rows of what was appended -/
structure EC where
  e : PExpr
  B : Option Addr
  c : Nat
def EC.cells (t : EC) : List Value := exprL t.e t.B t.c
structure SC where
  s : PStmt
  X : Option Addr
  x : Nat
  T : Option Addr
  t : Nat
  L : Option Addr
  l : Nat
def SC.cells (y : SC) : List Value := stmtL y.s y.X y.x y.T y.t y.L y.l
structure FC where
  f : PFun
  P : Option Addr
  p : Nat
  B : Option Addr
  c : Nat
def FC.cells (t : FC) : List Value := funL t.f t.P t.p t.B t.c
def EC.Ok (w : World) (S : Nat → Prop) (t : EC) : Prop := okN t.e.num ∧ RdE w S t.e.kids t.B
def SC.Ok (w : World) (S : Nat → Prop) (y : SC) : Prop := okN y.s.e.num ∧ RdE w S y.s.e.kids y.X ∧ RdS w S y.s.th y.T ∧ RdS w S y.s.el y.L
def FC.Ok (w : World) (S : Nat → Prop) (y : FC) : Prop := RdT w S y.f.params y.P ∧ PrmOk y.f y.P y.p ∧ RdS w S y.f.body y.B
theorem EC.Ok.keep {w w' : World} {S S' : Nat → Prop} (k : KeepsIn S w w') (hS : ∀ n, S n → S' n) {t : EC} (h : t.Ok w S) : t.Ok w' S' := ⟨h.1, h.2.keep k hS⟩
theorem SC.Ok.keep {w w' : World} {S S' : Nat → Prop} (k : KeepsIn S w w') (hS : ∀ n, S n → S' n) {t : SC} (h : t.Ok w S) : t.Ok w' S' := ⟨h.1, h.2.1.keep k hS, h.2.2.1.keep k hS, h.2.2.2.keep k hS⟩
theorem FC.Ok.keep {w w' : World} {S S' : Nat → Prop} (k : KeepsIn S w w') (hS : ∀ n, S n → S' n) {t : FC} (h : t.Ok w S) : t.Ok w' S' := ⟨h.1.keep k hS, h.2.1, h.2.2.keep k hS⟩

theorem RdE.lt {w : World} {S : Nat → Prop} {ks : List PExpr} {A : Option Addr} (h : RdE w S ks A) : RdE w (fun n => S n ∧ n < w.heap.size) ks A := by
  induction h with
  | mk ks A b off B c hA hc hn hk ih =>
    exact ⟨ks, A, b, off, B, c, fun h => ⟨(hA h).1, (hA h).2, World.block_lt_of_cell? w _ (cells_expr (hc 0 h)).1⟩, hc, hn, ih⟩
theorem RdS.lt {w : World} {S : Nat → Prop} {ss : List PStmt} {A : Option Addr} (h : RdS w S ss A) : RdS w (fun n => S n ∧ n < w.heap.size) ss A := by
  induction h with
  | mk ss A b off X T L x t l hA hc hn hx ht hl iht ihl =>
    exact ⟨ss, A, b, off, X, T, L, x, t, l, fun h => ⟨(hA h).1, (hA h).2, World.block_lt_of_cell? w _ (cells_stmt (hc 0 h)).1⟩, hc, hn, fun i hi => (hx i hi).lt, iht, ihl⟩
theorem RdT.lt {w : World} {S : Nat → Prop} {xs : List (List UInt8)} {A : Option Addr} (h : RdT w S xs A) : RdT w (fun n => S n ∧ n < w.heap.size) xs A := fun i hi => by
  obtain ⟨b, off, e, hs, hc⟩ := h i hi
  exact ⟨b, off, e, ⟨hs, World.block_lt_of_cell? w _ hc⟩, hc⟩
theorem RdF.lt {w : World} {S : Nat → Prop} {fs : List PFun} {A : Option Addr} (h : RdF w S fs A) : RdF w (fun n => S n ∧ n < w.heap.size) fs A := fun i hi => by
  obtain ⟨b, off, P, p, B, c, e, hs, hc, hp, hn, hb⟩ := h i hi
  exact ⟨b, off, P, p, B, c, e, ⟨hs, World.block_lt_of_cell? w _ (cells_fun hc).1⟩, hc, hp.lt, hn, hb.lt⟩
theorem EC.Ok.lt {w : World} {S : Nat → Prop} {t : EC} (h : t.Ok w S) : t.Ok w (fun n => S n ∧ n < w.heap.size) := ⟨h.1, h.2.lt⟩
theorem SC.Ok.lt {w : World} {S : Nat → Prop} {t : SC} (h : t.Ok w S) : t.Ok w (fun n => S n ∧ n < w.heap.size) := ⟨h.1, h.2.1.lt, h.2.2.1.lt, h.2.2.2.lt⟩
theorem FC.Ok.lt {w : World} {S : Nat → Prop} {t : FC} (h : t.Ok w S) : t.Ok w (fun n => S n ∧ n < w.heap.size) := ⟨h.1.lt, h.2.1, h.2.2.lt⟩

/-- The blocks that a slice that grows has not: from base on, not its own. -/
def Apart (base : Nat) (v : Value) (n : Nat) : Prop := base ≤ n ∧ some n ≠ v.ownBlock
/-- An append leaves alone what lies apart. -/
theorem apart_app {w1 w2 : World} {o1 o2 : Obj} {v : Value} {base : Nat} (hg : ((w1.alloc o1).alloc o2).grownBy w2 v.ownBlock) : KeepsIn (fun n => Apart base v n ∧ n < w1.heap.size) w1 w2 := fun a u hs hc => by
  have h1 : ((w1.alloc o1).alloc o2).cell? a = some u := Keeps.alloc _ _ _ _ (Keeps.alloc _ _ _ _ hc)
  exact hg.cell h1 hs.1.2
theorem new_block (W : World) (o : Obj) {n : Nat} (h : W.heap.size = n) : (W.alloc o).heap[n]? = some o := h ▸ heap_alloc_new W o
theorem old_block (W : World) (o : Obj) {n : Nat} (h : n < W.heap.size) : (W.alloc o).heap[n]? = W.heap[n]? := ((Below.refl W.heap.size W).alloc (Nat.le_refl _) o).block n h
theorem row_frozen {w : World} {b : Nat} {cs : Array Value} {T : TypeId} (hb : w.heap[b]? = some (.cells cs T (0, 0))) (j : Nat) : w.frozen? ⟨b, j, none⟩ = false := by
  simp [World.frozen?, hb]
theorem row_set {w : World} {b j : Nat} {cs cs' : Array Value} {T : TypeId} {fz : Nat × Nat} (u : Value) (hb : w.heap[b]? = some (.cells cs T fz)) (he : cs' = cs.setIfInBounds j u) : (w.setCell ⟨b, j, none⟩ u).heap[b]? = some (.cells cs' T fz) := by
  subst he
  simp [World.setCell, Array.getElem?_modify, hb]
theorem apart_own {w1 : World} {m : Nat} {v v' : Value} {base : Nat} (hat : v'.ownBlock = v.ownBlock ∨ v'.ownBlock = some m) (hm : w1.heap.size ≤ m) : ∀ n, Apart base v n ∧ n < w1.heap.size → Apart base v' n := fun n ⟨⟨h1, h2⟩, h3⟩ => by
  refine ⟨h1, ?_⟩
  rcases hat with e | e
  · rw [e]; exact h2
  · rw [e]; intro q; simp at q; omega
theorem ownsRow_below {w w' : World} {base : Nat} {e : TypeId} {size : Nat} {v : Value} {n : Nat} {xs : List Value} (h : w.ownsRow base e size v n xs) (hb : Below w.heap.size w w') : w'.ownsRow base e size v n xs :=
  h.kept (row := none) ⟨hb.os, hb.tape, hb.output, hb.size, fun k hk _ => hb.block k hk⟩ (by cases v.ownBlock <;> simp)
theorem owns_slice {w : World} {base : Nat} {e : TypeId} {size : Nat} {v : Value} {n : Nat} {xs : List Value} (h : w.ownsRow base e size v n xs) : ∃ A c, v = .slice A n c := by
  rcases h.2 with ⟨rfl, rfl⟩ | ⟨g, cap, cur, rfl, _⟩
  · exact ⟨none, 0, rfl⟩
  · exact ⟨_, _, rfl⟩
theorem ownsRow_store {w : World} {base : Nat} {e : TypeId} {size : Nat} {v : Value} {n : Nat} {xs : List Value} (h : w.ownsRow base e size v n xs) {b j : Nat} (hb : b < base) (u : Value) : (w.setCell ⟨b, j, none⟩ u).ownsRow base e size v n xs :=
  h.kept (row := some b) ⟨rfl, rfl, rfl, by simp [World.setCell], fun k _ hk => Below.heap_setCell _ _ _ _ (fun e => hk (by simp [e]))⟩ (by
    rcases ho : v.ownBlock with _ | g
    · exact .inl rfl
    · right; intro e; simp at e; have := (h.lt g ho).1; omega)
theorem keeps_store {w : World} {b j : Nat} (u : Value) {S : Nat → Prop} (hS : ∀ n, S n → n ≠ b) : KeepsIn S w (w.setCell ⟨b, j, none⟩ u) := fun a x hs hc =>
  (World.cell?_of_block (Below.heap_setCell _ _ _ _ (hS _ hs))).trans hc
theorem map_snoc {α β : Type} {f : α → β} {ts : List α} {l : List β} {k : Nat} (h : ts.map f = l.take k) (hk : k < l.length) (x : α) (hx : f x = l[k]) : (ts ++ [x]).map f = l.take (k + 1) := by
  rw [List.map_append, h, List.map_cons, List.map_nil, hx]; exact (List.take_succ_eq_append_getElem hk).symm
theorem map_len {α β : Type} {f : α → β} {ts : List α} {l : List β} {k : Nat} (h : ts.map f = l.take k) (hk : k ≤ l.length) : ts.length = k := by
  have := congrArg List.length h
  simpa [Nat.min_eq_left hk] using this
/-- What the slice that was built reads as. -/
theorem owns_at {w : World} {base : Nat} {e : TypeId} {size : Nat} {v : Value} {n : Nat} {xs : List Value} (h : w.ownsRow base e size v n xs) :
    ∃ A c, v = .slice A n c ∧ (0 < n → ∃ g, A = some ⟨g, 0, none⟩ ∧ base ≤ g ∧ g < w.heap.size ∧ ∀ (j : Nat) (u : Value), xs[j]? = some u → w.cell? ⟨g, j, none⟩ = some u) := by
  rcases h.2 with ⟨rfl, rfl⟩ | ⟨g, cap, cur, rfl, h1, h2, h3, h4, h5, h6⟩
  · exact ⟨none, 0, rfl, fun h => by omega⟩
  · refine ⟨_, _, rfl, fun _ => ⟨g, rfl, h1, (Array.getElem?_eq_some_iff.1 h2).1, fun j u hj => ?_⟩⟩
    have := h.cells (g := g) rfl j u hj
    rwa [show (⟨g, 0, none⟩ : Addr).add j = ⟨g, j, none⟩ by unfold Addr.add; split <;> simp_all] at this
theorem EC.row {w : World} {base : Nat} {e : TypeId} {v : Value} {ts : List EC} (h : w.ownsRow base e 4 v ts.length (ts.flatMap EC.cells)) (hk : ∀ t ∈ ts, t.Ok w (Apart base v)) :
    ∃ A c, v = .slice A ts.length c ∧ RdE w (fun n => base ≤ n) (ts.map (·.e)) A := by
  obtain ⟨A, c, rfl, hA⟩ := owns_at h
  refine ⟨A, c, rfl, ?_⟩
  have one : ∀ i, i < ts.length → ∃ t : EC, ts[i]? = some t := fun i hi => ⟨_, List.getElem?_eq_getElem hi⟩
  by_cases h0 : 0 < ts.length
  · obtain ⟨g, rfl, hb, _, hc⟩ := hA h0
    refine ⟨_, _, g, 0, fun i => (ts.getD i ⟨default, none, 0⟩).B, fun i => (ts.getD i ⟨default, none, 0⟩).c, fun _ => ⟨rfl, hb⟩, fun i hi => ?_, fun i hi => ?_, fun i hi => ?_⟩
    · have hi' : i < ts.length := by simpa using hi
      intro j u hj
      have := hc (i * 4 + j) u (flat_cells (n := 4) (F := EC.cells) (fun x _ => rfl) hi' (by simpa [EC.cells, List.getD, hi'] using hj))
      rw [show 0 + i * 4 + j = i * 4 + j by omega]
      exact this
    · have hi' : i < ts.length := by simpa using hi
      simpa using (hk ts[i] (List.getElem_mem hi')).1
    · have hi' : i < ts.length := by simpa using hi
      simpa [List.getD, hi'] using ((hk ts[i] (List.getElem_mem hi')).2.keep (Keeps.in (Keeps.refl w) _) (fun n (hn : Apart base _ n) => hn.1))
  · obtain rfl : ts = [] := List.length_eq_zero_iff.1 (by omega)
    exact RdE.nil _ _ _
theorem SC.row {w : World} {base : Nat} {e : TypeId} {v : Value} {ts : List SC} (h : w.ownsRow base e 8 v ts.length (ts.flatMap SC.cells)) (hk : ∀ t ∈ ts, t.Ok w (Apart base v)) :
    ∃ A c, v = .slice A ts.length c ∧ RdS w (fun n => base ≤ n) (ts.map (·.s)) A := by
  obtain ⟨A, c, rfl, hA⟩ := owns_at h
  refine ⟨A, c, rfl, ?_⟩
  by_cases h0 : 0 < ts.length
  · obtain ⟨g, rfl, hb, _, hc⟩ := hA h0
    let d : SC := ⟨default, none, 0, none, 0, none, 0⟩
    refine ⟨_, _, g, 0, fun i => (ts.getD i d).X, fun i => (ts.getD i d).T, fun i => (ts.getD i d).L, fun i => (ts.getD i d).x, fun i => (ts.getD i d).t, fun i => (ts.getD i d).l, fun _ => ⟨rfl, hb⟩, fun i hi => ?_, fun i hi => ?_, fun i hi => ?_, fun i hi => ?_, fun i hi => ?_⟩
    · have hi' : i < ts.length := by simpa using hi
      intro j u hj
      have := hc (i * 8 + j) u (flat_cells (n := 8) (F := SC.cells) (fun x _ => rfl) hi' (by simpa [SC.cells, List.getD, hi'] using hj))
      rw [show 0 + i * 8 + j = i * 8 + j by omega]
      exact this
    · have hi' : i < ts.length := by simpa using hi
      simpa using (hk ts[i] (List.getElem_mem hi')).1
    · have hi' : i < ts.length := by simpa using hi
      simpa [List.getD, hi'] using ((hk ts[i] (List.getElem_mem hi')).2.1.keep (Keeps.in (Keeps.refl w) _) (fun n (hn : Apart base _ n) => hn.1))
    · have hi' : i < ts.length := by simpa using hi
      simpa [List.getD, hi'] using ((hk ts[i] (List.getElem_mem hi')).2.2.1.keep (Keeps.in (Keeps.refl w) _) (fun n (hn : Apart base _ n) => hn.1))
    · have hi' : i < ts.length := by simpa using hi
      simpa [List.getD, hi'] using ((hk ts[i] (List.getElem_mem hi')).2.2.2.keep (Keeps.in (Keeps.refl w) _) (fun n (hn : Apart base _ n) => hn.1))
  · obtain rfl : ts = [] := List.length_eq_zero_iff.1 (by omega)
    exact RdS.nil _ _ _
theorem FC.row {w : World} {base : Nat} {e : TypeId} {v : Value} {ts : List FC} (h : w.ownsRow base e 3 v ts.length (ts.flatMap FC.cells)) (hk : ∀ t ∈ ts, t.Ok w (Apart base v)) :
    ∃ A c, v = .slice A ts.length c ∧ RdF w (fun n => base ≤ n) (ts.map (·.f)) A := by
  obtain ⟨A, c, rfl, hA⟩ := owns_at h
  refine ⟨A, c, rfl, fun i hi => ?_⟩
  have hi' : i < ts.length := by simpa using hi
  obtain ⟨g, rfl, hb, _, hc⟩ := hA (by omega)
  have hk1 := hk ts[i] (List.getElem_mem hi')
  refine ⟨g, 0, ts[i].P, ts[i].p, ts[i].B, ts[i].c, rfl, hb, fun j u hj => ?_, ?_, by simpa using hk1.2.1, ?_⟩
  · have := hc (i * 3 + j) u (flat_cells (n := 3) (F := FC.cells) (fun x _ => rfl) hi' (by simpa [FC.cells] using hj))
    rw [show 0 + i * 3 + j = i * 3 + j by omega]
    exact this
  · simpa using hk1.1.keep (Keeps.in (Keeps.refl w) _) (fun n (hn : Apart base _ n) => hn.1)
  · simpa using hk1.2.2.keep (Keeps.in (Keeps.refl w) _) (fun n (hn : Apart base _ n) => hn.1)
end Go.Proofs.YtpfgimohginbdaaDoor

namespace Go.Proofs.YtpfgimohginbdaaDoor
open Go.RowKit

/-! how large trees are -/
mutual
def szE : PExpr → Nat → Nat
  | ⟨_, _, name, kids⟩, d => if 15 < d ∨ 8 < kids.length ∨ 20 < name.length then 1000 else szK kids (d + 1) 1
def szK : List PExpr → Nat → Nat → Nat
  | [], _, n => n
  | k :: ks, d, n => if n < 1000 then szK ks d (n + szE k d) else n
end
theorem szE_eq (e : PExpr) (d : Nat) : szE e d = if 15 < d ∨ 8 < e.kids.length ∨ 20 < e.name.length then 1000 else szK e.kids (d + 1) 1 := by
  cases e; rw [szE]
theorem szK_nil (d n : Nat) : szK [] d n = n := by rw [szK]
theorem szK_cons (k : PExpr) (ks : List PExpr) (d n : Nat) : szK (k :: ks) d n = if n < 1000 then szK ks d (n + szE k d) else n := by rw [szK]
mutual
def szT : PStmt → Nat → Nat
  | ⟨_, _, e, th, el⟩, d => 1 + szE e 0 + (if 15 < d + 1 ∨ 30 < th.length then 1000 else szL th (d + 1) 0) + (if 15 < d + 1 ∨ 30 < el.length then 1000 else szL el (d + 1) 0)
def szL : List PStmt → Nat → Nat → Nat
  | [], _, n => n
  | s :: ss, d, n => if n < 1000 then (if 20 < s.name.length ∨ 20 < s.kind.length then 1000 else szL ss d (n + szT s d)) else n
end
def szS (ss : List PStmt) (d : Nat) : Nat := if 15 < d ∨ 30 < ss.length then 1000 else szL ss d 0
theorem szT_eq (s : PStmt) (d : Nat) : szT s d = 1 + szE s.e 0 + szS s.th (d + 1) + szS s.el (d + 1) := by
  cases s; rw [szT]; rfl
theorem szL_nil (d n : Nat) : szL [] d n = n := by rw [szL]
theorem szL_cons (s : PStmt) (ss : List PStmt) (d n : Nat) : szL (s :: ss) d n = if n < 1000 then (if 20 < s.name.length ∨ 20 < s.kind.length then 1000 else szL ss d (n + szT s d)) else n := by rw [szL]

theorem szK_le {M d : Nat} : ∀ (ks : List PExpr) (n : Nat), (∀ k ∈ ks, szE k d ≤ M) → n ≤ 999 + M → szK ks d n ≤ 999 + M := by
  intro ks
  induction ks with
  | nil => intro n _ h; rw [szK_nil]; exact h
  | cons k ks ih =>
    intro n hk h
    rw [szK_cons]
    split
    · exact ih _ (fun x hx => hk x (by simp [hx])) (by have := hk k (by simp); omega)
    · exact h
theorem szE_le : ∀ (e : PExpr) (d : Nat), d ≤ 16 → szE e d ≤ 1000 * (17 - d) := by
  intro e
  induction e using PExpr.ind with
  | h e ih =>
    intro d hd
    rw [szE_eq]
    split
    · omega
    · rename_i h
      have := szK_le (M := 1000 * (17 - (d + 1))) (d := d + 1) e.kids 1 (fun k hk => ih k hk (d + 1) (by omega)) (by omega)
      omega
def mS : Nat → Nat
  | 0 => 20000
  | j + 1 => 18000 + 2 * mS j
theorem mS_le : ∀ j, j ≤ 16 → mS j ≤ 3000000000 := by decide
theorem szL_le {M d : Nat} : ∀ (ss : List PStmt) (n : Nat), (∀ s ∈ ss, szT s d ≤ M) → 1 ≤ M → n ≤ 999 + M → szL ss d n ≤ 999 + M := by
  intro ss
  induction ss with
  | nil => intro n _ _ h; rw [szL_nil]; exact h
  | cons s ss ih =>
    intro n hk hM h
    rw [szL_cons]
    split
    · split
      · omega
      · exact ih _ (fun x hx => hk x (by simp [hx])) hM (by have := hk s (by simp); omega)
    · exact h
theorem szS_le : ∀ (j d : Nat), d + j = 16 → ∀ ss, szS ss d ≤ mS j := by
  intro j
  induction j with
  | zero => intro d hd ss; unfold szS; rw [if_pos (by omega)]; simp [mS]
  | succ j ih =>
    intro d hd ss
    unfold szS
    split
    · simp only [mS]; omega
    · have := szL_le (M := 17001 + 2 * mS j) (d := d) ss 0 (fun s _ => by
        rw [szT_eq]
        have h1 := szE_le s.e 0 (by omega)
        have h2 := ih (d + 1) (by omega) s.th
        have h3 := ih (d + 1) (by omega) s.el
        omega) (by omega) (by omega)
      simp only [mS]; omega
theorem szS_bound (ss : List PStmt) (d : Nat) (hd : d ≤ 16) : szS ss d ≤ 3000000000 := Nat.le_trans (szS_le (16 - d) d (by omega) ss) (mS_le _ (by omega))

theorem szK_ge : ∀ (ks : List PExpr) (d n : Nat), n ≤ szK ks d n := by
  intro ks
  induction ks with
  | nil => intro d n; rw [szK_nil]; exact Nat.le_refl _
  | cons k ks ih =>
    intro d n
    rw [szK_cons]
    split
    · exact Nat.le_trans (by omega) (ih d (n + szE k d))
    · exact Nat.le_refl _
theorem szK_small : ∀ (ks : List PExpr) (d n : Nat), szK ks d n < 1000 → ∀ k ∈ ks, szE k d < 1000 := by
  intro ks
  induction ks with
  | nil => intro d n _ k hk; cases hk
  | cons k ks ih =>
    intro d n h x hx
    have hn := szK_ge (k :: ks) d n
    rw [szK_cons] at h hn
    rw [if_pos (by split at h <;> omega)] at h
    rcases List.mem_cons.1 hx with rfl | hx
    · have := szK_ge ks d (n + szE x d); omega
    · exact ih d _ h x hx
theorem szE_small : ∀ (e : PExpr) (d : Nat), szE e d < 1000 → SmE e := by
  intro e
  induction e using PExpr.ind with
  | h e ih =>
    intro d h
    rw [szE_eq] at h
    split at h
    · omega
    · exact ⟨e, by omega, by omega, fun k hk => ih k hk _ (szK_small _ _ _ h k hk)⟩
theorem szL_ge : ∀ (ss : List PStmt) (d n : Nat), n < 1000 → n ≤ szL ss d n := by
  intro ss
  induction ss with
  | nil => intro d n _; rw [szL_nil]; exact Nat.le_refl _
  | cons s ss ih =>
    intro d n hn
    rw [szL_cons, if_pos hn]
    split
    · omega
    · by_cases h : n + szT s d < 1000
      · have := ih d (n + szT s d) h; omega
      · cases ss with
        | nil => rw [szL_nil]; omega
        | cons t ss => rw [szL_cons, if_neg h]; omega
theorem szL_small : ∀ (ss : List PStmt) (d n : Nat), szL ss d n < 1000 → ∀ s ∈ ss, s.name.length ≤ 20 ∧ s.kind.length ≤ 20 ∧ szT s d < 1000 := by
  intro ss
  induction ss with
  | nil => intro d n _ k hk; cases hk
  | cons s ss ih =>
    intro d n h x hx
    rw [szL_cons] at h
    split at h
    · split at h
      · omega
      · have hlt : n + szT s d < 1000 := by
          by_cases q : n + szT s d < 1000
          · exact q
          · cases ss with
            | nil => rw [szL_nil] at h; omega
            | cons t ss => rw [szL_cons, if_neg q] at h; omega
        rcases List.mem_cons.1 hx with rfl | hx
        · exact ⟨by omega, by omega, by omega⟩
        · exact ih d _ h x hx
    · omega
theorem szS_small {ss : List PStmt} {d : Nat} (h : szS ss d < 1000) : ss.length ≤ 30 ∧ szL ss d 0 < 1000 := by
  unfold szS at h
  split at h
  · omega
  · exact ⟨by omega, h⟩
theorem szT_small : ∀ (s : PStmt) (d : Nat), s.name.length ≤ 20 → s.kind.length ≤ 20 → szT s d < 1000 → SmS s := by
  intro s
  induction s using PStmt.ind with
  | h s iht ihl =>
    intro d h1 h2 h
    rw [szT_eq] at h
    obtain ⟨l1, q1⟩ := szS_small (ss := s.th) (d := d + 1) (by omega)
    obtain ⟨l2, q2⟩ := szS_small (ss := s.el) (d := d + 1) (by omega)
    exact ⟨s, h2, h1, szE_small _ 0 (by omega), l1, l2, fun k hk => have q := szL_small _ _ _ q1 k hk; iht k hk _ q.1 q.2.1 q.2.2, fun k hk => have q := szL_small _ _ _ q2 k hk; ihl k hk _ q.1 q.2.1 q.2.2⟩
def longT (ps : List (List UInt8)) : Bool := ps.any fun p => decide (20 < p.length)
def largeF : List PFun → Nat → Nat → Bool
  | [], _, _ => false
  | f :: fs, most, n => if 8 < f.params.length ∨ 20 < f.name.length then true else if longT f.params then true else if most < n + szS f.body 0 then true else largeF fs most (n + szS f.body 0)
def largeP (fs : List PFun) (most : Nat) : Bool := decide (10 < fs.length) || largeF fs most 0
def sumSz : List PFun → Nat
  | [] => 0
  | f :: fs => szS f.body 0 + sumSz fs
theorem largeF_small {most : Nat} (hm : most < 1000) : ∀ (fs : List PFun) (n : Nat), largeF fs most n = false → (∀ f ∈ fs, SmF f ∧ szS f.body 0 ≤ most) ∧ (n ≤ most → n + sumSz fs ≤ most) := by
  intro fs
  induction fs with
  | nil =>
    intro n _
    exact ⟨(fun f hf => by cases hf), (fun h => by simpa [sumSz] using h)⟩
  | cons f fs ih =>
    intro n h
    simp only [largeF] at h
    split at h
    · cases h
    · split at h
      · cases h
      · split at h
        · cases h
        · rename_i h1 h2 h3
          obtain ⟨q1, q2⟩ := ih _ h
          have hs := szS_small (ss := f.body) (d := 0) (by omega)
          refine ⟨fun g hg => ?_, fun _ => by simp only [sumSz]; have := q2 (by omega); omega⟩
          rcases List.mem_cons.1 hg with rfl | hg
          · refine ⟨⟨by omega, by omega, fun p hp => ?_, hs.1, fun s hs' => have q := szL_small _ _ _ hs.2 s hs'; szT_small s 0 q.1 q.2.1 q.2.2⟩, by omega⟩
            simp only [longT, List.any_eq_true, decide_eq_true_eq, not_exists, not_and] at h2
            have := h2 p hp
            omega
          · exact q1 g hg
theorem largeP_small {most : Nat} (hm : most < 1000) {fs : List PFun} (h : largeP fs most = false) : fs.length ≤ 10 ∧ (∀ f ∈ fs, SmF f) ∧ sumSz fs ≤ most ∧ ∀ f ∈ fs, szS f.body 0 ≤ most := by
  simp only [largeP, Bool.or_eq_false_iff, decide_eq_false_iff_not] at h
  obtain ⟨q1, q2⟩ := largeF_small hm fs 0 h.2
  exact ⟨by omega, fun f hf => (q1 f hf).1, by have := q2 (by omega); omega, fun f hf => (q1 f hf).2⟩
end Go.Proofs.YtpfgimohginbdaaDoor
