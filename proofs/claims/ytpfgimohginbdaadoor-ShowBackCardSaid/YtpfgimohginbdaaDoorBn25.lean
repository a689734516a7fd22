import Derived.Deep.AppendLies
import Derived.Outline
import Derived.Test.YtpfgimohginbdaaDoorBn24
set_option linter.unusedVariables false
set_option linter.unusedSimpArgs false
namespace Go.Proofs.YtpfgimohginbdaaDoor
open Go.RowKit

/-! the parser: a list of arguments -/
theorem ownS_else {w : World} {base : Nat} {e : TypeId} {size : Nat} {v : Value} {n : Nat} {xs : List Value} {x : Nat} {o : Obj} (h : w.ownsRow base e size v n xs) (hx : w.heap[x]? = some o) (hT : ∀ cs, o ≠ .cells cs e (0, 0)) : v.ownBlock ≠ some x := by
  rcases h.2 with ⟨q, _⟩ | ⟨g, cap, cur, q, _, q4, _⟩
  · rw [q]; simp [Value.ownBlock]
  · rw [q]
    intro e
    simp only [Value.ownBlock, Option.some.injEq] at e
    subst e
    rw [hx] at q4
    exact hT _ (Option.some.inj q4)
theorem ownS_same {w w' : World} {base : Nat} {e : TypeId} {size : Nat} {v : Value} {n : Nat} {xs : List Value} (h : w.ownsRow base e size v n xs) (hs : ∀ k, v.ownBlock = some k → w'.heap[k]? = w.heap[k]?) : w'.ownsRow base e size v n xs := by
  refine ⟨h.1, ?_⟩
  rcases h.2 with q | ⟨g, cap, cur, q1, q2, q3, q4⟩
  · exact .inl q
  · exact .inr ⟨g, cap, cur, q1, q2, (hs g (by rw [q1]; rfl)).trans q3, q4⟩
theorem ownS_lt {w : World} {base : Nat} {e : TypeId} {size : Nat} {v : Value} {n : Nat} {xs : List Value} (h : w.ownsRow base e size v n xs) {k : Nat} (hk : v.ownBlock = some k) : base ≤ k ∧ k < w.heap.size := by
  rcases h.2 with ⟨q, _⟩ | ⟨g, cap, cur, q1, q2, q3, q4⟩
  · rw [q] at hk; cases hk
  · rw [q1] at hk
    simp only [Value.ownBlock, Option.some.injEq] at hk
    subst hk
    exact ⟨q2, (Array.getElem?_eq_some_iff.1 q3).1⟩
theorem own_cellX {w : World} {base g m cap size : Nat} {T : TypeId} {ys : List Value} (h : w.ownsRow base T size (.slice (some ⟨g, 0, none⟩) m cap) m ys) {j : Nat} {u : Value} (hj : ys[j]? = some u) : w.cell? ⟨g, j, none⟩ = some u := by
  obtain ⟨A, c, e, hA⟩ := owns_at h
  injection e with e1 e2 e3
  have hm : 0 < m := by
    have h1 := h.1
    have h2 := (List.getElem?_eq_some_iff.1 hj).1
    rcases Nat.eq_zero_or_pos m with h0 | h0
    · subst h0; simp at h1; subst h1; simp at h2
    · exact h0
  obtain ⟨g', e', -, -, hc⟩ := hA hm
  rw [← e1] at e'
  injection e' with e'
  injection e' with e' _ _
  subst e'
  exact hc j u hj
theorem own_blkX {w : World} {base g m cap size : Nat} {T : TypeId} {ys : List Value} (h : w.ownsRow base T size (.slice (some ⟨g, 0, none⟩) m cap) m ys) : ∃ cur, w.heap[g]? = some (.cells cur T (0, 0)) := by
  rcases h.2 with ⟨q, _⟩ | ⟨g', cap', cur, q1, q2, q3, q4⟩
  · cases q
  · injection q1 with q1 _ _
    injection q1 with q1
    injection q1 with q1 _ _
    subst q1
    exact ⟨cur, q3⟩
theorem own_put4 {w : World} {base g n cap : Nat} {T : TypeId} {xs : List Value} {z0 z1 z2 z3 v0 v1 v2 v3 : Value} (h : w.ownsRow base T 4 (.slice (some ⟨g, 0, none⟩) (n + 1) cap) (n + 1) (xs ++ [z0, z1, z2, z3])) (hx : xs.length = n * 4) :
    ((((w.setCell ⟨g, n * 4, none⟩ v0).setCell ⟨g, n * 4 + 1, none⟩ v1).setCell ⟨g, n * 4 + 2, none⟩ v2).setCell ⟨g, n * 4 + 3, none⟩ v3).ownsRow base T 4 (.slice (some ⟨g, 0, none⟩) (n + 1) cap) (n + 1) (xs ++ [v0, v1, v2, v3]) := by
  refine ⟨by simp; omega, ?_⟩
  rcases h.2 with ⟨q, _⟩ | ⟨g', cap', cur, q1, q2, q3, q4, q5, q6, q7⟩
  · cases q
  · injection q1 with q1 _ q1c
    injection q1 with q1
    injection q1 with q1 _ _
    subst q1
    subst q1c
    refine .inr ⟨g, cap, ((((cur.setIfInBounds (n * 4) v0).setIfInBounds (n * 4 + 1) v1).setIfInBounds (n * 4 + 2) v2).setIfInBounds (n * 4 + 3) v3), rfl, q2, ?_, q4, q5, by simp [q6], ?_⟩
    · exact row_set (j := n * 4 + 3) v3 (row_set (j := n * 4 + 2) v2 (row_set (j := n * 4 + 1) v1 (row_set (j := n * 4) v0 q3 rfl) rfl) rfl) rfl
    · have hc : cur.toList = xs ++ ([z0, z1, z2, z3] ++ cur.toList.drop ((n + 1) * 4)) := by rw [← List.append_assoc, ← q7, List.take_append_drop]
      simp only [Array.toList_setIfInBounds]
      rw [hc]
      rw [List.set_append_right _ _ (by omega), List.set_append_right _ _ (by omega), List.set_append_right _ _ (by omega), List.set_append_right _ _ (by omega)]
      rw [show n * 4 - xs.length = 0 by omega, show n * 4 + 1 - xs.length = 1 by omega, show n * 4 + 2 - xs.length = 2 by omega, show n * 4 + 3 - xs.length = 3 by omega]
      simp only [List.cons_append, List.nil_append, List.set_cons_zero, List.set_cons_succ]
      rw [List.take_append]
      have e1 : xs.take ((n + 1) * 4) = xs := List.take_of_length_le (by omega)
      rw [e1, show (n + 1) * 4 - xs.length = 4 by omega]
      rfl
/-- As it was, but for two blocks. -/
structure But2 (p q : Nat) (w w' : World) : Prop where
  os : w'.os = w.os
  tape : w'.tape = w.tape
  output : w'.output = w.output
  size : w.heap.size ≤ w'.heap.size
  block : ∀ k, k < w.heap.size → k ≠ p → k ≠ q → w'.heap[k]? = w.heap[k]?
theorem But2.refl (p q : Nat) (w : World) : But2 p q w w := ⟨rfl, rfl, rfl, Nat.le_refl _, fun _ _ _ _ => rfl⟩
theorem But2.then {p q : Nat} {a b d : World} (h : But2 p q a b) (k : But p b d) : But2 p q a d :=
  ⟨k.os.trans h.os, k.tape.trans h.tape, k.output.trans h.output, Nat.le_trans h.size k.size, fun i hi h1 h2 => (k.block i (Nat.lt_of_lt_of_le hi h.size) h1).trans (h.block i hi h1 h2)⟩
theorem But2.row {p q : Nat} {w w' : World} (h : But2 p q w w') {k : Nat} {o : Obj} (hk : w.heap[k]? = some o) (h1 : k ≠ p) (h2 : k ≠ q) : w'.heap[k]? = some o := (h.block k (Array.getElem?_eq_some_iff.1 hk).1 h1 h2).trans hk
section
variable (E : Nat → Addr) (l : List Tok) (pb : Nat) (A : Option Addr) (c : Nat) (w0 : World) (wE : World) (eb : Nat) (nm : List UInt8)
/-- The arguments so far. -/
structure ArAt (ks : List PExpr) (s : PSt) (w : World) : Prop where
  but : But2 pb eb wE w
  pa : PaAt E l pb A c w0 s w
  row : ∃ (vK : Value) (ts : List EC), w.heap[eb]? = some (.cells #[.string ⟨#[99, 97, 108, 108]⟩, .int .i64 0, .string (mkB nm), vK] 42 (0, 0)) ∧ w.ownsRow wE.heap.size 42 4 vK ks.length (ts.flatMap EC.cells) ∧ ts.map (·.e) = ks ∧ ∀ t ∈ ts, t.Ok w (Apart wE.heap.size vK)
end
section
variable {E : Nat → Addr} {l : List Tok} {pb : Nat} {A : Option Addr} {c : Nat} {w0 wE : World} {eb : Nat} {nm : List UInt8} {ks : List PExpr} {s s' : PSt} {w w' : World}
theorem ArAt.then (h : ArAt E l pb A c w0 wE eb nm ks s w) (hpa : PaAt E l pb A c w0 s' w') (hb : But pb w w') (hpe : pb < wE.heap.size) (hne : eb ≠ pb) : ArAt E l pb A c w0 wE eb nm ks s' w' := by
  obtain ⟨vK, ts, h1, h2, h3, h4⟩ := h.row
  refine ⟨h.but.then hb, hpa, vK, ts, hb.row h1 hne, ownS_same h2 fun k hk => ?_, h3, fun t ht => ?_⟩
  · obtain ⟨q1, q2⟩ := ownS_lt h2 hk
    exact hb.block k q2 (by omega)
  · exact (h4 t ht).keep (hb.keepsIn fun k hk => by have := hk.1; omega) fun k hk => hk
/-- One argument more. -/
theorem ArAt.push {w4 w9 wF : World} {e1 : PExpr} {s1 : PSt} {B : Option Addr} {d g cap : Nat} {vK : Value} {ts : List EC} (hbut : But2 pb eb wE w4) (hsz : wE.heap.size ≤ w4.heap.size) (hets : ∀ t ∈ ts, t.Ok w4 (Apart wE.heap.size vK)) (hmap : ts.map (·.e) = ks) (hN : okN e1.num) (hB : RdE w4 (fun n => Apart wE.heap.size vK n) e1.kids B)
    (hgrow : KeepsIn (fun n => Apart wE.heap.size vK n ∧ n < w4.heap.size) w4 w9) (hat : vK.ownBlock = some g ∨ w4.heap.size ≤ g) (hbs : ∀ k, k < w4.heap.size → vK.ownBlock ≠ some k → w9.heap[k]? = w4.heap[k]?) (hlow : ∀ k, vK.ownBlock = some k → wE.heap.size ≤ k)
    (hg1 : g ≠ eb) (hs9 : w9.os = w4.os ∧ w9.tape = w4.tape ∧ w9.output = w4.output ∧ w4.heap.size ≤ w9.heap.size) (hwE : eb < wE.heap.size) (hgE : wE.heap.size ≤ g)
    (hF : wF.os = w9.os ∧ wF.tape = w9.tape ∧ wF.output = w9.output ∧ wF.heap.size = w9.heap.size) (hFo : ∀ k, k ≠ g → k ≠ eb → wF.heap[k]? = w9.heap[k]?) (hpa : PaAt E l pb A c w0 s1 wF)
    (hrow : wF.heap[eb]? = some (.cells #[.string ⟨#[99, 97, 108, 108]⟩, .int .i64 0, .string (mkB nm), .slice (some ⟨g, 0, none⟩) (ks.length + 1) cap] 42 (0, 0)))
    (hown : wF.ownsRow wE.heap.size 42 4 (.slice (some ⟨g, 0, none⟩) (ks.length + 1) cap) (ks.length + 1) (ts.flatMap EC.cells ++ exprL e1 B d)) :
    ArAt E l pb A c w0 wE eb nm (ks ++ [e1]) s1 wF := by
  have hk9 : KeepsIn (fun n => (Apart wE.heap.size vK n ∧ n < w4.heap.size) ∧ n ≠ g ∧ n ≠ eb) w4 wF := fun a v hs hv => by
    have h1 := hgrow a v hs.1 hv
    exact (World.cell?_of_block (hFo _ hs.2.1 hs.2.2)).trans h1
  have hS : ∀ n, Apart wE.heap.size vK n ∧ n < w4.heap.size → (Apart wE.heap.size vK n ∧ n < w4.heap.size) ∧ n ≠ g ∧ n ≠ eb := fun n hn => by
    refine ⟨hn, fun e => ?_, fun e => ?_⟩
    · rcases hat with h | h
      · exact hn.1.2 (by rw [e]; exact h.symm)
      · omega
    · have := hn.1.1; omega
  refine ⟨⟨hF.1.trans (hs9.1.trans hbut.os), hF.2.1.trans (hs9.2.1.trans hbut.tape), hF.2.2.1.trans (hs9.2.2.1.trans hbut.output), by have := hs9.2.2.2; have := hF.2.2.2; omega, fun k hk h1 h2 => ?_⟩, hpa, _, ts ++ [⟨e1, B, d⟩], hrow, ?_, by rw [List.map_append, hmap]; rfl, fun t ht => ?_⟩
  · refine (hFo k (by omega) h2).trans ((hbs k (by omega) (fun e => ?_)).trans (hbut.block k hk h1 h2))
    have := hlow k e
    omega
  · rw [List.length_append, List.length_singleton, List.flatMap_append, List.flatMap_singleton]
    exact hown
  · have hap : ∀ n, (Apart wE.heap.size vK n ∧ n < w4.heap.size) ∧ n ≠ g ∧ n ≠ eb → Apart wE.heap.size (.slice (some ⟨g, 0, none⟩) (ks.length + 1) cap) n := fun n hn => ⟨hn.1.1.1, fun e => by injection e with e; exact hn.2.1 e⟩
    rcases List.mem_append.1 ht with h | h
    · exact ((((hets t h).lt).keep (Keeps.in (Keeps.refl _) _) hS).keep hk9 hap)
    · rw [List.mem_singleton.1 h]
      have h0 : EC.Ok w4 (fun n => Apart wE.heap.size vK n) ⟨e1, B, d⟩ := ⟨hN, hB⟩
      exact ((h0.lt.keep (Keeps.in (Keeps.refl _) _) hS).keep hk9 hap)
theorem PaAt.move (h : PaAt E l pb A c w0 s w) (hs : w'.os = w.os ∧ w'.tape = w.tape ∧ w'.output = w.output ∧ w.heap.size ≤ w'.heap.size) (hpb : w'.heap[pb]? = w.heap[pb]?) (hlow : ∀ k, k < w0.heap.size → w'.heap[k]? = w.heap[k]?) (hf : ∀ (fb : Nat) (cs : Array Value), w.heap[fb]? = some (.cells cs 51 (0, 0)) → w'.heap[fb]? = w.heap[fb]?) : PaAt E l pb A c w0 s w' := by
  obtain ⟨v, hb, hv⟩ := h.blk
  refine ⟨⟨hs.1.trans h.bel.os, hs.2.1.trans h.bel.tape, hs.2.2.1.trans h.bel.output, Nat.le_trans h.bel.size hs.2.2.2, fun k hk => (hlow k hk).trans (h.bel.block k hk)⟩, h.lo, v, hpb.trans hb, ?_⟩
  cases he : s.err with
  | none => rw [he] at hv; exact hv
  | some p =>
    rw [he] at hv
    obtain ⟨q1, q2, fb, q3, q4⟩ := hv
    exact ⟨q1, q2, fb, q3, (hf fb _ q4).trans q4⟩
theorem far4o {w : World} {q o : Nat} {v0 v1 v2 v3 : Value} {k : Nat} (h : k ≠ q) :
    ((((w.setCell ⟨q, o, none⟩ v0).setCell ⟨q, o + 1, none⟩ v1).setCell ⟨q, o + 2, none⟩ v2).setCell ⟨q, o + 3, none⟩ v3).heap[k]? = w.heap[k]? :=
  (Below.heap_setCell _ _ _ _ h).trans ((Below.heap_setCell _ _ _ _ h).trans ((Below.heap_setCell _ _ _ _ h).trans (Below.heap_setCell _ _ _ _ h)))
/-- Behind the append and the stores. -/
theorem arg_fin {w4 Wa w9 wF : World} {e1 : PExpr} {s1 : PSt} {B : Option Addr} {d g cap : Nat} {vK : Value} {ts : List EC} {zs : List Value} (hbut : But2 pb eb wE w) (hown : w.ownsRow wE.heap.size 42 4 vK ks.length (ts.flatMap EC.cells)) (hmap : ts.map (·.e) = ks) (hets : ∀ t ∈ ts, t.Ok w (Apart wE.heap.size vK))
    (hb5 : But pb w w4) (hpa : PaAt E l pb A c w0 s1 w4) (hN : okN e1.num) (hB : RdE w4 (newA w) e1.kids B) (hr4 : w4.heap[eb]? = some (.cells #[.string ⟨#[99, 97, 108, 108]⟩, .int .i64 0, .string (mkB nm), vK] 42 (0, 0))) (hpe : pb < wE.heap.size) (hee : eb < wE.heap.size) (hne : eb ≠ pb) (hle : w0.heap.size ≤ eb)
    (hWa : Below w4.heap.size w4 Wa) (hown9 : w9.ownsRow wE.heap.size 42 4 (.slice (some ⟨g, 0, none⟩) (ks.length + 1) cap) (ks.length + 1) zs) (hgrow : Wa.grownBy w9 vK.ownBlock) (hat : vK.ownBlock = some g ∨ g = Wa.heap.size)
    (hF : wF.os = w9.os ∧ wF.tape = w9.tape ∧ wF.output = w9.output ∧ wF.heap.size = w9.heap.size) (hFo : ∀ k, k ≠ g → k ≠ eb → wF.heap[k]? = w9.heap[k]?)
    (hrow : wF.heap[eb]? = some (.cells #[.string ⟨#[99, 97, 108, 108]⟩, .int .i64 0, .string (mkB nm), .slice (some ⟨g, 0, none⟩) (ks.length + 1) cap] 42 (0, 0)))
    (hownF : wF.ownsRow wE.heap.size 42 4 (.slice (some ⟨g, 0, none⟩) (ks.length + 1) cap) (ks.length + 1) (ts.flatMap EC.cells ++ exprL e1 B d)) :
    ArAt E l pb A c w0 wE eb nm (ks ++ [e1]) s1 wF := by
  have hsw := hbut.size
  have hs4 := hb5.size
  have hsa := hWa.size
  have hs9 := hgrow.size
  have hown4 : w4.ownsRow wE.heap.size 42 4 vK ks.length (ts.flatMap EC.cells) := ownS_same hown fun k hk => hb5.block k (ownS_lt hown hk).2 (by have := (ownS_lt hown hk).1; omega)
  have hlow : ∀ k, vK.ownBlock = some k → wE.heap.size ≤ k := fun k hk => (ownS_lt hown4 hk).1
  have hfar : ∀ k, k < w4.heap.size → vK.ownBlock ≠ some k → w9.heap[k]? = w4.heap[k]? := fun k hk hkn => (hgrow.block k (by omega) (fun e => hkn e.symm)).trans (hWa.block k hk)
  have hgE : wE.heap.size ≤ g := (ownS_lt hown9 (k := g) rfl).1
  have hge : g ≠ eb := by omega
  have hgp : g ≠ pb := by omega
  have hat' : vK.ownBlock = some g ∨ w4.heap.size ≤ g := hat.imp id fun e => by omega
  have hets4 : ∀ t ∈ ts, t.Ok w4 (Apart wE.heap.size vK) := fun t ht => (hets t ht).keep (hb5.keepsIn fun k hk => by have := hk.1; omega) fun k hk => hk
  have hB4 : RdE w4 (fun n => Apart wE.heap.size vK n) e1.kids B := hB.keep (Keeps.in (Keeps.refl _) _) fun k hk => by
    have hk' : w.heap.size ≤ k := hk
    exact ⟨by omega, fun e => by have := (ownS_lt hown e.symm).2; omega⟩
  have hgr : KeepsIn (fun n => Apart wE.heap.size vK n ∧ n < w4.heap.size) w4 w9 := fun a v hs hv => (World.cell?_of_block (hfar _ hs.2 (fun e => hs.1.2 e.symm))).trans hv
  have hs94 : w9.os = w4.os ∧ w9.tape = w4.tape ∧ w9.output = w4.output ∧ w4.heap.size ≤ w9.heap.size := ⟨hgrow.os.trans hWa.os, hgrow.tape.trans hWa.tape, hgrow.output.trans hWa.output, by omega⟩
  have hfl : ∀ (fb : Nat) (cs : Array Value), w4.heap[fb]? = some (.cells cs 51 (0, 0)) → vK.ownBlock ≠ some fb := fun fb cs hf => ownS_else hown4 hf fun cs' e => by injection e with _ e _; exact absurd e (by decide)
  have hlo := hpa.lo
  refine ArAt.push (vK := vK) (w4 := w4) (w9 := w9) (g := g) (cap := cap) (d := d) (B := B) (hbut.then hb5) (by omega) hets4 hmap hN hB4 hgr hat' hfar hlow hge hs94 hee hgE hF hFo ?_ hrow hownF
  refine hpa.move ⟨hF.1.trans hs94.1, hF.2.1.trans hs94.2.1, hF.2.2.1.trans hs94.2.2.1, by have := hF.2.2.2; have := hs94.2.2.2; omega⟩ ?_ (fun k hk => ?_) (fun fb cs hf => ?_)
  · exact (hFo pb (by omega) (by omega)).trans (hfar pb (by omega) (fun e => by have := hlow _ e; omega))
  · exact (hFo k (by omega) (by omega)).trans (hfar k (by omega) (fun e => by have := hlow _ e; omega))
  · refine (hFo fb (fun e => ?_) (fun e => ?_)).trans (hfar fb (Array.getElem?_eq_some_iff.1 hf).1 (hfl fb cs hf))
    · subst e
      rcases hat' with h | h
      · exact hfl _ _ hf h
      · have := (Array.getElem?_eq_some_iff.1 hf).1; omega
    · subst e
      rw [hr4] at hf
      injection hf with hf
      injection hf with _ hf _
      exact absurd hf (by decide)
theorem same4o {w : World} {q o : Nat} {v0 v1 v2 v3 : Value} : ((((w.setCell ⟨q, o, none⟩ v0).setCell ⟨q, o + 1, none⟩ v1).setCell ⟨q, o + 2, none⟩ v2).setCell ⟨q, o + 3, none⟩ v3).os = w.os ∧ ((((w.setCell ⟨q, o, none⟩ v0).setCell ⟨q, o + 1, none⟩ v1).setCell ⟨q, o + 2, none⟩ v2).setCell ⟨q, o + 3, none⟩ v3).tape = w.tape ∧ ((((w.setCell ⟨q, o, none⟩ v0).setCell ⟨q, o + 1, none⟩ v1).setCell ⟨q, o + 2, none⟩ v2).setCell ⟨q, o + 3, none⟩ v3).output = w.output ∧ ((((w.setCell ⟨q, o, none⟩ v0).setCell ⟨q, o + 1, none⟩ v1).setCell ⟨q, o + 2, none⟩ v2).setCell ⟨q, o + 3, none⟩ v3).heap.size = w.heap.size := ⟨rfl, rfl, rfl, by simp⟩
theorem same1 {w : World} {q o : Nat} {v : Value} : (w.setCell ⟨q, o, none⟩ v).os = w.os ∧ (w.setCell ⟨q, o, none⟩ v).tape = w.tape ∧ (w.setCell ⟨q, o, none⟩ v).output = w.output ∧ (w.setCell ⟨q, o, none⟩ v).heap.size = w.heap.size := ⟨rfl, rfl, rfl, by simp⟩
/-- Both orders of the stores. -/
theorem arg_both {w9 : World} {base g n cap : Nat} {T : TypeId} {xs : List Value} {z0 z1 z2 z3 v0 v1 v2 v3 a0 a1 a2 a3 u : Value} (hown : w9.ownsRow base T 4 (.slice (some ⟨g, 0, none⟩) (n + 1) cap) (n + 1) (xs ++ [z0, z1, z2, z3])) (hx : xs.length = n * 4) (hr : w9.heap[eb]? = some (.cells #[a0, a1, a2, a3] 42 (0, 0))) (hge : g ≠ eb)
    {wF : World} (hF : wF = (((((w9.setCell ⟨g, n * 4, none⟩ v0).setCell ⟨g, n * 4 + 1, none⟩ v1).setCell ⟨g, n * 4 + 2, none⟩ v2).setCell ⟨g, n * 4 + 3, none⟩ v3).setCell ⟨eb, 3, none⟩ u) ∨ wF = (((((w9.setCell ⟨eb, 3, none⟩ u).setCell ⟨g, n * 4, none⟩ v0).setCell ⟨g, n * 4 + 1, none⟩ v1).setCell ⟨g, n * 4 + 2, none⟩ v2).setCell ⟨g, n * 4 + 3, none⟩ v3)) :
    (wF.os = w9.os ∧ wF.tape = w9.tape ∧ wF.output = w9.output ∧ wF.heap.size = w9.heap.size) ∧ (∀ k, k ≠ g → k ≠ eb → wF.heap[k]? = w9.heap[k]?) ∧ wF.heap[eb]? = some (.cells #[a0, a1, a2, u] 42 (0, 0)) ∧ wF.ownsRow base T 4 (.slice (some ⟨g, 0, none⟩) (n + 1) cap) (n + 1) (xs ++ [v0, v1, v2, v3]) := by
  have hbk : ∀ k, (Value.slice (some ⟨g, 0, none⟩) (n + 1) cap).ownBlock = some k → k ≠ eb := fun k hk => by
    have hk' : g = k := Option.some.inj hk
    exact fun e => hge (hk'.trans e)
  rcases hF with hF | hF
  · have hP := own_put4 (v0 := v0) (v1 := v1) (v2 := v2) (v3 := v3) hown hx
    have hS := same4o (w := w9) (q := g) (o := n * 4) (v0 := v0) (v1 := v1) (v2 := v2) (v3 := v3)
    have hG : ∀ k, k ≠ g → _ := fun k hk => far4o (w := w9) (q := g) (o := n * 4) (v0 := v0) (v1 := v1) (v2 := v2) (v3 := v3) (k := k) hk
    generalize ((((w9.setCell ⟨g, n * 4, none⟩ v0).setCell ⟨g, n * 4 + 1, none⟩ v1).setCell ⟨g, n * 4 + 2, none⟩ v2).setCell ⟨g, n * 4 + 3, none⟩ v3) = wQ at hF hP hS hG
    have hT := same1 (w := wQ) (q := eb) (o := 3) (v := u)
    have hre : wQ.heap[eb]? = some (.cells #[a0, a1, a2, a3] 42 (0, 0)) := (hG eb (Ne.symm hge)).trans hr
    have hset : ∀ k, k ≠ eb → (wQ.setCell ⟨eb, 3, none⟩ u).heap[k]? = wQ.heap[k]? := fun k hk => Below.heap_setCell _ _ _ _ hk
    have hrow : (wQ.setCell ⟨eb, 3, none⟩ u).heap[eb]? = some (.cells #[a0, a1, a2, u] 42 (0, 0)) := row_set (j := 3) u hre rfl
    rw [← hF] at hT hset hrow
    exact ⟨⟨hT.1.trans hS.1, hT.2.1.trans hS.2.1, hT.2.2.1.trans hS.2.2.1, hT.2.2.2.trans hS.2.2.2⟩, fun k h1 h2 => (hset k h2).trans (hG k h1), hrow, ownS_same hP fun k hk => hset k (hbk k hk)⟩
  · have hT := same1 (w := w9) (q := eb) (o := 3) (v := u)
    have hset : ∀ k, k ≠ eb → (w9.setCell ⟨eb, 3, none⟩ u).heap[k]? = w9.heap[k]? := fun k hk => Below.heap_setCell _ _ _ _ hk
    have hrow : (w9.setCell ⟨eb, 3, none⟩ u).heap[eb]? = some (.cells #[a0, a1, a2, u] 42 (0, 0)) := row_set (j := 3) u hr rfl
    generalize w9.setCell ⟨eb, 3, none⟩ u = wQ at hF hT hset hrow
    have hO : wQ.ownsRow base T 4 (.slice (some ⟨g, 0, none⟩) (n + 1) cap) (n + 1) (xs ++ [z0, z1, z2, z3]) := ownS_same hown fun k hk => hset k (hbk k hk)
    have hP := own_put4 (v0 := v0) (v1 := v1) (v2 := v2) (v3 := v3) hO hx
    have hS := same4o (w := wQ) (q := g) (o := n * 4) (v0 := v0) (v1 := v1) (v2 := v2) (v3 := v3)
    have hG : ∀ k, k ≠ g → _ := fun k hk => far4o (w := wQ) (q := g) (o := n * 4) (v0 := v0) (v1 := v1) (v2 := v2) (v3 := v3) (k := k) hk
    rw [← hF] at hP hS hG
    exact ⟨⟨hS.1.trans hT.1, hS.2.1.trans hT.2.1, hS.2.2.1.trans hT.2.2.1, hS.2.2.2.trans hT.2.2.2⟩, fun k h1 h2 => (hG k h1).trans (hset k h2), (hG eb (Ne.symm hge)).trans hrow, hP⟩
/-- Behind the append: the end. -/
theorem arg_end {w4 Wa w9 wF : World} {e1 : PExpr} {s1 : PSt} {B : Option Addr} {d g cap : Nat} {vK : Value} {ts : List EC} {z0 z1 z2 z3 : Value} (hbut : But2 pb eb wE w) (hown : w.ownsRow wE.heap.size 42 4 vK ks.length (ts.flatMap EC.cells)) (hmap : ts.map (·.e) = ks) (hets : ∀ t ∈ ts, t.Ok w (Apart wE.heap.size vK))
    (hb5 : But pb w w4) (hpa : PaAt E l pb A c w0 s1 w4) (hN : okN e1.num) (hB : RdE w4 (newA w) e1.kids B) (hr4 : w4.heap[eb]? = some (.cells #[.string ⟨#[99, 97, 108, 108]⟩, .int .i64 0, .string (mkB nm), vK] 42 (0, 0))) (hpe : pb < wE.heap.size) (hee : eb < wE.heap.size) (hne : eb ≠ pb) (hle : w0.heap.size ≤ eb)
    (hWa : Below w4.heap.size w4 Wa) (hown9 : w9.ownsRow wE.heap.size 42 4 (.slice (some ⟨g, 0, none⟩) (ks.length + 1) cap) (ks.length + 1) (ts.flatMap EC.cells ++ [z0, z1, z2, z3])) (hgrow : Wa.grownBy w9 vK.ownBlock) (hat : vK.ownBlock = some g ∨ g = Wa.heap.size)
    (hx : (ts.flatMap EC.cells).length = ks.length * 4) (hr9 : w9.heap[eb]? = some (.cells #[.string ⟨#[99, 97, 108, 108]⟩, .int .i64 0, .string (mkB nm), vK] 42 (0, 0))) (hge : g ≠ eb)
    (hF : wF = (((((w9.setCell ⟨g, ks.length * 4, none⟩ (.string (mkB e1.kind))).setCell ⟨g, ks.length * 4 + 1, none⟩ (.int .i64 e1.num)).setCell ⟨g, ks.length * 4 + 2, none⟩ (.string (mkB e1.name))).setCell ⟨g, ks.length * 4 + 3, none⟩ (.slice B e1.kids.length d)).setCell ⟨eb, 3, none⟩ (.slice (some ⟨g, 0, none⟩) (ks.length + 1) cap)) ∨ wF = (((((w9.setCell ⟨eb, 3, none⟩ (.slice (some ⟨g, 0, none⟩) (ks.length + 1) cap)).setCell ⟨g, ks.length * 4, none⟩ (.string (mkB e1.kind))).setCell ⟨g, ks.length * 4 + 1, none⟩ (.int .i64 e1.num)).setCell ⟨g, ks.length * 4 + 2, none⟩ (.string (mkB e1.name))).setCell ⟨g, ks.length * 4 + 3, none⟩ (.slice B e1.kids.length d))) :
    ArAt E l pb A c w0 wE eb nm (ks ++ [e1]) s1 wF := by
  have hD := arg_both hown9 hx hr9 hge hF
  exact arg_fin hbut hown hmap hets hb5 hpa hN hB hr4 hpe hee hne hle hWa hown9 hgrow hat hD.1 hD.2.1 hD.2.2.1 hD.2.2.2
end
end Go.Proofs.YtpfgimohginbdaaDoor
