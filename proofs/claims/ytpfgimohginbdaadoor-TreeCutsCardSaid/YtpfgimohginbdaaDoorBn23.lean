import Derived.Test.YtpfgimohginbdaaDoorBn21
import Derived.Test.YtpfgimohginbdaaDoorBn22
set_option linter.unusedVariables false
set_option linter.unusedSimpArgs false
namespace Go.Proofs.YtpfgimohginbdaaDoor
open Go.RowKit

/-! the parser's statements: what is told of them; assign -/
def stV (x : PStmt) (X : Option Addr) (cx : Nat) (T : Option Addr) (ct : Nat) (L : Option Addr) (cl : Nat) : Value :=
  .agg #[.string (mkB x.kind), .string (mkB x.name), .string (mkB x.e.kind), .int .i64 x.e.num, .string (mkB x.e.name), .slice X x.e.kids.length cx, .slice T x.th.length ct, .slice L x.el.length cl]
def StPost (E : Nat → Addr) (l : List Tok) (pb : Nat) (A : Option Addr) (c : Nat) (w0 : World) (x : PStmt) (s' : PSt) (w : World) : Ending → World → Prop := fun y w' =>
  ∃ X cx T ct L cl, y = .returned (stV x X cx T ct L cl) ∧ (SC.mk x X cx T ct L cl).Ok w' (newA w) ∧ PaAt E l pb A c w0 s' w' ∧ But pb w w'
def BlPost (E : Nat → Addr) (l : List Tok) (pb : Nat) (A : Option Addr) (c : Nat) (w0 : World) (ss : List PStmt) (s' : PSt) (w : World) : Ending → World → Prop := fun y w' =>
  ∃ B d, y = .returned (.slice B ss.length d) ∧ RdS w' (newA w) ss B ∧ PaAt E l pb A c w0 s' w' ∧ But pb w w'
theorem stmtInfoT : (Tryd.prog.info? 44).map (fun i => (i.zero, i.size, i.bytes)) = some (some (.agg #[.string ⟨#[]⟩, .string ⟨#[]⟩, .string ⟨#[]⟩, .int .i64 0, .string ⟨#[]⟩, .slice none 0 0, .slice none 0 0, .slice none 0 0]), 8, 144) := by kernel_rfl
theorem set8T {w : World} {p : Nat} {v0 v1 v2 v3 v4 v5 v6 v7 : Value} {T : TypeId} {z0 z1 z2 z3 z4 z5 z6 z7 : Value} (h : w.heap[p]? = some (.cells #[z0, z1, z2, z3, z4, z5, z6, z7] T (0, 0))) :
    ((((((((w.setCell ⟨p, 0, none⟩ v0).setCell ⟨p, 1, none⟩ v1).setCell ⟨p, 2, none⟩ v2).setCell ⟨p, 3, none⟩ v3).setCell ⟨p, 4, none⟩ v4).setCell ⟨p, 5, none⟩ v5).setCell ⟨p, 6, none⟩ v6).setCell ⟨p, 7, none⟩ v7).heap[p]? = some (.cells #[v0, v1, v2, v3, v4, v5, v6, v7] T (0, 0)) :=
  row_set (j := 7) (cs := #[v0, v1, v2, v3, v4, v5, v6, z7]) _ (row_set (j := 6) (cs := #[v0, v1, v2, v3, v4, v5, z6, z7]) _ (row_set (j := 5) (cs := #[v0, v1, v2, v3, v4, z5, z6, z7]) _ (row_set (j := 4) (cs := #[v0, v1, v2, v3, z4, z5, z6, z7]) _
    (row_set (j := 3) (cs := #[v0, v1, v2, z3, z4, z5, z6, z7]) _ (row_set (j := 2) (cs := #[v0, v1, z2, z3, z4, z5, z6, z7]) _ (row_set (j := 1) (cs := #[v0, z1, z2, z3, z4, z5, z6, z7]) _ (row_set (j := 0) _ h (by simp)) (by simp)) (by simp)) (by simp)) (by simp)) (by simp)) (by simp)) (by simp)
theorem keep8T {w : World} {p : Nat} (v0 v1 v2 v3 v4 v5 v6 v7 : Value) {S : Nat → Prop} (hS : ∀ n, S n → n ≠ p) :
    KeepsIn S w ((((((((w.setCell ⟨p, 0, none⟩ v0).setCell ⟨p, 1, none⟩ v1).setCell ⟨p, 2, none⟩ v2).setCell ⟨p, 3, none⟩ v3).setCell ⟨p, 4, none⟩ v4).setCell ⟨p, 5, none⟩ v5).setCell ⟨p, 6, none⟩ v6).setCell ⟨p, 7, none⟩ v7) := fun a v hs hc =>
  keeps_store _ hS _ _ hs (keeps_store _ hS _ _ hs (keeps_store _ hS _ _ hs (keeps_store _ hS _ _ hs (keeps_store _ hS _ _ hs (keeps_store _ hS _ _ hs (keeps_store _ hS _ _ hs (keeps_store _ hS _ _ hs hc)))))))
theorem row8T {w : World} {p : Nat} {v0 v1 v2 v3 v4 v5 v6 v7 : Value} {T : TypeId} {fz : Nat × Nat} (h : w.heap[p]? = some (.cells #[v0, v1, v2, v3, v4, v5, v6, v7] T fz)) :
    w.cell? ⟨p, 0, none⟩ = some v0 ∧ w.cell? ⟨p, 1, none⟩ = some v1 ∧ w.cell? ⟨p, 2, none⟩ = some v2 ∧ w.cell? ⟨p, 3, none⟩ = some v3 ∧ w.cell? ⟨p, 4, none⟩ = some v4 ∧ w.cell? ⟨p, 5, none⟩ = some v5 ∧ w.cell? ⟨p, 6, none⟩ = some v6 ∧ w.cell? ⟨p, 7, none⟩ = some v7 :=
  ⟨cell_of_row _ _ 0 _ _ _ h, cell_of_row _ _ 1 _ _ _ h, cell_of_row _ _ 2 _ _ _ h, cell_of_row _ _ 3 _ _ _ h, cell_of_row _ _ 4 _ _ _ h, cell_of_row _ _ 5 _ _ _ h, cell_of_row _ _ 6 _ _ _ h, cell_of_row _ _ 7 _ _ _ h⟩
section
variable {E : Nat → Addr} {l : List Tok} {pb : Nat} {A : Option Addr} {c : Nat} {w0 : World} {s s' : PSt} {w w' w1 : World}
/-- One store into a statement's block. -/
theorem PaAt.setS (h : PaAt E l pb A c w0 s w) {q j : Nat} {u : Value} {cs : Array Value} {fz : Nat × Nat} (hr : w.heap[q]? = some (.cells cs 44 fz)) (hlo : w0.heap.size ≤ q) :
    PaAt E l pb A c w0 s (w.setCell ⟨q, j, none⟩ u) ∧ (w.setCell ⟨q, j, none⟩ u).heap[q]? = some (.cells (cs.setIfInBounds j u) 44 fz) :=
  ⟨h.other hr (by decide) (by decide) hlo, row_set (j := j) u hr rfl⟩
theorem PaAt.set8 (h : PaAt E l pb A c w0 s w) {q : Nat} {v0 v1 v2 v3 v4 v5 v6 v7 : Value} {cs : Array Value} {fz : Nat × Nat} (hr : w.heap[q]? = some (.cells cs 44 fz)) (hlo : w0.heap.size ≤ q) :
    PaAt E l pb A c w0 s ((((((((w.setCell ⟨q, 0, none⟩ v0).setCell ⟨q, 1, none⟩ v1).setCell ⟨q, 2, none⟩ v2).setCell ⟨q, 3, none⟩ v3).setCell ⟨q, 4, none⟩ v4).setCell ⟨q, 5, none⟩ v5).setCell ⟨q, 6, none⟩ v6).setCell ⟨q, 7, none⟩ v7) := by
  have h0 := h.setS (j := 0) (u := v0) hr hlo
  have h1 := h0.1.setS (j := 1) (u := v1) h0.2 hlo
  have h2 := h1.1.setS (j := 2) (u := v2) h1.2 hlo
  have h3 := h2.1.setS (j := 3) (u := v3) h2.2 hlo
  have h4 := h3.1.setS (j := 4) (u := v4) h3.2 hlo
  have h5 := h4.1.setS (j := 5) (u := v5) h4.2 hlo
  have h6 := h5.1.setS (j := 6) (u := v6) h5.2 hlo
  exact (h6.1.setS (j := 7) (u := v7) h6.2 hlo).1
theorem But.set8 (h : But pb w w') {q : Nat} {v0 v1 v2 v3 v4 v5 v6 v7 : Value} (hq : w.heap.size ≤ q) :
    But pb w ((((((((w'.setCell ⟨q, 0, none⟩ v0).setCell ⟨q, 1, none⟩ v1).setCell ⟨q, 2, none⟩ v2).setCell ⟨q, 3, none⟩ v3).setCell ⟨q, 4, none⟩ v4).setCell ⟨q, 5, none⟩ v5).setCell ⟨q, 6, none⟩ v6).setCell ⟨q, 7, none⟩ v7) :=
  (((((((h.setHi hq 0 _).setHi hq 1 _).setHi hq 2 _).setHi hq 3 _).setHi hq 4 _).setHi hq 5 _).setHi hq 6 _).setHi hq 7 _
/-- The end of a call that has a statement for its result. -/
theorem st_end {rb : Nat} {wA w9 : World} {x : PStmt} {X : Option Addr} {cx : Nat} {T : Option Addr} {ct : Nat} {L : Option Addr} {cl : Nat} {S : Nat → Prop} (hBA : But pb w wA) (hrb : w.heap.size = rb) (h9 : But pb wA w9) {cs : Array Value} (hr9 : w9.heap[rb]? = some (.cells cs 44 (0, 0))) (hlo : w0.heap.size ≤ rb) (hok : (SC.mk x X cx T ct L cl).Ok w9 S) (hS : ∀ n, S n → rb < n) (hpa : PaAt E l pb A c w0 s' w9) :
    StPost E l pb A c w0 x s' w (.returned (stV x X cx T ct L cl)) ((((((((w9.setCell ⟨rb, 0, none⟩ (.string (mkB x.kind))).setCell ⟨rb, 1, none⟩ (.string (mkB x.name))).setCell ⟨rb, 2, none⟩ (.string (mkB x.e.kind))).setCell ⟨rb, 3, none⟩ (.int .i64 x.e.num)).setCell ⟨rb, 4, none⟩ (.string (mkB x.e.name))).setCell ⟨rb, 5, none⟩ (.slice X x.e.kids.length cx)).setCell ⟨rb, 6, none⟩ (.slice T x.th.length ct)).setCell ⟨rb, 7, none⟩ (.slice L x.el.length cl)) :=
  ⟨X, cx, T, ct, L, cl, rfl, hok.keep (keep8T _ _ _ _ _ _ _ _ fun n hn => by have := hS n hn; omega) (fun n hn => by have := hS n hn; show w.heap.size ≤ n; omega), hpa.set8 hr9 hlo, (hBA.trans h9).set8 (by omega)⟩
/-- As it was, but for one block. -/
def But1 (q : Nat) (w w' : World) : Prop := ∀ k, k ≠ q → w'.heap[k]? = w.heap[k]?
theorem But1.keepsIn' {q : Nat} {S : Nat → Prop} (h : But1 q w w') (hS : ∀ n, S n → n ≠ q) : KeepsIn S w w' := fun a v hs hv => (World.cell?_of_block (h _ (hS _ hs))).trans hv
theorem But1.row {q k : Nat} {o : Obj} (h : But1 q w w') (hk : w.heap[k]? = some o) (hne : k ≠ q) : w'.heap[k]? = some o := (h k hne).trans hk
/-- An expression is stored into a statement's block. -/
theorem setS4 {q : Nat} {wA : World} {v0 v1 v2 v3 : Value} {z0 z1 z2 z3 z4 z5 z6 z7 : Value} (h : PaAt E l pb A c w0 s w) (hb : But pb wA w) (hr : w.heap[q]? = some (.cells #[z0, z1, z2, z3, z4, z5, z6, z7] 44 (0, 0))) (hlo : w0.heap.size ≤ q) (hq : wA.heap.size ≤ q) :
    PaAt E l pb A c w0 s ((((w.setCell ⟨q, 2, none⟩ v0).setCell ⟨q, 3, none⟩ v1).setCell ⟨q, 4, none⟩ v2).setCell ⟨q, 5, none⟩ v3) ∧ But pb wA ((((w.setCell ⟨q, 2, none⟩ v0).setCell ⟨q, 3, none⟩ v1).setCell ⟨q, 4, none⟩ v2).setCell ⟨q, 5, none⟩ v3) ∧
      ((((w.setCell ⟨q, 2, none⟩ v0).setCell ⟨q, 3, none⟩ v1).setCell ⟨q, 4, none⟩ v2).setCell ⟨q, 5, none⟩ v3).heap[q]? = some (.cells #[z0, z1, v0, v1, v2, v3, z6, z7] 44 (0, 0)) ∧ But1 q w ((((w.setCell ⟨q, 2, none⟩ v0).setCell ⟨q, 3, none⟩ v1).setCell ⟨q, 4, none⟩ v2).setCell ⟨q, 5, none⟩ v3) := by
  have h0 := h.setS (j := 2) (u := v0) hr hlo
  have h1 := h0.1.setS (j := 3) (u := v1) h0.2 hlo
  have h2 := h1.1.setS (j := 4) (u := v2) h1.2 hlo
  have h3 := h2.1.setS (j := 5) (u := v3) h2.2 hlo
  exact ⟨h3.1, (((hb.setHi hq 2 _).setHi hq 3 _).setHi hq 4 _).setHi hq 5 _, h3.2, fun k hk => (Below.heap_setCell _ _ _ _ hk).trans ((Below.heap_setCell _ _ _ _ hk).trans ((Below.heap_setCell _ _ _ _ hk).trans (Below.heap_setCell _ _ _ _ hk)))⟩
set_option maxHeartbeats 8000000 in
set_option maxRecDepth 100000 in
theorem assign_any (I : PaIn E l A w0) (hN : NumOk l) {n : Nat} (kind : List UInt8) {x : PStmt} (hs : PStOk l s) (hf : assignF l n kind s = some (x, s')) (h : PaAt E l pb A c w0 s w) :
    Calls Tryd.prog 58 #[.pointer (some ⟨pb, 0, none⟩), .string (mkB kind)] w (StPost E l pb A c w0 x s' w) := by
  obtain ⟨rb, hrb⟩ : ∃ rb, w.heap.size = rb := ⟨_, rfl⟩
  obtain ⟨wA, hwA⟩ : ∃ wA, w.alloc (.cells #[.string ⟨#[]⟩, .string ⟨#[]⟩, .string ⟨#[]⟩, .int .i64 0, .string ⟨#[]⟩, .slice none 0 0, .slice none 0 0, .slice none 0 0] 44) = wA := ⟨_, rfl⟩
  have hbA : Below w.heap.size w wA := by rw [← hwA]; exact grow_alloc (grow_refl _) _
  have hmA : wA.heap[rb]? = some (.cells #[.string ⟨#[]⟩, .string ⟨#[]⟩, .string ⟨#[]⟩, .int .i64 0, .string ⟨#[]⟩, .slice none 0 0, .slice none 0 0, .slice none 0 0] 44 (0, 0)) := by rw [← hwA, ← hrb]; exact heap_alloc_new w _
  have hA := h.keep hbA
  have hpr : pb < rb := by have := h.lt; omega
  have hlo : w0.heap.size ≤ rb := by have := h.under; omega
  have hra : rb < wA.heap.size := (Array.getElem?_eq_some_iff.1 hmA).1
  have HBA : Hid (But pb w wA) := But.of_below hbA
  have HR : Hid (∀ w', But pb wA w' → w'.heap[rb]? = some (.cells #[.string ⟨#[]⟩, .string ⟨#[]⟩, .string ⟨#[]⟩, .int .i64 0, .string ⟨#[]⟩, .slice none 0 0, .slice none 0 0, .slice none 0 0] 44 (0, 0))) := fun w' hb => hb.row hmA (by omega)
  have HWA := Lib.hid (And.intro hwA hrb)
  have HPL := Lib.hid (And.intro hpr (And.intro hlo hra))
  obtain ⟨nm, s2, hof⟩ : ∃ nm s2, ofP l kName s = (nm, s2) := ⟨_, _, rfl⟩
  have HOF : Hid (Calls Tryd.prog 25 #[.pointer (some ⟨pb, 0, none⟩), .string ⟨#[110, 97, 109, 101]⟩] wA (PaRet E l pb A c w0 (.string (mkB nm)) s2 wA)) := by
    have := of_lit I hA hs.hi kName
    rw [hof] at this
    exact this
  have hs2 : PStOk l s2 := hs.went (by have := ofP_went (x := kName) hs.hi; rw [hof] at this; exact this)
  unfold assignF at hf
  rw [hof] at hf
  dsimp only at hf
  have hs3 := hs2.went (takeP_went (x := [61]) hs2.hi)
  have HT1 : Hid (∀ w', PaAt E l pb A c w0 s2 w' → Calls Tryd.prog 24 #[.pointer (some ⟨pb, 0, none⟩), .string ⟨#[61]⟩] w' (PaRet E l pb A c w0 (.tuple #[]) (takeP l [61] s2) w')) := fun w' hw => take_lit I hw hs2.hi [61]
  cases hx : exprF l n 0 (takeP l [61] s2) with
  | none => rw [hx] at hf; cases hf
  | some p =>
    obtain ⟨e, s4⟩ := p
    rw [hx] at hf
    have hs4 := hs3.went ((went_expr l n).expr 0 _ e s4 hs3.hi hx)
    have HEX : Hid (∀ w', PaAt E l pb A c w0 (takeP l [61] s2) w' → Calls Tryd.prog 57 #[.pointer (some ⟨pb, 0, none⟩), .int .i64 0] w' (ExPost E l pb A c w0 e s4 w')) := fun w' hw => expr_any I hN hs3 hx hw
    have HT2 : Hid (∀ w', PaAt E l pb A c w0 s4 w' → Calls Tryd.prog 24 #[.pointer (some ⟨pb, 0, none⟩), .string ⟨#[59]⟩] w' (PaRet E l pb A c w0 (.tuple #[]) (takeP l [59] s4) w')) := fun w' hw => take_lit I hw hs4.hi [59]
    have HES : Hid (x = ⟨kind, nm, e, [], []⟩ ∧ s' = takeP l [59] s4) := show _ ∧ _ by cases hf; exact ⟨rfl, rfl⟩
    obtain ⟨s3, hs3e⟩ : ∃ s3, takeP l [61] s2 = s3 := ⟨_, rfl⟩
    obtain ⟨s5, hs5e⟩ : ∃ s5, takeP l [59] s4 = s5 := ⟨_, rfl⟩
    rw [hs3e] at HT1 HEX
    rw [hs5e] at HT2 HES
    obtain ⟨Q, hQ⟩ : ∃ Q, StPost E l pb A c w0 x s' w = Q := ⟨_, rfl⟩
    have HQ := Lib.hid hQ
    rw [hQ]
    clear hf hx hs hs2 hs3 hs4 hof hs3e hs5e h hA hbA hmA hwA hrb hQ hpr hlo hra I hN
    go_enter Tryd.func58, Tryd.ntmps58
    go_upto_region 1 with fail
    rw [HWA.out.1, HWA.out.2]
    go_upto_region 2 with (go_at_call 25; (with_reducible refine HOF.out.mono ?_); rintro y w2 ⟨rfl, h2, hb2⟩; have H2 := Lib.hid (And.intro h2 hb2); clear h2 hb2)
    obtain ⟨sb, hsb⟩ : ∃ sb, w2.heap.size = sb := ⟨_, rfl⟩
    obtain ⟨w3, hw3⟩ : ∃ w3, w2.alloc (.cells #[.string (mkB kind), .string (mkB nm), .string ⟨#[]⟩, .int .i64 0, .string ⟨#[]⟩, .slice none 0 0, .slice none 0 0, .slice none 0 0] 44) = w3 := ⟨_, rfl⟩
    have hm3 : w3.heap[sb]? = some (.cells #[.string (mkB kind), .string (mkB nm), .string ⟨#[]⟩, .int .i64 0, .string ⟨#[]⟩, .slice none 0 0, .slice none 0 0, .slice none 0 0] 44 (0, 0)) := by rw [← hw3, ← hsb]; exact heap_alloc_new w2 _
    have hb3 : Below w2.heap.size w2 w3 := by rw [← hw3]; exact grow_alloc (grow_refl _) _
    have h3 := H2.out.1.keep hb3
    have hbA3 := H2.out.2.trans (But.of_below hb3)
    have hrs : rb < sb := by have := H2.out.2.size; have := HPL.out.2.2; omega
    have hps : pb < sb := by have := HPL.out.1; omega
    have hs3z : sb < w3.heap.size := (Array.getElem?_eq_some_iff.1 hm3).1
    have hwAs : wA.heap.size ≤ sb := by have := H2.out.2.size; omega
    have H3 := Lib.hid (And.intro hm3 (And.intro h3 (And.intro hbA3 (And.intro hrs (And.intro hps (And.intro hs3z hwAs))))))
    rw [hsb, hw3]
    clear hw3 hsb hm3 hb3 h3 hbA3 hrs hps hs3z hwAs
    go_upto_region 4 with (first
      | (go_at_call 24; (with_reducible refine (HT1.out _ H3.out.2.1).mono ?_); rintro y w4 ⟨rfl, h4, hb4⟩; have H4 := Lib.hid (And.intro h4 hb4); clear h4 hb4)
      | (go_at_call 57; (with_reducible refine (HEX.out _ H4.out.1).mono ?_); rintro y w5 ⟨B, d, rfl, hB, hM, h5, hb5⟩; rw [show exV e B d = .agg #[.string (mkB e.kind), .int .i64 e.num, .string (mkB e.name), .slice B e.kids.length d] from rfl]; have hm5 := (H4.out.2.trans hb5).row H3.out.1 (by have := H3.out.2.2.2.2.1; omega); obtain ⟨a0, a1, a2, a3, a4, a5, a6, a7⟩ := row8T hm5; have z2 := row_frozen hm5 2; have z3 := row_frozen hm5 3; have z4 := row_frozen hm5 4; have z5 := row_frozen hm5 5; have H5 := Lib.hid (And.intro hB (And.intro hM (And.intro h5 (And.intro hb5 hm5)))); clear hB hM h5 hb5 hm5))
    obtain ⟨w6, hw6⟩ : ∃ w6, ((((w5.setCell ⟨sb, 2, none⟩ (.string (mkB e.kind))).setCell ⟨sb, 3, none⟩ (.int .i64 e.num)).setCell ⟨sb, 4, none⟩ (.string (mkB e.name))).setCell ⟨sb, 5, none⟩ (.slice B e.kids.length d)) = w6 := ⟨_, rfl⟩
    have hbA5 : But pb wA w5 := H3.out.2.2.1.trans (H4.out.2.trans H5.out.2.2.2.1)
    have hst := setS4 (v0 := .string (mkB e.kind)) (v1 := .int .i64 e.num) (v2 := .string (mkB e.name)) (v3 := .slice B e.kids.length d) H5.out.2.2.1 hbA5 H5.out.2.2.2.2 (by have := HPL.out.2.1; have := H3.out.2.2.2.1; omega) H3.out.2.2.2.2.2.2
    rw [hw6] at hst
    have H6 := Lib.hid hst
    rw [hw6]
    clear hw6 hst hbA5 a0 a1 a2 a3 a4 a5 a6 a7 z2 z3 z4 z5
    go_wp2_with (go_at_call 24; (with_reducible refine (HT2.out _ H6.out.1).mono ?_); rintro y w7 ⟨rfl, h7, hb7⟩; have hm7 := hb7.row H6.out.2.2.1 (by have := H3.out.2.2.2.2.1; omega); have hbA7 := H6.out.2.1.trans hb7; have hr7 := HR.out w7 hbA7; obtain ⟨a0, a1, a2, a3, a4, a5, a6, a7⟩ := row8T hm7; obtain ⟨r0, r1, r2, r3, r4, r5, r6, r7⟩ := row8T hr7; have y0 := row_frozen hr7 0; have y1 := row_frozen hr7 1; have y2 := row_frozen hr7 2; have y3 := row_frozen hr7 3; have y4 := row_frozen hr7 4; have y5 := row_frozen hr7 5; have y6 := row_frozen hr7 6; have y7 := row_frozen hr7 7; have H7 := Lib.hid (And.intro h7 (And.intro hb7 (And.intro hbA7 hr7))); clear h7 hb7 hm7 hbA7 hr7)
    obtain ⟨u0, u1, u2, u3, u4, u5, u6, u7⟩ := row8T (set8T (v0 := .string (mkB kind)) (v1 := .string (mkB nm)) (v2 := .string (mkB e.kind)) (v3 := .int .i64 e.num) (v4 := .string (mkB e.name)) (v5 := .slice B e.kids.length d) (v6 := .slice none 0 0) (v7 := .slice none 0 0) H7.out.2.2.2)
    refine bodyPost_ret (v := stV ⟨kind, nm, e, [], []⟩ B d none 0 none 0) (by simp [results, Tryd.results58, go_sem, u0, u1, u2, u3, u4, u5, u6, u7]; try rfl) rfl ?_
    rw [← HQ.out, HES.out.1, HES.out.2]
    refine st_end (x := ⟨kind, nm, e, [], []⟩) (X := B) (cx := d) (T := none) (ct := 0) (L := none) (cl := 0) (S := fun k => rb < k) HBA.out HWA.out.2 H7.out.2.2.1 H7.out.2.2.2 HPL.out.2.1 ⟨H5.out.2.1, ?_, RdS.nil _ _ _, RdS.nil _ _ _⟩ (fun _ h => h) H7.out.1
    have h4s := (H3.out.2.2.1.trans H4.out.2).size
    have h45 := H4.out.2.size
    refine (((H5.out.1.lt.keep (H6.out.2.2.2.keepsIn' fun k hk => ?_) fun k hk => hk) : RdE w6 _ e.kids B).lt.keep (H7.out.2.1.keepsIn fun k hk => ?_) fun k hk => ?_)
    · have h1 : w4.heap.size ≤ k := hk.1
      have := H3.out.2.2.2.2.2.1
      omega
    · have h1 : w4.heap.size ≤ k := hk.1.1
      have := H3.out.2.2.2.2.2.1
      have := H3.out.2.2.2.2.1
      omega
    · have h1 : w4.heap.size ≤ k := hk.1.1
      have := HPL.out.2.2
      have := H3.out.2.2.1.size
      show rb < k
      omega
end
end Go.Proofs.YtpfgimohginbdaaDoor
