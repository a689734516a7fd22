import Derived.Deep.DeepCutAuto
import Derived.Deep.AppendLies
import Derived.Test.YtpfgimohginbdaaDoorBn32
import Derived.Test.YtpfgimohginbdaaDoorBn33
import Derived.Test.YtpfgimohginbdaaDoorBn25
import Derived.Test.YtpfgimohginbdaaDoorBn27
set_option linter.unusedVariables false
set_option linter.unusedSimpArgs false
namespace Go.Proofs.YtpfgimohginbdaaDoor
open Go.RowKit

/-! the parser's statements: what is told of them; assign -/
def stV (x : PStmt) (X : Option Addr) (cx : Nat) (T : Option Addr) (ct : Nat) (L : Option Addr) (cl : Nat) : Value :=
  .agg #[.string (mkB x.kind), .string (mkB x.name), .string (mkB x.e.kind), .int .i64 x.e.num, .string (mkB x.e.name), .slice X x.e.kids.length cx, .slice T x.th.length ct, .slice L x.el.length cl]
def StPost (E : Nat → Addr) (l : List Tok) (pb : Nat) (A : Option Addr) (c : Nat) (w0 : World) (x : PStmt) (s' : PSt) (w : World) : Ending → World → Prop := fun y w' =>
  ∃ X cx T ct L cl, y = .returned (stV x X cx T ct L cl) ∧ (SC.mk x X cx T ct L cl).Ok w' (newA w) ∧ PaAt E l pb A c w0 s' w' ∧ But pb w w'
def BlPost (E : Nat → Addr) (l : List Tok) (pb : Nat) (A : Option Addr) (c : Nat) (w0 : World) (ss : List PStmt) (s' : PSt) (w : World) : Ending → World → Prop := fun y w' =>
  ∃ B d, y = .returned (.slice B ss.length d) ∧ RdS w' (newA w) ss B ∧ PaAt E l pb A c w0 s' w' ∧ But pb w w'
theorem stmtInfoT : (Tryd.prog.info? 44).map (fun i => (i.zero, i.size, i.bytes)) = some (some (.agg #[.string ⟨#[]⟩, .string ⟨#[]⟩, .string ⟨#[]⟩, .int .i64 0, .string ⟨#[]⟩, .slice none 0 0, .slice none 0 0, .slice none 0 0]), 8, 144) := by kernel_rfl
theorem set8T {w : World} {p : Nat} {v0 v1 v2 v3 v4 v5 v6 v7 : Value} {T : TypeId} {z0 z1 z2 z3 z4 z5 z6 z7 : Value} (h : w.heap[p]? = some (.cells #[z0, z1, z2, z3, z4, z5, z6, z7] T (0, 0))) :
    ((((((((w.setCell ⟨p, 0, none⟩ v0).setCell ⟨p, 1, none⟩ v1).setCell ⟨p, 2, none⟩ v2).setCell ⟨p, 3, none⟩ v3).setCell ⟨p, 4, none⟩ v4).setCell ⟨p, 5, none⟩ v5).setCell ⟨p, 6, none⟩ v6).setCell ⟨p, 7, none⟩ v7).heap[p]? = some (.cells #[v0, v1, v2, v3, v4, v5, v6, v7] T (0, 0)) :=
  row_set (j := 7) (cs := #[v0, v1, v2, v3, v4, v5, v6, z7]) _ (row_set (j := 6) (cs := #[v0, v1, v2, v3, v4, v5, z6, z7]) _ (row_set (j := 5) (cs := #[v0, v1, v2, v3, v4, z5, z6, z7]) _ (row_set (j := 4) (cs := #[v0, v1, v2, v3, z4, z5, z6, z7]) _
    (row_set (j := 3) (cs := #[v0, v1, v2, z3, z4, z5, z6, z7]) _ (row_set (j := 2) (cs := #[v0, v1, z2, z3, z4, z5, z6, z7]) _ (row_set (j := 1) (cs := #[v0, z1, z2, z3, z4, z5, z6, z7]) _ (row_set (j := 0) _ h (by simp)) (by simp)) (by simp)) (by simp)) (by simp)) (by simp)) (by simp)) (by simp)
theorem keep8T {w : World} {p : Nat} (v0 v1 v2 v3 v4 v5 v6 v7 : Value) {S : Nat → Prop} (hS : ∀ n, S n → n ≠ p) :
    KeepsIn S w ((((((((w.setCell ⟨p, 0, none⟩ v0).setCell ⟨p, 1, none⟩ v1).setCell ⟨p, 2, none⟩ v2).setCell ⟨p, 3, none⟩ v3).setCell ⟨p, 4, none⟩ v4).setCell ⟨p, 5, none⟩ v5).setCell ⟨p, 6, none⟩ v6).setCell ⟨p, 7, none⟩ v7) := fun a v hs hc =>
  keeps_store _ hS _ _ hs (keeps_store _ hS _ _ hs (keeps_store _ hS _ _ hs (keeps_store _ hS _ _ hs (keeps_store _ hS _ _ hs (keeps_store _ hS _ _ hs (keeps_store _ hS _ _ hs (keeps_store _ hS _ _ hs hc)))))))
theorem row8T {w : World} {p : Nat} {v0 v1 v2 v3 v4 v5 v6 v7 : Value} {T : TypeId} {fz : Nat × Nat} (h : w.heap[p]? = some (.cells #[v0, v1, v2, v3, v4, v5, v6, v7] T fz)) :
    w.cell? ⟨p, 0, none⟩ = some v0 ∧ w.cell? ⟨p, 1, none⟩ = some v1 ∧ w.cell? ⟨p, 2, none⟩ = some v2 ∧ w.cell? ⟨p, 3, none⟩ = some v3 ∧ w.cell? ⟨p, 4, none⟩ = some v4 ∧ w.cell? ⟨p, 5, none⟩ = some v5 ∧ w.cell? ⟨p, 6, none⟩ = some v6 ∧ w.cell? ⟨p, 7, none⟩ = some v7 :=
  ⟨cell_of_row _ _ 0 _ _ _ h, cell_of_row _ _ 1 _ _ _ h, cell_of_row _ _ 2 _ _ _ h, cell_of_row _ _ 3 _ _ _ h, cell_of_row _ _ 4 _ _ _ h, cell_of_row _ _ 5 _ _ _ h, cell_of_row _ _ 6 _ _ _ h, cell_of_row _ _ 7 _ _ _ h⟩
section
variable {E : Nat → Addr} {l : List Tok} {pb : Nat} {A : Option Addr} {c : Nat} {w0 : World} {s s' : PSt} {w w' w1 : World}
/-- One store into a statement's block. -/
theorem PaAt.setS (h : PaAt E l pb A c w0 s w) {q j : Nat} {u : Value} {cs : Array Value} {fz : Nat × Nat} (hr : w.heap[q]? = some (.cells cs 44 fz)) (hlo : w0.heap.size ≤ q) :
    PaAt E l pb A c w0 s (w.setCell ⟨q, j, none⟩ u) ∧ (w.setCell ⟨q, j, none⟩ u).heap[q]? = some (.cells (cs.setIfInBounds j u) 44 fz) :=
  ⟨h.other hr (by decide) (by decide) hlo, row_set (j := j) u hr rfl⟩
theorem PaAt.set8 (h : PaAt E l pb A c w0 s w) {q : Nat} {v0 v1 v2 v3 v4 v5 v6 v7 : Value} {cs : Array Value} {fz : Nat × Nat} (hr : w.heap[q]? = some (.cells cs 44 fz)) (hlo : w0.heap.size ≤ q) :
    PaAt E l pb A c w0 s ((((((((w.setCell ⟨q, 0, none⟩ v0).setCell ⟨q, 1, none⟩ v1).setCell ⟨q, 2, none⟩ v2).setCell ⟨q, 3, none⟩ v3).setCell ⟨q, 4, none⟩ v4).setCell ⟨q, 5, none⟩ v5).setCell ⟨q, 6, none⟩ v6).setCell ⟨q, 7, none⟩ v7) := by
  have h0 := h.setS (j := 0) (u := v0) hr hlo
  have h1 := h0.1.setS (j := 1) (u := v1) h0.2 hlo
  have h2 := h1.1.setS (j := 2) (u := v2) h1.2 hlo
  have h3 := h2.1.setS (j := 3) (u := v3) h2.2 hlo
  have h4 := h3.1.setS (j := 4) (u := v4) h3.2 hlo
  have h5 := h4.1.setS (j := 5) (u := v5) h4.2 hlo
  have h6 := h5.1.setS (j := 6) (u := v6) h5.2 hlo
  exact (h6.1.setS (j := 7) (u := v7) h6.2 hlo).1
theorem But.set8 (h : But pb w w') {q : Nat} {v0 v1 v2 v3 v4 v5 v6 v7 : Value} (hq : w.heap.size ≤ q) :
    But pb w ((((((((w'.setCell ⟨q, 0, none⟩ v0).setCell ⟨q, 1, none⟩ v1).setCell ⟨q, 2, none⟩ v2).setCell ⟨q, 3, none⟩ v3).setCell ⟨q, 4, none⟩ v4).setCell ⟨q, 5, none⟩ v5).setCell ⟨q, 6, none⟩ v6).setCell ⟨q, 7, none⟩ v7) :=
  (((((((h.setHi hq 0 _).setHi hq 1 _).setHi hq 2 _).setHi hq 3 _).setHi hq 4 _).setHi hq 5 _).setHi hq 6 _).setHi hq 7 _
/-- The end of a call that has a statement for its result. -/
theorem st_end {rb : Nat} {wA w9 : World} {x : PStmt} {X : Option Addr} {cx : Nat} {T : Option Addr} {ct : Nat} {L : Option Addr} {cl : Nat} {S : Nat → Prop} (hBA : But pb w wA) (hrb : w.heap.size = rb) (h9 : But pb wA w9) {cs : Array Value} (hr9 : w9.heap[rb]? = some (.cells cs 44 (0, 0))) (hlo : w0.heap.size ≤ rb) (hok : (SC.mk x X cx T ct L cl).Ok w9 S) (hS : ∀ n, S n → rb < n) (hpa : PaAt E l pb A c w0 s' w9) :
    StPost E l pb A c w0 x s' w (.returned (stV x X cx T ct L cl)) ((((((((w9.setCell ⟨rb, 0, none⟩ (.string (mkB x.kind))).setCell ⟨rb, 1, none⟩ (.string (mkB x.name))).setCell ⟨rb, 2, none⟩ (.string (mkB x.e.kind))).setCell ⟨rb, 3, none⟩ (.int .i64 x.e.num)).setCell ⟨rb, 4, none⟩ (.string (mkB x.e.name))).setCell ⟨rb, 5, none⟩ (.slice X x.e.kids.length cx)).setCell ⟨rb, 6, none⟩ (.slice T x.th.length ct)).setCell ⟨rb, 7, none⟩ (.slice L x.el.length cl)) :=
  ⟨X, cx, T, ct, L, cl, rfl, hok.keep (keep8T _ _ _ _ _ _ _ _ fun n hn => by have := hS n hn; omega) (fun n hn => by have := hS n hn; show w.heap.size ≤ n; omega), hpa.set8 hr9 hlo, (hBA.trans h9).set8 (by omega)⟩
/-- As it was, but for one block. -/
def But1 (q : Nat) (w w' : World) : Prop := ∀ k, k ≠ q → w'.heap[k]? = w.heap[k]?
theorem But1.keepsIn' {q : Nat} {S : Nat → Prop} (h : But1 q w w') (hS : ∀ n, S n → n ≠ q) : KeepsIn S w w' := fun a v hs hv => (World.cell?_of_block (h _ (hS _ hs))).trans hv
theorem But1.row {q k : Nat} {o : Obj} (h : But1 q w w') (hk : w.heap[k]? = some o) (hne : k ≠ q) : w'.heap[k]? = some o := (h k hne).trans hk
/-- An expression is stored into a statement's block. -/
theorem setS4 {q : Nat} {wA : World} {v0 v1 v2 v3 : Value} {z0 z1 z2 z3 z4 z5 z6 z7 : Value} (h : PaAt E l pb A c w0 s w) (hb : But pb wA w) (hr : w.heap[q]? = some (.cells #[z0, z1, z2, z3, z4, z5, z6, z7] 44 (0, 0))) (hlo : w0.heap.size ≤ q) (hq : wA.heap.size ≤ q) :
    PaAt E l pb A c w0 s ((((w.setCell ⟨q, 2, none⟩ v0).setCell ⟨q, 3, none⟩ v1).setCell ⟨q, 4, none⟩ v2).setCell ⟨q, 5, none⟩ v3) ∧ But pb wA ((((w.setCell ⟨q, 2, none⟩ v0).setCell ⟨q, 3, none⟩ v1).setCell ⟨q, 4, none⟩ v2).setCell ⟨q, 5, none⟩ v3) ∧
      ((((w.setCell ⟨q, 2, none⟩ v0).setCell ⟨q, 3, none⟩ v1).setCell ⟨q, 4, none⟩ v2).setCell ⟨q, 5, none⟩ v3).heap[q]? = some (.cells #[z0, z1, v0, v1, v2, v3, z6, z7] 44 (0, 0)) ∧ But1 q w ((((w.setCell ⟨q, 2, none⟩ v0).setCell ⟨q, 3, none⟩ v1).setCell ⟨q, 4, none⟩ v2).setCell ⟨q, 5, none⟩ v3) := by
  have h0 := h.setS (j := 2) (u := v0) hr hlo
  have h1 := h0.1.setS (j := 3) (u := v1) h0.2 hlo
  have h2 := h1.1.setS (j := 4) (u := v2) h1.2 hlo
  have h3 := h2.1.setS (j := 5) (u := v3) h2.2 hlo
  exact ⟨h3.1, (((hb.setHi hq 2 _).setHi hq 3 _).setHi hq 4 _).setHi hq 5 _, h3.2, fun k hk => (Below.heap_setCell _ _ _ _ hk).trans ((Below.heap_setCell _ _ _ _ hk).trans ((Below.heap_setCell _ _ _ _ hk).trans (Below.heap_setCell _ _ _ _ hk)))⟩
set_option maxHeartbeats 8000000 in
set_option maxRecDepth 100000 in
theorem assign_any (I : PaIn E l A w0) (hN : NumOk l) {n : Nat} (kind : List UInt8) {x : PStmt} (hs : PStOk l s) (hf : assignF l n kind s = some (x, s')) (h : PaAt E l pb A c w0 s w) :
    Calls Tryd.prog 58 #[.pointer (some ⟨pb, 0, none⟩), .string (mkB kind)] w (StPost E l pb A c w0 x s' w) := by
  obtain ⟨rb, hrb⟩ : ∃ rb, w.heap.size = rb := ⟨_, rfl⟩
  obtain ⟨wA, hwA⟩ : ∃ wA, w.alloc (.cells #[.string ⟨#[]⟩, .string ⟨#[]⟩, .string ⟨#[]⟩, .int .i64 0, .string ⟨#[]⟩, .slice none 0 0, .slice none 0 0, .slice none 0 0] 44) = wA := ⟨_, rfl⟩
  have hbA : Below w.heap.size w wA := by rw [← hwA]; exact grow_alloc (grow_refl _) _
  have hmA : wA.heap[rb]? = some (.cells #[.string ⟨#[]⟩, .string ⟨#[]⟩, .string ⟨#[]⟩, .int .i64 0, .string ⟨#[]⟩, .slice none 0 0, .slice none 0 0, .slice none 0 0] 44 (0, 0)) := by rw [← hwA, ← hrb]; exact heap_alloc_new w _
  have hA := h.keep hbA
  have hpr : pb < rb := by have := h.lt; omega
  have hlo : w0.heap.size ≤ rb := by have := h.under; omega
  have hra : rb < wA.heap.size := (Array.getElem?_eq_some_iff.1 hmA).1
  have HBA : Hid (But pb w wA) := But.of_below hbA
  have HR : Hid (∀ w', But pb wA w' → w'.heap[rb]? = some (.cells #[.string ⟨#[]⟩, .string ⟨#[]⟩, .string ⟨#[]⟩, .int .i64 0, .string ⟨#[]⟩, .slice none 0 0, .slice none 0 0, .slice none 0 0] 44 (0, 0))) := fun w' hb => hb.row hmA (by omega)
  have HWA := Lib.hid (And.intro hwA hrb)
  have HPL := Lib.hid (And.intro hpr (And.intro hlo hra))
  obtain ⟨nm, s2, hof⟩ : ∃ nm s2, ofP l kName s = (nm, s2) := ⟨_, _, rfl⟩
  have HOF : Hid (Calls Tryd.prog 25 #[.pointer (some ⟨pb, 0, none⟩), .string ⟨#[110, 97, 109, 101]⟩] wA (PaRet E l pb A c w0 (.string (mkB nm)) s2 wA)) := by
    have := of_lit I hA hs.hi kName
    rw [hof] at this
    exact this
  have hs2 : PStOk l s2 := hs.went (by have := ofP_went (x := kName) hs.hi; rw [hof] at this; exact this)
  unfold assignF at hf
  rw [hof] at hf
  dsimp only at hf
  have hs3 := hs2.went (takeP_went (x := [61]) hs2.hi)
  have HT1 : Hid (∀ w', PaAt E l pb A c w0 s2 w' → Calls Tryd.prog 24 #[.pointer (some ⟨pb, 0, none⟩), .string ⟨#[61]⟩] w' (PaRet E l pb A c w0 (.tuple #[]) (takeP l [61] s2) w')) := fun w' hw => take_lit I hw hs2.hi [61]
  cases hx : exprF l n 0 (takeP l [61] s2) with
  | none => rw [hx] at hf; cases hf
  | some p =>
    obtain ⟨e, s4⟩ := p
    rw [hx] at hf
    have hs4 := hs3.went ((went_expr l n).expr 0 _ e s4 hs3.hi hx)
    have HEX : Hid (∀ w', PaAt E l pb A c w0 (takeP l [61] s2) w' → Calls Tryd.prog 57 #[.pointer (some ⟨pb, 0, none⟩), .int .i64 0] w' (ExPost E l pb A c w0 e s4 w')) := fun w' hw => expr_any I hN hs3 hx hw
    have HT2 : Hid (∀ w', PaAt E l pb A c w0 s4 w' → Calls Tryd.prog 24 #[.pointer (some ⟨pb, 0, none⟩), .string ⟨#[59]⟩] w' (PaRet E l pb A c w0 (.tuple #[]) (takeP l [59] s4) w')) := fun w' hw => take_lit I hw hs4.hi [59]
    have HES : Hid (x = ⟨kind, nm, e, [], []⟩ ∧ s' = takeP l [59] s4) := show _ ∧ _ by cases hf; exact ⟨rfl, rfl⟩
    obtain ⟨s3, hs3e⟩ : ∃ s3, takeP l [61] s2 = s3 := ⟨_, rfl⟩
    obtain ⟨s5, hs5e⟩ : ∃ s5, takeP l [59] s4 = s5 := ⟨_, rfl⟩
    rw [hs3e] at HT1 HEX
    rw [hs5e] at HT2 HES
    obtain ⟨Q, hQ⟩ : ∃ Q, StPost E l pb A c w0 x s' w = Q := ⟨_, rfl⟩
    have HQ := Lib.hid hQ
    rw [hQ]
    clear hf hx hs hs2 hs3 hs4 hof hs3e hs5e h hA hbA hmA hwA hrb hQ hpr hlo hra I hN
    go_enter Tryd.func58, Tryd.ntmps58
    go_upto_region 1 with fail
    rw [HWA.out.1, HWA.out.2]
    go_upto_region 2 with (go_at_call 25; (with_reducible refine HOF.out.mono ?_); rintro y w2 ⟨rfl, h2, hb2⟩; have H2 := Lib.hid (And.intro h2 hb2); clear h2 hb2)
    obtain ⟨sb, hsb⟩ : ∃ sb, w2.heap.size = sb := ⟨_, rfl⟩
    obtain ⟨w3, hw3⟩ : ∃ w3, w2.alloc (.cells #[.string (mkB kind), .string (mkB nm), .string ⟨#[]⟩, .int .i64 0, .string ⟨#[]⟩, .slice none 0 0, .slice none 0 0, .slice none 0 0] 44) = w3 := ⟨_, rfl⟩
    have hm3 : w3.heap[sb]? = some (.cells #[.string (mkB kind), .string (mkB nm), .string ⟨#[]⟩, .int .i64 0, .string ⟨#[]⟩, .slice none 0 0, .slice none 0 0, .slice none 0 0] 44 (0, 0)) := by rw [← hw3, ← hsb]; exact heap_alloc_new w2 _
    have hb3 : Below w2.heap.size w2 w3 := by rw [← hw3]; exact grow_alloc (grow_refl _) _
    have h3 := H2.out.1.keep hb3
    have hbA3 := H2.out.2.trans (But.of_below hb3)
    have hrs : rb < sb := by have := H2.out.2.size; have := HPL.out.2.2; omega
    have hps : pb < sb := by have := HPL.out.1; omega
    have hs3z : sb < w3.heap.size := (Array.getElem?_eq_some_iff.1 hm3).1
    have hwAs : wA.heap.size ≤ sb := by have := H2.out.2.size; omega
    have H3 := Lib.hid (And.intro hm3 (And.intro h3 (And.intro hbA3 (And.intro hrs (And.intro hps (And.intro hs3z hwAs))))))
    rw [hsb, hw3]
    clear hw3 hsb hm3 hb3 h3 hbA3 hrs hps hs3z hwAs
    go_upto_region 4 with (first
      | (go_at_call 24; (with_reducible refine (HT1.out _ H3.out.2.1).mono ?_); rintro y w4 ⟨rfl, h4, hb4⟩; have H4 := Lib.hid (And.intro h4 hb4); clear h4 hb4)
      | (go_at_call 57; (with_reducible refine (HEX.out _ H4.out.1).mono ?_); rintro y w5 ⟨B, d, rfl, hB, hM, h5, hb5⟩; rw [show exV e B d = .agg #[.string (mkB e.kind), .int .i64 e.num, .string (mkB e.name), .slice B e.kids.length d] from rfl]; have hm5 := (H4.out.2.trans hb5).row H3.out.1 (by have := H3.out.2.2.2.2.1; omega); obtain ⟨a0, a1, a2, a3, a4, a5, a6, a7⟩ := row8T hm5; have z2 := row_frozen hm5 2; have z3 := row_frozen hm5 3; have z4 := row_frozen hm5 4; have z5 := row_frozen hm5 5; have H5 := Lib.hid (And.intro hB (And.intro hM (And.intro h5 (And.intro hb5 hm5)))); clear hB hM h5 hb5 hm5))
    obtain ⟨w6, hw6⟩ : ∃ w6, ((((w5.setCell ⟨sb, 2, none⟩ (.string (mkB e.kind))).setCell ⟨sb, 3, none⟩ (.int .i64 e.num)).setCell ⟨sb, 4, none⟩ (.string (mkB e.name))).setCell ⟨sb, 5, none⟩ (.slice B e.kids.length d)) = w6 := ⟨_, rfl⟩
    have hbA5 : But pb wA w5 := H3.out.2.2.1.trans (H4.out.2.trans H5.out.2.2.2.1)
    have hst := setS4 (v0 := .string (mkB e.kind)) (v1 := .int .i64 e.num) (v2 := .string (mkB e.name)) (v3 := .slice B e.kids.length d) H5.out.2.2.1 hbA5 H5.out.2.2.2.2 (by have := HPL.out.2.1; have := H3.out.2.2.2.1; omega) H3.out.2.2.2.2.2.2
    rw [hw6] at hst
    have H6 := Lib.hid hst
    rw [hw6]
    clear hw6 hst hbA5 a0 a1 a2 a3 a4 a5 a6 a7 z2 z3 z4 z5
    go_wp2_with (go_at_call 24; (with_reducible refine (HT2.out _ H6.out.1).mono ?_); rintro y w7 ⟨rfl, h7, hb7⟩; have hm7 := hb7.row H6.out.2.2.1 (by have := H3.out.2.2.2.2.1; omega); have hbA7 := H6.out.2.1.trans hb7; have hr7 := HR.out w7 hbA7; obtain ⟨a0, a1, a2, a3, a4, a5, a6, a7⟩ := row8T hm7; obtain ⟨r0, r1, r2, r3, r4, r5, r6, r7⟩ := row8T hr7; have y0 := row_frozen hr7 0; have y1 := row_frozen hr7 1; have y2 := row_frozen hr7 2; have y3 := row_frozen hr7 3; have y4 := row_frozen hr7 4; have y5 := row_frozen hr7 5; have y6 := row_frozen hr7 6; have y7 := row_frozen hr7 7; have H7 := Lib.hid (And.intro h7 (And.intro hb7 (And.intro hbA7 hr7))); clear h7 hb7 hm7 hbA7 hr7)
    obtain ⟨u0, u1, u2, u3, u4, u5, u6, u7⟩ := row8T (set8T (v0 := .string (mkB kind)) (v1 := .string (mkB nm)) (v2 := .string (mkB e.kind)) (v3 := .int .i64 e.num) (v4 := .string (mkB e.name)) (v5 := .slice B e.kids.length d) (v6 := .slice none 0 0) (v7 := .slice none 0 0) H7.out.2.2.2)
    refine bodyPost_ret (v := stV ⟨kind, nm, e, [], []⟩ B d none 0 none 0) (by simp [results, Tryd.results58, go_sem, u0, u1, u2, u3, u4, u5, u6, u7]; try rfl) rfl ?_
    rw [← HQ.out, HES.out.1, HES.out.2]
    refine st_end (x := ⟨kind, nm, e, [], []⟩) (X := B) (cx := d) (T := none) (ct := 0) (L := none) (cl := 0) (S := fun k => rb < k) HBA.out HWA.out.2 H7.out.2.2.1 H7.out.2.2.2 HPL.out.2.1 ⟨H5.out.2.1, ?_, RdS.nil _ _ _, RdS.nil _ _ _⟩ (fun _ h => h) H7.out.1
    have h4s := (H3.out.2.2.1.trans H4.out.2).size
    have h45 := H4.out.2.size
    refine (((H5.out.1.lt.keep (H6.out.2.2.2.keepsIn' fun k hk => ?_) fun k hk => hk) : RdE w6 _ e.kids B).lt.keep (H7.out.2.1.keepsIn fun k hk => ?_) fun k hk => ?_)
    · have h1 : w4.heap.size ≤ k := hk.1
      have := H3.out.2.2.2.2.2.1
      omega
    · have h1 : w4.heap.size ≤ k := hk.1.1
      have := H3.out.2.2.2.2.2.1
      have := H3.out.2.2.2.2.1
      omega
    · have h1 : w4.heap.size ≤ k := hk.1.1
      have := HPL.out.2.2
      have := H3.out.2.2.1.size
      show rb < k
      omega
end
end Go.Proofs.YtpfgimohginbdaaDoor

namespace Go.Proofs.YtpfgimohginbdaaDoor
open Go.RowKit

/-! the parser: a block of statements -/
structure StI (E : Nat → Addr) (l : List Tok) (pb : Nat) (A : Option Addr) (c : Nat) (w0 : World) (n : Nat) : Prop where
  block : ∀ s ss s' w, PStOk l s → blockF l n s = some (ss, s') → PaAt E l pb A c w0 s w → Calls Tryd.prog 28 #[.pointer (some ⟨pb, 0, none⟩)] w (BlPost E l pb A c w0 ss s' w)
  stmt : ∀ s x s' w, PStOk l s → s.err = none → stmtF l n s = some (x, s') → PaAt E l pb A c w0 s w → Calls Tryd.prog 45 #[.pointer (some ⟨pb, 0, none⟩)] w (StPost E l pb A c w0 x s' w)
  branch : ∀ kind s x s' w, (kind = zIf ∨ kind = zWhile) → PStOk l s → s.pos < l.length → s.err = none → branchF l n kind s = some (x, s') → PaAt E l pb A c w0 s w → Calls Tryd.prog 56 #[.pointer (some ⟨pb, 0, none⟩), .string (mkB kind)] w (StPost E l pb A c w0 x s' w)
def errOf (pb : Nat) (w : World) : Nat := match w.cell? ⟨pb, 3, none⟩ with
  | some .nilIface => 1
  | _ => 0
section
variable {E : Nat → Addr} {l : List Tok} {pb : Nat} {A : Option Addr} {c : Nat} {w0 : World} {s s' : PSt} {w w' w1 : World}
theorem PaAt.errN (h : PaAt E l pb A c w0 s w) (he : s.err = none) : errOf pb w = 1 := by
  obtain ⟨v, -, -, -, c3, hv⟩ := h.cells
  rw [he] at hv
  have hv' : v = .nilIface := hv
  subst hv'
  unfold errOf
  rw [c3]
theorem PaAt.errS (h : PaAt E l pb A c w0 s w) (he : s.err ≠ none) : errOf pb w = 0 := by
  obtain ⟨v, -, -, -, c3, hv⟩ := h.cells
  cases hz : s.err with
  | none => exact absurd hz he
  | some p =>
    rw [hz] at hv
    obtain ⟨-, -, fb, rfl, -⟩ := hv
    unfold errOf
    rw [c3]
/-- What stands at the head of the loop over statements. -/
structure BkAt (E : Nat → Addr) (l : List Tok) (pb : Nat) (A : Option Addr) (c : Nat) (w0 wS : World) (n : Nat) (es : List PStmt) (s' : PSt) (k : Nat) (ss : List PStmt) (st : PSt) (v : Value) (w : World) : Prop where
  le : k ≤ n
  run : stmtsF l k ss st = some (es, s')
  ok : PStOk l st
  pa : PaAt E l pb A c w0 st w
  but : But pb wS w
  row : ∃ ts : List SC, w.ownsRow wS.heap.size 44 8 v ss.length (ts.flatMap SC.cells) ∧ ts.map (·.s) = ss ∧ ∀ t ∈ ts, t.Ok w (Apart wS.heap.size v)
  cnt : ss.length ≤ st.pos + 1
  cnt0 : st.err = none → ss.length ≤ st.pos
/-- The slice's own row stays where only the parser turns. -/
theorem But.owns {base : Nat} {e : TypeId} {size : Nat} {v : Value} {n : Nat} {xs : List Value} (hb : But pb w w') (h : w.ownsRow base e size v n xs) (hp : pb < base) : w'.ownsRow base e size v n xs :=
  ownS_same h fun k hk => hb.block k (ownS_lt h hk).2 (by have := (ownS_lt h hk).1; omega)
/-- One statement more. -/
theorem BkAt.next {wS wr wq w4 w5 : World} {n k : Nat} {es ks : List PStmt} {s1 s3 : PSt} {st : PSt} {v v' : Value} {ts : List SC} {x : PStmt} {X : Option Addr} {cx : Nat} {T : Option Addr} {ct : Nat} {L : Option Addr} {cl : Nat} {o : Obj} (hK : BkAt E l pb A c w0 wS n es s1 (k + 1) ks st v wr)
    (hown : wr.ownsRow wS.heap.size 44 8 v ks.length (ts.flatMap SC.cells)) (hmap : ts.map (·.s) = ks) (hets : ∀ t ∈ ts, t.Ok wr (Apart wS.heap.size v)) (hse : st.err = none) (hru : stmtsF l k (ks ++ [x]) s3 = some (es, s1)) (hkn : k ≤ n) (hav : Adv l st s3) (hs3 : PStOk l s3)
    (hok : (SC.mk x X cx T ct L cl).Ok w4 (newA wq)) (h4 : PaAt E l pb A c w0 s3 w4) (hb4 : But pb wr w4) (hbq : But pb wr wq) (hp : pb < wS.heap.size)
    (hown' : w5.ownsRow wS.heap.size 44 8 v' (ks.length + 1) (ts.flatMap SC.cells ++ stmtL x X cx T ct L cl)) (hgrow : (w4.alloc o).grownBy w5 v.ownBlock) (hat : v'.ownBlock = v.ownBlock ∨ v'.ownBlock = some (w4.heap.size + 1)) :
    BkAt E l pb A c w0 wS n es s1 k (ks ++ [x]) s3 v' w5 := by
  have hlow : ∀ i, v.ownBlock = some i → wS.heap.size ≤ i ∧ i < wr.heap.size := fun i hi => ownS_lt hown hi
  have hsr := hK.but.size
  have hs4 := hb4.size
  have hz : (w4.alloc o).heap.size = w4.heap.size + 1 := by simp
  have hgs := hgrow.size
  have hfar : ∀ i, i < w4.heap.size → v.ownBlock ≠ some i → w5.heap[i]? = w4.heap[i]? := fun i hi hn => (hgrow.block i (by omega) (fun e => hn e.symm)).trans (old_block _ _ hi)
  have hown4 : w4.ownsRow wS.heap.size 44 8 v ks.length (ts.flatMap SC.cells) := hb4.owns hown hp
  have hlo := h4.lo
  have hw0 := hK.pa.under
  have hkeep : KeepsIn (fun n => Apart wS.heap.size v n ∧ n < w4.heap.size) w4 w5 := fun a u hs hc => (World.cell?_of_block (hfar _ hs.2 (fun e => hs.1.2 e.symm))).trans hc
  refine ⟨hkn, hru, hs3, ?_, ?_, ⟨ts ++ [⟨x, X, cx, T, ct, L, cl⟩], ?_, by rw [List.map_append, hmap]; rfl, fun t ht => ?_⟩, ?_, fun he => ?_⟩
  · refine h4.move ⟨hgrow.os, hgrow.tape, hgrow.output, by omega⟩ (hfar pb h4.lt fun e => by have := (hlow _ e).1; omega) (fun i hi => ?_) (fun fb cs hf => ?_)
    · exact hfar i (by have := h4.under; omega) (fun e => by have := (hlow _ e).1; omega)
    · exact hfar fb (Array.getElem?_eq_some_iff.1 hf).1 (ownS_else hown4 hf fun cs' e => by injection e with _ e _; exact absurd e (by decide))
  · have hbS := hK.but.trans hb4
    exact ⟨hgrow.os.trans hbS.os, hgrow.tape.trans hbS.tape, hgrow.output.trans hbS.output, by omega, fun i hi hq => (hfar i (by omega) (fun e => by have := (hlow _ e).1; omega)).trans (hbS.block i hi hq)⟩
  · rw [List.length_append, List.length_singleton, List.flatMap_append, List.flatMap_singleton]
    exact hown'
  · rcases List.mem_append.1 ht with h | h
    · exact (((hets t h).keep (hb4.keepsIn fun i hi => by have := hi.1; omega) (fun _ h => h)).lt).keep hkeep (apart_own (w1 := w4) hat (by omega))
    · simp only [List.mem_singleton] at h
      subst h
      have hap : ∀ n, newA wq n → Apart wS.heap.size v n := fun n hn => by
        have h1 : wq.heap.size ≤ n := hn
        have h2 := hbq.size
        exact ⟨by omega, fun q => by have := (hlow _ q.symm).2; omega⟩
      exact SC.Ok.keep hkeep (apart_own (w1 := w4) hat (by omega)) (SC.Ok.lt (S := Apart wS.heap.size v) (hok.keep (Keeps.in (Keeps.refl _) _) hap))
  · have h1 := hK.cnt0 hse
    have h2 := hav.w.lo
    rw [List.length_append, List.length_singleton]
    omega
  · have h1 := hK.cnt0 hse
    have h2 := hav.adv he
    rw [List.length_append, List.length_singleton]
    omega
theorem bk_end {wS wr w5 : World} {es : List PStmt} {s2 : PSt} {ts : List SC} {B : Option Addr} {d : Nat} (h1 : es = ts.map (·.s)) (h2 : s' = s2.up) (hS : But pb w wS) (hb : But pb wS w5) (hrd : RdS wr (fun n => wS.heap.size ≤ n) (ts.map (·.s)) B) (hp : pb < wS.heap.size) (hr : wS.heap.size ≤ wr.heap.size) (hbr : But pb wr w5) (h5 : PaAt E l pb A c w0 s2 w5) :
    BlPost E l pb A c w0 es s' w (.returned (.slice B ts.length d)) (w5.setCell ⟨pb, 2, none⟩ (.int .i64 (s2.deep - 1))) := by
  subst h1; subst h2
  refine ⟨B, d, by rw [List.length_map], ?_, h5.setDeep (s2.deep - 1), (hS.trans hb).set 2 _⟩
  refine (hrd.keep (hbr.keepsIn fun k hk => by omega) (fun k hk => hk)).keep (keeps_store _ fun k hk => by have hk' : wS.heap.size ≤ k := hk; omega) fun k hk => ?_
  have hk' : wS.heap.size ≤ k := hk
  have := hS.size
  show w.heap.size ≤ k
  omega
set_option maxHeartbeats 16000000 in
set_option maxRecDepth 100000 in
theorem block_step (I : PaIn E l A w0) {n : Nat} (IH : ∀ m, m ≤ n → StI E l pb A c w0 m) {es : List PStmt} (hs : PStOk l s) (hf : blockF l (n + 1) s = some (es, s')) (h : PaAt E l pb A c w0 s w) :
    Calls Tryd.prog 28 #[.pointer (some ⟨pb, 0, none⟩)] w (BlPost E l pb A c w0 es s' w) := by
  have hlen := I.len
  obtain ⟨ti, hi, hz0, hz1, hz2⟩ := info_parts stmtInfoT
  have HH := Lib.hid h
  have HS := Lib.hid hs
  have HI := Lib.hid I
  have HIH := Lib.hid IH
  have HIS1 : Hid (Calls Tryd.prog 42 #[.pointer (some ⟨pb, 0, none⟩), .string ⟨#[123]⟩] w (fun e w2 => e = .returned (.bool (isP l s [123])) ∧ ∃ n, w2 = w.drewN n)) := is_lit I h [123]
  have hlt0 := h.lt
  clear I IH h hs
  rw [blockF] at hf
  cases hb : isP l s [123]
  · rw [hb] at HIS1 hf
    rw [if_neg (by decide)] at hf
    have HES : Hid (es = [] ∧ s' = failP s 1) := show _ ∧ _ by cases hf; exact ⟨rfl, rfl⟩
    have HFA : Hid (∀ n, Calls Tryd.prog 43 #[.pointer (some ⟨pb, 0, none⟩), .iface 135 (.pointer (some (E 0)))] (w.drewN n) (PaRet E l pb A c w0 (.tuple #[]) (failP s 1) (w.drewN n))) := fun n => fail_any HI.out (HH.out.drewN n) HS.out.hi (z := 1) (by decide) (by decide)
    have hg0 : w.cell? ⟨1, 0, none⟩ = some (.iface 135 (.pointer (some (E 0)))) := (HI.out.err HH.out.bel).c0
    clear hf hb hlt0
    go_enter Tryd.func28, Tryd.ntmps28
    go_wp2_with (first
      | (go_at_call 42; (with_reducible refine HIS1.out.mono ?_); rintro y w2 ⟨rfl, n2, rfl⟩)
      | (go_at_call 43; (with_reducible refine (HFA.out _).mono ?_); rintro y w2 ⟨rfl, h2, hb2⟩; have H2 := Lib.hid (And.intro h2 (((But.refl pb w).drewN _).trans hb2)); clear h2 hb2))
    go_ret
    rw [HES.out.1, HES.out.2]
    exact ⟨none, 0, rfl, RdS.nil _ _ _, H2.out.1, H2.out.2⟩
  · rw [hb] at HIS1 hf
    rw [if_pos rfl] at hf
    obtain ⟨hse, tk, htk, -, hpl, -⟩ := isP_some hb
    have HNE : Hid (∀ n, Calls Tryd.prog 44 #[.pointer (some ⟨pb, 0, none⟩)] (w.drewN n) (PaRet E l pb A c w0 (.bool (nestP s).err.isNone) (nestP s) (w.drewN n))) := fun n => nest_any HI.out (HH.out.drewN n) HS.out.hi ⟨HS.out.lo, by have := HS.out.top; omega⟩
    have hne := nestP_pos s
    by_cases hn : (nestP s).err.isNone = true
    · rw [if_pos hn] at hf
      rw [hn] at HNE
      cases hx : stmtsF l n [] (nestP s).step with
      | none => rw [hx] at hf; cases hf
      | some p =>
        obtain ⟨ss, s1⟩ := p
        rw [hx] at hf
        have hst : PStOk l (nestP s).step := by
          obtain ⟨-, h2, h3⟩ := nestP_ok (none_of hn)
          rw [h3]
          exact ⟨by show s.pos + 1 ≤ l.length; omega, by show 0 ≤ s.deep + 1; have := HS.out.lo; omega, by show s.deep + 1 ≤ 13; omega, fun _ => h2⟩
        have hs1 := hst.went ((adv_stmt l n).stmts [] _ ss s1 hst.hi hx)
        have HES : Hid (es = ss ∧ s' = (takeP l [125] s1).up) := show _ ∧ _ by cases hf; exact ⟨rfl, rfl⟩
        have HS1 := Lib.hid hs1
        have hs2 := hs1.went (takeP_went (x := [125]) hs1.hi)
        have hd1 := hs2.lo
        have hd2 := hs2.top
        have HTK : Hid (∀ w', PaAt E l pb A c w0 s1 w' → Calls Tryd.prog 24 #[.pointer (some ⟨pb, 0, none⟩), .string ⟨#[125]⟩] w' (PaRet E l pb A c w0 (.tuple #[]) (takeP l [125] s1) w')) := fun w' hw => take_lit HI.out hw hs1.hi [125]
        obtain ⟨s2, hs2e⟩ : ∃ s2, takeP l [125] s1 = s2 := ⟨_, rfl⟩
        rw [hs2e] at HTK HES hd1 hd2
        have HRUN := Lib.hid (And.intro hx hst)
        obtain ⟨pn, hpn⟩ : ∃ pn, nestP s = pn := ⟨_, rfl⟩
        rw [hpn] at HNE HRUN hne
        have hpos : (pn.pos : Int) ≤ 100000 := by omega
        have hwp : IntKind.i64.wrap ((pn.pos : Int) + 1) = (pn.pos : Int) + 1 := IntWalk.i64_in _ (by omega)
        clear hf hx hst hs1 hs2 hs2e hn hpn hb hse htk hpl hne
        go_enter Tryd.func28, Tryd.ntmps28
        go_upto_region 7 with (first
          | (go_at_call 42; (with_reducible refine HIS1.out.mono ?_); rintro y w2 ⟨rfl, n2, rfl⟩)
          | (go_at_call 44; (with_reducible refine (HNE.out _).mono ?_); rintro y w2 ⟨rfl, h2, hb2⟩; obtain ⟨v2, -, c1, -, -, -⟩ := h2.cells; have z1 := h2.frozen 1; have H2 := Lib.hid (And.intro h2 (((But.refl pb w).drewN _).trans hb2)); clear h2 hb2))
        go_upto_region 8 with fail
        obtain ⟨wS, hwS⟩ : ∃ wS, w2.setCell ⟨pb, 1, none⟩ (.int .i64 ((pn.pos : Int) + 1)) = wS := ⟨_, rfl⟩
        have hS : PaAt E l pb A c w0 pn.step wS := by rw [← hwS]; exact H2.out.1.setPos (pn.pos + 1)
        have hbS : But pb w wS := by rw [← hwS]; exact H2.out.2.set 1 _
        have hpS : pb < wS.heap.size := hS.lt
        have HWS := Lib.hid (And.intro hS (And.intro hbS hpS))
        rw [hwS]
        clear hwS hS hbS hpS c1 z1
        go_loopw [3] (fun v wr => ∃ k ks st, BkAt E l pb A c w0 wS n ss s1 k ks st v wr) (fun _ wr => (l.length - posOf pb wr) + errOf pb wr)
        case atStart => exact ⟨n, [], _, Nat.le_refl _, HRUN.out.1, HRUN.out.2, HWS.out.1, But.refl _ _, ⟨[], World.ownsRow_nil _ _ _ _, rfl, fun t ht => absurd ht List.not_mem_nil⟩, by simp, fun _ => by simp⟩
        case round =>
          clear HRUN
          obtain ⟨k, ks, st, hK⟩ := hrel
          have HK := Lib.hid hK
          have HPOS := Lib.hid hK.pa.pos
          have HISR : Hid (Calls Tryd.prog 42 #[.pointer (some ⟨pb, 0, none⟩), .string ⟨#[125]⟩] wr (fun e w2 => e = .returned (.bool (isP l st [125])) ∧ ∃ n, w2 = wr.drewN n)) := is_lit HI.out hK.pa [125]
          obtain ⟨v3, -, -, -, c3, hv⟩ := hK.pa.cells
          have hru := hK.run
          cases k with
          | zero => rw [stmtsF] at hru; cases hru
          | succ k =>
            rw [stmtsF] at hru
            by_cases hg : (st.err.isNone && !isP l st [125]) = true
            · rw [if_pos hg] at hru
              simp only [Bool.and_eq_true, Option.isNone_iff_eq_none, Bool.not_eq_true'] at hg
              obtain ⟨hse, hni⟩ := hg
              rw [hni] at HISR
              rw [hse] at hv
              have hv' : v3 = .nilIface := hv
              subst hv'
              cases hx : stmtF l k st with
              | none => rw [hx] at hru; cases hru
              | some p =>
                obtain ⟨x, s3⟩ := p
                rw [hx] at hru
                have hkn : k ≤ n := by have := hK.le; omega
                have hav := (adv_stmt l k).stmt st x s3 hK.ok.hi hse hx
                have hs3 := hK.ok.went hav.w
                have HST : Hid (∀ w', PaAt E l pb A c w0 st w' → Calls Tryd.prog 45 #[.pointer (some ⟨pb, 0, none⟩)] w' (StPost E l pb A c w0 x s3 w')) := fun w' hw => (HIH.out k hkn).stmt st x s3 w' hK.ok hse hx hw
                obtain ⟨ts, hown, hmap, hets⟩ := hK.row
                have hkl : ks.length ≤ 100000 := by have := hK.cnt0 hse; have := hK.ok.hi; omega
                have HRW := Lib.hid (And.intro hown (And.intro hmap hets))
                have HNX := Lib.hid (And.intro hru (And.intro hkn (And.intro hav hs3)))
                have HER := Lib.hid (hK.pa.errN hse)
                have HSE := Lib.hid hse
                obtain ⟨AK, cK, hvK⟩ := owns_slice hown
                subst hvK
                clear hru hx hav hs3 hown hmap hets hK hv hni hse
                go_upto_region 9 with (go_at_call 42; (with_reducible refine HISR.out.mono ?_); rintro y w2 ⟨rfl, n2, rfl⟩)
                obtain ⟨wq, hwq⟩ : ∃ wq, wr.drewN n2 = wq := ⟨_, rfl⟩
                have hpq : PaAt E l pb A c w0 st wq := by rw [← hwq]; exact HK.out.pa.drewN n2
                have hbq : But pb wr wq := by rw [← hwq]; exact (But.refl pb wr).drewN n2
                have HQ2 := Lib.hid (And.intro hpq hbq)
                rw [hwq]
                clear hwq hpq hbq c3
                go_wp2_with (first
                  | (go_at_call 45; (with_reducible refine (HST.out _ HQ2.out.1).mono ?_); rintro y w4 ⟨X, cx, T, ct, L, cl, rfl, hok, h4, hb4⟩; rw [show stV x X cx T ct L cl = .agg #[.string (mkB x.kind), .string (mkB x.name), .string (mkB x.e.kind), .int .i64 x.e.num, .string (mkB x.e.name), .slice X x.e.kids.length cx, .slice T x.th.length ct, .slice L x.el.length cl] from rfl]; have hO4 := (HQ2.out.2.trans hb4).owns HRW.out.1 HWS.out.2.2; have H4 := Lib.hid (And.intro hok (And.intro h4 (HQ2.out.2.trans hb4))); have HO4 := Lib.hid hO4; clear hok h4 hb4 hO4)
                  | (at_builtin; refine wpList_append_own_at _ rfl _ _ 37 rfl wS.heap.size 44 ti _ 8 144 Tryd.underlying37 hi hz0 hz1 hz2 rfl (by decide) _ _ _ rfl (HO4.out.alloc _) ⟨w4.heap.size, 0, none⟩ 1 1 (stmtL x X cx T ct L cl) rfl rfl ?c1 ?c2 ?c3 ?c4 ?c5 ?_))
                case c1 =>
                  intro i u hu
                  match i, hu with
                  | 0, hu => simp [stmtL] at hu; subst hu; simp [Addr.add]
                  | 1, hu => simp [stmtL] at hu; subst hu; simp [Addr.add]
                  | 2, hu => simp [stmtL] at hu; subst hu; simp [Addr.add]
                  | 3, hu => simp [stmtL] at hu; subst hu; simp [Addr.add]
                  | 4, hu => simp [stmtL] at hu; subst hu; simp [Addr.add]
                  | 5, hu => simp [stmtL] at hu; subst hu; simp [Addr.add]
                  | 6, hu => simp [stmtL] at hu; subst hu; simp [Addr.add]
                  | 7, hu => simp [stmtL] at hu; subst hu; simp [Addr.add]
                case c2 => intro u hu; simp [stmtL] at hu; rcases hu with rfl | rfl | rfl | rfl | rfl | rfl | rfl | rfl <;> rfl
                case c3 => unfold maxLen; omega
                case c4 => omega
                case c5 => have := HK.out.but.size; have := H4.out.2.2.size; simp; omega
                · intro v' w5 hown' hgrow _ hat
                  have HNW := Lib.hid (BkAt.next HK.out HRW.out.1 HRW.out.2.1 HRW.out.2.2 HSE.out HNX.out.1 HNX.out.2.1 HNX.out.2.2.1 HNX.out.2.2.2 H4.out.1 H4.out.2.1 H4.out.2.2 HQ2.out.2 HWS.out.2.2 hown' hgrow hat)
                  clear hown' hgrow hat
                  go_wp2_with fail
                  go_roundw
                  case rel => exact ⟨k, _, _, HNW.out⟩
                  case measure =>
                    have h1 := HNW.out.pa.pos
                    have h2 := HNX.out.2.2.1
                    have h3 := h2.w.hi
                    rw [h1, HPOS.out, HER.out]
                    cases he : s3.err with
                    | none =>
                      have h4 := h2.adv he
                      rw [HNW.out.pa.errN he]
                      omega
                    | some z =>
                      have h4 := h2.w.lo
                      rw [HNW.out.pa.errS (by rw [he]; simp)]
                      omega
            · rw [if_neg hg] at hru
              have hxs : ss = ks ∧ s1 = st := by cases hru; exact ⟨rfl, rfl⟩
              obtain ⟨rfl, rfl⟩ := hxs
              obtain ⟨ts, hown, hmap, hets⟩ := hK.row
              subst hmap
              rw [List.length_map] at hown
              obtain ⟨B, d, hvv, hrd⟩ := SC.row hown hets
              subst hvv
              have HRD := Lib.hid hrd
              have hgd : (∃ t, v3 = .iface 49 t) ∨ (v3 = .nilIface ∧ isP l s1 [125] = true) := by
                cases he : s1.err with
                | some p =>
                  rw [he] at hv
                  obtain ⟨-, -, fb, rfl, -⟩ := hv
                  exact .inl ⟨_, rfl⟩
                | none =>
                  rw [he] at hv
                  refine .inr ⟨hv, ?_⟩
                  rw [he] at hg
                  simpa using hg
              have HPA : Hid (∀ n, PaAt E l pb A c w0 s1 (wr.drewN n)) := fun n => hK.pa.drewN n
              have HBT := Lib.hid hK.but
              have HPA0 := Lib.hid hK.pa
              clear hru hg hown hets hrd hK hv
              rcases hgd with ⟨t, rfl⟩ | ⟨rfl, hb⟩
              · go_upto_region 11 with ((go_at_call 24; (with_reducible refine (HTK.out _ HPA0.out).mono ?_); rintro y w5 ⟨rfl, h5, hb5⟩; obtain ⟨v5, -, -, c5, -, -⟩ := h5.cells; have z5 := h5.frozen 2; have H5 := Lib.hid (And.intro h5 hb5); clear h5 hb5))
                go_upto_region 12 with fail
                go_wp2_with fail
                go_ret
                exact bk_end HES.out.1 HES.out.2 HWS.out.2.1 (HBT.out.trans H5.out.2) HRD.out HWS.out.2.2 HBT.out.size H5.out.2 H5.out.1
              · rw [hb] at HISR
                clear hb
                go_upto_region 11 with (first | (go_at_call 42; (with_reducible refine HISR.out.mono ?_); rintro y w2 ⟨rfl, n2, rfl⟩) | (go_at_call 24; (with_reducible refine (HTK.out _ (HPA.out n2)).mono ?_); rintro y w5 ⟨rfl, h5, hb5⟩; obtain ⟨v5, -, -, c5, -, -⟩ := h5.cells; have z5 := h5.frozen 2; have H5 := Lib.hid (And.intro h5 (((But.refl pb wr).drewN n2).trans hb5)); clear h5 hb5))
                go_upto_region 12 with fail
                go_wp2_with fail
                go_ret
                exact bk_end HES.out.1 HES.out.2 HWS.out.2.1 (HBT.out.trans H5.out.2) HRD.out HWS.out.2.2 HBT.out.size H5.out.2 H5.out.1
    · rw [if_neg hn] at hf
      rw [(Bool.not_eq_true _).mp hn] at HNE
      have HES : Hid (es = [] ∧ s' = nestP s) := show _ ∧ _ by cases hf; exact ⟨rfl, rfl⟩
      obtain ⟨pn, hpn⟩ : ∃ pn, nestP s = pn := ⟨_, rfl⟩
      rw [hpn] at HNE HES
      clear hf hb hlt0 hse htk hpl hne hn hpn
      go_enter Tryd.func28, Tryd.ntmps28
      go_wp2_with (first
        | (go_at_call 42; (with_reducible refine HIS1.out.mono ?_); rintro y w2 ⟨rfl, n2, rfl⟩)
        | (go_at_call 44; (with_reducible refine (HNE.out _).mono ?_); rintro y w2 ⟨rfl, h2, hb2⟩; have H2 := Lib.hid (And.intro h2 (((But.refl pb w).drewN _).trans hb2)); clear h2 hb2))
      go_ret
      rw [HES.out.1, HES.out.2]
      exact ⟨none, 0, rfl, RdS.nil _ _ _, H2.out.1, H2.out.2⟩
end
end Go.Proofs.YtpfgimohginbdaaDoor

namespace Go.Proofs.YtpfgimohginbdaaDoor
open Go.RowKit

/-! the parser: branches -/
section
variable {E : Nat → Addr} {l : List Tok} {pb : Nat} {A : Option Addr} {c : Nat} {w0 : World} {s s' : PSt} {w w' w1 : World}
/-- What holds of a statement's block under way. -/
structure SbAt (E : Nat → Addr) (l : List Tok) (pb : Nat) (A : Option Addr) (c : Nat) (w0 wA : World) (sb : Nat) (s : PSt) (x : PStmt) (X : Option Addr) (cx : Nat) (T : Option Addr) (ct : Nat) (L : Option Addr) (cl : Nat) (w : World) : Prop where
  pa : PaAt E l pb A c w0 s w
  but : But pb wA w
  row : w.heap[sb]? = some (.cells #[.string (mkB x.kind), .string (mkB x.name), .string (mkB x.e.kind), .int .i64 x.e.num, .string (mkB x.e.name), .slice X x.e.kids.length cx, .slice T x.th.length ct, .slice L x.el.length cl] 44 (0, 0))
  ok : (SC.mk x X cx T ct L cl).Ok w (fun n => wA.heap.size ≤ n ∧ n ≠ sb)
theorem SbAt.then {wA : World} {sb : Nat} {x : PStmt} {X : Option Addr} {cx : Nat} {T : Option Addr} {ct : Nat} {L : Option Addr} {cl : Nat} (h : SbAt E l pb A c w0 wA sb s x X cx T ct L cl w) (hpa : PaAt E l pb A c w0 s' w') (hb : But pb w w') (hp : pb < wA.heap.size) (hq : pb ≠ sb) : SbAt E l pb A c w0 wA sb s' x X cx T ct L cl w' :=
  ⟨hpa, h.but.trans hb, hb.row h.row (Ne.symm hq), h.ok.keep (hb.keepsIn fun k hk => by have := hk.1; omega) fun k hk => hk⟩
/-- A block of statements is stored as the first. -/
theorem SbAt.setT {wA w2 : World} {sb : Nat} {kd nm : List UInt8} {e : PExpr} {X : Option Addr} {cx : Nat} {B : Option Addr} {d : Nat} {th : List PStmt} (h : SbAt E l pb A c w0 wA sb s ⟨kd, nm, e, [], []⟩ X cx none 0 none 0 w) (hB : RdS w2 (newA w) th B) (h2 : PaAt E l pb A c w0 s' w2) (hb : But pb w w2) (hp : pb < wA.heap.size) (hq : pb < sb) (hw0 : w0.heap.size ≤ sb) (hsb : wA.heap.size ≤ sb) :
    SbAt E l pb A c w0 wA sb s' ⟨kd, nm, e, th, []⟩ X cx B d none 0 (w2.setCell ⟨sb, 6, none⟩ (.slice B th.length d)) := by
  have h1 := h.then h2 hb hp (by omega)
  have hst := h2.setS (j := 6) (u := .slice B th.length d) h1.row hw0
  have hlt := (Array.getElem?_eq_some_iff.1 h.row).1
  have hsz := h.but.size
  refine ⟨hst.1, h1.but.setHi hsb 6 _, hst.2, h1.ok.1, h1.ok.2.1.keep (keeps_store _ fun k hk => hk.2) fun k hk => hk, hB.keep (keeps_store _ fun k hk => ?_) fun k hk => ?_, RdS.nil _ _ _⟩
  · have hk' : w.heap.size ≤ k := hk
    omega
  · have hk' : w.heap.size ≤ k := hk
    omega
theorem SbAt.setL {wA w2 : World} {sb : Nat} {kd nm : List UInt8} {e : PExpr} {X : Option Addr} {cx : Nat} {T : Option Addr} {ct : Nat} {B : Option Addr} {d : Nat} {th el : List PStmt} (h : SbAt E l pb A c w0 wA sb s ⟨kd, nm, e, th, []⟩ X cx T ct none 0 w) (hB : RdS w2 (newA w) el B) (h2 : PaAt E l pb A c w0 s' w2) (hb : But pb w w2) (hp : pb < wA.heap.size) (hq : pb < sb) (hw0 : w0.heap.size ≤ sb) (hsb : wA.heap.size ≤ sb) :
    SbAt E l pb A c w0 wA sb s' ⟨kd, nm, e, th, el⟩ X cx T ct B d (w2.setCell ⟨sb, 7, none⟩ (.slice B el.length d)) := by
  have h1 := h.then h2 hb hp (by omega)
  have hst := h2.setS (j := 7) (u := .slice B el.length d) h1.row hw0
  have hlt := (Array.getElem?_eq_some_iff.1 h.row).1
  have hsz := h.but.size
  refine ⟨hst.1, h1.but.setHi hsb 7 _, hst.2, h1.ok.1, h1.ok.2.1.keep (keeps_store _ fun k hk => hk.2) fun k hk => hk, h1.ok.2.2.1.keep (keeps_store _ fun k hk => hk.2) fun k hk => hk, hB.keep (keeps_store _ fun k hk => ?_) fun k hk => ?_⟩
  · have hk' : w.heap.size ≤ k := hk
    omega
  · have hk' : w.heap.size ≤ k := hk
    omega
/-- The end. -/
theorem SbAt.fin {rb : Nat} {wA : World} {sb : Nat} {x : PStmt} {X : Option Addr} {cx : Nat} {T : Option Addr} {ct : Nat} {L : Option Addr} {cl : Nat} {cs : Array Value} (h : SbAt E l pb A c w0 wA sb s' x X cx T ct L cl w') (hBA : But pb w wA) (hrb : w.heap.size = rb) (hra : rb < wA.heap.size) (hr9 : w'.heap[rb]? = some (.cells cs 44 (0, 0))) (hlo : w0.heap.size ≤ rb) :
    StPost E l pb A c w0 x s' w (.returned (stV x X cx T ct L cl)) ((((((((w'.setCell ⟨rb, 0, none⟩ (.string (mkB x.kind))).setCell ⟨rb, 1, none⟩ (.string (mkB x.name))).setCell ⟨rb, 2, none⟩ (.string (mkB x.e.kind))).setCell ⟨rb, 3, none⟩ (.int .i64 x.e.num)).setCell ⟨rb, 4, none⟩ (.string (mkB x.e.name))).setCell ⟨rb, 5, none⟩ (.slice X x.e.kids.length cx)).setCell ⟨rb, 6, none⟩ (.slice T x.th.length ct)).setCell ⟨rb, 7, none⟩ (.slice L x.el.length cl)) :=
  st_end hBA hrb h.but hr9 hlo h.ok (fun n hn => by have := hn.1; omega) h.pa
set_option maxHeartbeats 8000000 in
set_option maxRecDepth 100000 in
theorem branch_step (I : PaIn E l A w0) (hN : NumOk l) {n : Nat} (IH : StI E l pb A c w0 n) {kind : List UInt8} {x : PStmt} (hs : PStOk l s) (hlt : s.pos < l.length) (he : s.err = none) (hf : branchF l (n + 1) kind s = some (x, s')) (h : PaAt E l pb A c w0 s w) :
    Calls Tryd.prog 56 #[.pointer (some ⟨pb, 0, none⟩), .string (mkB kind)] w (StPost E l pb A c w0 x s' w) := by
  have hlen := I.len
  obtain ⟨rb, hrb⟩ : ∃ rb, w.heap.size = rb := ⟨_, rfl⟩
  obtain ⟨wA, hwA⟩ : ∃ wA, w.alloc (.cells #[.string ⟨#[]⟩, .string ⟨#[]⟩, .string ⟨#[]⟩, .int .i64 0, .string ⟨#[]⟩, .slice none 0 0, .slice none 0 0, .slice none 0 0] 44) = wA := ⟨_, rfl⟩
  have hbA : Below w.heap.size w wA := by rw [← hwA]; exact grow_alloc (grow_refl _) _
  have hmA : wA.heap[rb]? = some (.cells #[.string ⟨#[]⟩, .string ⟨#[]⟩, .string ⟨#[]⟩, .int .i64 0, .string ⟨#[]⟩, .slice none 0 0, .slice none 0 0, .slice none 0 0] 44 (0, 0)) := by rw [← hwA, ← hrb]; exact heap_alloc_new w _
  have hA := h.keep hbA
  have hpr : pb < rb := by have := h.lt; omega
  have hlo : w0.heap.size ≤ rb := by have := h.under; omega
  have hra : rb < wA.heap.size := (Array.getElem?_eq_some_iff.1 hmA).1
  have HBA : Hid (But pb w wA) := But.of_below hbA
  have HR : Hid (∀ w', But pb wA w' → w'.heap[rb]? = some (.cells #[.string ⟨#[]⟩, .string ⟨#[]⟩, .string ⟨#[]⟩, .int .i64 0, .string ⟨#[]⟩, .slice none 0 0, .slice none 0 0, .slice none 0 0] 44 (0, 0))) := fun w' hb => hb.row hmA (by omega)
  have HWA := Lib.hid (And.intro hwA hrb)
  have HPL := Lib.hid (And.intro hpr (And.intro hlo hra))
  have HA := Lib.hid hA
  have hst : PStOk l s.step := hs.went (went_step hlt he)
  rw [branchF] at hf
  cases hx : exprF l n 0 s.step with
  | none => rw [hx] at hf; cases hf
  | some p =>
    obtain ⟨e, s1⟩ := p
    rw [hx] at hf
    dsimp only at hf
    have hs1 := hst.went ((went_expr l n).expr 0 _ e s1 hst.hi hx)
    have HEX : Hid (∀ w', PaAt E l pb A c w0 s.step w' → Calls Tryd.prog 57 #[.pointer (some ⟨pb, 0, none⟩), .int .i64 0] w' (ExPost E l pb A c w0 e s1 w')) := fun w' hw => expr_any I hN hst hx hw
    cases hy : blockF l n s1 with
    | none => rw [hy] at hf; cases hf
    | some p =>
      obtain ⟨th, s2⟩ := p
      rw [hy] at hf
      dsimp only at hf
      have hs2 := hs1.went ((adv_stmt l n).block _ th s2 hs1.hi hy)
      have HBL : Hid (∀ w', PaAt E l pb A c w0 s1 w' → Calls Tryd.prog 28 #[.pointer (some ⟨pb, 0, none⟩)] w' (BlPost E l pb A c w0 th s2 w')) := fun w' hw => IH.block s1 th s2 w' hs1 hy hw
      have HIS : Hid (∀ w', PaAt E l pb A c w0 s2 w' → Calls Tryd.prog 42 #[.pointer (some ⟨pb, 0, none⟩), .string ⟨#[101, 108, 115, 101]⟩] w' (fun e w2 => e = .returned (.bool (isP l s2 zElse)) ∧ ∃ n, w2 = w'.drewN n)) := fun w' hw => is_lit I hw zElse
      have HF := Lib.hid (And.intro hf hs2)
      have HIH := Lib.hid IH
      obtain ⟨Q, hQ⟩ : ∃ Q, StPost E l pb A c w0 x s' w = Q := ⟨_, rfl⟩
      have HQ := Lib.hid hQ
      rw [hQ]
      have hpi : (s.pos : Int) ≤ 100000 := by omega
      have hwp : IntKind.i64.wrap ((s.pos : Int) + 1) = (s.pos : Int) + 1 := IntWalk.i64_in _ (by omega)
      obtain ⟨vA, -, c1, -, -, -⟩ := hA.cells
      have z1 := hA.frozen 1
      obtain ⟨bk, hbk⟩ : ∃ bk, (kind == zIf) = bk := ⟨_, rfl⟩
      have hkd : ((mkB kind).toList == [105, 102]) = bk := by rw [mkB_toList, ← hbk]; rfl
      have HKB := Lib.hid hbk
      clear hf hx hy hs hst hs1 hs2 hlt he h hA hbA hmA hwA hrb hQ hpr hlo hra I hN IH hbk
      go_enter Tryd.func56, Tryd.ntmps56
      go_upto_region 1 with fail
      rw [HWA.out.1, HWA.out.2]
      go_upto_region 2 with fail
      obtain ⟨w2, hw2⟩ : ∃ w2, wA.setCell ⟨pb, 1, none⟩ (.int .i64 ((s.pos : Int) + 1)) = w2 := ⟨_, rfl⟩
      have h2 : PaAt E l pb A c w0 s.step w2 := by rw [← hw2]; exact HA.out.setPos (s.pos + 1)
      have hb2 : But pb wA w2 := by rw [← hw2]; exact (But.refl pb wA).set 1 _
      have H2 := Lib.hid (And.intro h2 hb2)
      rw [hw2]
      clear hw2 h2 hb2 c1 z1
      go_upto_region 3 with (go_at_call 57; (with_reducible refine (HEX.out _ H2.out.1).mono ?_); rintro y w3 ⟨B, d, rfl, hB, hM, h3, hb3⟩; rw [show exV e B d = .agg #[.string (mkB e.kind), .int .i64 e.num, .string (mkB e.name), .slice B e.kids.length d] from rfl]; have H3 := Lib.hid (And.intro hB (And.intro hM (And.intro h3 (H2.out.2.trans hb3)))); clear hB hM h3 hb3)
      obtain ⟨sb, hsb⟩ : ∃ sb, w3.heap.size = sb := ⟨_, rfl⟩
      obtain ⟨w4, hw4⟩ : ∃ w4, w3.alloc (.cells #[.string (mkB kind), .string ⟨#[]⟩, .string (mkB e.kind), .int .i64 e.num, .string (mkB e.name), .slice B e.kids.length d, .slice none 0 0, .slice none 0 0] 44) = w4 := ⟨_, rfl⟩
      have hm4 : w4.heap[sb]? = some (.cells #[.string (mkB kind), .string ⟨#[]⟩, .string (mkB e.kind), .int .i64 e.num, .string (mkB e.name), .slice B e.kids.length d, .slice none 0 0, .slice none 0 0] 44 (0, 0)) := by rw [← hw4, ← hsb]; exact heap_alloc_new w3 _
      have hb4 : Below w3.heap.size w3 w4 := by rw [← hw4]; exact grow_alloc (grow_refl _) _
      have hAs : wA.heap.size ≤ sb := by have := H3.out.2.2.2.size; omega
      have hps : pb < sb := by have := HPL.out; omega
      have hlos : w0.heap.size ≤ sb := by have := HPL.out; omega
      have hpA : pb < wA.heap.size := by have := HPL.out; omega
      have h2A := H2.out.2.size
      have hS4 : SbAt E l pb A c w0 wA sb s1 ⟨kind, [], e, [], []⟩ B d none 0 none 0 w4 := ⟨H3.out.2.2.1.keep hb4, H3.out.2.2.2.trans (But.of_below hb4), hm4, H3.out.2.1, H3.out.1.lt.keep ((Keeps.of_below hb4).in _) (fun k hk => ⟨by have hk' : w2.heap.size ≤ k := hk.1; omega, by have hk' : k < w3.heap.size := hk.2; omega⟩), RdS.nil _ _ _, RdS.nil _ _ _⟩
      have HS4 := Lib.hid hS4
      have HSB := Lib.hid (And.intro hAs (And.intro hps (And.intro hlos hpA)))
      rw [hsb, hw4]
      clear hw4 hsb hm4 hb4 hS4 h2A hAs hps hlos hpA
      go_upto_region 4 with (go_at_call 28; (with_reducible refine (HBL.out _ HS4.out.pa).mono ?_); rintro y w5 ⟨T, ct, rfl, hT, h5, hb5⟩; have hS5 := HS4.out.then h5 hb5 HSB.out.2.2.2 (Nat.ne_of_lt HSB.out.2.1); obtain ⟨a0, a1, a2, a3, a4, a5, a6, a7⟩ := row8T hS5.row; have z6 := row_frozen hS5.row 6; have H5 := Lib.hid (And.intro hT (And.intro h5 hb5)); clear hT h5 hb5 hS5)
      obtain ⟨w6, hw6⟩ : ∃ w6, w5.setCell ⟨sb, 6, none⟩ (.slice T th.length ct) = w6 := ⟨_, rfl⟩
      have hS6 := HS4.out.setT (d := ct) H5.out.1 H5.out.2.1 H5.out.2.2 HSB.out.2.2.2 HSB.out.2.1 HSB.out.2.2.1 HSB.out.1
      rw [hw6] at hS6
      rw [hw6]
      have HS6 := Lib.hid hS6
      clear hw6 hS6 a0 a1 a2 a3 a4 a5 a6 a7 z6
      have hf := HF.out.1
      cases bk
      · rw [HKB.out, Bool.false_and, if_neg (by decide)] at hf
        have HES : Hid (x = ⟨kind, [], e, th, []⟩ ∧ s' = s2) := show _ ∧ _ by cases hf; exact ⟨rfl, rfl⟩
        clear hf
        go_upto_region 7 with fail
        obtain ⟨a0, a1, a2, a3, a4, a5, a6, a7⟩ := row8T HS6.out.row
        have hr7 := HR.out w6 HS6.out.but
        obtain ⟨r0, r1, r2, r3, r4, r5, r6, r7⟩ := row8T hr7
        have y0 := row_frozen hr7 0
        have y1 := row_frozen hr7 1
        have y2 := row_frozen hr7 2
        have y3 := row_frozen hr7 3
        have y4 := row_frozen hr7 4
        have y5 := row_frozen hr7 5
        have y6 := row_frozen hr7 6
        have y7 := row_frozen hr7 7
        have HR7 := Lib.hid hr7
        clear hr7
        go_wp2_with fail
        obtain ⟨u0, u1, u2, u3, u4, u5, u6, u7⟩ := row8T (set8T (v0 := .string (mkB kind)) (v1 := .string (mkB [])) (v2 := .string (mkB e.kind)) (v3 := .int .i64 e.num) (v4 := .string (mkB e.name)) (v5 := .slice B e.kids.length d) (v6 := .slice T th.length ct) (v7 := .slice none 0 0) HR7.out)
        refine bodyPost_ret (v := stV ⟨kind, [], e, th, []⟩ B d T ct none 0) (by simp [results, Tryd.results56, go_sem, u0, u1, u2, u3, u4, u5, u6, u7]; try rfl) rfl ?_
        rw [← HQ.out, HES.out.1, HES.out.2]
        exact SbAt.fin (x := ⟨kind, [], e, th, []⟩) HS6.out HBA.out HWA.out.2 HPL.out.2.2 HR7.out HPL.out.2.1
      · rw [HKB.out, Bool.true_and] at hf
        cases hb : isP l s2 zElse
        · rw [hb, if_neg (by decide)] at hf
          rw [hb] at HIS
          have HES : Hid (x = ⟨kind, [], e, th, []⟩ ∧ s' = s2) := show _ ∧ _ by cases hf; exact ⟨rfl, rfl⟩
          clear hf hb
          go_upto_region 7 with (go_at_call 42; (with_reducible refine (HIS.out _ HS6.out.pa).mono ?_); rintro y w7 ⟨rfl, n7, rfl⟩)
          obtain ⟨w7, hw7⟩ : ∃ w7, w6.drewN n7 = w7 := ⟨_, rfl⟩
          have HS7 : Hid (SbAt E l pb A c w0 wA sb s2 ⟨kind, [], e, th, []⟩ B d T ct none 0 w7) := by rw [← hw7]; exact HS6.out.then (HS6.out.pa.drewN n7) ((But.refl pb w6).drewN n7) HSB.out.2.2.2 (Nat.ne_of_lt HSB.out.2.1)
          rw [hw7]
          clear hw7
          obtain ⟨a0, a1, a2, a3, a4, a5, a6, a7⟩ := row8T HS7.out.row
          have hr7 := HR.out w7 HS7.out.but
          obtain ⟨r0, r1, r2, r3, r4, r5, r6, r7⟩ := row8T hr7
          have y0 := row_frozen hr7 0
          have y1 := row_frozen hr7 1
          have y2 := row_frozen hr7 2
          have y3 := row_frozen hr7 3
          have y4 := row_frozen hr7 4
          have y5 := row_frozen hr7 5
          have y6 := row_frozen hr7 6
          have y7 := row_frozen hr7 7
          have HR7 := Lib.hid hr7
          clear hr7
          go_wp2_with fail
          obtain ⟨u0, u1, u2, u3, u4, u5, u6, u7⟩ := row8T (set8T (v0 := .string (mkB kind)) (v1 := .string (mkB [])) (v2 := .string (mkB e.kind)) (v3 := .int .i64 e.num) (v4 := .string (mkB e.name)) (v5 := .slice B e.kids.length d) (v6 := .slice T th.length ct) (v7 := .slice none 0 0) HR7.out)
          refine bodyPost_ret (v := stV ⟨kind, [], e, th, []⟩ B d T ct none 0) (by simp [results, Tryd.results56, go_sem, u0, u1, u2, u3, u4, u5, u6, u7]; try rfl) rfl ?_
          rw [← HQ.out, HES.out.1, HES.out.2]
          exact SbAt.fin (x := ⟨kind, [], e, th, []⟩) HS7.out HBA.out HWA.out.2 HPL.out.2.2 HR7.out HPL.out.2.1
        · rw [hb, if_pos rfl] at hf
          rw [hb] at HIS
          obtain ⟨hse, t, htk, -, hpl, -⟩ := isP_some hb
          have hst2 : PStOk l s2.step := HF.out.2.went (went_step hpl hse)
          cases hz : blockF l n s2.step with
          | none => rw [hz] at hf; cases hf
          | some p =>
            obtain ⟨el, s3⟩ := p
            rw [hz] at hf
            have HES : Hid (x = ⟨kind, [], e, th, el⟩ ∧ s' = s3) := show _ ∧ _ by cases hf; exact ⟨rfl, rfl⟩
            have HB2 : Hid (∀ w', PaAt E l pb A c w0 s2.step w' → Calls Tryd.prog 28 #[.pointer (some ⟨pb, 0, none⟩)] w' (BlPost E l pb A c w0 el s3 w')) := fun w' hw => HIH.out.block _ el s3 w' hst2 hz hw
            have hpi2 : (s2.pos : Int) ≤ 100000 := by omega
            have hwp2 : IntKind.i64.wrap ((s2.pos : Int) + 1) = (s2.pos : Int) + 1 := IntWalk.i64_in _ (by omega)
            obtain ⟨v7, -, c7, -, -, -⟩ := HS6.out.pa.cells
            have z7 := HS6.out.pa.frozen 1
            clear hf hb hse htk hpl hst2 hz
            go_upto_region 5 with (go_at_call 42; (with_reducible refine (HIS.out _ HS6.out.pa).mono ?_); rintro y w7 ⟨rfl, n7, rfl⟩)
            have d1 : (w6.drewN n7).cell? ⟨pb, 1, none⟩ = some (.int .i64 (s2.pos : Nat)) := c7
            have dz : (w6.drewN n7).frozen? ⟨pb, 1, none⟩ = false := z7
            go_upto_region 6 with fail
            obtain ⟨w8, hw8⟩ : ∃ w8, (w6.drewN n7).setCell ⟨pb, 1, none⟩ (.int .i64 ((s2.pos : Int) + 1)) = w8 := ⟨_, rfl⟩
            have HS8 : Hid (SbAt E l pb A c w0 wA sb s2.step ⟨kind, [], e, th, []⟩ B d T ct none 0 w8) := by rw [← hw8]; exact HS6.out.then ((HS6.out.pa.drewN n7).setPos (s2.pos + 1)) (((But.refl pb w6).drewN n7).set 1 _) HSB.out.2.2.2 (Nat.ne_of_lt HSB.out.2.1)
            rw [hw8]
            clear hw8 d1 dz c7 z7
            go_upto_region 7 with (go_at_call 28; (with_reducible refine (HB2.out _ HS8.out.pa).mono ?_); rintro y w9 ⟨L, cl, rfl, hL, h9, hb9⟩; have hS9 := HS8.out.then h9 hb9 HSB.out.2.2.2 (Nat.ne_of_lt HSB.out.2.1); obtain ⟨a0, a1, a2, a3, a4, a5, a6, a7⟩ := row8T hS9.row; have x7 := row_frozen hS9.row 7; have H9 := Lib.hid (And.intro hL (And.intro h9 hb9)); clear hL h9 hb9 hS9)
            obtain ⟨w10, hw10⟩ : ∃ w10, w9.setCell ⟨sb, 7, none⟩ (.slice L el.length cl) = w10 := ⟨_, rfl⟩
            have hS10 := HS8.out.setL (d := cl) H9.out.1 H9.out.2.1 H9.out.2.2 HSB.out.2.2.2 HSB.out.2.1 HSB.out.2.2.1 HSB.out.1
            rw [hw10] at hS10
            rw [hw10]
            have HS10 := Lib.hid hS10
            clear hw10 hS10 a0 a1 a2 a3 a4 a5 a6 a7 x7
            obtain ⟨a0, a1, a2, a3, a4, a5, a6, a7⟩ := row8T HS10.out.row
            have hr7 := HR.out w10 HS10.out.but
            obtain ⟨r0, r1, r2, r3, r4, r5, r6, r7⟩ := row8T hr7
            have y0 := row_frozen hr7 0
            have y1 := row_frozen hr7 1
            have y2 := row_frozen hr7 2
            have y3 := row_frozen hr7 3
            have y4 := row_frozen hr7 4
            have y5 := row_frozen hr7 5
            have y6 := row_frozen hr7 6
            have y7 := row_frozen hr7 7
            have HR7 := Lib.hid hr7
            clear hr7
            go_wp2_with fail
            obtain ⟨u0, u1, u2, u3, u4, u5, u6, u7⟩ := row8T (set8T (v0 := .string (mkB kind)) (v1 := .string (mkB [])) (v2 := .string (mkB e.kind)) (v3 := .int .i64 e.num) (v4 := .string (mkB e.name)) (v5 := .slice B e.kids.length d) (v6 := .slice T th.length ct) (v7 := .slice L el.length cl) HR7.out)
            refine bodyPost_ret (v := stV ⟨kind, [], e, th, el⟩ B d T ct L cl) (by simp [results, Tryd.results56, go_sem, u0, u1, u2, u3, u4, u5, u6, u7]; try rfl) rfl ?_
            rw [← HQ.out, HES.out.1, HES.out.2]
            exact SbAt.fin (x := ⟨kind, [], e, th, el⟩) HS10.out HBA.out HWA.out.2 HPL.out.2.2 HR7.out HPL.out.2.1
end
end Go.Proofs.YtpfgimohginbdaaDoor

namespace Go.Proofs.YtpfgimohginbdaaDoor
open Go.RowKit

/-! the parser: statements -/
def brX (k : Nat) : List UInt8 := if k = 0 then zIf else zWhile
def tlX (k : Nat) : List UInt8 := if k = 0 then zReturn else zPrint
section
variable {E : Nat → Addr} {l : List Tok} {pb : Nat} {A : Option Addr} {c : Nat} {w0 : World} {s s' : PSt} {w w' w1 : World}
theorem tell_pick {n : Nat} {x : PStmt} {k : Nat} (h1 : isP l s zIf = false) (h2 : isP l s zWhile = false) (hk : k < 2) (hp : ∀ j, j < k → isP l s (tlX j) = false) (hb : isP l s (tlX k) = true) (hf : stmtF l (n + 1) s = some (x, s')) : tellF l n (tlX k) s = some (x, s') := by
  rw [stmtF, if_neg (by rw [h1]; decide), if_neg (by rw [h2]; decide)] at hf
  rcases (by omega : k = 0 ∨ k = 1) with rfl | rfl
  · rw [if_pos (show isP l s zReturn = true from hb)] at hf
    exact hf
  · rw [if_neg (by rw [show isP l s zReturn = false from hp 0 (by omega)]; decide), if_pos (show isP l s zPrint = true from hb)] at hf
    exact hf
theorem branch_pick {n : Nat} {x : PStmt} {k : Nat} (hk : k < 2) (hp : ∀ j, j < k → isP l s (brX j) = false) (hb : isP l s (brX k) = true) (hf : stmtF l (n + 1) s = some (x, s')) : branchF l n (brX k) s = some (x, s') := by
  rw [stmtF] at hf
  rcases (by omega : k = 0 ∨ k = 1) with rfl | rfl
  · rw [if_pos (show isP l s zIf = true from hb)] at hf
    exact hf
  · rw [if_neg (by rw [show isP l s zIf = false from hp 0 (by omega)]; decide), if_pos (show isP l s zWhile = true from hb)] at hf
    exact hf
theorem brX_or (k : Nat) : brX k = zIf ∨ brX k = zWhile := by unfold brX; split <;> simp
theorem hsz_alloc2 (w : World) (o : Obj) : (w.alloc o).heap.size = w.heap.size + 1 := by simp
theorem hsz_drewN (w : World) (n : Nat) : (w.drewN n).heap.size = w.heap.size := rfl
set_option maxHeartbeats 16000000 in
set_option maxRecDepth 100000 in
theorem stmt_step (I : PaIn E l A w0) (hN : NumOk l) {n : Nat} (IH : StI E l pb A c w0 n) {x : PStmt} (hs : PStOk l s) (he : s.err = none) (hf : stmtF l (n + 1) s = some (x, s')) (h : PaAt E l pb A c w0 s w) :
    Calls Tryd.prog 45 #[.pointer (some ⟨pb, 0, none⟩)] w (StPost E l pb A c w0 x s' w) := by
  have hlen := I.len
  obtain ⟨rb, hrb⟩ : ∃ rb, w.heap.size = rb := ⟨_, rfl⟩
  obtain ⟨wR, hwR⟩ : ∃ wR, w.alloc (.cells #[.string ⟨#[]⟩, .string ⟨#[]⟩, .string ⟨#[]⟩, .int .i64 0, .string ⟨#[]⟩, .slice none 0 0, .slice none 0 0, .slice none 0 0] 44) = wR := ⟨_, rfl⟩
  obtain ⟨wA, hwA⟩ : ∃ wA, wR.alloc (.cells #[.string ⟨#[105, 102]⟩, .string ⟨#[119, 104, 105, 108, 101]⟩] 9) = wA := ⟨_, rfl⟩
  have hzR : wR.heap.size = rb + 1 := by rw [← hwR, ← hrb]; simp
  have hbR : Below w.heap.size w wR := by rw [← hwR]; exact grow_alloc (grow_refl _) _
  have hbA1 : Below wR.heap.size wR wA := by rw [← hwA]; exact grow_alloc (grow_refl _) _
  have hbA : Below w.heap.size w wA := grow_trans hbR hbA1
  have hmR : wA.heap[rb]? = some (.cells #[.string ⟨#[]⟩, .string ⟨#[]⟩, .string ⟨#[]⟩, .int .i64 0, .string ⟨#[]⟩, .slice none 0 0, .slice none 0 0, .slice none 0 0] 44 (0, 0)) := (hbA1.block _ (by omega)).trans (by rw [← hwR, ← hrb]; exact heap_alloc_new w _)
  have hmA : wA.heap[rb + 1]? = some (.cells #[.string ⟨#[105, 102]⟩, .string ⟨#[119, 104, 105, 108, 101]⟩] 9 (0, 0)) := by rw [← hwA, ← hzR]; exact heap_alloc_new wR _
  have hA := h.keep hbA
  have hpr : pb < rb := by have := h.lt; omega
  have hlo : w0.heap.size ≤ rb := by have := h.under; omega
  have hra : rb + 1 < wA.heap.size := (Array.getElem?_eq_some_iff.1 hmA).1
  have HBA : Hid (But pb w wA) := But.of_below hbA
  have HR : Hid (∀ w', But pb wA w' → w'.heap[rb]? = some (.cells #[.string ⟨#[]⟩, .string ⟨#[]⟩, .string ⟨#[]⟩, .int .i64 0, .string ⟨#[]⟩, .slice none 0 0, .slice none 0 0, .slice none 0 0] 44 (0, 0))) := fun w' hb => hb.row hmR (by omega)
  have HRS : Hid (∀ w', But pb wA w' → w'.heap[rb + 1]? = some (.cells #[.string ⟨#[105, 102]⟩, .string ⟨#[119, 104, 105, 108, 101]⟩] 9 (0, 0))) := fun w' hb => hb.row hmA (by omega)
  have HWB := Lib.hid (And.intro hwR (And.intro hwA hzR))
  have HWA : Hid (True ∧ w.heap.size = rb) := And.intro trivial hrb
  have HPL := Lib.hid (And.intro hpr (And.intro hlo hra))
  have HA := Lib.hid hA
  have HS := Lib.hid (And.intro hs he)
  have HI := Lib.hid (And.intro I hN)
  have HIH := Lib.hid IH
  have HF := Lib.hid hf
  have HIS : Hid (∀ w' x, PaAt E l pb A c w0 s w' → Calls Tryd.prog 42 #[.pointer (some ⟨pb, 0, none⟩), .string (mkB x)] w' (fun e w2 => e = .returned (.bool (isP l s x)) ∧ ∃ n, w2 = w'.drewN n)) := fun w' x hw => is_lit I hw x
  obtain ⟨Q, hQ⟩ : ∃ Q, StPost E l pb A c w0 x s' w = Q := ⟨_, rfl⟩
  have HQ := Lib.hid hQ
  rw [hQ]
  clear hs h hA hbA hbA1 hbR hmA hmR hwA hwR hrb hzR I hN IH hf hQ hpr hlo hra he
  go_enter Tryd.func45, Tryd.ntmps45
  go_upto_region 1 with fail
  rw [HWB.out.1]
  go_upto_region 2 with fail
  rw [HWB.out.2.1, HWB.out.2.2]
  try rw [HWA.out.2]
  go_loopw [4, 10] (fun _ i wr => ∃ (k : Nat), k ≤ 2 ∧ i = .int .i64 k ∧ (∀ j, j < k → isP l s (brX j) = false) ∧ PaAt E l pb A c w0 s wr ∧ But pb wA wr) (fun _ i _ => 2 - (intOf i).toNat)
  case atStart => exact ⟨0, by omega, rfl, fun j hj => by omega, HA.out, But.refl _ _⟩
  case round =>
    obtain ⟨k, hk, rfl, hat, hpa, hbt⟩ := hrel
    have hsb := HRS.out wr hbt
    have HPA := Lib.hid hpa
    have HBT := Lib.hid hbt
    have HAT := Lib.hid hat
    have HSZ := Lib.hid hbt.size
    by_cases hlt : k < 2
    · have hlt' : (k : Int) < 2 := by omega
      have hk0 : (0 : Int) ≤ k := by omega
      have s0 : wr.cell? ⟨rb + 1, k, none⟩ = some (.string (mkB (brX k))) := by
        rcases (by omega : k = 0 ∨ k = 1) with rfl | rfl
        · exact cell_of_row _ _ 0 _ _ _ hsb
        · exact cell_of_row _ _ 1 _ _ _ hsb
      have HISK := Lib.hid (HIS.out wr (brX k) hpa)
      have HBR : Hid (∀ n', isP l s (brX k) = true → Calls Tryd.prog 56 #[.pointer (some ⟨pb, 0, none⟩), .string (mkB (brX k))] (wr.drewN n') (StPost E l pb A c w0 x s' (wr.drewN n'))) := fun n' hb => by
        obtain ⟨-, tk, -, -, hpl, -⟩ := isP_some hb
        exact HIH.out.branch _ s x s' _ (brX_or k) HS.out.1 hpl HS.out.2 (branch_pick hlt HAT.out hb HF.out) (HPA.out.drewN n')
      obtain ⟨xk, hxk⟩ : ∃ x, mkB (brX k) = x := ⟨_, rfl⟩
      rw [hxk] at s0 HISK HBR
      clear hsb hpa hbt hat hxk
      cases hb : isP l s (brX k)
      · rw [hb] at HISK
        have HN : Hid (∀ j, j < k + 1 → isP l s (brX j) = false) := fun j hj => by
          by_cases hj2 : j < k
          · exact HAT.out j hj2
          · rw [show j = k by omega]; exact hb
        clear hb HBR
        go_wp2_with (go_at_call 42; (with_reducible refine HISK.out.mono ?_); rintro y w2 ⟨rfl, n2, rfl⟩)
        go_roundw
        case rel => exact ⟨k + 1, by omega, by go_num, HN.out, HPA.out.drewN n2, HBT.out.drewN n2⟩
        case measure => simp [intOf]; omega
      · rw [hb] at HISK
        have HBR2 := Lib.hid (fun n' => HBR.out n' hb)
        clear hb HBR
        go_wp2_with (first
          | (go_at_call 42; (with_reducible refine HISK.out.mono ?_); rintro y w2 ⟨rfl, n2, rfl⟩)
          | (go_at_call 56; (with_reducible refine (HBR2.out n2).mono ?_); rintro y w4 ⟨X, cx, T, ct, L, cl, rfl, hok, h4, hb4⟩; rw [show stV x X cx T ct L cl = .agg #[.string (mkB x.kind), .string (mkB x.name), .string (mkB x.e.kind), .int .i64 x.e.num, .string (mkB x.e.name), .slice X x.e.kids.length cx, .slice T x.th.length ct, .slice L x.el.length cl] from rfl]; have hb9 := (HBT.out.drewN n2).trans hb4; have hr := HR.out w4 hb9; obtain ⟨r0, r1, r2, r3, r4, r5, r6, r7⟩ := row8T hr; have y0 := row_frozen hr 0; have y1 := row_frozen hr 1; have y2 := row_frozen hr 2; have y3 := row_frozen hr 3; have y4 := row_frozen hr 4; have y5 := row_frozen hr 5; have y6 := row_frozen hr 6; have y7 := row_frozen hr 7; have H4 := Lib.hid (And.intro hok (And.intro h4 (And.intro hb9 hr))); clear hok h4 hb4 hb9 hr))
        obtain ⟨u0, u1, u2, u3, u4, u5, u6, u7⟩ := row8T (set8T (v0 := .string (mkB x.kind)) (v1 := .string (mkB x.name)) (v2 := .string (mkB x.e.kind)) (v3 := .int .i64 x.e.num) (v4 := .string (mkB x.e.name)) (v5 := .slice X x.e.kids.length cx) (v6 := .slice T x.th.length ct) (v7 := .slice L x.el.length cl) H4.out.2.2.2)
        refine bodyPost_ret (v := stV x X cx T ct L cl) (by simp [results, Tryd.results45, go_sem, u0, u1, u2, u3, u4, u5, u6, u7]; try rfl) rfl ?_
        rw [← HQ.out]
        exact st_end HBA.out HWA.out.2 H4.out.2.2.1 H4.out.2.2.2 HPL.out.2.1 H4.out.1 (fun k hk => by have hk' : _ ≤ k := hk; have := HPL.out.2.2; have := HSZ.out; (try simp only [hsz_alloc2, hsz_drewN] at hk'); omega) H4.out.2.1
    · have hk2 : k = 2 := by omega
      subst hk2
      have HB0 : Hid (isP l s zIf = false) := HAT.out 0 (by omega)
      have HB1 : Hid (isP l s zWhile = false) := HAT.out 1 (by omega)
      clear hsb hpa hbt hat hlt hk HAT
      go_upto_region 8 with fail
      obtain ⟨tb, htb⟩ : ∃ tb, wr.heap.size = tb := ⟨_, rfl⟩
      obtain ⟨wT, hwT⟩ : ∃ wT, wr.alloc (.cells #[.string ⟨#[114, 101, 116, 117, 114, 110]⟩, .string ⟨#[112, 114, 105, 110, 116]⟩] 9) = wT := ⟨_, rfl⟩
      have hbT : Below wr.heap.size wr wT := by rw [← hwT]; exact grow_alloc (grow_refl _) _
      have hmT : wT.heap[tb]? = some (.cells #[.string ⟨#[114, 101, 116, 117, 114, 110]⟩, .string ⟨#[112, 114, 105, 110, 116]⟩] 9 (0, 0)) := by rw [← hwT, ← htb]; exact heap_alloc_new wr _
      have hpt : pb < tb := by have := HPA.out.lt; omega
      have HPT : Hid (PaAt E l pb A c w0 s wT) := HPA.out.keep hbT
      have HBTT : Hid (But pb wA wT) := HBT.out.trans (But.of_below hbT)
      have HRT : Hid (∀ w', But pb wT w' → w'.heap[tb]? = some (.cells #[.string ⟨#[114, 101, 116, 117, 114, 110]⟩, .string ⟨#[112, 114, 105, 110, 116]⟩] 9 (0, 0))) := fun w' hb => hb.row hmT (by omega)
      rw [htb, hwT]
      clear hwT htb hbT hmT hpt HSZ
      go_loopw [6, 7, 23] (fun _ _ i wr => ∃ (k : Nat), k ≤ 2 ∧ i = .int .i64 k ∧ (∀ j, j < k → isP l s (tlX j) = false) ∧ PaAt E l pb A c w0 s wr ∧ But pb wT wr) (fun _ _ i _ => 2 - (intOf i).toNat)
      case atStart => exact ⟨0, by omega, rfl, fun j hj => by omega, HPT.out, But.refl _ _⟩
      case round =>
        obtain ⟨k, hk, rfl, hat, hpa, hbt⟩ := hrel
        have hsb := HRT.out _ hbt
        have HPA := Lib.hid hpa
        have HBT := Lib.hid hbt
        have HAT := Lib.hid hat
        have HBA2 := Lib.hid (HBTT.out.trans hbt)
        have HSZ := Lib.hid HBA2.out.size
        by_cases hlt : k < 2
        · have hlt' : (k : Int) < 2 := by omega
          have hk0 : (0 : Int) ≤ k := by omega
          have s0 : wr.cell? ⟨tb, k, none⟩ = some (.string (mkB (tlX k))) := by
            rcases (by omega : k = 0 ∨ k = 1) with rfl | rfl
            · exact cell_of_row _ _ 0 _ _ _ hsb
            · exact cell_of_row _ _ 1 _ _ _ hsb
          have HISK := Lib.hid (HIS.out wr (tlX k) hpa)
          obtain ⟨xk, hxk⟩ : ∃ x, mkB (tlX k) = x := ⟨_, rfl⟩
          rw [hxk] at s0 HISK
          have HXK := Lib.hid hxk
          clear hsb hpa hbt hat hxk
          cases hb : isP l s (tlX k)
          · rw [hb] at HISK
            have HN : Hid (∀ j, j < k + 1 → isP l s (tlX j) = false) := fun j hj => by
              by_cases hj2 : j < k
              · exact HAT.out j hj2
              · rw [show j = k by omega]; exact hb
            clear hb
            go_wp2_with (go_at_call 42; (with_reducible refine HISK.out.mono ?_); rintro y w2 ⟨rfl, n2, rfl⟩)
            go_roundw
            case rel =>
              refine ⟨_, _, _, _, _, _, _, _, _, _, _, _, _, _, _, _, _, _, _, _, _, _, _, _, ?_, rfl⟩
              exact ⟨k + 1, by omega, by go_num, HN.out, HPA.out.drewN n2, HBT.out.drewN n2⟩
            case measure => simp [intOf]; omega
          · rw [hb] at HISK
            have ht := tell_pick HB0.out HB1.out hlt HAT.out hb HF.out
            obtain ⟨-, tk, -, -, hpl, -⟩ := isP_some hb
            have hst : PStOk l s.step := HS.out.1.went (went_step hpl HS.out.2)
            unfold tellF at ht
            cases hx : exprF l n 0 s.step with
            | none => rw [hx] at ht; cases ht
            | some p =>
              obtain ⟨e, s1⟩ := p
              rw [hx] at ht
              dsimp only at ht
              have hs1 := hst.went ((went_expr l n).expr 0 _ e s1 hst.hi hx)
              have HES : Hid (x = ⟨tlX k, [], e, [], []⟩ ∧ s' = takeP l [59] s1) := show _ ∧ _ by cases ht; exact ⟨rfl, rfl⟩
              have HEX : Hid (∀ w', PaAt E l pb A c w0 s.step w' → Calls Tryd.prog 57 #[.pointer (some ⟨pb, 0, none⟩), .int .i64 0] w' (ExPost E l pb A c w0 e s1 w')) := fun w' hw => expr_any HI.out.1 HI.out.2 hst hx hw
              have HTK : Hid (∀ w', PaAt E l pb A c w0 s1 w' → Calls Tryd.prog 24 #[.pointer (some ⟨pb, 0, none⟩), .string ⟨#[59]⟩] w' (PaRet E l pb A c w0 (.tuple #[]) (takeP l [59] s1) w')) := fun w' hw => take_lit HI.out.1 hw hs1.hi [59]
              have hpi : (s.pos : Int) ≤ 100000 := by omega
              have hwp : IntKind.i64.wrap ((s.pos : Int) + 1) = (s.pos : Int) + 1 := IntWalk.i64_in _ (by omega)
              obtain ⟨s2, hs2⟩ : ∃ s2, takeP l [59] s1 = s2 := ⟨_, rfl⟩
              rw [hs2] at HES HTK
              obtain ⟨vz, -, cz, -, -, -⟩ := HPA.out.cells
              have zz := HPA.out.frozen 1
              clear ht hx hst hs1 hs2 hb hpl
              go_upto_region 11 with (go_at_call 42; (with_reducible refine HISK.out.mono ?_); rintro y w2 ⟨rfl, n2, rfl⟩)
              have d1 : (wr.drewN n2).cell? ⟨pb, 1, none⟩ = some (.int .i64 (s.pos : Nat)) := cz
              have dz : (wr.drewN n2).frozen? ⟨pb, 1, none⟩ = false := zz
              go_upto_region 12 with fail
              obtain ⟨w3, hw3⟩ : ∃ w3, (wr.drewN n2).setCell ⟨pb, 1, none⟩ (.int .i64 ((s.pos : Int) + 1)) = w3 := ⟨_, rfl⟩
              have h3 : PaAt E l pb A c w0 s.step w3 := by rw [← hw3]; exact (HPA.out.drewN n2).setPos (s.pos + 1)
              have hb3 : But pb wA w3 := by rw [← hw3]; exact (HBA2.out.drewN n2).set 1 _
              have H3 := Lib.hid (And.intro h3 hb3)
              rw [hw3]
              clear hw3 h3 hb3 d1 dz cz zz
              go_upto_region 13 with (go_at_call 57; (with_reducible refine (HEX.out _ H3.out.1).mono ?_); rintro y w4 ⟨B, d, rfl, hB, hM, h4, hb4⟩; rw [show exV e B d = .agg #[.string (mkB e.kind), .int .i64 e.num, .string (mkB e.name), .slice B e.kids.length d] from rfl]; have H4 := Lib.hid (And.intro hB (And.intro hM (And.intro h4 (H3.out.2.trans hb4)))); clear hB hM h4 hb4)
              obtain ⟨sb, hsb⟩ : ∃ sb, w4.heap.size = sb := ⟨_, rfl⟩
              obtain ⟨w5, hw5⟩ : ∃ w5, w4.alloc (.cells #[.string xk, .string ⟨#[]⟩, .string (mkB e.kind), .int .i64 e.num, .string (mkB e.name), .slice B e.kids.length d, .slice none 0 0, .slice none 0 0] 44) = w5 := ⟨_, rfl⟩
              have hm5 : w5.heap[sb]? = some (.cells #[.string xk, .string ⟨#[]⟩, .string (mkB e.kind), .int .i64 e.num, .string (mkB e.name), .slice B e.kids.length d, .slice none 0 0, .slice none 0 0] 44 (0, 0)) := by rw [← hw5, ← hsb]; exact heap_alloc_new w4 _
              have hb5 : Below w4.heap.size w4 w5 := by rw [← hw5]; exact grow_alloc (grow_refl _) _
              have hAs : wA.heap.size ≤ sb := by have := H4.out.2.2.2.size; omega
              have hps : pb < sb := by have := HPL.out; omega
              have hlos : w0.heap.size ≤ sb := by have := HPL.out; omega
              have hpA : pb < wA.heap.size := by have := HPL.out; omega
              have h3A := H3.out.2.size
              have hS5 : SbAt E l pb A c w0 wA sb s1 ⟨tlX k, [], e, [], []⟩ B d none 0 none 0 w5 := ⟨H4.out.2.2.1.keep hb5, H4.out.2.2.2.trans (But.of_below hb5), by show _ = some (Obj.cells #[.string (mkB (tlX k)), _, _, _, _, _, _, _] _ _); rw [HXK.out]; exact hm5, H4.out.2.1, H4.out.1.lt.keep ((Keeps.of_below hb5).in _) (fun k hk => ⟨by have hk' : w3.heap.size ≤ k := hk.1; omega, by have hk' : k < w4.heap.size := hk.2; omega⟩), RdS.nil _ _ _, RdS.nil _ _ _⟩
              have HS5 := Lib.hid hS5
              have HSB := Lib.hid (And.intro hAs (And.intro hps (And.intro hlos hpA)))
              rw [hsb, hw5]
              clear hw5 hsb hm5 hb5 hS5 h3A hAs hps hlos hpA
              go_wp2_with (go_at_call 24; (with_reducible refine (HTK.out _ HS5.out.pa).mono ?_); rintro y w6 ⟨rfl, h6, hb6⟩; have hS6 := HS5.out.then h6 hb6 HSB.out.2.2.2 (Nat.ne_of_lt HSB.out.2.1); obtain ⟨a0, a1, a2, a3, a4, a5, a6, a7⟩ := row8T hS6.row; have hr := HR.out w6 hS6.but; obtain ⟨r0, r1, r2, r3, r4, r5, r6, r7⟩ := row8T hr; have y0 := row_frozen hr 0; have y1 := row_frozen hr 1; have y2 := row_frozen hr 2; have y3 := row_frozen hr 3; have y4 := row_frozen hr 4; have y5 := row_frozen hr 5; have y6 := row_frozen hr 6; have y7 := row_frozen hr 7; have HS6 := Lib.hid (And.intro hS6 hr); clear h6 hb6 hS6 hr)
              obtain ⟨u0, u1, u2, u3, u4, u5, u6, u7⟩ := row8T (set8T (v0 := .string (mkB (tlX k))) (v1 := .string (mkB [])) (v2 := .string (mkB e.kind)) (v3 := .int .i64 e.num) (v4 := .string (mkB e.name)) (v5 := .slice B e.kids.length d) (v6 := .slice none 0 0) (v7 := .slice none 0 0) HS6.out.2)
              refine bodyPost_ret (v := stV ⟨tlX k, [], e, [], []⟩ B d none 0 none 0) (by simp [results, Tryd.results45, go_sem, u0, u1, u2, u3, u4, u5, u6, u7]; try rfl) rfl ?_
              rw [← HQ.out, HES.out.1, HES.out.2]
              exact SbAt.fin (x := ⟨tlX k, [], e, [], []⟩) HS6.out.1 HBA.out HWA.out.2 (by have := HPL.out.2.2; omega) HS6.out.2 HPL.out.2.1
        · have hk2 : k = 2 := by omega
          subst hk2
          have HISV := Lib.hid (HIS.out wr zVar hpa)
          have hf := HF.out
          rw [stmtF, if_neg (by rw [HB0.out]; decide), if_neg (by rw [HB1.out]; decide), if_neg (by rw [show isP l s zReturn = false from HAT.out 0 (by omega)]; decide), if_neg (by rw [show isP l s zPrint = false from HAT.out 1 (by omega)]; decide)] at hf
          rw [show mkB zVar = ⟨#[118, 97, 114]⟩ from rfl] at HISV
          clear hsb hpa hbt hat hlt hk HAT
          cases hb : isP l s zVar
          · rw [hb] at HISV hf
            rw [if_neg (by decide)] at hf
            have HAS : Hid (∀ n', Calls Tryd.prog 58 #[.pointer (some ⟨pb, 0, none⟩), .string ⟨#[115, 101, 116]⟩] (wr.drewN n') (StPost E l pb A c w0 x s' (wr.drewN n'))) := fun n' => assign_any HI.out.1 HI.out.2 ySet HS.out.1 hf (HPA.out.drewN n')
            clear hf hb
            go_wp2_with (first
              | (go_at_call 42; (with_reducible refine HISV.out.mono ?_); rintro y w2 ⟨rfl, n2, rfl⟩)
              | (go_at_call 58; (with_reducible refine (HAS.out n2).mono ?_); rintro y w4 ⟨X, cx, T, ct, L, cl, rfl, hok, h4, hb4⟩; rw [show stV x X cx T ct L cl = .agg #[.string (mkB x.kind), .string (mkB x.name), .string (mkB x.e.kind), .int .i64 x.e.num, .string (mkB x.e.name), .slice X x.e.kids.length cx, .slice T x.th.length ct, .slice L x.el.length cl] from rfl]; have hb9 := (HBA2.out.drewN n2).trans hb4; have hr := HR.out w4 hb9; obtain ⟨r0, r1, r2, r3, r4, r5, r6, r7⟩ := row8T hr; have y0 := row_frozen hr 0; have y1 := row_frozen hr 1; have y2 := row_frozen hr 2; have y3 := row_frozen hr 3; have y4 := row_frozen hr 4; have y5 := row_frozen hr 5; have y6 := row_frozen hr 6; have y7 := row_frozen hr 7; have H4 := Lib.hid (And.intro hok (And.intro h4 (And.intro hb9 hr))); clear hok h4 hb4 hb9 hr))
            obtain ⟨u0, u1, u2, u3, u4, u5, u6, u7⟩ := row8T (set8T (v0 := .string (mkB x.kind)) (v1 := .string (mkB x.name)) (v2 := .string (mkB x.e.kind)) (v3 := .int .i64 x.e.num) (v4 := .string (mkB x.e.name)) (v5 := .slice X x.e.kids.length cx) (v6 := .slice T x.th.length ct) (v7 := .slice L x.el.length cl) H4.out.2.2.2)
            refine bodyPost_ret (v := stV x X cx T ct L cl) (by simp [results, Tryd.results45, go_sem, u0, u1, u2, u3, u4, u5, u6, u7]; try rfl) rfl ?_
            rw [← HQ.out]
            exact st_end HBA.out HWA.out.2 H4.out.2.2.1 H4.out.2.2.2 HPL.out.2.1 H4.out.1 (fun k hk => by have hk' : _ ≤ k := hk; have := HPL.out.2.2; have := HSZ.out; (try simp only [hsz_alloc2, hsz_drewN] at hk'); omega) H4.out.2.1
          · rw [hb] at HISV hf
            rw [if_pos rfl] at hf
            obtain ⟨-, tk, -, -, hpl, -⟩ := isP_some hb
            have hst : PStOk l s.step := HS.out.1.went (went_step hpl HS.out.2)
            have HAS : Hid (∀ w', PaAt E l pb A c w0 s.step w' → Calls Tryd.prog 58 #[.pointer (some ⟨pb, 0, none⟩), .string ⟨#[118, 97, 114]⟩] w' (StPost E l pb A c w0 x s' w')) := fun w' hw => assign_any HI.out.1 HI.out.2 zVar hst hf hw
            have hpi : (s.pos : Int) ≤ 100000 := by omega
            have hwp : IntKind.i64.wrap ((s.pos : Int) + 1) = (s.pos : Int) + 1 := IntWalk.i64_in _ (by omega)
            obtain ⟨vz, -, cz, -, -, -⟩ := HPA.out.cells
            have zz := HPA.out.frozen 1
            clear hf hb hpl hst
            go_upto_region 17 with (go_at_call 42; (with_reducible refine HISV.out.mono ?_); rintro y w2 ⟨rfl, n2, rfl⟩)
            have d1 : (wr.drewN n2).cell? ⟨pb, 1, none⟩ = some (.int .i64 (s.pos : Nat)) := cz
            have dz : (wr.drewN n2).frozen? ⟨pb, 1, none⟩ = false := zz
            go_upto_region 18 with fail
            obtain ⟨w3, hw3⟩ : ∃ w3, (wr.drewN n2).setCell ⟨pb, 1, none⟩ (.int .i64 ((s.pos : Int) + 1)) = w3 := ⟨_, rfl⟩
            have h3 : PaAt E l pb A c w0 s.step w3 := by rw [← hw3]; exact (HPA.out.drewN n2).setPos (s.pos + 1)
            have hb3 : But pb wA w3 := by rw [← hw3]; exact (HBA2.out.drewN n2).set 1 _
            have H3 := Lib.hid (And.intro h3 hb3)
            rw [hw3]
            clear hw3 h3 hb3 d1 dz cz zz HSZ
            have HSZ := Lib.hid H3.out.2.size
            go_wp2_with (go_at_call 58; (with_reducible refine (HAS.out _ H3.out.1).mono ?_); rintro y w4 ⟨X, cx, T, ct, L, cl, rfl, hok, h4, hb4⟩; rw [show stV x X cx T ct L cl = .agg #[.string (mkB x.kind), .string (mkB x.name), .string (mkB x.e.kind), .int .i64 x.e.num, .string (mkB x.e.name), .slice X x.e.kids.length cx, .slice T x.th.length ct, .slice L x.el.length cl] from rfl]; have hb9 := H3.out.2.trans hb4; have hr := HR.out w4 hb9; obtain ⟨r0, r1, r2, r3, r4, r5, r6, r7⟩ := row8T hr; have y0 := row_frozen hr 0; have y1 := row_frozen hr 1; have y2 := row_frozen hr 2; have y3 := row_frozen hr 3; have y4 := row_frozen hr 4; have y5 := row_frozen hr 5; have y6 := row_frozen hr 6; have y7 := row_frozen hr 7; have H4 := Lib.hid (And.intro hok (And.intro h4 (And.intro hb9 hr))); clear hok h4 hb4 hb9 hr)
            obtain ⟨u0, u1, u2, u3, u4, u5, u6, u7⟩ := row8T (set8T (v0 := .string (mkB x.kind)) (v1 := .string (mkB x.name)) (v2 := .string (mkB x.e.kind)) (v3 := .int .i64 x.e.num) (v4 := .string (mkB x.e.name)) (v5 := .slice X x.e.kids.length cx) (v6 := .slice T x.th.length ct) (v7 := .slice L x.el.length cl) H4.out.2.2.2)
            refine bodyPost_ret (v := stV x X cx T ct L cl) (by simp [results, Tryd.results45, go_sem, u0, u1, u2, u3, u4, u5, u6, u7]; try rfl) rfl ?_
            rw [← HQ.out]
            exact st_end HBA.out HWA.out.2 H4.out.2.2.1 H4.out.2.2.2 HPL.out.2.1 H4.out.1 (fun k hk => by have hk' : _ ≤ k := hk; have := HPL.out.2.2; have := HSZ.out; (try simp only [hsz_alloc2, hsz_drewN] at hk'); omega) H4.out.2.1
end
end Go.Proofs.YtpfgimohginbdaaDoor

namespace Go.Proofs.YtpfgimohginbdaaDoor
open Go.RowKit

/-! the parser: statements whole; a parameter -/
section
variable {E : Nat → Addr} {l : List Tok} {pb : Nat} {A : Option Addr} {c : Nat} {w0 : World}
theorem StI_all (I : PaIn E l A w0) (hN : NumOk l) : ∀ n, ∀ m, m ≤ n → StI E l pb A c w0 m := by
  intro n
  induction n with
  | zero =>
    intro m hm
    obtain rfl : m = 0 := by omega
    refine ⟨?_, ?_, ?_⟩
    · intro s e s' w _ h; rw [blockF] at h; cases h
    · intro s e s' w _ _ h; rw [stmtF] at h; cases h
    · intro k s e s' w _ _ _ _ h; rw [branchF] at h; cases h
  | succ n ih =>
    intro m hm
    by_cases hmn : m ≤ n
    · exact ih m hmn
    · obtain rfl : m = n + 1 := by omega
      exact ⟨fun s ss s' w hs hf h => block_step I ih hs hf h, fun s x s' w hs he hf h => stmt_step I hN (ih n (Nat.le_refl _)) hs he hf h, fun kind s x s' w _ hs hlt he hf h => branch_step I hN (ih n (Nat.le_refl _)) hs hlt he hf h⟩
theorem block_any (I : PaIn E l A w0) (hN : NumOk l) {n : Nat} {s s' : PSt} {ss : List PStmt} {w : World} (hs : PStOk l s) (hf : blockF l n s = some (ss, s')) (h : PaAt E l pb A c w0 s w) :
    Calls Tryd.prog 28 #[.pointer (some ⟨pb, 0, none⟩)] w (BlPost E l pb A c w0 ss s' w) :=
  (StI_all I hN n n (Nat.le_refl _)).block s ss s' w hs hf h
end
def tmV (x : List UInt8) : Value := .string (mkB x)
theorem strInfoT : (Tryd.prog.info? 9).map (fun i => (i.zero, i.size, i.bytes)) = some (some (.string ⟨#[]⟩), 1, 16) := by kernel_rfl
/-- The parameters so far. -/
structure TmAt (E : Nat → Addr) (l : List Tok) (pb : Nat) (A : Option Addr) (c : Nat) (w0 wE : World) (fb : Nat) (nm : List UInt8) (ps : List (List UInt8)) (s : PSt) (w : World) : Prop where
  but : But2 pb fb wE w
  pa : PaAt E l pb A c w0 s w
  row : ∃ vP : Value, w.heap[fb]? = some (.cells #[.string (mkB nm), vP, .slice none 0 0] 39 (0, 0)) ∧ w.ownsRow wE.heap.size 9 1 vP ps.length (ps.map tmV)
section
variable {E : Nat → Addr} {l : List Tok} {pb : Nat} {A : Option Addr} {c : Nat} {w0 wE : World} {fb : Nat} {nm : List UInt8} {ps : List (List UInt8)} {s s' s1 : PSt} {w w' : World}
theorem TmAt.then (h : TmAt E l pb A c w0 wE fb nm ps s w) (hpa : PaAt E l pb A c w0 s' w') (hb : But pb w w') (hpe : pb < wE.heap.size) (hne : fb ≠ pb) : TmAt E l pb A c w0 wE fb nm ps s' w' := by
  obtain ⟨vP, h1, h2⟩ := h.row
  exact ⟨h.but.then hb, hpa, vP, hb.row h1 hne, hb.owns h2 hpe⟩
theorem TmAt.push {w4 w9 : World} {x : List UInt8} {g cap : Nat} {vP : Value} {o : Obj} (hbut : But2 pb fb wE w) (hown : w.ownsRow wE.heap.size 9 1 vP ps.length (ps.map tmV)) (hb5 : But pb w w4) (hpa : PaAt E l pb A c w0 s1 w4) (hr4 : w4.heap[fb]? = some (.cells #[.string (mkB nm), vP, .slice none 0 0] 39 (0, 0))) (hpe : pb < wE.heap.size) (hee : fb < wE.heap.size) (hne : fb ≠ pb) (hle : w0.heap.size ≤ fb)
    (hown9 : w9.ownsRow wE.heap.size 9 1 (.slice (some ⟨g, 0, none⟩) (ps.length + 1) cap) (ps.length + 1) (ps.map tmV ++ [.string (mkB x)])) (hgrow : (w4.alloc o).grownBy w9 vP.ownBlock) :
    TmAt E l pb A c w0 wE fb nm (ps ++ [x]) s1 (w9.setCell ⟨fb, 1, none⟩ (.slice (some ⟨g, 0, none⟩) (ps.length + 1) cap)) := by
  have hsw := hbut.size
  have hs4 := hb5.size
  have hz : (w4.alloc o).heap.size = w4.heap.size + 1 := by simp
  have hgs := hgrow.size
  have hown4 : w4.ownsRow wE.heap.size 9 1 vP ps.length (ps.map tmV) := hb5.owns hown hpe
  have hlow : ∀ k, vP.ownBlock = some k → wE.heap.size ≤ k ∧ k < w4.heap.size := fun k hk => ownS_lt hown4 hk
  have hfar : ∀ k, k < w4.heap.size → vP.ownBlock ≠ some k → w9.heap[k]? = w4.heap[k]? := fun k hk hkn => (hgrow.block k (by omega) (fun e => hkn e.symm)).trans (old_block _ _ hk)
  have hgE : wE.heap.size ≤ g := (ownS_lt hown9 (k := g) rfl).1
  have hw0 := hpa.under
  have hpl := hpa.lt
  have hr9 := (hfar fb (by omega) (fun e => by have := (hlow _ e).1; omega)).trans hr4
  have hpa9 : PaAt E l pb A c w0 s1 w9 := hpa.move ⟨hgrow.os, hgrow.tape, hgrow.output, by omega⟩ (hfar pb hpl fun e => by have := (hlow _ e).1; omega) (fun i hi => hfar i (by omega) (fun e => by have := (hlow _ e).1; have := hpa.lo; omega)) (fun i cs hf => hfar i (Array.getElem?_eq_some_iff.1 hf).1 (ownS_else hown4 hf fun cs' e => by injection e with _ e _; exact absurd e (by decide)))
  have hb9 : But2 pb fb wE w9 := ⟨hgrow.os.trans (hb5.os.trans hbut.os), hgrow.tape.trans (hb5.tape.trans hbut.tape), hgrow.output.trans (hb5.output.trans hbut.output), by omega, fun k hk h1 h2 => (hfar k (by omega) (fun e => by have := (hlow _ e).1; omega)).trans ((hb5.block k (by omega) h1).trans (hbut.block k hk h1 h2))⟩
  refine ⟨⟨hb9.os, hb9.tape, hb9.output, by have := hb9.size; simpa using this, fun k hk h1 h2 => (Below.heap_setCell _ _ _ _ h2).trans (hb9.block k hk h1 h2)⟩, hpa9.other hr9 (by decide) (by decide) hle, _, row_set (j := 1) _ hr9 rfl, ?_⟩
  rw [List.length_append, List.length_singleton, List.map_append, List.map_cons, List.map_nil]
  refine ownS_same hown9 fun k hk => Below.heap_setCell _ _ _ _ ?_
  have hk' : g = k := Option.some.inj hk
  show k ≠ fb
  omega
set_option maxHeartbeats 8000000 in
set_option maxRecDepth 100000 in
theorem name_any (I : PaIn E l A w0) (hs : PStOk l s) (h : TmAt E l pb A c w0 wE fb nm ps s w) (hps : ps.length ≤ 100000) {qb : Nat} (hq : wE.heap[qb]? = some (.cells #[.pointer (some ⟨pb, 0, none⟩)] 52 (0, 0))) (hpe : pb < wE.heap.size) (hee : fb < wE.heap.size) (hne : fb ≠ pb) (hqe : qb ≠ fb) (hqp : qb ≠ pb) (hle : w0.heap.size ≤ fb) :
    Calls Tryd.prog 27 #[.pointer (some ⟨fb, 0, none⟩), .pointer (some ⟨qb, 0, none⟩)] w (fun y w' => y = .returned (.tuple #[]) ∧ TmAt E l pb A c w0 wE fb nm (ps ++ [(ofP l kName s).1]) (ofP l kName s).2 w') := by
  obtain ⟨vP, hrow, hown⟩ := h.row
  obtain ⟨AK, cK, hvK⟩ : ∃ AK cK, vP = .slice AK ps.length cK := by
    obtain ⟨AK, cK, e, -⟩ := owns_at hown
    exact ⟨AK, cK, e⟩
  subst hvK
  obtain ⟨i0, hi, hz0, hz1, hz2⟩ := info_parts strInfoT
  have hqr := h.but.row hq hqp hqe
  have hwp : pb < w.heap.size := h.pa.lt
  have q0 := cell_of_row _ _ 0 _ _ _ hqr
  have f1 := cell_of_row _ _ 1 _ _ _ hrow
  obtain ⟨x1, s1, hof⟩ : ∃ x1 s1, ofP l kName s = (x1, s1) := ⟨_, _, rfl⟩
  have HOF : Hid (Calls Tryd.prog 25 #[.pointer (some ⟨pb, 0, none⟩), .string ⟨#[110, 97, 109, 101]⟩] w.drew (PaRet E l pb A c w0 (.string (mkB x1)) s1 w.drew)) := by
    have := of_lit I h.pa.drew hs.hi kName
    rw [hof] at this
    exact this
  rw [hof]
  have HRW := Lib.hid (And.intro hrow (And.intro hown h.but))
  have HNN := Lib.hid (And.intro hpe (And.intro hee hne))
  have kk : (ps.length : Int) < (ps.length : Int) + 1 := by omega
  have kk0 : (0 : Int) ≤ (ps.length : Int) := by omega
  clear I hs h hrow hown hqr hq hof
  go_enter Tryd.func27, Tryd.ntmps27
  go_upto_region 0 with fail
  go_region_law (first
    | (go_simp; go_at_call 25; (with_reducible refine HOF.out.mono ?_); rintro y w4 ⟨rfl, h4, hb4⟩; have hb5 : But pb w w4 := (But.refl pb w).drew.trans hb4; have hr4 := hb5.row HRW.out.1 HNN.out.2.2; have g1 := cell_of_row _ _ 1 _ _ _ hr4; have gz1 : (w4.alloc (.cells #[.string (mkB x1)] 9)).cell? ⟨fb, 1, none⟩ = some (.slice AK ps.length cK) := Keeps.alloc _ _ _ _ g1; have HO4 := Lib.hid (hb5.owns HRW.out.2.1 HNN.out.1); have H4 := Lib.hid (And.intro h4 (And.intro hb5 hr4)); clear h4 hb4 hb5 hr4)
    | (refine step_append_lies _ rfl _ _ 36 rfl wE.heap.size 9 i0 _ 1 16 Tryd.underlying36 hi hz0 hz1 hz2 rfl (by decide) _ ps.length (ps.map tmV) rfl (World.ownsRow.alloc HO4.out _) ⟨w4.heap.size, 0, none⟩ 1 1 [.string (mkB x1)] rfl rfl (World.news_of_block (heap_alloc_new w4 _)) (fun u hu => by simp only [List.mem_cons, List.not_mem_nil, or_false] at hu; subst hu; rfl) (by decide) (by unfold maxLen; omega) (by omega) (by have := HRW.out.2.2.size; have := H4.out.2.1.size; simp; omega) _ rfl ?_; intro g cap w9 hown9 hgrow9 hat9 hlt9; have hr9 : w9.heap[fb]? = _ := ((hgrow9.block fb (by have := (Array.getElem?_eq_some_iff.1 H4.out.2.2).1; simp; omega) (fun e => by have := (ownS_lt HRW.out.2.1 e.symm).1; have := HNN.out.2.1; omega)).trans (old_block _ _ (Array.getElem?_eq_some_iff.1 H4.out.2.2).1)).trans H4.out.2.2; have k1 := cell_of_row _ _ 1 _ _ _ hr9; have y1 := row_frozen hr9 1; have H9 := Lib.hid (And.intro hown9 hgrow9); clear hown9 hgrow9 hat9 hlt9 hr9))
  all_goals go_wp2_with fail
  all_goals go_end0
  all_goals exact ⟨rfl, TmAt.push HRW.out.2.2 HRW.out.2.1 H4.out.2.1 H4.out.1 H4.out.2.2 HNN.out.1 HNN.out.2.1 HNN.out.2.2 hle H9.out.1 H9.out.2⟩
end
end Go.Proofs.YtpfgimohginbdaaDoor

namespace Go.Proofs.YtpfgimohginbdaaDoor
open Go.RowKit

/-! the parser: a list of parameters, whole -/
section
variable {E : Nat → Addr} {l : List Tok} {pb : Nat} {A : Option Addr} {c : Nat} {w0 wE : World} {fb : Nat} {nm : List UInt8} {ps : List (List UInt8)} {s s' s1 : PSt} {w : World}
/-- What stands at the head of the loop over the parameters. -/
structure LtAt (E : Nat → Addr) (l : List Tok) (pb : Nat) (A : Option Addr) (c : Nat) (w0 wE : World) (fb : Nat) (nm : List UInt8) (es : List (List UInt8)) (s' : PSt) (k : Nat) (ps : List (List UInt8)) (st : PSt) (w : World) : Prop where
  args : namesF l k ps st = some (es, s')
  ok : PStOk l st
  at_ : TmAt E l pb A c w0 wE fb nm ps st w
  cnt : ps.length ≤ st.pos + 1
set_option maxHeartbeats 8000000 in
set_option maxRecDepth 100000 in
theorem names_any (I : PaIn E l A w0) {n : Nat} {es : List (List UInt8)} (hs : PStOk l s) (hf : paramsF l n s = some (es, s')) (h : TmAt E l pb A c w0 wE fb nm [] s w) {qb : Nat} (hq : wE.heap[qb]? = some (.cells #[.pointer (some ⟨pb, 0, none⟩)] 52 (0, 0))) (hpe : pb < wE.heap.size) (hee : fb < wE.heap.size) (hne : fb ≠ pb) (hqe : qb ≠ fb) (hqp : qb ≠ pb) (hle : w0.heap.size ≤ fb) :
    Calls Tryd.prog 26 #[.pointer (some ⟨pb, 0, none⟩), .func (.func 27) #[] #[.pointer (some ⟨fb, 0, none⟩), .pointer (some ⟨qb, 0, none⟩)]] w (fun y w' => y = .returned (.tuple #[]) ∧ TmAt E l pb A c w0 wE fb nm es s' w') := by
  have hlen := I.len
  have HTH : Hid (∀ ps s s' w w', TmAt E l pb A c w0 wE fb nm ps s w → PaAt E l pb A c w0 s' w' → But pb w w' → TmAt E l pb A c w0 wE fb nm ps s' w') := fun ps s s' w w' h hpa hb => h.then hpa hb hpe hne
  have HAR : Hid (∀ ps s w, PStOk l s → TmAt E l pb A c w0 wE fb nm ps s w → ps.length ≤ 100000 → Calls Tryd.prog 27 #[.pointer (some ⟨fb, 0, none⟩), .pointer (some ⟨qb, 0, none⟩)] w (fun y w' => y = .returned (.tuple #[]) ∧ TmAt E l pb A c w0 wE fb nm (ps ++ [(ofP l kName s).1]) (ofP l kName s).2 w')) := fun ps s w h1 h2 h3 => name_any I h1 h2 h3 hq hpe hee hne hqe hqp hle
  have HI := Lib.hid I
  have HS := Lib.hid hs
  have HH := Lib.hid h
  have HIS : Hid (∀ st w' x, PaAt E l pb A c w0 st w' → Calls Tryd.prog 42 #[.pointer (some ⟨pb, 0, none⟩), .string (mkB x)] w' (fun e w2 => e = .returned (.bool (isP l st x)) ∧ ∃ n, w2 = w'.drewN n)) := fun st w' x hw => is_lit I hw _
  have HIS1 : Hid (Calls Tryd.prog 42 #[.pointer (some ⟨pb, 0, none⟩), .string ⟨#[41]⟩] w (fun e w2 => e = .returned (.bool (isP l s [41])) ∧ ∃ n, w2 = w.drewN n)) := HIS.out s w [41] h.pa
  have HTK : Hid (∀ st w', PStOk l st → PaAt E l pb A c w0 st w' → Calls Tryd.prog 24 #[.pointer (some ⟨pb, 0, none⟩), .string ⟨#[41]⟩] w' (PaRet E l pb A c w0 (.tuple #[]) (takeP l [41] st) w')) := fun st w' h1 h2 => take_lit I h2 h1.hi [41]
  clear I hs h hq
  unfold paramsF at hf
  cases hb : isP l s [41]
  · rw [hb] at HIS1 hf
    rw [if_neg (by decide)] at hf
    obtain ⟨x1, s1, hof⟩ : ∃ x1 s1, ofP l kName s = (x1, s1) := ⟨_, _, rfl⟩
    rw [hof] at hf
    dsimp only at hf
    have hw1 : Went l s s1 := by have := ofP_went (x := kName) HS.out.hi; rw [hof] at this; exact this
    have hs1 := HS.out.went hw1
    have HAR1 : Hid (∀ m, Calls Tryd.prog 27 #[.pointer (some ⟨fb, 0, none⟩), .pointer (some ⟨qb, 0, none⟩)] (w.drewN m) (fun y w' => y = .returned (.tuple #[]) ∧ TmAt E l pb A c w0 wE fb nm [x1] s1 w')) := fun m => by
      have := HAR.out [] s (w.drewN m) HS.out (HTH.out _ _ _ _ _ HH.out (HH.out.pa.drewN m) ((But.refl pb w).drewN m)) (by simp)
      rw [hof] at this
      exact this
    have HF := Lib.hid (And.intro hf hs1)
    clear hf hs1 hw1 hb hof
    go_enter Tryd.func26, Tryd.ntmps26
    go_upto_region 3 with (first
      | (go_at_call 42; (with_reducible refine HIS1.out.mono ?_); rintro y w2 ⟨rfl, n2, rfl⟩)
      | (go_at_call 27; (with_reducible refine (HAR1.out n2).mono ?_); rintro y w3 ⟨rfl, h3⟩; have H3 := Lib.hid h3; clear h3))
    go_loopw [] (fun wr => ∃ k ps st, LtAt E l pb A c w0 wE fb nm es s' k ps st wr) (fun wr => l.length - posOf pb wr)
    case atStart => exact ⟨n, [x1], s1, HF.out.1, HF.out.2, H3.out, by simp⟩
    case round =>
      obtain ⟨k, ps, st, hL⟩ := hrel
      have HL := Lib.hid hL
      have HPOS := Lib.hid hL.at_.pa.pos
      have HISR : Hid (Calls Tryd.prog 42 #[.pointer (some ⟨pb, 0, none⟩), .string ⟨#[44]⟩] wr (fun e w2 => e = .returned (.bool (isP l st [44])) ∧ ∃ n, w2 = wr.drewN n)) := HIS.out st wr [44] hL.at_.pa
      have ha := hL.args
      cases k with
      | zero => rw [namesF] at ha; cases ha
      | succ k =>
        rw [namesF] at ha
        cases hc : isP l st [44]
        · rw [hc] at HISR ha
          rw [if_neg (by decide)] at ha
          have hxs : es = ps ∧ s' = takeP l [41] st := by cases ha; exact ⟨rfl, rfl⟩
          obtain ⟨rfl, rfl⟩ := hxs
          have HTK1 := Lib.hid (fun m => HTK.out st (wr.drewN m) hL.ok (hL.at_.pa.drewN m))
          clear ha hL hc
          go_wp2_with (first
            | (go_at_call 42; (with_reducible refine HISR.out.mono ?_); rintro y w2 ⟨rfl, n2, rfl⟩)
            | (go_at_call 24; (with_reducible refine (HTK1.out n2).mono ?_); rintro y w4 ⟨rfl, h4, hb4⟩; have H4 := Lib.hid (And.intro h4 hb4); clear h4 hb4))
          go_end0
          exact ⟨rfl, HTH.out _ _ _ _ _ HL.out.at_ H4.out.1 (((But.refl pb wr).drewN n2).trans H4.out.2)⟩
        · rw [hc] at HISR ha
          rw [if_pos rfl] at ha
          obtain ⟨hse, t, htk, -, hpl, -⟩ := isP_some hc
          obtain ⟨x2, s2, hof⟩ : ∃ x2 s2, ofP l kName st.step = (x2, s2) := ⟨_, _, rfl⟩
          rw [hof] at ha
          dsimp only at ha
          have hstk : PStOk l st.step := hL.ok.went (went_step hpl hse)
          have hw2 : Went l st.step s2 := by have := ofP_went (x := kName) hstk.hi; rw [hof] at this; exact this
          have hs2 := hstk.went hw2
          have hcnt := hL.cnt
          have HAR2 : Hid (∀ w', TmAt E l pb A c w0 wE fb nm ps st.step w' → Calls Tryd.prog 27 #[.pointer (some ⟨fb, 0, none⟩), .pointer (some ⟨qb, 0, none⟩)] w' (fun y w2 => y = .returned (.tuple #[]) ∧ TmAt E l pb A c w0 wE fb nm (ps ++ [x2]) s2 w2)) := fun w' hw => by
            have := HAR.out ps st.step w' hstk hw (by omega)
            rw [hof] at this
            exact this
          have hlo2 : st.pos + 1 ≤ s2.pos := hw2.lo
          have HN : Hid (∀ w', TmAt E l pb A c w0 wE fb nm (ps ++ [x2]) s2 w' → LtAt E l pb A c w0 wE fb nm es s' k (ps ++ [x2]) s2 w') := fun w' hw => ⟨ha, hs2, hw, by rw [List.length_append, List.length_singleton]; omega⟩
          have HPP : Hid (st.pos < l.length ∧ st.pos + 1 ≤ s2.pos) := ⟨hpl, hlo2⟩
          have hwp : IntKind.i64.wrap ((st.pos : Int) + 1) = (st.pos : Int) + 1 := IntWalk.i64_in _ (by omega)
          have hpi : (st.pos : Int) ≤ 100000 := by omega
          obtain ⟨v2, -, c1, -, -, -⟩ := hL.at_.pa.cells
          have z1 := hL.at_.pa.frozen 1
          clear ha hL hc hse htk hpl hof hstk hw2 hs2 hcnt hlo2
          go_upto_region 5 with (go_at_call 42; (with_reducible refine HISR.out.mono ?_); rintro y w2 ⟨rfl, n2, rfl⟩; have d1 : (wr.drewN n2).cell? ⟨pb, 1, none⟩ = some (.int .i64 (st.pos : Nat)) := c1; have dz : (wr.drewN n2).frozen? ⟨pb, 1, none⟩ = false := z1)
          obtain ⟨w3, hw3⟩ : ∃ w3, (wr.drewN n2).setCell ⟨pb, 1, none⟩ (.int .i64 ((st.pos : Int) + 1)) = w3 := ⟨_, rfl⟩
          have h3 : PaAt E l pb A c w0 st.step w3 := by rw [← hw3]; exact (HL.out.at_.pa.drewN n2).setPos (st.pos + 1)
          have hb3 : But pb wr w3 := by rw [← hw3]; exact ((But.refl pb wr).drewN n2).set 1 _
          have HA3 := Lib.hid (HTH.out _ _ _ _ _ HL.out.at_ h3 hb3)
          rw [hw3]
          clear hw3 h3 hb3 d1 dz c1 z1
          go_wp2_with (go_at_call 27; (with_reducible refine (HAR2.out _ HA3.out).mono ?_); rintro y w4 ⟨rfl, h4⟩; have H4 := Lib.hid h4; clear h4)
          go_roundw
          case rel => exact ⟨k, _, _, HN.out _ H4.out⟩
          case measure =>
            have h1 := H4.out.pa.pos
            have h2 := HPP.out
            rw [h1, HPOS.out]
            omega
  · rw [hb] at HIS1 hf
    rw [if_pos rfl] at hf
    have hxs : es = [] ∧ s' = s.step := by cases hf; exact ⟨rfl, rfl⟩
    obtain ⟨rfl, rfl⟩ := hxs
    obtain ⟨hse, t, htk, -, hpl, -⟩ := isP_some hb
    have hwp : IntKind.i64.wrap ((s.pos : Int) + 1) = (s.pos : Int) + 1 := IntWalk.i64_in _ (by omega)
    have hpi : (s.pos : Int) ≤ 100000 := by omega
    obtain ⟨v2, -, c1, -, -, -⟩ := HH.out.pa.cells
    have z1 := HH.out.pa.frozen 1
    clear hf hb hse htk hpl
    go_enter Tryd.func26, Tryd.ntmps26
    go_wp2_with (go_at_call 42; (with_reducible refine HIS1.out.mono ?_); rintro y w2 ⟨rfl, n2, rfl⟩; have d1 : (w.drewN n2).cell? ⟨pb, 1, none⟩ = some (.int .i64 (s.pos : Nat)) := c1; have dz : (w.drewN n2).frozen? ⟨pb, 1, none⟩ = false := z1)
    first | go_end0 | refine bodyPost_ret (v := .tuple #[]) (by simp [results, Tryd.results26, go_sem]; try rfl) rfl ?_ | (trace_state; fail)
    all_goals exact ⟨rfl, HTH.out _ _ _ _ _ HH.out ((HH.out.pa.drewN n2).setPos (s.pos + 1)) (((But.refl pb w).drewN n2).set 1 _)⟩
end
end Go.Proofs.YtpfgimohginbdaaDoor
