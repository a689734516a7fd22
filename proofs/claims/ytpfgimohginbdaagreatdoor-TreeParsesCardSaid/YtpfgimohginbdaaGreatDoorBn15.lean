import Derived.Test.YtpfgimohginbdaaGreatDoorBn13
import Derived.Test.YtpfgimohginbdaaGreatDoorBn14
set_option linter.unusedVariables false
set_option linter.unusedSimpArgs false
namespace Go.Proofs.YtpfgimohginbdaaGreatDoor
open Go.RowKit

/-! the parser's expressions: what is told of them -/
def exV (e : PExpr) (A : Option Addr) (c : Nat) : Value := .agg #[.string (mkB e.kind), .int .i64 e.num, .string (mkB e.name), .slice A e.kids.length c]
def newA (w : World) (n : Nat) : Prop := w.heap.size ≤ n
def ExPost (E : Nat → Addr) (l : List Tok) (pb : Nat) (A : Option Addr) (c : Nat) (w0 : World) (e : PExpr) (s' : PSt) (w : World) : Ending → World → Prop := fun y w' =>
  ∃ B d, y = .returned (exV e B d) ∧ RdE w' (newA w) e.kids B ∧ okN e.num ∧ PaAt E l pb A c w0 s' w' ∧ But pb w w'
/-- Number tokens are digits, not too many. -/
def NumOk (l : List Tok) : Prop := ∀ t ∈ l, t.kind = kNumber → 0 < t.text.length ∧ t.text.length ≤ 18 ∧ ∀ x ∈ t.text, 48 ≤ x.toNat ∧ x.toNat ≤ 57
structure ExI (E : Nat → Addr) (l : List Tok) (pb : Nat) (A : Option Addr) (c : Nat) (w0 : World) (n : Nat) : Prop where
  expr : ∀ lv s e s' w, lv ≤ 8 → PStOk l s → exprF l n lv s = some (e, s') → PaAt E l pb A c w0 s w → Calls Tryz.prog 62 #[.pointer (some ⟨pb, 0, none⟩), .int .i64 (lv : Nat)] w (ExPost E l pb A c w0 e s' w)
  one : ∀ s e s' w, PStOk l s → oneF l n s = some (e, s') → PaAt E l pb A c w0 s w → Calls Tryz.prog 72 #[.pointer (some ⟨pb, 0, none⟩)] w (ExPost E l pb A c w0 e s' w)
  atom : ∀ s e s' w, PStOk l s → atomF l n s = some (e, s') → PaAt E l pb A c w0 s w → Calls Tryz.prog 76 #[.pointer (some ⟨pb, 0, none⟩)] w (ExPost E l pb A c w0 e s' w)
  inner : ∀ s e s' w, PStOk l s → s.pos < l.length → s.err = none → innerF l n s = some (e, s') → PaAt E l pb A c w0 s w → Calls Tryz.prog 77 #[.pointer (some ⟨pb, 0, none⟩)] w (ExPost E l pb A c w0 e s' w)
section
variable {E : Nat → Addr} {l : List Tok} {pb : Nat} {A : Option Addr} {c : Nat} {w0 : World} {s s' : PSt} {w w' w1 : World}
theorem But.keepsIn {S : Nat → Prop} (h : But pb w w') (hS : ∀ n, S n → n ≠ pb) : KeepsIn S w w' := fun a v hs hv => by
  have hlt := World.block_lt_of_cell? w _ hv
  exact (World.cell?_of_block (h.block _ hlt (hS _ hs))).trans hv
theorem But.row (h : But pb w w') {k : Nat} {o : Obj} (hk : w.heap[k]? = some o) (hne : k ≠ pb) : w'.heap[k]? = some o := (h.block k (Array.getElem?_eq_some_iff.1 hk).1 hne).trans hk
theorem take_lit (I : PaIn E l A w0) (h : PaAt E l pb A c w0 s w) (hp : s.pos ≤ l.length) (x : List UInt8) : Calls Tryz.prog 29 #[.pointer (some ⟨pb, 0, none⟩), .string (mkB x)] w (PaRet E l pb A c w0 (.tuple #[]) (takeP l x s) w) := by
  have := take_any I h hp (mkB x)
  rwa [mkB_toList] at this
theorem of_lit (I : PaIn E l A w0) (h : PaAt E l pb A c w0 s w) (hp : s.pos ≤ l.length) (x : List UInt8) : Calls Tryz.prog 30 #[.pointer (some ⟨pb, 0, none⟩), .string (mkB x)] w (PaRet E l pb A c w0 (.string (mkB (ofP l x s).1)) (ofP l x s).2 w) := by
  have := of_any I h hp (mkB x)
  rwa [mkB_toList] at this
theorem is_lit (I : PaIn E l A w0) (h : PaAt E l pb A c w0 s w) (x : List UInt8) : Calls Tryz.prog 46 #[.pointer (some ⟨pb, 0, none⟩), .string (mkB x)] w (fun e w' => e = .returned (.bool (isP l s x)) ∧ ∃ n, w' = w.drewN n) := by
  have := is_any I h (mkB x)
  rwa [mkB_toList] at this
theorem PaAt.drew (h : PaAt E l pb A c w0 s w) : PaAt E l pb A c w0 s w.drew := h.keep (Below.refl _ _).drew
theorem But.drew (h : But pb w w') : But pb w w'.drew := h.trans (But.of_below (Below.refl _ _).drew)
/-- A store into a new block. -/
theorem But.setHi (h : But pb w w') {r : Nat} (hr : w.heap.size ≤ r) (j : Nat) (u : Value) : But pb w (w'.setCell ⟨r, j, none⟩ u) :=
  ⟨h.os, h.tape, h.output, by have := h.size; simpa using this, fun k hk hq => (Below.heap_setCell _ _ _ _ (by show k ≠ r; omega)).trans (h.block k hk hq)⟩
/-- Stores into a block of another type leave the parser as it is. -/
theorem PaAt.other (h : PaAt E l pb A c w0 s w) {r j : Nat} {u : Value} {cs : Array Value} {T : TypeId} {fz : Nat × Nat} (hr : w.heap[r]? = some (.cells cs T fz)) (h1 : T ≠ 60) (h2 : T ≠ 81) (hlo : w0.heap.size ≤ r) : PaAt E l pb A c w0 s (w.setCell ⟨r, j, none⟩ u) := by
  obtain ⟨v, hb, hv⟩ := h.blk
  have hne : pb ≠ r := fun e => by
    rw [← e, hb] at hr
    injection hr with hr
    injection hr with _ hr _
    exact h1 hr.symm
  refine ⟨h.bel.setCell hlo _, h.lo, v, (Below.heap_setCell _ _ _ _ hne).trans hb, ?_⟩
  cases he : s.err with
  | none => rw [he] at hv; exact hv
  | some p =>
    rw [he] at hv
    obtain ⟨q1, q2, fb, q3, q4⟩ := hv
    refine ⟨q1, q2, fb, q3, (Below.heap_setCell _ _ _ _ (fun e => ?_)).trans q4⟩
    subst e
    rw [hr] at q4
    injection q4 with q4
    injection q4 with _ q4 _
    exact h2 q4
/-- Four stores into a block of an expression. -/
theorem set4T {q : Nat} {a0 a1 a2 a3 v0 v1 v2 v3 : Value} {T : TypeId} {fz : Nat × Nat} (h : w.heap[q]? = some (.cells #[a0, a1, a2, a3] T fz)) :
    ((((w.setCell ⟨q, 0, none⟩ v0).setCell ⟨q, 1, none⟩ v1).setCell ⟨q, 2, none⟩ v2).setCell ⟨q, 3, none⟩ v3).heap[q]? = some (.cells #[v0, v1, v2, v3] T fz) :=
  row_set (j := 3) v3 (row_set (j := 2) v2 (row_set (j := 1) v1 (row_set (j := 0) v0 h rfl) rfl) rfl) (by simp)
theorem far4T {q : Nat} {v0 v1 v2 v3 : Value} {k : Nat} (h : k ≠ q) :
    ((((w.setCell ⟨q, 0, none⟩ v0).setCell ⟨q, 1, none⟩ v1).setCell ⟨q, 2, none⟩ v2).setCell ⟨q, 3, none⟩ v3).heap[k]? = w.heap[k]? :=
  (Below.heap_setCell _ _ _ _ h).trans ((Below.heap_setCell _ _ _ _ h).trans ((Below.heap_setCell _ _ _ _ h).trans (Below.heap_setCell _ _ _ _ h)))
theorem PaAt.set4 (h : PaAt E l pb A c w0 s w) {q : Nat} {a0 a1 a2 a3 v0 v1 v2 v3 : Value} (hr : w.heap[q]? = some (.cells #[a0, a1, a2, a3] 49 (0, 0))) (hlo : w0.heap.size ≤ q) :
    PaAt E l pb A c w0 s ((((w.setCell ⟨q, 0, none⟩ v0).setCell ⟨q, 1, none⟩ v1).setCell ⟨q, 2, none⟩ v2).setCell ⟨q, 3, none⟩ v3) :=
  (((h.other hr (by decide) (by decide) hlo).other (row_set (j := 0) v0 hr rfl) (by decide) (by decide) hlo).other (row_set (j := 1) v1 (row_set (j := 0) v0 hr rfl) rfl) (by decide) (by decide) hlo).other (row_set (j := 2) v2 (row_set (j := 1) v1 (row_set (j := 0) v0 hr rfl) rfl) rfl) (by decide) (by decide) hlo
theorem But.set4 (h : But pb w w') {q : Nat} {v0 v1 v2 v3 : Value} (hq : w.heap.size ≤ q) :
    But pb w ((((w'.setCell ⟨q, 0, none⟩ v0).setCell ⟨q, 1, none⟩ v1).setCell ⟨q, 2, none⟩ v2).setCell ⟨q, 3, none⟩ v3) :=
  (((h.setHi hq 0 _).setHi hq 1 _).setHi hq 2 _).setHi hq 3 _
theorem row4T {q : Nat} {v0 v1 v2 v3 : Value} {T : TypeId} {fz : Nat × Nat} (h : w.heap[q]? = some (.cells #[v0, v1, v2, v3] T fz)) :
    w.cell? ⟨q, 0, none⟩ = some v0 ∧ w.cell? ⟨q, 1, none⟩ = some v1 ∧ w.cell? ⟨q, 2, none⟩ = some v2 ∧ w.cell? ⟨q, 3, none⟩ = some v3 :=
  ⟨cell_of_row _ _ 0 _ _ _ h, cell_of_row _ _ 1 _ _ _ h, cell_of_row _ _ 2 _ _ _ h, cell_of_row _ _ 3 _ _ _ h⟩
/-- A tree whose blocks are new stands behind stores into one block. -/
theorem RdE.set4 {S S' : Nat → Prop} {ks : List PExpr} {B : Option Addr} (h : RdE w S ks B) {q : Nat} {v0 v1 v2 v3 : Value} (hq : ∀ n, S n → n ≠ q ∧ S' n) :
    RdE ((((w.setCell ⟨q, 0, none⟩ v0).setCell ⟨q, 1, none⟩ v1).setCell ⟨q, 2, none⟩ v2).setCell ⟨q, 3, none⟩ v3) S' ks B :=
  h.keep (fun a v hs hv => (World.cell?_of_block (far4T (hq _ hs).1)).trans hv) fun n hn => (hq n hn).2
end
end Go.Proofs.YtpfgimohginbdaaGreatDoor
