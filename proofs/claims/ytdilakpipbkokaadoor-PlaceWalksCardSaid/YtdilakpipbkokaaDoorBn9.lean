import Derived.Deep.CutRange
import Derived.Deep.CutBlock
import Derived.BigRegion
import Derived.BigQuiet
import Derived.Deep.QuietTactic
import Derived.StillTailTactics
import Derived.Test.YtdilakpipbkokaaDoorBn8
import Derived.Test.YtdilakpipbkokaaDoorBn6
set_option linter.unusedVariables false
set_option linter.unusedSimpArgs false
namespace Go.Proofs.YtdilakpipbkokaaDoor
open Go.RowKit

/-- A call that was told of. -/
structure CC where
  p : List UInt8 × List Int
  X : Option Addr
  c : Nat
def CC.cells (t : CC) : List Value := [.string (mkB t.p.1), .slice t.X t.p.2.length t.c]
theorem row_by {w w' : World} {X : Option Addr} {l : List Int} (h : Row w X (intVs l)) (hs : l ≠ [] → ∀ a, X = some a → w'.heap[a.block]? = w.heap[a.block]?) : Row w' X (intVs l) := fun j u hj => by
  obtain ⟨b, off, e, hc⟩ := h j u hj
  have hl : l ≠ [] := fun e => by subst e; cases hj
  exact ⟨b, off, e, (World.cell?_of_block (show w'.heap[(⟨b, off + j, none⟩ : Addr).block]? = w.heap[(⟨b, off + j, none⟩ : Addr).block]? from hs hl ⟨b, off, none⟩ e)).trans hc⟩
theorem row_lt {w : World} {X : Option Addr} {l : List Int} (h : Row w X (intVs l)) (hl : l ≠ []) (a : Addr) (ha : X = some a) : a.block < w.heap.size := by
  cases l with
  | nil => exact absurd rfl hl
  | cons y l =>
    obtain ⟨b, off, e, hc⟩ := h 0 _ rfl
    rw [ha] at e
    injection e with e
    subst e
    exact World.block_lt_of_cell? w _ hc
theorem callInfo : (Tryd.prog.info? 81).map (fun i => (i.zero, i.size, i.bytes)) = some (some (.agg #[.string ⟨#[]⟩, .slice none 0 0]), 2, 40) := by kernel_rfl
/-- How a walk ended: how, the value, ticks, prints, calls. -/
abbrev DTup := List UInt8 × Int × Int × List Int × List (List UInt8 × List Int)
def adV (D : DTup) (AO : Option Addr) (cO : Nat) (AC : Option Addr) (cC : Nat) : Value := .agg #[.string (mkB D.1), .int .i64 D.2.1, .int .i64 D.2.2.1, .slice AO D.2.2.2.1.length cO, .slice AC D.2.2.2.2.length cC]
def stuckD : DTup := (hStuck, 0, 0, [], [])
structure DnAt (w : World) (D : DTup) (AO AC : Option Addr) (ts : List CC) : Prop where
  out : Row w AO (intVs D.2.2.2.1)
  calls : Row w AC (ts.flatMap CC.cells)
  map : ts.map (·.p) = D.2.2.2.2
  rows : ∀ t ∈ ts, Row w t.X (intVs t.p.2)
theorem DnAt.keep {w w' : World} {D : DTup} {AO AC : Option Addr} {ts : List CC} (h : DnAt w D AO AC ts) (k : Keeps w w') : DnAt w' D AO AC ts :=
  ⟨h.out.keep k, h.calls.keep k, h.map, fun t ht => (h.rows t ht).keep k⟩
structure DSm (D : DTup) : Prop where
  out : D.2.2.2.1.length ≤ 1000
  calls : D.2.2.2.2.length ≤ 1000
  args : ∀ p ∈ D.2.2.2.2, p.2.length ≤ 8
theorem set5A {w : World} {q : Nat} {a0 a1 a2 a3 a4 v0 v1 v2 v3 v4 : Value} {T : TypeId} {fz : Nat × Nat} (h : w.heap[q]? = some (.cells #[a0, a1, a2, a3, a4] T fz)) :
    (((((w.setCell ⟨q, 0, none⟩ v0).setCell ⟨q, 1, none⟩ v1).setCell ⟨q, 2, none⟩ v2).setCell ⟨q, 3, none⟩ v3).setCell ⟨q, 4, none⟩ v4).heap[q]? = some (.cells #[v0, v1, v2, v3, v4] T fz) :=
  row_set (j := 4) v4 (row_set (j := 3) v3 (row_set (j := 2) v2 (row_set (j := 1) v1 (row_set (j := 0) v0 h rfl) rfl) rfl) rfl) (by simp)
theorem row5A {w : World} {q : Nat} {v0 v1 v2 v3 v4 : Value} {T : TypeId} {fz : Nat × Nat} (hrow : w.heap[q]? = some (.cells #[v0, v1, v2, v3, v4] T fz)) :
    w.cell? ⟨q, 0, none⟩ = some v0 ∧ w.cell? ⟨q, 1, none⟩ = some v1 ∧ w.cell? ⟨q, 2, none⟩ = some v2 ∧ w.cell? ⟨q, 3, none⟩ = some v3 ∧ w.cell? ⟨q, 4, none⟩ = some v4 :=
  ⟨cell_of_row _ _ 0 _ _ _ hrow, cell_of_row _ _ 1 _ _ _ hrow, cell_of_row _ _ 2 _ _ _ hrow, cell_of_row _ _ 3 _ _ _ hrow, cell_of_row _ _ 4 _ _ _ hrow⟩
def W5 (w : World) (q : Nat) (v0 v1 v2 v3 v4 : Value) : World := ((((w.setCell ⟨q, 0, none⟩ v0).setCell ⟨q, 1, none⟩ v1).setCell ⟨q, 2, none⟩ v2).setCell ⟨q, 3, none⟩ v3).setCell ⟨q, 4, none⟩ v4
theorem below5A {w0 w : World} {q : Nat} {v0 v1 v2 v3 v4 : Value} (h : Below w0.heap.size w0 w) (hq : w0.heap.size ≤ q) : Below w0.heap.size w0 (((((w.setCell ⟨q, 0, none⟩ v0).setCell ⟨q, 1, none⟩ v1).setCell ⟨q, 2, none⟩ v2).setCell ⟨q, 3, none⟩ v3).setCell ⟨q, 4, none⟩ v4) :=
  ((((h.setCell hq _).setCell hq _).setCell hq _).setCell hq _).setCell hq _
theorem far5A {w : World} {q : Nat} {v0 v1 v2 v3 v4 : Value} (k : Nat) (hk : k ≠ q) : (((((w.setCell ⟨q, 0, none⟩ v0).setCell ⟨q, 1, none⟩ v1).setCell ⟨q, 2, none⟩ v2).setCell ⟨q, 3, none⟩ v3).setCell ⟨q, 4, none⟩ v4).heap[k]? = w.heap[k]? :=
  (Below.heap_setCell _ _ _ _ hk).trans ((Below.heap_setCell _ _ _ _ hk).trans ((Below.heap_setCell _ _ _ _ hk).trans ((Below.heap_setCell _ _ _ _ hk).trans (Below.heap_setCell _ _ _ _ hk))))
theorem toldInfo : (Tryd.prog.info? 79).map (fun i => (i.zero, i.size, i.bytes)) = some (some (.agg #[.string ⟨#[]⟩, .slice none 0 0]), 2, 40) := by kernel_rfl
/-- How the reference's walk ended. -/
def doneV (D : DTup) (AO : Option Addr) (cO : Nat) (AC : Option Addr) (cC : Nat) : Value := .agg #[.string (mkB D.1), .int .i64 D.2.1, .slice AO D.2.2.2.1.length cO, .int .i64 D.2.2.1, .slice AC D.2.2.2.2.length cC]
/-- Its rows lie above. -/
structure DnUp (lo : Nat) (D : DTup) (AO AC : Option Addr) (ts : List CC) : Prop where
  out : D.2.2.2.1 ≠ [] → ∀ a, AO = some a → lo ≤ a.block
  calls : D.2.2.2.2 ≠ [] → ∀ a, AC = some a → lo ≤ a.block
  rows : ∀ t ∈ ts, t.p.2 ≠ [] → ∀ a, t.X = some a → lo ≤ a.block
theorem row_up {w w' : World} {A : Option Addr} {l : List Value} {lo : Nat} (h : Row w A l) (hu : l ≠ [] → ∀ a, A = some a → lo ≤ a.block) (hs : ∀ k, lo ≤ k → w'.heap[k]? = w.heap[k]?) : Row w' A l := fun j u hj => by
  obtain ⟨b, off, e, hc⟩ := h j u hj
  have hl : l ≠ [] := fun e => by subst e; cases hj
  exact ⟨b, off, e, (World.cell?_of_block (show w'.heap[(⟨b, off + j, none⟩ : Addr).block]? = w.heap[(⟨b, off + j, none⟩ : Addr).block]? from hs _ (hu hl ⟨b, off, none⟩ e))).trans hc⟩
theorem DnAt.up {w w' : World} {D : DTup} {AO AC : Option Addr} {ts : List CC} {lo : Nat} (h : DnAt w D AO AC ts) (hu : DnUp lo D AO AC ts) (hs : ∀ k, lo ≤ k → w'.heap[k]? = w.heap[k]?) : DnAt w' D AO AC ts :=
  ⟨row_up h.out (fun hn => hu.out (fun e => hn (by rw [e]; rfl))) hs, row_up h.calls (fun hn => hu.calls (fun e => hn (by have := h.map; rw [e] at this; rw [List.map_eq_nil_iff.1 this]; rfl))) hs, h.map, fun t ht => row_up (h.rows t ht) (fun hn => hu.rows t ht (fun e => hn (by rw [e]; rfl))) hs⟩
end Go.Proofs.YtdilakpipbkokaaDoor

namespace Go.Proofs.YtdilakpipbkokaaDoor
open Go.RowKit

/-! a walk's state in memory: what was made, what was told; the block mb of any form M -/
def boolVs (l : List Bool) : List Value := l.map .bool
theorem boolVs_len (l : List Bool) : (boolVs l).length = l.length := by simp [boolVs]
theorem boolVs_get {l : List Bool} {k : Nat} (h : k < l.length) : (boolVs l)[k]? = some (.bool l[k]) := by simp [boolVs, h]
theorem boolVs_set (l : List Bool) (d : Nat) (b : Bool) : boolVs (l.set d b) = (boolVs l).set d (.bool b) := by simp [boolVs, List.map_set]
/-- A row whose block is none of these. -/
def FarW (t : CC) (lo mb gb hb : Nat) (vO vC : Value) : Prop := t.p.2 ≠ [] → ∀ a, t.X = some a → a.block ≠ mb ∧ a.block ≠ gb ∧ a.block ≠ hb ∧ vO.ownBlock ≠ some a.block ∧ vC.ownBlock ≠ some a.block ∧ lo ≤ a.block
def TyW (TM TC TB : TypeId) : Prop := (TM ≠ 3 ∧ TM ≠ 4 ∧ TM ≠ TC) ∧ (TC ≠ 3 ∧ TC ≠ 4) ∧ (TB ≠ TM ∧ TB ≠ 3 ∧ TB ≠ 4 ∧ TB ≠ TC) ∧ 3 ≠ (4 : TypeId)
structure WG (M : List UInt8 → Int → Int → Value → Value → List Value) (TM TC TB : TypeId) (w0 : World) (mb gb hb : Nat) (F : Nat → Array Value → Prop) (s : WSt) (h : List UInt8) (v : Int) (vO vC : Value) (ts : List CC) (w : World) : Prop where
  ty : TyW TM TC TB
  bel : Below w0.heap.size w0 w
  lowM : w0.heap.size ≤ mb
  lowG : w0.heap.size ≤ gb
  lowH : w0.heap.size ≤ hb
  blk : w.heap[mb]? = some (.cells (M h v s.ticks vO vC).toArray TM (0, 0))
  got : w.heap[gb]? = some (.cells (intVs s.got).toArray 3 (0, 0))
  has : w.heap[hb]? = some (.cells (boolVs s.has).toArray 4 (0, 0))
  out : w.ownsRow w0.heap.size 3 1 vO s.out.length (intVs s.out)
  one : vO.ownBlock ≠ some gb
  calls : w.ownsRow w0.heap.size TC 2 vC s.calls.length (ts.flatMap CC.cells)
  map : ts.map (·.p) = s.calls
  rows : ∀ t ∈ ts, Row w t.X (intVs t.p.2)
  far : ∀ t ∈ ts, FarW t w0.heap.size mb gb hb vO vC
  fr : ∀ q cs, F q cs → w.heap[q]? = some (.cells cs TB (0, 0))
theorem ty_ne {w : World} {a b : Nat} {x y : Array Value} {T U : TypeId} {f g : Nat × Nat} (h1 : w.heap[a]? = some (.cells x T f)) (h2 : w.heap[b]? = some (.cells y U g)) (hT : T ≠ U) : a ≠ b := fun e => by
  subst e
  rw [h1] at h2
  injection h2 with h2
  injection h2 with _ h2 _
  exact hT h2
theorem own_apart {w : World} {base : Nat} {e : TypeId} {size : Nat} {v : Value} {n : Nat} {xs : List Value} {x : Nat} {cs : Array Value} {T : TypeId} (h : w.ownsRow base e size v n xs) (hx : w.heap[x]? = some (.cells cs T (0, 0))) (hT : T ≠ e) : v.ownBlock ≠ some x :=
  own_else h hx fun cs' e' => by injection e' with _ e' _; exact hT e'
section
variable {M : List UInt8 → Int → Int → Value → Value → List Value} {TM TC TB : TypeId} {w0 : World} {mb gb hb : Nat} {F : Nat → Array Value → Prop} {s : WSt} {h : List UInt8} {v : Int} {vO vC : Value} {ts : List CC} {w w' : World}
theorem WG.ltM (H : WG M TM TC TB w0 mb gb hb F s h v vO vC ts w) : mb < w.heap.size := (Array.getElem?_eq_some_iff.1 H.blk).1
theorem WG.ltG (H : WG M TM TC TB w0 mb gb hb F s h v vO vC ts w) : gb < w.heap.size := (Array.getElem?_eq_some_iff.1 H.got).1
theorem WG.ltH (H : WG M TM TC TB w0 mb gb hb F s h v vO vC ts w) : hb < w.heap.size := (Array.getElem?_eq_some_iff.1 H.has).1
theorem WG.neMG (H : WG M TM TC TB w0 mb gb hb F s h v vO vC ts w) : mb ≠ gb := ty_ne H.blk H.got H.ty.1.1
theorem WG.neMH (H : WG M TM TC TB w0 mb gb hb F s h v vO vC ts w) : mb ≠ hb := ty_ne H.blk H.has H.ty.1.2.1
theorem WG.neGH (H : WG M TM TC TB w0 mb gb hb F s h v vO vC ts w) : gb ≠ hb := ty_ne H.got H.has H.ty.2.2.2
theorem WG.nO (H : WG M TM TC TB w0 mb gb hb F s h v vO vC ts w) : vO.ownBlock ≠ some mb := own_apart H.out H.blk H.ty.1.1
theorem WG.nOh (H : WG M TM TC TB w0 mb gb hb F s h v vO vC ts w) : vO.ownBlock ≠ some hb := own_apart H.out H.has (Ne.symm H.ty.2.2.2)
theorem WG.nC (H : WG M TM TC TB w0 mb gb hb F s h v vO vC ts w) : vC.ownBlock ≠ some mb := own_apart H.calls H.blk H.ty.1.2.2
theorem WG.nCg (H : WG M TM TC TB w0 mb gb hb F s h v vO vC ts w) : vC.ownBlock ≠ some gb := own_apart H.calls H.got (Ne.symm H.ty.2.1.1)
theorem WG.nCh (H : WG M TM TC TB w0 mb gb hb F s h v vO vC ts w) : vC.ownBlock ≠ some hb := own_apart H.calls H.has (Ne.symm H.ty.2.1.2)
theorem WG.frM (H : WG M TM TC TB w0 mb gb hb F s h v vO vC ts w) {q : Nat} {cs : Array Value} (hq : F q cs) : q ≠ mb := ty_ne (H.fr q cs hq) H.blk H.ty.2.2.1.1
theorem WG.frG (H : WG M TM TC TB w0 mb gb hb F s h v vO vC ts w) {q : Nat} {cs : Array Value} (hq : F q cs) : q ≠ gb := ty_ne (H.fr q cs hq) H.got H.ty.2.2.1.2.1
theorem WG.frH (H : WG M TM TC TB w0 mb gb hb F s h v vO vC ts w) {q : Nat} {cs : Array Value} (hq : F q cs) : q ≠ hb := ty_ne (H.fr q cs hq) H.has H.ty.2.2.1.2.2.1
theorem WG.frL (H : WG M TM TC TB w0 mb gb hb F s h v vO vC ts w) {q : Nat} {cs : Array Value} (hq : F q cs) : q < w.heap.size := (Array.getElem?_eq_some_iff.1 (H.fr q cs hq)).1
theorem WG.frO (H : WG M TM TC TB w0 mb gb hb F s h v vO vC ts w) {q : Nat} {cs : Array Value} (hq : F q cs) : vO.ownBlock ≠ some q := own_apart H.out (H.fr q cs hq) H.ty.2.2.1.2.1
theorem WG.frC (H : WG M TM TC TB w0 mb gb hb F s h v vO vC ts w) {q : Nat} {cs : Array Value} (hq : F q cs) : vC.ownBlock ≠ some q := own_apart H.calls (H.fr q cs hq) H.ty.2.2.1.2.2.2
theorem WG.reF {F' : Nat → Array Value → Prop} (H : WG M TM TC TB w0 mb gb hb F s h v vO vC ts w) (hF : ∀ q cs, F' q cs → w.heap[q]? = some (.cells cs TB (0, 0))) : WG M TM TC TB w0 mb gb hb F' s h v vO vC ts w := { H with fr := hF }
theorem WG.cellM (H : WG M TM TC TB w0 mb gb hb F s h v vO vC ts w) {j : Nat} {u : Value} (hj : (M h v s.ticks vO vC)[j]? = some u) : w.cell? ⟨mb, j, none⟩ = some u := by
  rw [cell_of_row w mb j _ _ _ H.blk, List.getElem?_toArray]
  exact hj
theorem WG.cellG (H : WG M TM TC TB w0 mb gb hb F s h v vO vC ts w) {j : Nat} (hj : j < s.got.length) : w.cell? ⟨gb, j, none⟩ = some (.int .i64 (s.got.getD j 0)) := by
  rw [cell_of_row w gb j _ _ _ H.got, List.getElem?_toArray, intVs_get hj, List.getD_eq_getElem?_getD, List.getElem?_eq_getElem hj]; rfl
theorem WG.cellH (H : WG M TM TC TB w0 mb gb hb F s h v vO vC ts w) {j : Nat} (hj : j < s.has.length) : w.cell? ⟨hb, j, none⟩ = some (.bool (s.has.getD j false)) := by
  rw [cell_of_row w hb j _ _ _ H.has, List.getElem?_toArray, boolVs_get hj, List.getD_eq_getElem?_getD, List.getElem?_eq_getElem hj]; rfl
theorem WG.frozM (H : WG M TM TC TB w0 mb gb hb F s h v vO vC ts w) (j : Nat) : w.frozen? ⟨mb, j, none⟩ = false := row_frozen H.blk j
theorem WG.frozG (H : WG M TM TC TB w0 mb gb hb F s h v vO vC ts w) (j : Nat) : w.frozen? ⟨gb, j, none⟩ = false := row_frozen H.got j
theorem WG.frozH (H : WG M TM TC TB w0 mb gb hb F s h v vO vC ts w) (j : Nat) : w.frozen? ⟨hb, j, none⟩ = false := row_frozen H.has j
theorem WG.below (H : WG M TM TC TB w0 mb gb hb F s h v vO vC ts w) (hbb : Below w.heap.size w w') : WG M TM TC TB w0 mb gb hb F s h v vO vC ts w' where
  ty := H.ty
  bel := grow_trans H.bel hbb
  lowM := H.lowM
  lowG := H.lowG
  lowH := H.lowH
  blk := (hbb.block _ H.ltM).trans H.blk
  got := (hbb.block _ H.ltG).trans H.got
  has := (hbb.block _ H.ltH).trans H.has
  out := own_same H.out fun j hj => hbb.block _ (own_lt H.out hj).2
  one := H.one
  calls := own_same H.calls fun j hj => hbb.block _ (own_lt H.calls hj).2
  map := H.map
  rows := fun t ht => (H.rows t ht).keep (Keeps.of_below hbb)
  far := H.far
  fr := fun q cs hq => (hbb.block _ (H.frL hq)).trans (H.fr q cs hq)
theorem WG.drewN (H : WG M TM TC TB w0 mb gb hb F s h v vO vC ts w) (n : Nat) : WG M TM TC TB w0 mb gb hb F s h v vO vC ts (w.drewN n) := H.below (below_drewN (Below.refl _ _) n)
/-- A cell of mb is stored. -/
theorem WG.set {h' : List UInt8} {v' t' : Int} {j : Nat} (y : Value) (H : WG M TM TC TB w0 mb gb hb F s h v vO vC ts w) (hl : M h' v' t' vO vC = (M h v s.ticks vO vC).set j y) :
    WG M TM TC TB w0 mb gb hb F { s with ticks := t' } h' v' vO vC ts (w.setCell ⟨mb, j, none⟩ y) where
  ty := H.ty
  bel := H.bel.setCell H.lowM _
  lowM := H.lowM
  lowG := H.lowG
  lowH := H.lowH
  blk := row_set (j := j) y H.blk (by simp only [hl]; simp)
  got := (Below.heap_setCell _ _ _ _ (Ne.symm H.neMG)).trans H.got
  has := (Below.heap_setCell _ _ _ _ (Ne.symm H.neMH)).trans H.has
  out := own_same H.out fun j hj => Below.heap_setCell _ _ _ _ (fun e => H.nO (by rw [hj, e]))
  one := H.one
  calls := own_same H.calls fun j hj => Below.heap_setCell _ _ _ _ (fun e => H.nC (by rw [hj, e]))
  map := H.map
  rows := fun t ht => row_by (H.rows t ht) fun hl a ha => Below.heap_setCell _ _ _ _ (H.far t ht hl a ha).1
  far := H.far
  fr := fun q cs hq => (Below.heap_setCell _ _ _ _ (H.frM hq)).trans (H.fr q cs hq)
/-- A value is stored. -/
theorem WG.setG (H : WG M TM TC TB w0 mb gb hb F s h v vO vC ts w) (d : Nat) (n : Int) : WG M TM TC TB w0 mb gb hb F { s with got := s.got.set d n } h v vO vC ts (w.setCell ⟨gb, d, none⟩ (.int .i64 n)) where
  ty := H.ty
  bel := H.bel.setCell H.lowG _
  lowM := H.lowM
  lowG := H.lowG
  lowH := H.lowH
  blk := (Below.heap_setCell _ _ _ _ H.neMG).trans H.blk
  got := row_set (j := d) _ H.got (by rw [intVs_set]; simp)
  has := (Below.heap_setCell _ _ _ _ (Ne.symm H.neGH)).trans H.has
  out := own_same H.out fun j hj => Below.heap_setCell _ _ _ _ (fun e => H.one (by rw [hj, e]))
  one := H.one
  calls := own_same H.calls fun j hj => Below.heap_setCell _ _ _ _ (fun e => H.nCg (by rw [hj, e]))
  map := H.map
  rows := fun t ht => row_by (H.rows t ht) fun hl a ha => Below.heap_setCell _ _ _ _ (H.far t ht hl a ha).2.1
  far := H.far
  fr := fun q cs hq => (Below.heap_setCell _ _ _ _ (H.frG hq)).trans (H.fr q cs hq)
theorem WG.setH (H : WG M TM TC TB w0 mb gb hb F s h v vO vC ts w) (d : Nat) (n : Bool) : WG M TM TC TB w0 mb gb hb F { s with has := s.has.set d n } h v vO vC ts (w.setCell ⟨hb, d, none⟩ (.bool n)) where
  ty := H.ty
  bel := H.bel.setCell H.lowH _
  lowM := H.lowM
  lowG := H.lowG
  lowH := H.lowH
  blk := (Below.heap_setCell _ _ _ _ H.neMH).trans H.blk
  got := (Below.heap_setCell _ _ _ _ H.neGH).trans H.got
  has := row_set (j := d) _ H.has (by rw [boolVs_set]; simp)
  out := own_same H.out fun j hj => Below.heap_setCell _ _ _ _ (fun e => H.nOh (by rw [hj, e]))
  one := H.one
  calls := own_same H.calls fun j hj => Below.heap_setCell _ _ _ _ (fun e => H.nCh (by rw [hj, e]))
  map := H.map
  rows := fun t ht => row_by (H.rows t ht) fun hl a ha => Below.heap_setCell _ _ _ _ (H.far t ht hl a ha).2.2.1
  far := H.far
  fr := fun q cs hq => (Below.heap_setCell _ _ _ _ (H.frH hq)).trans (H.fr q cs hq)
/-- A value is put. -/
theorem WG.put (H : WG M TM TC TB w0 mb gb hb F s h v vO vC ts w) {d : Nat} (n : Int) : WG M TM TC TB w0 mb gb hb F (putW s d n) h v vO vC ts ((w.setCell ⟨gb, d, none⟩ (.int .i64 n)).setCell ⟨hb, d, none⟩ (.bool true)) := (H.setG d n).setH d true
theorem WG.put' (H : WG M TM TC TB w0 mb gb hb F s h v vO vC ts w) {d : Nat} (n : Int) : WG M TM TC TB w0 mb gb hb F (putW s d n) h v vO vC ts ((w.setCell ⟨hb, d, none⟩ (.bool true)).setCell ⟨gb, d, none⟩ (.int .i64 n)) := (H.setH d true).setG d n
/-- Behind an append to what was printed. -/
theorem WG.putO {w4 : World} {o : Obj} {n : Int} {g cap jO : Nat} (H : WG M TM TC TB w0 mb gb hb F s h v vO vC ts w) (hM : ∀ x, M h v s.ticks x vC = (M h v s.ticks vO vC).set jO x) (hown : w4.ownsRow w0.heap.size 3 1 (.slice (some ⟨g, 0, none⟩) (s.out.length + 1) cap) (s.out.length + 1) (intVs s.out ++ [.int .i64 n]))
    (hg : (w.alloc o).grownBy w4 vO.ownBlock) (hat : vO.ownBlock = some g ∨ g = w.heap.size + 1) :
    w4.heap[mb]? = w.heap[mb]? ∧ WG M TM TC TB w0 mb gb hb F { s with out := s.out ++ [n] } h v (.slice (some ⟨g, 0, none⟩) (s.out.length + 1) cap) vC ts (w4.setCell ⟨mb, jO, none⟩ (.slice (some ⟨g, 0, none⟩) (s.out.length + 1) cap)) := by
  have hm : ∀ k, k < w.heap.size → vO.ownBlock ≠ some k → w4.heap[k]? = w.heap[k]? := fun k hk hne => by rw [hg.block k (by simp; omega) (fun e => hne e.symm)]; exact old_block _ _ hk
  have hmb := hm mb H.ltM H.nO
  have hgm : g ≠ mb := fun e => own_apart hown (hmb.trans H.blk) H.ty.1.1 (by rw [e]; rfl)
  have hgs : g ≠ gb := fun e => by
    rcases hat with h1 | h1
    · exact H.one (by rw [h1, e])
    · have := H.ltG; omega
  have hs2 : ∀ k, k ≠ mb → (w4.setCell ⟨mb, jO, none⟩ (.slice (some ⟨g, 0, none⟩) (s.out.length + 1) cap)).heap[k]? = w4.heap[k]? := fun k hk => Below.heap_setCell _ _ _ _ hk
  refine ⟨hmb, ?_⟩
  refine { ty := H.ty, bel := H.bel.trans ((Below.grown ((Below.refl w0.heap.size w).alloc H.bel.size o) hg (by simp; have := H.bel.size; omega) (fun q hq => (own_lt H.out hq).1)).setCell H.lowM _), lowM := H.lowM, lowG := H.lowG, lowH := H.lowH, blk := row_set (j := jO) _ (hmb.trans H.blk) ?_, got := (hs2 _ (Ne.symm H.neMG)).trans ((hm gb H.ltG H.one).trans H.got), has := (hs2 _ (Ne.symm H.neMH)).trans ((hm hb H.ltH H.nOh).trans H.has), out := ?_, one := ?_, calls := ?_, map := H.map, rows := fun t ht => ?_, far := fun t ht hl a ha => ?_, fr := fun q cs hq => (hs2 _ (H.frM hq)).trans ((hm _ (H.frL hq) (H.frO hq)).trans (H.fr q cs hq)) }
  · show (M h v s.ticks _ vC).toArray = _
    rw [hM]; simp
  · have e : intVs (s.out ++ [n]) = intVs s.out ++ [.int .i64 n] := intVs_snoc _ _
    show World.ownsRow _ _ _ _ _ (s.out ++ [n]).length (intVs (s.out ++ [n]))
    rw [e, List.length_append, List.length_singleton]
    exact own_same hown fun j hj => hs2 j (fun e => hgm (by injection hj with hj; exact (show g = j from hj).trans e))
  · intro e; injection e with e; exact hgs e
  · refine own_same H.calls fun j hj => ?_
    have h1 := own_lt H.calls hj
    have h2 := own_ne H.calls H.out H.ty.2.1.1 hj
    exact (hs2 j (fun e => H.nC (by rw [hj, e]))).trans (hm j h1.2 h2)
  · refine row_by (H.rows t ht) fun hl a ha => ?_
    have hf := H.far t ht hl a ha
    exact (hs2 _ hf.1).trans (hm _ (row_lt (H.rows t ht) hl a ha) hf.2.2.2.1)
  · have hf := H.far t ht hl a ha
    refine ⟨hf.1, hf.2.1, hf.2.2.1, ?_, hf.2.2.2.2⟩
    intro e
    injection e with e
    have e2 : g = a.block := e
    rcases hat with h1 | h1
    · exact hf.2.2.2.1 (by rw [h1, e2])
    · have := row_lt (H.rows t ht) hl a ha; omega
/-- Behind an append to the calls told of. -/
theorem WG.putC {w4 : World} {o : Obj} {t : CC} {g cap jC : Nat} (H : WG M TM TC TB w0 mb gb hb F s h v vO vC ts w) (hM : ∀ x, M h v s.ticks vO x = (M h v s.ticks vO vC).set jC x) (hown : w4.ownsRow w0.heap.size TC 2 (.slice (some ⟨g, 0, none⟩) (s.calls.length + 1) cap) (s.calls.length + 1) (ts.flatMap CC.cells ++ t.cells))
    (hg : (w.alloc o).grownBy w4 vC.ownBlock) (hat : vC.ownBlock = some g ∨ g = w.heap.size + 1) (hrow : Row w t.X (intVs t.p.2)) (hfar : FarW t w0.heap.size mb gb hb vO vC) :
    w4.heap[mb]? = w.heap[mb]? ∧ WG M TM TC TB w0 mb gb hb F { s with calls := s.calls ++ [t.p] } h v vO (.slice (some ⟨g, 0, none⟩) (s.calls.length + 1) cap) (ts ++ [t]) (w4.setCell ⟨mb, jC, none⟩ (.slice (some ⟨g, 0, none⟩) (s.calls.length + 1) cap)) := by
  have hm : ∀ k, k < w.heap.size → vC.ownBlock ≠ some k → w4.heap[k]? = w.heap[k]? := fun k hk hne => by rw [hg.block k (by simp; omega) (fun e => hne e.symm)]; exact old_block _ _ hk
  have hmb := hm mb H.ltM H.nC
  have hgm : g ≠ mb := fun e => own_apart hown (hmb.trans H.blk) H.ty.1.2.2 (by rw [e]; rfl)
  have hs2 : ∀ k, k ≠ mb → (w4.setCell ⟨mb, jC, none⟩ (.slice (some ⟨g, 0, none⟩) (s.calls.length + 1) cap)).heap[k]? = w4.heap[k]? := fun k hk => Below.heap_setCell _ _ _ _ hk
  have hall : ∀ t' ∈ ts ++ [t], Row w t'.X (intVs t'.p.2) ∧ FarW t' w0.heap.size mb gb hb vO vC := fun t' ht => by
    rcases List.mem_append.1 ht with ht | ht
    · exact ⟨H.rows _ ht, H.far _ ht⟩
    · rw [List.mem_singleton.1 ht]; exact ⟨hrow, hfar⟩
  refine ⟨hmb, ?_⟩
  refine { ty := H.ty, bel := H.bel.trans ((Below.grown ((Below.refl w0.heap.size w).alloc H.bel.size o) hg (by simp; have := H.bel.size; omega) (fun q hq => (own_lt H.calls hq).1)).setCell H.lowM _), lowM := H.lowM, lowG := H.lowG, lowH := H.lowH, blk := row_set (j := jC) _ (hmb.trans H.blk) ?_, got := (hs2 _ (Ne.symm H.neMG)).trans ((hm gb H.ltG H.nCg).trans H.got), has := (hs2 _ (Ne.symm H.neMH)).trans ((hm hb H.ltH H.nCh).trans H.has), out := ?_, one := H.one, calls := ?_, map := ?_, rows := fun t' ht => ?_, far := fun t' ht hl a ha => ?_, fr := fun q cs hq => (hs2 _ (H.frM hq)).trans ((hm _ (H.frL hq) (H.frC hq)).trans (H.fr q cs hq)) }
  · show (M h v s.ticks vO _).toArray = _
    rw [hM]; simp
  · refine own_same H.out fun j hj => ?_
    have h1 := own_lt H.out hj
    have h2 := own_ne H.out H.calls (Ne.symm H.ty.2.1.1) hj
    exact (hs2 j (fun e => H.nO (by rw [hj, e]))).trans (hm j h1.2 h2)
  · show World.ownsRow _ _ _ _ _ (s.calls ++ [t.p]).length ((ts ++ [t]).flatMap CC.cells)
    rw [List.length_append, List.length_singleton, List.flatMap_append, List.flatMap_singleton]
    exact own_same hown fun j hj => hs2 j (fun e => hgm (by injection hj with hj; exact (show g = j from hj).trans e))
  · show (ts ++ [t]).map (·.p) = s.calls ++ [t.p]
    rw [List.map_append, H.map]; rfl
  · refine row_by (hall t' ht).1 fun hl a ha => ?_
    have hf := (hall t' ht).2 hl a ha
    exact (hs2 _ hf.1).trans (hm _ (row_lt (hall t' ht).1 hl a ha) hf.2.2.2.2.1)
  · have hf := (hall t' ht).2 hl a ha
    refine ⟨hf.1, hf.2.1, hf.2.2.1, hf.2.2.2.1, ?_, hf.2.2.2.2.2⟩
    intro e
    injection e with e
    have e2 : g = a.block := e
    rcases hat with h1 | h1
    · exact hf.2.2.2.2.1 (by rw [h1, e2])
    · have := row_lt (hall t' ht).1 hl a ha; omega
/-- A fresh row lies far from all of it. -/
theorem WG.fresh (H : WG M TM TC TB w0 mb gb hb F s h v vO vC ts w) {t : CC} (hu : t.p.2 ≠ [] → ∀ a, t.X = some a → w.heap.size ≤ a.block) : FarW t w0.heap.size mb gb hb vO vC := fun hl a ha => by
  have h0 := hu hl a ha
  have h1 := H.ltM
  have h2 := H.ltG
  have h3 := H.ltH
  have h4 := H.bel.size
  exact ⟨by omega, by omega, by omega, fun e => by have := (own_lt H.out e).2; omega, fun e => by have := (own_lt H.calls e).2; omega, by omega⟩
end
end Go.Proofs.YtdilakpipbkokaaDoor
