import Derived.Deep.CutBlock
import Derived.Deep.CutRange
import Derived.Test.YtpmpeihcdiohmaaDoorBn15
import Derived.Test.YtpmpeihcdiohmaaDoorBn16
import Derived.Test.YtpmpeihcdiohmaaDoorBn6
set_option linter.unusedVariables false
set_option linter.unusedSimpArgs false
namespace Go.Proofs.YtpmpeihcdiohmaaDoor
open Go.RowKit

/-! a code as the package has it (printed by gen_alas.py) -/
theorem lowInfo : (Tryd.prog.info? 52).map (fun i => (i.zero, i.size, i.bytes)) = some (some (.agg #[.string ⟨#[]⟩, .int .i64 0, .int .i64 0, .int .i64 0, .int .i64 0, .string ⟨#[]⟩]), 6, 64) := by kernel_rfl
theorem blkInfo : (Tryd.prog.info? 55).map (fun i => (i.zero, i.size, i.bytes)) = some (some (.agg #[.slice none 0 0, .string ⟨#[]⟩, .int .i64 0, .slice none 0 0]), 4, 72) := by kernel_rfl
/-- A block that was copied. -/
structure BC where
  b : PBlk
  I : Option Addr
  ic : Nat
  N : Option Addr
  nc : Nat
def BC.cells (t : BC) : List Value := blkL t.b t.I t.ic t.N t.nc
structure BC.Ok (w : World) (base : Nat) (t : BC) : Prop where
  ins : w.ownsRow base 52 6 (.slice t.I t.b.ins.length t.ic) t.b.ins.length (t.b.ins.flatMap lowL)
  nx : w.ownsRow base 3 1 (.slice t.N t.b.nx.length t.nc) t.b.nx.length (intVs t.b.nx)
theorem BC.Ok.below {w w' : World} {base : Nat} {t : BC} (h : t.Ok w base) (hb : Below w.heap.size w w') : t.Ok w' base :=
  ⟨own_same h.ins fun j hj => hb.block _ (own_lt h.ins hj).2, own_same h.nx fun j hj => hb.block _ (own_lt h.nx hj).2⟩
/-- The code, as far as it is copied. -/
structure AsC (c : PCd) (base ob k : Nat) (ts : List BC) (vB : Value) (w : World) : Prop where
  blk : w.heap[ob]? = some (.cells #[.string (mkB c.name), .int .i64 c.params, .int .i64 c.slots, vB] 31 (0, 0))
  own : w.ownsRow base 55 4 vB k (ts.flatMap BC.cells)
  map : ts.map (·.b) = c.blocks.take k
  ok : ∀ t ∈ ts, t.Ok w base
theorem AsC.below {c : PCd} {base ob k : Nat} {ts : List BC} {vB : Value} {w w' : World} (h : AsC c base ob k ts vB w) (hb : Below w.heap.size w w') : AsC c base ob k ts vB w' :=
  ⟨(hb.block _ (Array.getElem?_eq_some_iff.1 h.blk).1).trans h.blk, own_same h.own fun j hj => hb.block _ (own_lt h.own hj).2, h.map, fun t ht => (h.ok t ht).below hb⟩
theorem BC.Ok.mono {w : World} {base base' : Nat} {t : BC} (h : t.Ok w base) (hb : base' ≤ base) : t.Ok w base' := ⟨owns_mono h.ins hb, owns_mono h.nx hb⟩
/-- One block more. -/
theorem AsC.next {c : PCd} {base ob k : Nat} {ts : List BC} {vB v' : Value} {w w4 : World} {o : Obj} {t : BC} (h : AsC c base ob k ts vB w) (hk : k < c.blocks.length) (hob : base ≤ ob) (ht : t.b = c.blocks[k]) (hok : t.Ok w base)
    (hown : w4.ownsRow base 55 4 v' (k + 1) (ts.flatMap BC.cells ++ t.cells)) (hg : (w.alloc o).grownBy w4 vB.ownBlock) :
    w4.heap[ob]? = w.heap[ob]? ∧ AsC c base ob (k + 1) (ts ++ [t]) v' (w4.setCell ⟨ob, 3, none⟩ v') ∧ Below base w (w4.setCell ⟨ob, 3, none⟩ v') := by
  have hlt := (Array.getElem?_eq_some_iff.1 h.blk).1
  have hne : vB.ownBlock ≠ some ob := own_else h.own h.blk fun cs e => by injection e with _ e _; exact absurd e (by decide)
  have hm : w4.heap[ob]? = w.heap[ob]? := by rw [hg.block ob (by simp; omega) (fun e => hne e.symm)]; exact old_block _ _ hlt
  have hne2 : v'.ownBlock ≠ some ob := own_else hown (hm.trans h.blk) fun cs e => by injection e with _ e _; exact absurd e (by decide)
  have hsame : ∀ (e : TypeId) (size : Nat) (v : Value) (n : Nat) (xs : List Value), w.ownsRow base e size v n xs → e ≠ 55 → e ≠ 31 → (w4.setCell ⟨ob, 3, none⟩ v').ownsRow base e size v n xs := fun e size v n xs ho he1 he2 => by
    refine own_same ho fun j hj => ?_
    have h1 := own_lt ho hj
    have h2 := own_ne ho h.own he1 hj
    have h3 : j ≠ ob := fun e3 => by
      subst e3
      exact own_else ho h.blk (fun cs e4 => by injection e4 with _ e4 _; exact he2 e4.symm) hj
    refine (Below.heap_setCell _ _ _ _ h3).trans ?_
    rw [hg.block j (by simp; omega) (fun e => h2 e.symm)]
    exact old_block _ _ h1.2
  refine ⟨hm, ⟨row_set (j := 3) v' (hm.trans h.blk) (by simp), ?_, by rw [List.map_append, h.map, List.take_succ_eq_append_getElem hk]; simp [ht], fun s hs => ?_⟩, ?_⟩
  · rw [List.flatMap_append]
    have e2 : ([t] : List BC).flatMap BC.cells = t.cells := by simp
    rw [e2]
    exact own_same hown fun j hj => Below.heap_setCell _ _ _ _ (fun e => hne2 (by rw [hj, e]))
  · rcases List.mem_append.1 hs with hs | hs
    · have h5 := h.ok s hs
      exact ⟨hsame _ _ _ _ _ h5.ins (by decide) (by decide), hsame _ _ _ _ _ h5.nx (by decide) (by decide)⟩
    · rw [List.mem_singleton.1 hs]
      exact ⟨hsame _ _ _ _ _ hok.ins (by decide) (by decide), hsame _ _ _ _ _ hok.nx (by decide) (by decide)⟩
  · exact (Below.grown ((Below.refl base w).alloc (by omega) o) hg (by simp; omega) (fun q hq => (own_lt h.own hq).1)).trans ((Below.refl base w4).setCell (p := ⟨ob, 3, none⟩) hob _)
/-- The block that is being copied. -/
structure AsX (x : PBlk) (base xb k : Nat) (vI : Value) (N : Option Addr) (nc : Nat) (w : World) : Prop where
  blk : w.heap[xb]? = some (.cells #[vI, .string (mkB x.fin), .int .i64 x.a, .slice N x.nx.length nc] 55 (0, 0))
  ins : w.ownsRow base 52 6 vI k ((x.ins.take k).flatMap lowL)
  nx : w.ownsRow base 3 1 (.slice N x.nx.length nc) x.nx.length (intVs x.nx)
theorem AsX.below {x : PBlk} {base xb k : Nat} {vI : Value} {N : Option Addr} {nc : Nat} {w w' : World} (h : AsX x base xb k vI N nc w) (hb : Below w.heap.size w w') : AsX x base xb k vI N nc w' :=
  ⟨(hb.block _ (Array.getElem?_eq_some_iff.1 h.blk).1).trans h.blk, own_same h.ins fun j hj => hb.block _ (own_lt h.ins hj).2, own_same h.nx fun j hj => hb.block _ (own_lt h.nx hj).2⟩
theorem AsX.next {x : PBlk} {base xb k : Nat} {vI v' : Value} {N : Option Addr} {nc : Nat} {w w4 : World} {o : Obj} (h : AsX x base xb k vI N nc w) (hk : k < x.ins.length) (hob : base ≤ xb)
    (hown : w4.ownsRow base 52 6 v' (k + 1) ((x.ins.take k).flatMap lowL ++ lowL x.ins[k])) (hg : (w.alloc o).grownBy w4 vI.ownBlock) :
    w4.heap[xb]? = w.heap[xb]? ∧ AsX x base xb (k + 1) v' N nc (w4.setCell ⟨xb, 0, none⟩ v') ∧ Below base w (w4.setCell ⟨xb, 0, none⟩ v') := by
  have hlt := (Array.getElem?_eq_some_iff.1 h.blk).1
  have hne : vI.ownBlock ≠ some xb := own_else h.ins h.blk fun cs e => by injection e with _ e _; exact absurd e (by decide)
  have hnn : (Value.slice N x.nx.length nc).ownBlock ≠ some xb := own_else h.nx h.blk fun cs e => by injection e with _ e _; exact absurd e (by decide)
  have hm : w4.heap[xb]? = w.heap[xb]? := by rw [hg.block xb (by simp; omega) (fun e => hne e.symm)]; exact old_block _ _ hlt
  have hne2 : v'.ownBlock ≠ some xb := own_else hown (hm.trans h.blk) fun cs e => by injection e with _ e _; exact absurd e (by decide)
  refine ⟨hm, ⟨row_set (j := 0) v' (hm.trans h.blk) (by simp), ?_, own_same h.nx fun j hj => (Below.heap_setCell _ _ _ _ (fun e => hnn (by rw [hj, e]))).trans ?_⟩, ?_⟩
  · rw [List.take_succ_eq_append_getElem hk, List.flatMap_append]
    have e2 : ([x.ins[k]] : List PLow).flatMap lowL = lowL x.ins[k] := by simp
    rw [e2]
    exact own_same hown fun j hj => Below.heap_setCell _ _ _ _ (fun e => hne2 (by rw [hj, e]))
  · have h1 := own_lt h.nx hj
    have h2 := own_ne h.nx h.ins (by decide) hj
    rw [hg.block j (by simp; omega) (fun e => h2 e.symm)]
    exact old_block _ _ h1.2
  · exact (Below.grown ((Below.refl base w).alloc (by omega) o) hg (by simp; omega) (fun q hq => (own_lt h.ins hq).1)).trans ((Below.refl base w4).setCell (p := ⟨xb, 0, none⟩) hob _)
theorem bc_get : ∀ (ts : List BC) (k : Nat) (h : k < ts.length) (i : Nat), i < 4 → (ts.flatMap BC.cells)[k * 4 + i]? = (ts[k].cells)[i]? := by
  intro ts
  induction ts with
  | nil => intro k h; simp at h
  | cons t ts ih =>
    intro k h i hi
    rw [List.flatMap_cons]
    cases k with
    | zero =>
      rw [Nat.zero_mul, Nat.zero_add, List.getElem?_append_left (by simpa [BC.cells, blkL] using hi)]
      rfl
    | succ k =>
      rw [List.getElem?_append_right (by simp [BC.cells, blkL]; omega)]
      have e : (k + 1) * 4 + i - t.cells.length = k * 4 + i := by simp [BC.cells, blkL]; omega
      rw [e]
      exact ih k (by simpa using h) i hi
/-- What was copied reads as the code. -/
theorem AsC.read {c : PCd} {base ob : Nat} {ts : List BC} {vB : Value} {w : World} (h : AsC c base ob c.blocks.length ts vB w) : ∃ A ca, vB = .slice A c.blocks.length ca ∧ c.blocks.length ≤ ca ∧ RdC w A c.blocks := by
  obtain ⟨A, ca, e, hle, hr⟩ := owns_rowG h.own
  refine ⟨A, ca, e, hle, fun k hk => ?_⟩
  have hm := h.map
  rw [List.take_length] at hm
  have hlen : ts.length = c.blocks.length := by rw [← hm, List.length_map]
  have hk' : k < ts.length := by omega
  have hb : c.blocks[k] = ts[k].b := by
    have : (ts.map (·.b))[k]? = c.blocks[k]? := by rw [hm]
    rw [List.getElem?_map, List.getElem?_eq_getElem hk', List.getElem?_eq_getElem hk] at this
    exact (Option.some.inj this).symm
  have g := bc_get ts k hk'
  obtain ⟨b, off, eA, c0⟩ := hr (k * 4 + 0) _ (g 0 (by omega))
  have hok := h.ok ts[k] (List.getElem_mem hk')
  obtain ⟨A1, c1, e1, -, r1⟩ := owns_rowG hok.ins
  obtain ⟨A2, c2, e2, -, r2⟩ := owns_rowG hok.nx
  injection e1 with e1 _ _
  injection e2 with e2 _ _
  subst e1; subst e2
  rw [hb]
  have hget : ∀ i, i < 4 → ∀ u, ts[k].cells[i]? = some u → w.cell? ⟨b, off + k * 4 + i, none⟩ = some u := fun i hi u hu => by
    obtain ⟨b', off', e', c1⟩ := hr (k * 4 + i) u ((g i hi).trans hu)
    rw [eA] at e'; injection e' with e'; injection e' with e1 e2 _
    subst e1; subst e2
    rw [Nat.add_assoc]; exact c1
  exact ⟨b, off, ts[k].I, ts[k].ic, ts[k].N, ts[k].nc, eA, ⟨hget 0 (by omega) _ rfl, hget 1 (by omega) _ rfl, hget 2 (by omega) _ rfl, hget 3 (by omega) _ rfl, r1, r2⟩⟩
def AsLPost (c : PCd) (w : World) : Ending → World → Prop := fun e w' => ∃ A ca, e = .returned (cdV c A ca) ∧ c.blocks.length ≤ ca ∧ RdC w' A c.blocks ∧ Below w.heap.size w w'
theorem AsC.high {c : PCd} {base ob k : Nat} {ts : List BC} {vB : Value} {w w' : World} (h : AsC c base ob k ts vB w) (hob : base ≤ ob) (hs : ∀ j, base ≤ j → w'.heap[j]? = w.heap[j]?) : AsC c base ob k ts vB w' :=
  ⟨(hs _ hob).trans h.blk, own_same h.own fun j hj => hs j (own_lt h.own hj).1, h.map, fun t ht => ⟨own_same (h.ok t ht).ins fun j hj => hs j (own_lt (h.ok t ht).ins hj).1, own_same (h.ok t ht).nx fun j hj => hs j (own_lt (h.ok t ht).nx hj).1⟩⟩
theorem set4A {w : World} {q : Nat} {a0 a1 a2 a3 v0 v1 v2 v3 : Value} {T : TypeId} {fz : Nat × Nat} (h : w.heap[q]? = some (.cells #[a0, a1, a2, a3] T fz)) :
    ((((w.setCell ⟨q, 0, none⟩ v0).setCell ⟨q, 1, none⟩ v1).setCell ⟨q, 2, none⟩ v2).setCell ⟨q, 3, none⟩ v3).heap[q]? = some (.cells #[v0, v1, v2, v3] T fz) :=
  row_set (j := 3) v3 (row_set (j := 2) v2 (row_set (j := 1) v1 (row_set (j := 0) v0 h rfl) rfl) rfl) (by simp)
theorem far4A {w : World} {q : Nat} {v0 v1 v2 v3 : Value} (k : Nat) (hk : k ≠ q) : ((((w.setCell ⟨q, 0, none⟩ v0).setCell ⟨q, 1, none⟩ v1).setCell ⟨q, 2, none⟩ v2).setCell ⟨q, 3, none⟩ v3).heap[k]? = w.heap[k]? :=
  (Below.heap_setCell _ _ _ _ hk).trans ((Below.heap_setCell _ _ _ _ hk).trans ((Below.heap_setCell _ _ _ _ hk).trans (Below.heap_setCell _ _ _ _ hk)))
theorem put4A {n : Nat} {w0 w : World} {q : Nat} {v0 v1 v2 v3 : Value} (h : Below n w0 w) (hq : n ≤ q) : Below n w0 ((((w.setCell ⟨q, 0, none⟩ v0).setCell ⟨q, 1, none⟩ v1).setCell ⟨q, 2, none⟩ v2).setCell ⟨q, 3, none⟩ v3) :=
  (((h.setCell hq _).setCell hq _).setCell hq _).setCell hq _
theorem put4cA {w : World} {q : Nat} {v0 v1 v2 v3 x : Value} {a : Addr} (h : a.block < q) (hx : w.cell? a = some x) : ((((w.setCell ⟨q, 0, none⟩ v0).setCell ⟨q, 1, none⟩ v1).setCell ⟨q, 2, none⟩ v2).setCell ⟨q, 3, none⟩ v3).cell? a = some x :=
  (World.cell?_of_block ((put4A (Below.refl q w) (Nat.le_refl _)).block _ h)).trans hx
theorem drewA {n : Nat} {a w : World} (h : Below n a w) : Below n a w.drew := below_drewN h 1
theorem cellDrewA {w : World} {a : Addr} {x : Value} (h : w.cell? a = some x) : w.drew.cell? a = some x := h
theorem allocBlkA {w w' W : World} {o : Obj} (hW : W.heap = (w.alloc o).heap) (hb : Below W.heap.size W w') : w'.heap[w.heap.size]? = (w.alloc o).heap[w.heap.size]? := by
  rw [hb.block w.heap.size (by rw [hW]; simp), hW]
theorem cellAllocA {w : World} {o : Obj} {a : Addr} {x : Value} (h : w.cell? a = some x) : (w.alloc o).cell? a = some x := Keeps.alloc _ _ _ _ h
theorem cellBelowA {w w' : World} {a : Addr} {x : Value} (hb : Below w.heap.size w w') (h : w.cell? a = some x) : w'.cell? a = some x := Keeps.of_below hb _ _ h
end Go.Proofs.YtpmpeihcdiohmaaDoor

namespace Go.Proofs.YtpmpeihcdiohmaaDoor
open Go.RowKit

/-! the package's walker in memory -/
/-- A call that was told of. -/
structure CC where
  p : List UInt8 × List Int
  X : Option Addr
  c : Nat
def CC.cells (t : CC) : List Value := [.string (mkB t.p.1), .slice t.X t.p.2.length t.c]
def wkH (c : PCd) (A : Option Addr) (ca : Nat) (X : Option Addr) (nx xc : Nat) (Y : Option Addr) (ny yc : Nat) (T : Int) (h : List UInt8) (v : Int) (tk : Int) (vO vC : Value) : List Value :=
  [.string (mkB c.name), .int .i64 c.params, .int .i64 c.slots, .slice A c.blocks.length ca, .slice X nx xc, .slice Y ny yc, .int .i64 T, .string (mkB h), .int .i64 v, .int .i64 tk, vO, vC]
def wkT (s : ASt) (sb : Nat) : List Value := intVs s.r ++ (.slice (some ⟨sb, 0, none⟩) s.slots.length s.slots.length :: intVs s.next)
theorem wkT_r {s : ASt} {sb : Nat} (h : s.r.length = 8) {j : Nat} (hj : j < 8) : (wkT s sb)[j]? = some (.int .i64 (s.r.getD j 0)) := by
  unfold wkT
  rw [List.getElem?_append_left (by rw [intVs_len]; omega), List.getD_eq_getElem?_getD, List.getElem?_eq_getElem (by omega : j < s.r.length)]
  exact intVs_get (by omega)
theorem wkT_sl {s : ASt} {sb : Nat} (h : s.r.length = 8) : (wkT s sb)[8]? = some (.slice (some ⟨sb, 0, none⟩) s.slots.length s.slots.length) := by
  unfold wkT
  rw [List.getElem?_append_right (by rw [intVs_len]; omega), intVs_len, h]
  rfl
theorem wkT_n {s : ASt} {sb : Nat} (h : s.r.length = 8) (h4 : s.next.length = 4) {j : Nat} (hj : j < 4) : (wkT s sb)[9 + j]? = some (.int .i64 (s.next.getD j 0)) := by
  unfold wkT
  rw [List.getElem?_append_right (by rw [intVs_len]; omega), intVs_len, h, show 9 + j - 8 = j + 1 by omega, List.getElem?_cons_succ, List.getD_eq_getElem?_getD, List.getElem?_eq_getElem (by omega : j < s.next.length)]
  exact intVs_get (by omega)
theorem wkT_setR {s : ASt} {sb : Nat} (h : s.r.length = 8) {j : Nat} (hj : j < 8) (v : Int) : wkT { s with r := s.r.set j v } sb = (wkT s sb).set j (.int .i64 v) := by
  unfold wkT
  rw [List.set_append_left _ _ (by rw [intVs_len]; omega), intVs_set]
theorem wkT_setN {s : ASt} {sb : Nat} (h : s.r.length = 8) (v : Int) {j : Nat} : wkT { s with next := s.next.set j v } sb = (wkT s sb).set (9 + j) (.int .i64 v) := by
  unfold wkT
  rw [List.set_append_right _ _ (by rw [intVs_len]; omega), intVs_len, h, show 9 + j - 8 = j + 1 by omega, List.set_cons_succ, intVs_set]
/-- A row whose block is none of these. -/
def FarOf (t : CC) (lo mb sb : Nat) (vO vC : Value) : Prop := t.p.2 ≠ [] → ∀ a, t.X = some a → a.block ≠ mb ∧ a.block ≠ sb ∧ vO.ownBlock ≠ some a.block ∧ vC.ownBlock ≠ some a.block ∧ lo ≤ a.block
section
variable (c : PCd) (A : Option Addr) (ca : Nat) (X : Option Addr) (args : List Int) (xc : Nat) (Y : Option Addr) (ans : List Int) (yc : Nat) (T : Int) (w0 : World) (mb sb : Nat) (F : Nat → Array Value → Prop)
structure WkAt (s : ASt) (h : List UInt8) (v : Int) (vO vC : Value) (ts : List CC) (w : World) : Prop where
  bel : Below w0.heap.size w0 w
  lowM : w0.heap.size ≤ mb
  lowS : w0.heap.size ≤ sb
  blk : w.heap[mb]? = some (.cells (wkH c A ca X args.length xc Y ans.length yc T h v s.ticks vO vC ++ wkT s sb).toArray 81 (0, 0))
  slots : w.heap[sb]? = some (.cells (intVs s.slots).toArray 3 (0, 0))
  out : w.ownsRow w0.heap.size 3 1 vO s.out.length (intVs s.out)
  one : vO.ownBlock ≠ some sb
  calls : w.ownsRow w0.heap.size 76 2 vC s.calls.length (ts.flatMap CC.cells)
  map : ts.map (·.p) = s.calls
  rows : ∀ t ∈ ts, Row w t.X (intVs t.p.2)
  far : ∀ t ∈ ts, FarOf t w0.heap.size mb sb vO vC
  fr : ∀ q cs, F q cs → w.heap[q]? = some (.cells cs 55 (0, 0))
end
section
variable {c : PCd} {A : Option Addr} {ca : Nat} {X : Option Addr} {args : List Int} {xc : Nat} {Y : Option Addr} {ans : List Int} {yc : Nat} {T : Int} {w0 : World} {mb sb : Nat} {F : Nat → Array Value → Prop} {s : ASt} {h : List UInt8} {v : Int} {vO vC : Value} {ts : List CC} {w w' : World}
theorem WkAt.ltM (H : WkAt c A ca X args xc Y ans yc T w0 mb sb F s h v vO vC ts w) : mb < w.heap.size := (Array.getElem?_eq_some_iff.1 H.blk).1
theorem WkAt.ltS (H : WkAt c A ca X args xc Y ans yc T w0 mb sb F s h v vO vC ts w) : sb < w.heap.size := (Array.getElem?_eq_some_iff.1 H.slots).1
theorem WkAt.ne (H : WkAt c A ca X args xc Y ans yc T w0 mb sb F s h v vO vC ts w) : mb ≠ sb := fun e => by
  have h1 := H.blk
  rw [e, H.slots] at h1
  injection h1 with h1
  injection h1 with _ h1 _
  exact absurd h1 (by decide)
theorem WkAt.nO (H : WkAt c A ca X args xc Y ans yc T w0 mb sb F s h v vO vC ts w) : vO.ownBlock ≠ some mb := own_else H.out H.blk fun cs e => by injection e with _ e _; exact absurd e (by decide)
theorem WkAt.nC (H : WkAt c A ca X args xc Y ans yc T w0 mb sb F s h v vO vC ts w) : vC.ownBlock ≠ some mb := own_else H.calls H.blk fun cs e => by injection e with _ e _; exact absurd e (by decide)
theorem WkAt.nCs (H : WkAt c A ca X args xc Y ans yc T w0 mb sb F s h v vO vC ts w) : vC.ownBlock ≠ some sb := own_else H.calls H.slots fun cs e => by injection e with _ e _; exact absurd e (by decide)
theorem WkAt.frM (H : WkAt c A ca X args xc Y ans yc T w0 mb sb F s h v vO vC ts w) {q : Nat} {cs : Array Value} (hq : F q cs) : q ≠ mb := fun e => by
  have h1 := H.fr q cs hq
  rw [e, H.blk] at h1
  injection h1 with h1
  injection h1 with _ h1 _
  exact absurd h1 (by decide)
theorem WkAt.frS (H : WkAt c A ca X args xc Y ans yc T w0 mb sb F s h v vO vC ts w) {q : Nat} {cs : Array Value} (hq : F q cs) : q ≠ sb := fun e => by
  have h1 := H.fr q cs hq
  rw [e, H.slots] at h1
  injection h1 with h1
  injection h1 with _ h1 _
  exact absurd h1 (by decide)
theorem WkAt.frL (H : WkAt c A ca X args xc Y ans yc T w0 mb sb F s h v vO vC ts w) {q : Nat} {cs : Array Value} (hq : F q cs) : q < w.heap.size := (Array.getElem?_eq_some_iff.1 (H.fr q cs hq)).1
theorem WkAt.frO (H : WkAt c A ca X args xc Y ans yc T w0 mb sb F s h v vO vC ts w) {q : Nat} {cs : Array Value} (hq : F q cs) : vO.ownBlock ≠ some q := own_else H.out (H.fr q cs hq) fun cs e => by injection e with _ e _; exact absurd e (by decide)
theorem WkAt.frC (H : WkAt c A ca X args xc Y ans yc T w0 mb sb F s h v vO vC ts w) {q : Nat} {cs : Array Value} (hq : F q cs) : vC.ownBlock ≠ some q := own_else H.calls (H.fr q cs hq) fun cs e => by injection e with _ e _; exact absurd e (by decide)
/-- Other blocks are held. -/
theorem WkAt.reF {F' : Nat → Array Value → Prop} (H : WkAt c A ca X args xc Y ans yc T w0 mb sb F s h v vO vC ts w) (hF : ∀ q cs, F' q cs → w.heap[q]? = some (.cells cs 55 (0, 0))) : WkAt c A ca X args xc Y ans yc T w0 mb sb F' s h v vO vC ts w :=
  { H with fr := hF }
theorem row_by {w w' : World} {X : Option Addr} {l : List Int} (h : Row w X (intVs l)) (hs : l ≠ [] → ∀ a, X = some a → w'.heap[a.block]? = w.heap[a.block]?) : Row w' X (intVs l) := fun j u hj => by
  obtain ⟨b, off, e, hc⟩ := h j u hj
  have hl : l ≠ [] := fun e => by subst e; cases hj
  exact ⟨b, off, e, (World.cell?_of_block (show w'.heap[(⟨b, off + j, none⟩ : Addr).block]? = w.heap[(⟨b, off + j, none⟩ : Addr).block]? from hs hl ⟨b, off, none⟩ e)).trans hc⟩
/-- A cell that stands at a place. -/
theorem WkAt.cellH (H : WkAt c A ca X args xc Y ans yc T w0 mb sb F s h v vO vC ts w) {j : Nat} {u : Value} (hj : (wkH c A ca X args.length xc Y ans.length yc T h v s.ticks vO vC)[j]? = some u) : w.cell? ⟨mb, j, none⟩ = some u := by
  have hlt : j < (wkH c A ca X args.length xc Y ans.length yc T h v s.ticks vO vC).length := (List.getElem?_eq_some_iff.1 hj).1
  rw [cell_of_row w mb j _ _ _ H.blk, List.getElem?_toArray, List.getElem?_append_left hlt]
  exact hj
theorem WkAt.cellT (H : WkAt c A ca X args xc Y ans yc T w0 mb sb F s h v vO vC ts w) {j : Nat} {u : Value} (hj : (wkT s sb)[j]? = some u) : w.cell? ⟨mb, 12 + j, none⟩ = some u := by
  rw [cell_of_row w mb (12 + j) _ _ _ H.blk, List.getElem?_toArray, List.getElem?_append_right (by simp [wkH])]
  simpa [wkH] using hj
theorem WkAt.below (H : WkAt c A ca X args xc Y ans yc T w0 mb sb F s h v vO vC ts w) (hb : Below w.heap.size w w') : WkAt c A ca X args xc Y ans yc T w0 mb sb F s h v vO vC ts w' where
  bel := grow_trans H.bel hb
  lowM := H.lowM
  lowS := H.lowS
  blk := (hb.block _ H.ltM).trans H.blk
  slots := (hb.block _ H.ltS).trans H.slots
  out := own_same H.out fun j hj => hb.block _ (own_lt H.out hj).2
  one := H.one
  calls := own_same H.calls fun j hj => hb.block _ (own_lt H.calls hj).2
  map := H.map
  rows := fun t ht => (H.rows t ht).keep (Keeps.of_below hb)
  far := H.far
  fr := fun q cs hq => (hb.block _ (Array.getElem?_eq_some_iff.1 (H.fr q cs hq)).1).trans (H.fr q cs hq)
theorem WkAt.drewN (H : WkAt c A ca X args xc Y ans yc T w0 mb sb F s h v vO vC ts w) (n : Nat) : WkAt c A ca X args xc Y ans yc T w0 mb sb F s h v vO vC ts (w.drewN n) := H.below (below_drewN (Below.refl _ _) n)
/-- The walker's own block is turned. -/
theorem WkAt.turn {s' : ASt} {h' : List UInt8} {v' : Int} (H : WkAt c A ca X args xc Y ans yc T w0 mb sb F s h v vO vC ts w) (hb : Below w0.heap.size w w') (hs : ∀ k, k ≠ mb → w'.heap[k]? = w.heap[k]?)
    (hblk : w'.heap[mb]? = some (.cells (wkH c A ca X args.length xc Y ans.length yc T h' v' s'.ticks vO vC ++ wkT s' sb).toArray 81 (0, 0))) (e1 : s'.slots = s.slots) (e2 : s'.out = s.out) (e3 : s'.calls = s.calls) : WkAt c A ca X args xc Y ans yc T w0 mb sb F s' h' v' vO vC ts w' where
  bel := H.bel.trans hb
  lowM := H.lowM
  lowS := H.lowS
  blk := hblk
  slots := by rw [e1]; exact (hs _ (Ne.symm H.ne)).trans H.slots
  out := by rw [e2]; exact own_same H.out fun j hj => hs j (fun e => H.nO (by rw [hj, e]))
  one := H.one
  calls := by rw [e3]; exact own_same H.calls fun j hj => hs j (fun e => H.nC (by rw [hj, e]))
  map := by rw [e3]; exact H.map
  rows := fun t ht => row_by (H.rows t ht) fun hl a ha => hs _ (H.far t ht hl a ha).1
  far := H.far
  fr := fun q cs hq => (hs _ (H.frM hq)).trans (H.fr q cs hq)
theorem WkAt.set {s' : ASt} {h' : List UInt8} {v' : Int} {j : Nat} (y : Value) (H : WkAt c A ca X args xc Y ans yc T w0 mb sb F s h v vO vC ts w)
    (hl : wkH c A ca X args.length xc Y ans.length yc T h' v' s'.ticks vO vC ++ wkT s' sb = (wkH c A ca X args.length xc Y ans.length yc T h v s.ticks vO vC ++ wkT s sb).set j y) (e1 : s'.slots = s.slots) (e2 : s'.out = s.out) (e3 : s'.calls = s.calls) :
    WkAt c A ca X args xc Y ans yc T w0 mb sb F s' h' v' vO vC ts (w.setCell ⟨mb, j, none⟩ y) :=
  H.turn ((Below.refl _ w).setCell H.lowM _) (fun k hk => Below.heap_setCell _ _ _ _ hk) (row_set (j := j) y H.blk (by rw [hl]; simp)) e1 e2 e3
/-- A register is stored. -/
theorem WkAt.setR (H : WkAt c A ca X args xc Y ans yc T w0 mb sb F s h v vO vC ts w) (h8 : s.r.length = 8) {d : Nat} (hd : d < 8) (n : Int) : WkAt c A ca X args xc Y ans yc T w0 mb sb F { s with r := s.r.set d n } h v vO vC ts (w.setCell ⟨mb, 12 + d, none⟩ (.int .i64 n)) :=
  H.set (j := 12 + d) _ (by rw [wkT_setR h8 hd, List.set_append_right _ _ (by simp [wkH])]; simp [wkH]) rfl rfl rfl
theorem WkAt.setN (H : WkAt c A ca X args xc Y ans yc T w0 mb sb F s h v vO vC ts w) (h8 : s.r.length = 8) {d : Nat} (n : Int) : WkAt c A ca X args xc Y ans yc T w0 mb sb F { s with next := s.next.set d n } h v vO vC ts (w.setCell ⟨mb, 21 + d, none⟩ (.int .i64 n)) :=
  H.set (j := 21 + d) _ (by rw [wkT_setN h8, List.set_append_right _ _ (by simp [wkH]; omega)]; simp [wkH]; congr 1; omega) rfl rfl rfl
theorem WkAt.setTk (H : WkAt c A ca X args xc Y ans yc T w0 mb sb F s h v vO vC ts w) (n : Int) : WkAt c A ca X args xc Y ans yc T w0 mb sb F { s with ticks := n } h v vO vC ts (w.setCell ⟨mb, 9, none⟩ (.int .i64 n)) :=
  H.set (j := 9) _ rfl rfl rfl rfl
theorem WkAt.setV (H : WkAt c A ca X args xc Y ans yc T w0 mb sb F s h v vO vC ts w) (n : Int) : WkAt c A ca X args xc Y ans yc T w0 mb sb F s h n vO vC ts (w.setCell ⟨mb, 8, none⟩ (.int .i64 n)) :=
  H.set (j := 8) _ rfl rfl rfl rfl
theorem WkAt.setH (H : WkAt c A ca X args xc Y ans yc T w0 mb sb F s h v vO vC ts w) (k : List UInt8) : WkAt c A ca X args xc Y ans yc T w0 mb sb F s k v vO vC ts (w.setCell ⟨mb, 7, none⟩ (.string (mkB k))) :=
  H.set (j := 7) _ rfl rfl rfl rfl
/-- A slot is stored. -/
theorem WkAt.setS (H : WkAt c A ca X args xc Y ans yc T w0 mb sb F s h v vO vC ts w) {d : Nat} (n : Int) : WkAt c A ca X args xc Y ans yc T w0 mb sb F { s with slots := s.slots.set d n } h v vO vC ts (w.setCell ⟨sb, d, none⟩ (.int .i64 n)) where
  bel := H.bel.setCell H.lowS _
  lowM := H.lowM
  lowS := H.lowS
  blk := by
    refine (Below.heap_setCell _ _ _ _ H.ne).trans ?_
    rw [H.blk]
    unfold wkT
    simp
  slots := row_set (j := d) _ H.slots (by rw [intVs_set]; simp)
  out := own_same H.out fun j hj => Below.heap_setCell _ _ _ _ (fun e => H.one (by rw [hj, e]))
  one := H.one
  calls := own_same H.calls fun j hj => Below.heap_setCell _ _ _ _ (fun e => H.nCs (by rw [hj, e]))
  map := H.map
  rows := fun t ht => row_by (H.rows t ht) fun hl a ha => Below.heap_setCell _ _ _ _ (H.far t ht hl a ha).2.1
  far := H.far
  fr := fun q cs hq => (Below.heap_setCell _ _ _ _ (H.frS hq)).trans (H.fr q cs hq)
theorem WkAt.frozen (H : WkAt c A ca X args xc Y ans yc T w0 mb sb F s h v vO vC ts w) (j : Nat) : w.frozen? ⟨mb, j, none⟩ = false := row_frozen H.blk j
end
end Go.Proofs.YtpmpeihcdiohmaaDoor
