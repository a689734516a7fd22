import Derived.Test.YtonnhechjbdenaaGreatDoorBn20
import Derived.Test.YtonnhechjbdenaaGreatDoorBn23
set_option linter.unusedVariables false
set_option linter.unusedSimpArgs false
namespace Go.Proofs.YtonnhechjbdenaaGreatDoor
open Go.RowKit

/-! what stands while an image is made -/
theorem cds_append (l : List PCd) : ∀ (a b : List PCd) (first : Nat), cdsE l first (a ++ b) = ((cdsE l first a).1 ++ (cdsE l (first + (cdsE l first a).2.length) b).1, (cdsE l first a).2 ++ (cdsE l (first + (cdsE l first a).2.length) b).2) := by
  intro a
  induction a with
  | nil => intro b first; simp [cdsE]
  | cons c a ih =>
    intro b first
    rw [List.cons_append, cdsE, ih]
    simp [cdsE, List.append_assoc, Nat.add_assoc]
theorem cds_take {l : List PCd} {k : Nat} (h : k < l.length) : cdsE l 0 (l.take (k + 1)) = ((cdsE l 0 (l.take k)).1 ++ [⟨l[k].name, l[k].params, l[k].slots, ((cdsE l 0 (l.take k)).2.length : Nat)⟩], (cdsE l 0 (l.take k)).2 ++ cdE l (cdsE l 0 (l.take k)).2.length l[k]) := by
  rw [List.take_succ_eq_append_getElem h, cds_append]
  simp [cdsE]
theorem cds_le {l : List PCd} {k : Nat} (h : k ≤ l.length) : (cdsE l 0 (l.take k)).2.length ≤ (insE l).length := by
  have e := congrArg (fun x => x.2.length) (cds_append l (l.take k) (l.drop k) 0)
  rw [List.take_append_drop] at e
  simp only [List.length_append] at e
  unfold insE
  omega
theorem cds_len (l : List PCd) : ∀ (cs : List PCd) (first : Nat), (cdsE l first cs).1.length = cs.length := by
  intro cs
  induction cs with
  | nil => intro first; rfl
  | cons c cs ih => intro first; unfold cdsE; simp [ih]
def emitJ (l : List PCd) : PImg := if (emitC l).1 = 0 then emitI l else ⟨[], []⟩
theorem fun4Info : (Tryz.prog.info? 52).map (fun i => (i.zero, i.size, i.bytes)) = some (some (.agg #[.string ⟨#[]⟩, .int .i64 0, .int .i64 0, .int .i64 0]), 4, 40) := by kernel_rfl
theorem w64Info : (Tryz.prog.info? 68).map (fun i => (i.zero, i.size, i.bytes)) = some (some (.int .u64 0), 1, 8) := by kernel_rfl
structure IgAt (w0 : World) (base eb ob : Nat) (vL : Value) (os : List PIns) (vO vF vC : Value) (fs : List PFn) (cs : List Int) (w : World) : Prop where
  em : EmAt base eb vL os vO w
  blk : w.heap[ob]? = some (.cells #[vF, vC] 37 (0, 0))
  low : base ≤ ob
  fu : w.ownsRow base 52 4 vF fs.length (fs.flatMap fnL)
  co : w.ownsRow base 68 1 vC cs.length (u64Vs cs)
  bel : Below base w0 w
section
variable {w0 : World} {base eb ob : Nat} {vL vO vO' vF vC : Value} {os os' : List PIns} {fs : List PFn} {cs : List Int} {w w' : World}
theorem IgAt.below (h : IgAt w0 base eb ob vL os vO vF vC fs cs w) (hb : Below w.heap.size w w') : IgAt w0 base eb ob vL os vO vF vC fs cs w' :=
  ⟨h.em.below hb, (hb.block _ (Array.getElem?_eq_some_iff.1 h.blk).1).trans h.blk, h.low, own_same h.fu fun k hk => hb.block _ (own_lt h.fu hk).2, own_same h.co fun k hk => hb.block _ (own_lt h.co hk).2, h.bel.trans (hb.mono h.em.base_le)⟩
theorem IgAt.emit (h : IgAt w0 base eb ob vL os vO vF vC fs cs w) (he : EmAt base eb vL os' vO' w') (hm : EmMv base eb vO vO' w w') : IgAt w0 base eb ob vL os' vO' vF vC fs cs w' :=
  ⟨he, CoAt.kp hm h.em h.blk (by decide) (by decide), h.low,
    own_same h.fu fun k hk => hm.kp k (own_lt h.fu hk).2 (fun e => own_else h.fu h.em.blk (fun cs e2 => by injection e2 with _ e2 _; exact absurd e2 (by decide)) (by rw [hk, e])) (own_ne h.fu h.em.out (by decide) hk),
    own_same h.co fun k hk => hm.kp k (own_lt h.co hk).2 (fun e => own_else h.co h.em.blk (fun cs e2 => by injection e2 with _ e2 _; exact absurd e2 (by decide)) (by rw [hk, e])) (own_ne h.co h.em.out (by decide) hk), h.bel.trans hm.bel⟩
theorem IgAt.neE (h : IgAt w0 base eb ob vL os vO vF vC fs cs w) : ob ≠ eb := fun e => by
  have h1 := h.blk
  rw [e, h.em.blk] at h1
  injection h1 with h1
  injection h1 with _ h1 _
  exact absurd h1 (by decide)
theorem IgAt.cells (h : IgAt w0 base eb ob vL os vO vF vC fs cs w) : w.cell? ⟨ob, 0, none⟩ = some vF ∧ w.cell? ⟨ob, 1, none⟩ = some vC := ⟨cell_of_row _ _ 0 _ _ _ h.blk, cell_of_row _ _ 1 _ _ _ h.blk⟩
/-- One more function. -/
theorem IgAt.putF {o : Obj} {f : PFn} {w4 : World} {g cap : Nat} (h : IgAt w0 base eb ob vL os vO vF vC fs cs w) (hown : w4.ownsRow base 52 4 (.slice (some ⟨g, 0, none⟩) (fs.length + 1) cap) (fs.length + 1) (fs.flatMap fnL ++ fnL f)) (hg : (w.alloc o).grownBy w4 vF.ownBlock) :
    w4.heap[ob]? = w.heap[ob]? ∧ w4.heap[eb]? = w.heap[eb]? ∧ IgAt w0 base eb ob vL os vO (.slice (some ⟨g, 0, none⟩) (fs.length + 1) cap) vC (fs ++ [f]) cs (w4.setCell ⟨ob, 0, none⟩ (.slice (some ⟨g, 0, none⟩) (fs.length + 1) cap)) := by
  have hm : ∀ k, k < w.heap.size → vF.ownBlock ≠ some k → w4.heap[k]? = w.heap[k]? := fun k hk hne => by rw [hg.block k (by simp; omega) (fun e => hne e.symm)]; exact old_block _ _ hk
  have hob := (Array.getElem?_eq_some_iff.1 h.blk).1
  have hnb := own_else h.fu h.blk fun cs e => by injection e with _ e _; exact absurd e (by decide)
  have hneb := own_else h.fu h.em.blk fun cs e => by injection e with _ e _; exact absurd e (by decide)
  have hmb := hm ob hob hnb
  have hme := hm eb h.em.lt hneb
  have hgm : g ≠ ob := fun e => own_else hown (hmb.trans h.blk) (fun cs e => by injection e with _ e _; exact absurd e (by decide)) (by rw [e]; rfl)
  refine ⟨hmb, hme, ⟨⟨h.em.low, (Below.heap_setCell _ _ _ _ (Ne.symm h.neE)).trans (hme.trans h.em.blk), own_same h.em.out fun k hk => ?_⟩, row_set (j := 0) _ (hmb.trans h.blk) (by simp), h.low, ?_, own_same h.co fun k hk => ?_, ?_⟩⟩
  · exact (Below.heap_setCell _ _ _ _ (fun e => own_else h.em.out h.blk (fun cs e => by injection e with _ e _; exact absurd e (by decide)) (by rw [hk, e]))).trans (hm k (own_lt h.em.out hk).2 (own_ne h.em.out h.fu (by decide) hk))
  · rw [List.length_append, List.length_singleton, List.flatMap_append, List.flatMap_singleton]
    exact own_same hown fun j hj => Below.heap_setCell _ _ _ _ (fun e => hgm (by injection hj with hj; exact (show g = j from hj).trans e))
  · exact (Below.heap_setCell _ _ _ _ (fun e => own_else h.co h.blk (fun cs e => by injection e with _ e _; exact absurd e (by decide)) (by rw [hk, e]))).trans (hm k (own_lt h.co hk).2 (own_ne h.co h.fu (by decide) hk))
  · exact h.bel.trans ((Below.grown ((Below.refl base w).alloc h.em.base_le o) hg (by have := h.em.base_le; simp; omega) (fun q hq => (own_lt h.fu hq).1)).setCell (p := ⟨ob, 0, none⟩) h.low _)
/-- One more word. -/
theorem IgAt.putC {o : Obj} {n : Int} {w4 : World} {g cap : Nat} (h : IgAt w0 base eb ob vL os vO vF vC fs cs w) (hown : w4.ownsRow base 68 1 (.slice (some ⟨g, 0, none⟩) (cs.length + 1) cap) (cs.length + 1) (u64Vs cs ++ [.int .u64 n])) (hg : (w.alloc o).grownBy w4 vC.ownBlock) :
    w4.heap[ob]? = w.heap[ob]? ∧ w4.heap[eb]? = w.heap[eb]? ∧ IgAt w0 base eb ob vL os vO vF (.slice (some ⟨g, 0, none⟩) (cs.length + 1) cap) fs (cs ++ [n]) (w4.setCell ⟨ob, 1, none⟩ (.slice (some ⟨g, 0, none⟩) (cs.length + 1) cap)) := by
  have hm : ∀ k, k < w.heap.size → vC.ownBlock ≠ some k → w4.heap[k]? = w.heap[k]? := fun k hk hne => by rw [hg.block k (by simp; omega) (fun e => hne e.symm)]; exact old_block _ _ hk
  have hob := (Array.getElem?_eq_some_iff.1 h.blk).1
  have hnb := own_else h.co h.blk fun cs e => by injection e with _ e _; exact absurd e (by decide)
  have hneb := own_else h.co h.em.blk fun cs e => by injection e with _ e _; exact absurd e (by decide)
  have hmb := hm ob hob hnb
  have hme := hm eb h.em.lt hneb
  have hgm : g ≠ ob := fun e => own_else hown (hmb.trans h.blk) (fun cs e => by injection e with _ e _; exact absurd e (by decide)) (by rw [e]; rfl)
  refine ⟨hmb, hme, ⟨⟨h.em.low, (Below.heap_setCell _ _ _ _ (Ne.symm h.neE)).trans (hme.trans h.em.blk), own_same h.em.out fun k hk => ?_⟩, row_set (j := 1) _ (hmb.trans h.blk) (by simp), h.low, own_same h.fu fun k hk => ?_, ?_, ?_⟩⟩
  · exact (Below.heap_setCell _ _ _ _ (fun e => own_else h.em.out h.blk (fun cs e => by injection e with _ e _; exact absurd e (by decide)) (by rw [hk, e]))).trans (hm k (own_lt h.em.out hk).2 (own_ne h.em.out h.co (by decide) hk))
  · exact (Below.heap_setCell _ _ _ _ (fun e => own_else h.fu h.blk (fun cs e => by injection e with _ e _; exact absurd e (by decide)) (by rw [hk, e]))).trans (hm k (own_lt h.fu hk).2 (own_ne h.fu h.co (by decide) hk))
  · rw [List.length_append, List.length_singleton, show u64Vs (cs ++ [n]) = u64Vs cs ++ [.int .u64 n] by unfold u64Vs; simp]
    exact own_same hown fun j hj => Below.heap_setCell _ _ _ _ (fun e => hgm (by injection hj with hj; exact (show g = j from hj).trans e))
  · exact h.bel.trans ((Below.grown ((Below.refl base w).alloc h.em.base_le o) hg (by have := h.em.base_le; simp; omega) (fun q hq => (own_lt h.co hq).1)).setCell (p := ⟨ob, 1, none⟩) h.low _)
end
end Go.Proofs.YtonnhechjbdenaaGreatDoor
