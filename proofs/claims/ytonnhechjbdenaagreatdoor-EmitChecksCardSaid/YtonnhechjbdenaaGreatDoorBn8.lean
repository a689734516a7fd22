import Derived.OwnWalk
import Derived.Deep.AppendLies
import Derived.Deep.RegionHeld3
import Derived.Deep.RegionLaw
import Derived.Test.YtonnhechjbdenaaGreatDoorBn7
import Derived.Test.YtonnhechjbdenaaGreatDoorBn5
import Derived.Test.YtonnhechjbdenaaGreatDoorBn2
set_option linter.unusedVariables false
set_option linter.unusedSimpArgs false
namespace Go.Proofs.YtonnhechjbdenaaGreatDoor
open Go.RowKit

/-! appends to rows of one's own -/
theorem own_slice {w : World} {base : Nat} {e : TypeId} {size : Nat} {v : Value} {n : Nat} {xs : List Value} (h : w.ownsRow base e size v n xs) : ∃ A c, v = .slice A n c := by
  rcases h.2 with ⟨rfl, rfl⟩ | ⟨g, cap, cur, rfl, _⟩
  · exact ⟨none, 0, rfl⟩
  · exact ⟨_, _, rfl⟩
theorem owns_rowG {w : World} {base size : Nat} {e : TypeId} {v : Value} {n : Nat} {xs : List Value} (h : w.ownsRow base e size v n xs) : ∃ A c, v = .slice A n c ∧ n ≤ c ∧ Row w A xs := by
  rcases h.2 with ⟨q, h0⟩ | ⟨g, cap, cur, q1, q2, q3, q4, q5, q6, q7⟩
  · have hx : xs = [] := List.eq_nil_of_length_eq_zero (by rw [h.1, h0]; simp)
    subst hx; subst h0
    exact ⟨none, 0, q, Nat.le_refl _, Row.nil _ _⟩
  · refine ⟨_, cap, q1, q4, fun j z hj => ⟨g, 0, rfl, ?_⟩⟩
    rw [← q7, List.getElem?_take] at hj
    split at hj
    · rw [Nat.zero_add, cell_of_row _ _ j _ _ _ q3, ← Array.getElem?_toList]; exact hj
    · cases hj
theorem owns_mono {w : World} {base base' : Nat} {e : TypeId} {size : Nat} {v : Value} {n : Nat} {xs : List Value} (h : w.ownsRow base e size v n xs) (hb : base' ≤ base) : w.ownsRow base' e size v n xs := by
  refine ⟨h.1, ?_⟩
  rcases h.2 with q | ⟨g, cap, cur, h1, h2, h3⟩
  · exact .inl q
  · exact .inr ⟨g, cap, cur, h1, by omega, h3⟩
end Go.Proofs.YtonnhechjbdenaaGreatDoor

namespace Go.Proofs.YtonnhechjbdenaaGreatDoor
open Go.RowKit

/-! the emitter in memory -/
theorem cell_othE {w : World} {b c i j : Nat} {u z : Value} (h : w.cell? ⟨b, i, none⟩ = some u) (hn : b ≠ c) : (w.setCell ⟨c, j, none⟩ z).cell? ⟨b, i, none⟩ = some u :=
  (World.cell?_of_block (show (w.setCell ⟨c, j, none⟩ z).heap[b]? = w.heap[b]? from Below.heap_setCell _ _ _ _ hn)).trans h
theorem grown_cellE {w w9 : World} {o : Obj} {r : Option Nat} {b i : Nat} {u : Value} (hg : (w.alloc o).grownBy w9 r) (hk : w.cell? ⟨b, i, none⟩ = some u) (hn : r ≠ some b) : w9.cell? ⟨b, i, none⟩ = some u := by
  have hl := World.block_lt_of_cell? w _ hk
  simp only at hl
  refine (World.cell?_of_block (show w9.heap[b]? = w.heap[b]? from ?_)).trans hk
  rw [hg.block b (by simp; omega) (fun e => hn e.symm)]
  exact old_block _ _ hl
def insL5 (i : PIns) : List Value := [.string (mkB i.op), .int .i64 i.d, .int .i64 i.a, .int .i64 i.b, .int .i64 i.imm]
structure EmAt (base eb : Nat) (vL : Value) (os : List PIns) (vO : Value) (w : World) : Prop where
  low : base ≤ eb
  blk : w.heap[eb]? = some (.cells #[vL, vO] 88 (0, 0))
  out : w.ownsRow base 90 5 vO os.length (os.flatMap insL5)
/-- What may have changed. -/
structure EmMv (base eb : Nat) (vO vO' : Value) (w w' : World) : Prop where
  bel : Below base w w'
  kp : ∀ k, k < w.heap.size → k ≠ eb → vO.ownBlock ≠ some k → w'.heap[k]? = w.heap[k]?
  nw : vO'.ownBlock = vO.ownBlock ∨ ∀ k, vO'.ownBlock = some k → w.heap.size ≤ k
section
variable {base eb : Nat} {vL vO vO' v2 : Value} {os : List PIns} {w w' w2 : World}
theorem EmMv.refl : EmMv base eb vO vO w w := ⟨Below.refl _ _, fun _ _ _ _ => rfl, .inl rfl⟩
theorem EmMv.trans (h : EmMv base eb vO vO' w w') (k : EmMv base eb vO' v2 w' w2) : EmMv base eb vO v2 w w2 := by
  refine ⟨h.bel.trans k.bel, fun j h1 h2 h3 => ?_, ?_⟩
  · refine (k.kp j (by have := h.bel.size; omega) h2 (fun e => ?_)).trans (h.kp j h1 h2 h3)
    rcases h.nw with q | q
    · exact h3 (by rw [← q, e])
    · have := q j e; omega
  · rcases k.nw with q | q
    · rcases h.nw with r | r
      · exact .inl (q.trans r)
      · exact .inr fun j hj => r j (by rw [← q, hj])
    · exact .inr fun j hj => by have := q j hj; have := h.bel.size; omega
theorem EmMv.of_below (hb : Below w.heap.size w w') (hs : base ≤ w.heap.size) : EmMv base eb vO vO w w' := ⟨hb.mono hs, fun k hk _ _ => hb.block k hk, .inl rfl⟩
theorem EmAt.lt (h : EmAt base eb vL os vO w) : eb < w.heap.size := (Array.getElem?_eq_some_iff.1 h.blk).1
theorem EmAt.base_le (h : EmAt base eb vL os vO w) : base ≤ w.heap.size := by have := h.lt; have := h.low; omega
theorem EmAt.below (h : EmAt base eb vL os vO w) (hb : Below w.heap.size w w') : EmAt base eb vL os vO w' := ⟨h.low, (hb.block _ h.lt).trans h.blk, own_same h.out fun k hk => hb.block _ (own_lt h.out hk).2⟩
theorem EmAt.ne (h : EmAt base eb vL os vO w) : vO.ownBlock ≠ some eb := own_else h.out h.blk fun cs e => by injection e with _ e _; exact absurd e (by decide)
theorem EmAt.cells (h : EmAt base eb vL os vO w) : w.cell? ⟨eb, 0, none⟩ = some vL ∧ w.cell? ⟨eb, 1, none⟩ = some vO := ⟨cell_of_row _ _ 0 _ _ _ h.blk, cell_of_row _ _ 1 _ _ _ h.blk⟩
theorem EmAt.put {o : Obj} {i : PIns} {w4 : World} {g cap : Nat} (h : EmAt base eb vL os vO w) (hown : w4.ownsRow base 90 5 (.slice (some ⟨g, 0, none⟩) (os.length + 1) cap) (os.length + 1) (os.flatMap insL5 ++ insL5 i)) (hg : (w.alloc o).grownBy w4 vO.ownBlock) (hat : vO.ownBlock = some g ∨ g = w.heap.size + 1) :
    w4.heap[eb]? = w.heap[eb]? ∧ EmAt base eb vL (os ++ [i]) (.slice (some ⟨g, 0, none⟩) (os.length + 1) cap) (w4.setCell ⟨eb, 1, none⟩ (.slice (some ⟨g, 0, none⟩) (os.length + 1) cap)) ∧ EmMv base eb vO (.slice (some ⟨g, 0, none⟩) (os.length + 1) cap) w (w4.setCell ⟨eb, 1, none⟩ (.slice (some ⟨g, 0, none⟩) (os.length + 1) cap)) := by
  have hm : ∀ k, k < w.heap.size → vO.ownBlock ≠ some k → w4.heap[k]? = w.heap[k]? := fun k hk hne => by rw [hg.block k (by simp; omega) (fun e => hne e.symm)]; exact old_block _ _ hk
  have hmb := hm eb h.lt h.ne
  have hgm : g ≠ eb := fun e => own_else hown (hmb.trans h.blk) (fun cs e => by injection e with _ e _; exact absurd e (by decide)) (by rw [e]; rfl)
  refine ⟨hmb, ⟨h.low, row_set (j := 1) _ (hmb.trans h.blk) (by simp), ?_⟩, ?_, fun k h1 h2 h3 => (Below.heap_setCell _ _ _ _ h2).trans (hm k h1 h3), ?_⟩
  · rw [List.length_append, List.length_singleton, List.flatMap_append, List.flatMap_singleton]
    exact own_same hown fun j hj => Below.heap_setCell _ _ _ _ (fun e => hgm (by injection hj with hj; exact (show g = j from hj).trans e))
  · exact (Below.grown ((Below.refl base w).alloc h.base_le o) hg (by have := h.base_le; simp; omega) (fun q hq => (own_lt h.out hq).1)).setCell (p := ⟨eb, 1, none⟩) h.low _
  · rcases hat with q | q
    · exact .inl (by rw [q]; rfl)
    · exact .inr fun k hk => by injection hk with hk; have : g = k := hk; omega
theorem einsInfo : (Tryz.prog.info? 90).map (fun i => (i.zero, i.size, i.bytes)) = some (some (.agg #[.string ⟨#[]⟩, .int .i64 0, .int .i64 0, .int .i64 0, .int .i64 0]), 5, 48) := by kernel_rfl
def ldAd : Op := Op.load 86 (Operand.tmp 7)
@[go_sem] theorem ldAd_eq : ldAd = Op.load 86 (Operand.tmp 7) := rfl
set_option maxHeartbeats 4000000 in
set_option maxRecDepth 100000 in
theorem add_any (h : EmAt base eb vL os vO w) (hl : os.length ≤ 100000) (i : PIns) :
    Calls Tryz.prog 49 #[.pointer (some ⟨eb, 0, none⟩), .agg #[.string (mkB i.op), .int .i64 i.d, .int .i64 i.a, .int .i64 i.b, .int .i64 i.imm]] w (fun e w' => e = .returned (.tuple #[]) ∧ ∃ vO', EmAt base eb vL (os ++ [i]) vO' w' ∧ EmMv base eb vO vO' w w') := by
  obtain ⟨q, hq⟩ : ∃ q, w.heap.size = q := ⟨_, rfl⟩
  obtain ⟨bx, hbx⟩ : ∃ bx, w.alloc (.cells #[.string (mkB i.op), .int .i64 i.d, .int .i64 i.a, .int .i64 i.b, .int .i64 i.imm] 90) = bx := ⟨_, rfl⟩
  have hb : Below w.heap.size w bx := by rw [← hbx]; exact grow_alloc (grow_refl _) _
  have hn : bx.heap[q]? = some (.cells #[.string (mkB i.op), .int .i64 i.d, .int .i64 i.a, .int .i64 i.b, .int .i64 i.imm] 90 (0, 0)) := by rw [← hbx, ← hq]; exact heap_alloc_new w _
  have h2 := h.below hb
  obtain ⟨AO, cO, rfl⟩ := own_slice h.out
  have hmv : EmMv base eb (.slice AO os.length cO) (.slice AO os.length cO) w bx := EmMv.of_below hb h.base_le
  have e0 := cell_of_row _ _ 0 _ _ _ hn
  have e1 := cell_of_row _ _ 1 _ _ _ hn
  have e2 := cell_of_row _ _ 2 _ _ _ hn
  have e3 := cell_of_row _ _ 3 _ _ _ hn
  have e4 := cell_of_row _ _ 4 _ _ _ hn
  obtain ⟨-, o1⟩ := h2.cells
  have z1 := row_frozen h2.blk 1
  obtain ⟨i0, hi, hz0, hz1, hz2⟩ := info_parts einsInfo
  have q1 : (bx.alloc (.cells #[.string (mkB i.op), .int .i64 i.d, .int .i64 i.a, .int .i64 i.b, .int .i64 i.imm] 90)).cell? ⟨eb, 1, none⟩ = some (.slice AO os.length cO) := Keeps.alloc _ _ _ _ o1
  have hqe : q ≠ eb := by have := h.lt; omega
  have hqo : (Value.slice AO os.length cO).ownBlock ≠ some q := fun e => by have := (own_lt h.out e).2; omega
  have HBX := Lib.hid hbx
  have HQ := Lib.hid hq
  have HH := Lib.hid h2
  have HMV := Lib.hid hmv
  have hbl := h2.base_le
  clear h h2 hmv hb hn hbx hq
  go_enter Tryz.func49, Tryz.ntmps49
  go_upto_region 1 with fail
  change Code.wp _ _ _ _ (w.alloc (.cells #[.string (mkB i.op), .int .i64 i.d, .int .i64 i.a, .int .i64 i.b, .int .i64 i.imm] 90))
  rw [HBX.out, HQ.out]
  rw [show Op.load 86 (Operand.tmp 7) = ldAd from rfl]
  go_region_held3 (fun w' => w'.cell? ⟨q, 0, none⟩ = some (.string (mkB i.op)) ∧ w'.cell? ⟨q, 1, none⟩ = some (.int .i64 i.d) ∧ w'.cell? ⟨q, 2, none⟩ = some (.int .i64 i.a) ∧ w'.cell? ⟨q, 3, none⟩ = some (.int .i64 i.b) ∧ w'.cell? ⟨q, 4, none⟩ = some (.int .i64 i.imm))
    (first
      | exact ⟨e0, e1, e2, e3, e4⟩
      | exact HJ.out
      | (go_split_ands
         refine ⟨?_, ?_, ?_, ?_, ?_⟩
         all_goals (first | assumption | exact Keeps.alloc _ _ _ _ (by assumption) | exact cell_othE (by assumption) hqe)))
    (first
      | (refine step_append_lies _ rfl _ _ 86 rfl base 90 i0 _ 5 48 Tryz.underlying86 hi hz0 hz1 hz2 rfl (by decide) _ os.length (os.flatMap insL5) rfl (by first | exact (World.ownsRow.alloc HH.out.out _).drewN 1 | exact (HH.out.out.drewN 1).alloc _ | exact World.ownsRow.alloc HH.out.out _) ⟨bx.heap.size, 0, none⟩ 1 1 (insL5 i) rfl rfl (by first | exact World.news_of_block (heap_alloc_new bx _) | exact World.news_of_block (heap_alloc_new bx.drew _) | exact World.news_of_block (w := (bx.alloc (.cells #[.string (mkB i.op), .int .i64 i.d, .int .i64 i.a, .int .i64 i.b, .int .i64 i.imm] 90)).drew) (heap_alloc_new bx _)) (fun u hu => by unfold insL5 at hu; simp only [List.mem_cons, List.not_mem_nil, or_false] at hu; rcases hu with rfl | rfl | rfl | rfl | rfl <;> rfl) (by decide) (by unfold maxLen; omega) (by omega) (by first | (show base ≤ (bx.alloc _).heap.size; simp; omega) | (simp; omega)) _ rfl ?_; intro g cap w9 hown hgrow hat hlt9; have hgr : (bx.alloc (.cells #[.string (mkB i.op), .int .i64 i.d, .int .i64 i.a, .int .i64 i.b, .int .i64 i.imm] 90)).grownBy w9 (Value.slice AO os.length cO).ownBlock := ⟨hgrow.os, hgrow.tape, hgrow.output, hgrow.size, hgrow.block⟩; obtain ⟨j1, j2, j3⟩ := HH.out.put (i := i) hown hgr (hat.imp id fun e => e.trans (by first | (show (bx.alloc _).heap.size = _; simp) | simp)); have o1 : w9.cell? ⟨eb, 1, none⟩ = some (.slice AO os.length cO) := (World.cell?_of_block j1).trans HH.out.cells.2; have z1 := row_frozen (j1.trans HH.out.blk) 1; have HJ := Lib.hid (And.intro (grown_cellE hgr e0 hqo) (And.intro (grown_cellE hgr e1 hqo) (And.intro (grown_cellE hgr e2 hqo) (And.intro (grown_cellE hgr e3 hqo) (grown_cellE hgr e4 hqo))))); have H9 := Lib.hid (And.intro j2 j3); clear j1 j2 j3 hown hgrow hgr hat))
  all_goals go_wp2_with fail
  all_goals go_end0
  all_goals exact ⟨rfl, _, H9.out.1, HMV.out.trans H9.out.2⟩
end
end Go.Proofs.YtonnhechjbdenaaGreatDoor
