import Derived.Test.YtonnhechjbdenaaGreatDoorBn25
import Derived.Test.YtonnhechjbdenaaGreatDoorBn26
set_option linter.unusedVariables false
set_option linter.unusedSimpArgs false
namespace Go.Proofs.YtonnhechjbdenaaGreatDoor
open Go.RowKit

/-! the reference's machine in memory -/
structure RFrAt (mb : Nat) (p : Nat × Nat) (x : PFr) (w : World) : Prop where
  low : mb < p.1 ∧ mb < p.2
  blk : w.heap[p.1]? = some (.cells (frL x p.2).toArray 109 (0, 0))
  slots : w.heap[p.2]? = some (.cells (intVs x.slots).toArray 3 (0, 0))
def ocL (s : PMs) (v : Value) : Array Value := #[.string (mkB s.how), .int .i64 s.val, v, .int .i64 (s.ticks : Nat)]
structure RfAt (mb : Nat) (s : PMs) (v u : Value) (fbs : List (Nat × Nat)) (w : World) : Prop where
  blk : w.heap[mb]? = some (.cells (ocL s v) 54 (0, 0))
  out : w.ownsRow mb 3 1 v s.out.length (intVs s.out)
  calls : w.ownsRow mb 106 1 u s.calls.length (ptrVs fbs)
  len : fbs.length = s.calls.length
  fr : ∀ k (h : k < fbs.length) (h' : k < s.calls.length), RFrAt mb fbs[k] s.calls[k] w
  nd1 : (fbs.map (·.1)).Nodup
  nd2 : (fbs.map (·.2)).Nodup
  ne : ∀ p ∈ fbs, v.ownBlock ≠ some p.2
section
variable {mb : Nat} {s : PMs} {v u : Value} {fbs ps : List (Nat × Nat)} {p : Nat × Nat} {cs : List PFr} {x y : PFr} {w w' : World}
theorem RfAt.lt (h : RfAt mb s v u fbs w) : mb < w.heap.size := (Array.getElem?_eq_some_iff.1 h.blk).1
theorem RfAt.frk (h : RfAt mb s v u fbs w) {p : Nat × Nat} (hp : p ∈ fbs) : ∃ x, x ∈ s.calls ∧ RFrAt mb p x w := by
  obtain ⟨k, hk, rfl⟩ := List.mem_iff_getElem.1 hp
  exact ⟨_, List.getElem_mem (by rw [← h.len]; exact hk), h.fr k hk (by rw [← h.len]; exact hk)⟩
theorem RfAt.same (h : RfAt mb s v u fbs w) (hs : ∀ k, k = mb ∨ v.ownBlock = some k ∨ u.ownBlock = some k ∨ (∃ p ∈ fbs, k = p.1 ∨ k = p.2) → w'.heap[k]? = w.heap[k]?) : RfAt mb s v u fbs w' :=
  ⟨(hs mb (.inl rfl)).trans h.blk, own_same h.out fun k hk => hs k (.inr (.inl hk)), own_same h.calls fun k hk => hs k (.inr (.inr (.inl hk))), h.len,
    fun k h1 h2 => ⟨(h.fr k h1 h2).low, (hs _ (.inr (.inr (.inr ⟨_, List.getElem_mem h1, .inl rfl⟩)))).trans (h.fr k h1 h2).blk, (hs _ (.inr (.inr (.inr ⟨_, List.getElem_mem h1, .inr rfl⟩)))).trans (h.fr k h1 h2).slots⟩, h.nd1, h.nd2, h.ne⟩
theorem RfAt.below (h : RfAt mb s v u fbs w) (hb : Below w.heap.size w w') : RfAt mb s v u fbs w' :=
  h.same fun k hk => hb.block k (by
    rcases hk with rfl | hk | hk | ⟨p, hp, hk⟩
    · exact h.lt
    · exact (own_lt h.out hk).2
    · exact (own_lt h.calls hk).2
    · obtain ⟨x, -, hx⟩ := h.frk hp
      rcases hk with rfl | rfl
      · exact (Array.getElem?_eq_some_iff.1 hx.blk).1
      · exact (Array.getElem?_eq_some_iff.1 hx.slots).1)
theorem RfAt.drewN (h : RfAt mb s v u fbs w) (n : Nat) : RfAt mb s v u fbs (w.drewN n) := h.same fun _ _ => rfl
/-- A block of another type is none of the machine's. -/
theorem RfAt.none_of (h : RfAt mb s v u fbs w) {b : Nat} {o : Obj} (hb : w.heap[b]? = some o) (h1 : ∀ cs, o ≠ .cells cs 3 (0, 0)) (h2 : ∀ cs, o ≠ .cells cs 106 (0, 0)) (h3 : ∀ cs, o ≠ .cells cs 109 (0, 0)) :
    v.ownBlock ≠ some b ∧ u.ownBlock ≠ some b ∧ ∀ p ∈ fbs, p.1 ≠ b ∧ p.2 ≠ b :=
  ⟨own_else h.out hb h1, own_else h.calls hb h2, fun p hp => by
    obtain ⟨x, -, hx⟩ := h.frk hp
    refine ⟨fun e => ?_, fun e => ?_⟩
    · have := hx.blk; rw [e, hb] at this; exact h3 _ (Option.some.inj this)
    · have := hx.slots; rw [e, hb] at this; exact h1 _ (Option.some.inj this)⟩
/-- No other block is the machine's. -/
theorem RfAt.mbne (h : RfAt mb s v u fbs w) : v.ownBlock ≠ some mb ∧ u.ownBlock ≠ some mb ∧ ∀ p ∈ fbs, p.1 ≠ mb ∧ p.2 ≠ mb :=
  h.none_of h.blk (fun cs e => by injection e with _ e _; exact absurd e (by decide)) (fun cs e => by injection e with _ e _; exact absurd e (by decide)) (fun cs e => by injection e with _ e _; exact absurd e (by decide))
/-- A cell of the outcome is stored. -/
theorem RfAt.store {s' : PMs} {j : Nat} (z : Value) (h : RfAt mb s v u fbs w) (hc : ocL s' v = (ocL s v).setIfInBounds j z) (ho : s'.out = s.out) (hcl : s'.calls = s.calls) : RfAt mb s' v u fbs (w.setCell ⟨mb, j, none⟩ z) := by
  obtain ⟨n2, n3, n4⟩ := h.mbne
  have hk : ∀ k, k ≠ mb → (w.setCell ⟨mb, j, none⟩ z).heap[k]? = w.heap[k]? := fun k hk => Below.heap_setCell _ _ _ _ hk
  refine ⟨row_set (j := j) z h.blk hc, ?_, ?_, by rw [hcl]; exact h.len, fun k h1 h2 => ?_, h.nd1, h.nd2, h.ne⟩
  · rw [ho]; exact own_same h.out fun k q => hk k (fun e => n2 (by rw [q, e]))
  · rw [hcl]; exact own_same h.calls fun k q => hk k (fun e => n3 (by rw [q, e]))
  · have h2' : k < s.calls.length := by rw [← hcl]; exact h2
    have e : s'.calls[k] = s.calls[k] := by simp only [hcl]
    rw [e]
    have hf := h.fr k h1 h2'
    have := n4 _ (List.getElem_mem h1)
    exact ⟨hf.low, (hk _ this.1).trans hf.blk, (hk _ this.2).trans hf.slots⟩
theorem row4m {T : TypeId} {fz : Nat × Nat} {v0 v1 v2 v3 : Value} {q : Nat} (hrow : w.heap[q]? = some (.cells #[v0, v1, v2, v3] T fz)) :
    w.cell? ⟨q, 0, none⟩ = some v0 ∧ w.cell? ⟨q, 1, none⟩ = some v1 ∧ w.cell? ⟨q, 2, none⟩ = some v2 ∧ w.cell? ⟨q, 3, none⟩ = some v3 :=
  ⟨cell_of_row _ _ 0 _ _ _ hrow, cell_of_row _ _ 1 _ _ _ hrow, cell_of_row _ _ 2 _ _ _ hrow, cell_of_row _ _ 3 _ _ _ hrow⟩
theorem RFrAt.cell (h : RFrAt mb p x w) {j : Nat} {z : Value} (hj : (frL x p.2)[j]? = some z) : w.cell? ⟨p.1, j, none⟩ = some z := by
  rw [cell_of_row _ _ j _ _ _ h.blk, List.getElem?_toArray]; exact hj
theorem RFrAt.slot (h : RFrAt mb p x w) {j : Nat} (hj : j < x.slots.length) : w.cell? ⟨p.2, j, none⟩ = some (.int .i64 (x.slots.getD j 0)) := by
  rw [cell_of_row _ _ j _ _ _ h.slots, List.getElem?_toArray, intVs_get hj, List.getD_eq_getElem?_getD, List.getElem?_eq_getElem hj]; rfl
theorem RfAt.top_at (h : RfAt mb s v u (ps ++ [p]) w) (hs : s.calls = cs ++ [x]) : RFrAt mb p x w ∧ ps.length = cs.length := by
  have hl := h.len
  rw [hs] at hl
  simp only [List.length_append, List.length_singleton] at hl
  have hl' : ps.length = cs.length := by omega
  have := h.fr ps.length (by simp) (by rw [hs]; simp [hl'])
  have e1 : (ps ++ [p])[ps.length]'(by simp) = p := by simp
  have e2 : s.calls[ps.length]'(by rw [hs]; simp [hl']) = x := by simp [hs, hl']
  rw [e1, e2] at this
  exact ⟨this, hl'⟩
theorem RfAt.split (h : RfAt mb s v u fbs w) (hs : s.calls = cs ++ [x]) : ∃ ps p, fbs = ps ++ [p] := by
  have hl := h.len
  rw [hs] at hl
  have : fbs ≠ [] := fun e => by rw [e] at hl; simp at hl
  exact ⟨fbs.dropLast, fbs.getLast this, (List.dropLast_concat_getLast this).symm⟩
/-- The top frame is turned. -/
theorem RfAt.turn (h : RfAt mb s v u (ps ++ [p]) w) (hs : s.calls = cs ++ [x]) (hk : ∀ k, k ≠ p.1 → k ≠ p.2 → w'.heap[k]? = w.heap[k]?) (hf : RFrAt mb p y w') : RfAt mb (topM y s) v u (ps ++ [p]) w' := by
  obtain ⟨ht, hl⟩ := h.top_at hs
  obtain ⟨n2, n3, n4⟩ := h.mbne
  have hp := n4 p (by simp)
  have out : ∀ {e : TypeId} {sz : Nat} {z : Value} {n : Nat} {l : List Value}, w.ownsRow mb e sz z n l → e ≠ 109 → (∀ k, z.ownBlock = some k → k ≠ p.2) → w'.ownsRow mb e sz z n l := fun hz hT hn => own_same hz fun k q => hk k (fun e => own_else hz ht.blk (fun cs e => by injection e with _ e _; exact hT e.symm) (by rw [q, e])) (hn k q)
  have ht2 : (topM y s).calls = cs ++ [y] := by unfold topM; rw [hs]; simp
  refine ⟨(hk mb (fun e => hp.1 e.symm) (fun e => hp.2 e.symm)).trans h.blk, out h.out (by decide) (fun k q e => h.ne p (by simp) (by rw [q, e])), ?_, by rw [ht2, List.length_append, List.length_append, hl]; rfl, fun k h1 h2 => ?_, h.nd1, h.nd2, h.ne⟩
  · have e : (topM y s).calls.length = s.calls.length := by rw [ht2, hs]; simp
    rw [e]
    exact out h.calls (by decide) (fun k q e => own_else h.calls ht.slots (fun cs e => by injection e with _ e _; exact absurd e (by decide)) (by rw [q, e]))
  · simp only [List.length_append, List.length_singleton] at h1
    by_cases hlast : k = ps.length
    · subst hlast
      have e1 : (ps ++ [p])[ps.length]'(by simp) = p := by simp
      have e2 : (topM y s).calls[ps.length]'(by rw [ht2]; simp [hl]) = y := by simp [ht2, hl]
      rw [e1, e2]
      exact hf
    · have hkp : k < ps.length := by omega
      have hkc : k < cs.length := by omega
      have e1 : (ps ++ [p])[k]'(by simp; omega) = ps[k] := List.getElem_append_left hkp
      have e2 : (topM y s).calls[k]'(by rw [ht2]; simp; omega) = s.calls[k]'(by rw [hs]; simp; omega) := by simp [ht2, hs, List.getElem_append_left hkc]
      have hfk := h.fr k (by simp; omega) (by rw [hs]; simp; omega)
      rw [e2]
      rw [e1] at hfk ⊢
      have d1 := h.nd1
      have d2 := h.nd2
      rw [List.map_append, List.nodup_append] at d1 d2
      have m1 : ps[k].1 ≠ p.1 := d1.2.2 _ (List.mem_map_of_mem (List.getElem_mem hkp)) _ (by simp)
      have m2 : ps[k].2 ≠ p.2 := d2.2.2 _ (List.mem_map_of_mem (List.getElem_mem hkp)) _ (by simp)
      have t1 : ps[k].1 ≠ p.2 := fun e => by
        have := hfk.blk
        rw [e, ht.slots] at this
        injection this with this; injection this with _ this _; exact absurd this (by decide)
      have t2 : ps[k].2 ≠ p.1 := fun e => by
        have := hfk.slots
        rw [e, ht.blk] at this
        injection this with this; injection this with _ this _; exact absurd this (by decide)
      exact ⟨hfk.low, (hk _ m1 t1).trans hfk.blk, (hk _ t2 m2).trans hfk.slots⟩
/-- A cell of the top frame is stored. -/
theorem RfAt.frStore (h : RfAt mb s v u (ps ++ [p]) w) (hs : s.calls = cs ++ [x]) {j : Nat} (z : Value) (hz : (frL x p.2).set j z = frL y p.2) (hsl : y.slots = x.slots) : RfAt mb (topM y s) v u (ps ++ [p]) (w.setCell ⟨p.1, j, none⟩ z) ∧ Below mb w (w.setCell ⟨p.1, j, none⟩ z) := by
  obtain ⟨ht, hl⟩ := h.top_at hs
  have hb : Below mb w (w.setCell ⟨p.1, j, none⟩ z) := (Below.refl mb w).setCell (p := ⟨p.1, j, none⟩) (Nat.le_of_lt ht.low.1) _
  have hne : p.2 ≠ p.1 := fun e => by
    have := ht.slots
    rw [e, ht.blk] at this
    injection this with this; injection this with _ this _; exact absurd this (by decide)
  refine ⟨h.turn hs (fun k h1 _ => Below.heap_setCell _ _ _ _ h1) ⟨ht.low, row_set (j := j) z ht.blk ?_, ?_⟩, hb⟩
  · rw [← hz]; simp
  · rw [hsl]; exact (Below.heap_setCell _ _ _ _ hne).trans ht.slots
/-- A slot of the top frame is stored. -/
theorem RfAt.slStore (h : RfAt mb s v u (ps ++ [p]) w) (hs : s.calls = cs ++ [x]) {j : Nat} (n : Int) : RfAt mb (topM { x with slots := x.slots.set j n } s) v u (ps ++ [p]) (w.setCell ⟨p.2, j, none⟩ (.int .i64 n)) ∧ Below mb w (w.setCell ⟨p.2, j, none⟩ (.int .i64 n)) := by
  obtain ⟨ht, hl⟩ := h.top_at hs
  have hb : Below mb w (w.setCell ⟨p.2, j, none⟩ (.int .i64 n)) := (Below.refl mb w).setCell (p := ⟨p.2, j, none⟩) (Nat.le_of_lt ht.low.2) _
  have hne : p.1 ≠ p.2 := fun e => by
    have := ht.slots
    rw [← e, ht.blk] at this
    injection this with this; injection this with _ this _; exact absurd this (by decide)
  refine ⟨h.turn hs (fun k _ h2 => Below.heap_setCell _ _ _ _ h2) ⟨ht.low, ?_, row_set (j := j) (.int .i64 n) ht.slots ?_⟩, hb⟩
  · refine (Below.heap_setCell _ _ _ _ hne).trans (ht.blk.trans ?_)
    simp [frL]
  · simp [intVs_set]
theorem RfAt.pop {g cap : Nat} (h : RfAt mb s v (.slice (some ⟨g, 0, none⟩) (cs.length + 1) cap) (ps ++ [p]) w) (hs : s.calls = cs ++ [x]) :
    RfAt mb { s with calls := cs } v (.slice (some ⟨g, 0, none⟩) cs.length cap) ps w := by
  obtain ⟨ht, hl⟩ := h.top_at hs
  refine ⟨h.blk, h.out, ?_, hl, fun k h1 h2 => ?_, ?_, ?_, fun q hq => h.ne q (by simp [hq])⟩
  · have hc := h.calls
    rw [hs, List.length_append, List.length_singleton] at hc
    have hcut := own_cut hc
    have e : (ptrVs (ps ++ [p])).take cs.length = ptrVs ps := by unfold ptrVs; rw [List.map_append, ← hl, List.take_append_of_le_length (by simp), List.take_of_length_le (by simp)]
    rw [e] at hcut
    exact hcut
  · have hf := h.fr k (by simp; omega) (by rw [hs]; simp; omega)
    have e1 : (ps ++ [p])[k]'(by simp; omega) = ps[k] := List.getElem_append_left h1
    have e2 : s.calls[k]'(by rw [hs]; simp; omega) = cs[k] := by simp [hs, List.getElem_append_left h2]
    rw [e1, e2] at hf
    exact hf
  · have := h.nd1
    rw [List.map_append, List.nodup_append] at this
    exact this.1
  · have := h.nd2
    rw [List.map_append, List.nodup_append] at this
    exact this.1
theorem RfAt.ptr (h : RfAt mb s v u (ps ++ [p]) w) (hs : s.calls = cs ++ [x]) : ∃ g cap, u = .slice (some ⟨g, 0, none⟩) (cs.length + 1) cap ∧ cs.length + 1 ≤ cap ∧ w.cell? ⟨g, cs.length, none⟩ = some (.pointer (some ⟨p.1, 0, none⟩)) := by
  have hc := h.calls
  obtain ⟨ht, hl⟩ := h.top_at hs
  rw [hs, List.length_append, List.length_singleton] at hc
  obtain ⟨g, cap, e, hle, hcell⟩ := own_some hc
  refine ⟨g, cap, e, hle, hcell _ _ ?_⟩
  unfold ptrVs
  rw [List.map_append, ← hl, List.getElem?_append_right (by simp)]
  simp
def frR (f : PFn) (d : Nat) (args : List Int) (sb : Nat) : Obj := .cells (frL (newFr f d args) sb).toArray 109
theorem frR_lit {f : PFn} {n e : Nat} (hn : f.slots = n) (he : f.entry = e) (d : Nat) (a0 a1 a2 a3 : Int) (sb : Nat) : frR f d [a0, a1, a2, a3] sb = .cells #[.string (mkB f.name), .int .i64 f.params, .int .i64 n, .int .i64 e, .int .i64 0, .int .i64 0, .int .i64 0, .int .i64 0, .int .i64 0, .int .i64 0, .int .i64 0, .int .i64 0, .slice (some ⟨sb, 0, none⟩) n n, .int .i64 a0, .int .i64 a1, .int .i64 a2, .int .i64 a3, .int .i64 0, .int .i64 0, .int .i64 0, .int .i64 0, .int .i64 e, .int .i64 d] 109 := by
  obtain ⟨fn, fp, fs, fe⟩ := f
  simp only at hn he
  subst hn; subst he
  unfold frR newFr frL fnL
  simp [intVs, zero8, zero4]
/-- Behind the append of a new frame. -/
theorem RfAt.push {u' : Value} {o : Obj} {f : PFn} {d : Nat} {args : List Int} (h : RfAt mb s v u fbs w)
    (hown : w'.ownsRow mb 106 1 u' (s.calls.length + 1) (ptrVs fbs ++ [.pointer (some ⟨w.heap.size + 1, 0, none⟩)]))
    (hg : (((w.alloc (slO f.slots.toNat)).alloc (frR f d args w.heap.size)).alloc o).grownBy w' u.ownBlock) :
    RfAt mb (pushM f d args s) v u' (fbs ++ [(w.heap.size + 1, w.heap.size)]) w' ∧ Below mb w w' := by
  obtain ⟨n2, n3, n4⟩ := h.mbne
  have hlt := h.lt
  have hb3 : Below w.heap.size w (((w.alloc (slO f.slots.toNat)).alloc (frR f d args w.heap.size)).alloc o) := grow_alloc (grow_alloc (grow_alloc (grow_refl _) _) _) _
  have hold : ∀ k, k < w.heap.size → u.ownBlock ≠ some k → w'.heap[k]? = w.heap[k]? := fun k hk hn => by
    rw [hg.block k (by simp; omega) (fun e => hn e.symm)]
    exact hb3.block k hk
  have hu : ∀ k, u.ownBlock = some k → k < w.heap.size := fun k hk => (own_lt h.calls hk).2
  have hs0 : w'.heap[w.heap.size]? = some (slO f.slots.toNat) := by
    rw [hg.block _ (by simp; omega) (fun e => by have := hu _ e.symm; omega)]
    exact (old_block _ _ (by simp; omega)).trans ((old_block _ _ (by simp)).trans (heap_alloc_new w _))
  have hs1 : w'.heap[w.heap.size + 1]? = some (frR f d args w.heap.size) := by
    rw [hg.block _ (by simp) (fun e => by have := hu _ e.symm; omega)]
    exact (old_block _ _ (by simp)).trans (new_block _ _ (by simp))
  have hbel : Below mb w w' := Below.grown (hb3.mono (Nat.le_of_lt hlt)) hg (by simp; omega) (fun k hk => (own_lt h.calls hk).1)
  have hpl : ∀ p ∈ fbs, p.1 < w.heap.size ∧ p.2 < w.heap.size := fun p hp => by
    obtain ⟨x, -, hx⟩ := h.frk hp
    exact ⟨(Array.getElem?_eq_some_iff.1 hx.blk).1, (Array.getElem?_eq_some_iff.1 hx.slots).1⟩
  refine ⟨⟨(hold mb hlt n3).trans h.blk, own_same h.out fun k q => hold k (own_lt h.out q).2 (own_ne h.out h.calls (by decide) q), ?_,
    by unfold pushM; simp [h.len], fun k h1 h2 => ?_, ?_, ?_, fun p hp => ?_⟩, hbel⟩
  · have e1 : (pushM f d args s).calls.length = s.calls.length + 1 := by unfold pushM; simp
    have e2 : ptrVs (fbs ++ [(w.heap.size + 1, w.heap.size)]) = ptrVs fbs ++ [.pointer (some ⟨w.heap.size + 1, 0, none⟩)] := by unfold ptrVs; simp
    rw [e1, e2]
    exact hown
  · simp only [List.length_append, List.length_singleton] at h1
    by_cases hk : k < fbs.length
    · have hk2 : k < s.calls.length := by rw [← h.len]; exact hk
      have hf := h.fr k hk hk2
      have hl := hpl _ (List.getElem_mem hk)
      have e1 : (fbs ++ [(w.heap.size + 1, w.heap.size)])[k]'(by simp; omega) = fbs[k] := List.getElem_append_left hk
      have e2 : (pushM f d args s).calls[k]'h2 = s.calls[k] := by unfold pushM; exact List.getElem_append_left hk2
      have hu1 : u.ownBlock ≠ some fbs[k].1 := own_else h.calls hf.blk fun cs e => by injection e with _ e _; exact absurd e (by decide)
      have hu2 : u.ownBlock ≠ some fbs[k].2 := own_else h.calls hf.slots fun cs e => by injection e with _ e _; exact absurd e (by decide)
      rw [e1, e2]
      exact ⟨hf.low, (hold _ hl.1 hu1).trans hf.blk, (hold _ hl.2 hu2).trans hf.slots⟩
    · have hk2 : k = fbs.length := by omega
      subst hk2
      have e1 : (fbs ++ [(w.heap.size + 1, w.heap.size)])[fbs.length]'(by simp) = (w.heap.size + 1, w.heap.size) := by simp
      have e2 : (pushM f d args s).calls[fbs.length]'h2 = newFr f d args := by unfold pushM; simp [h.len]
      rw [e1, e2]
      refine ⟨⟨by simp only; omega, by simp only; omega⟩, hs1, ?_⟩
      simp only
      rw [hs0]
      rfl
  · rw [List.map_append, List.nodup_append]
    refine ⟨h.nd1, by simp, fun a ha b hb e => ?_⟩
    obtain ⟨p, hp, rfl⟩ := List.mem_map.1 ha
    have := (hpl p hp).1
    simp at hb
    omega
  · rw [List.map_append, List.nodup_append]
    refine ⟨h.nd2, by simp, fun a ha b hb e => ?_⟩
    obtain ⟨p, hp, rfl⟩ := List.mem_map.1 ha
    have := (hpl p hp).2
    simp at hb
    omega
  · rcases List.mem_append.1 hp with hp | hp
    · exact h.ne p hp
    · rw [List.mem_singleton.1 hp]
      intro e
      have := (own_lt h.out e).2
      simp at this
theorem rptrInfo : (Tryz.prog.info? 106).map (fun i => (i.zero, i.size, i.bytes)) = some (some (.pointer none), 1, 8) := by kernel_rfl
end
end Go.Proofs.YtonnhechjbdenaaGreatDoor
