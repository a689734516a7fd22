import Derived.Test.YtdilakpipbkokaaDoorBn31
import Derived.Test.YtdilakpipbkokaaDoorBn25
import Derived.Test.YtdilakpipbkokaaDoorBn26
set_option linter.unusedVariables false
set_option linter.unusedSimpArgs false
namespace Go.Proofs.YtdilakpipbkokaaDoor
open Go.RowKit

/-! the document's check of a code (printed by gen_plr3.py) -/
theorem set2P {w : World} {q : Nat} {a0 a1 v0 v1 : Value} {T : TypeId} {fz : Nat × Nat} (h : w.heap[q]? = some (.cells #[a0, a1] T fz)) :
    ((w.setCell ⟨q, 0, none⟩ v0).setCell ⟨q, 1, none⟩ v1).heap[q]? = some (.cells #[v0, v1] T fz) :=
  row_set (j := 1) v1 (row_set (j := 0) v0 h rfl) (by simp)
theorem row2P {w : World} {q : Nat} {v0 v1 : Value} {T : TypeId} {fz : Nat × Nat} (hrow : w.heap[q]? = some (.cells #[v0, v1] T fz)) : w.cell? ⟨q, 0, none⟩ = some v0 ∧ w.cell? ⟨q, 1, none⟩ = some v1 :=
  ⟨cell_of_row _ _ 0 _ _ _ hrow, cell_of_row _ _ 1 _ _ _ hrow⟩
theorem below2P {w0 w : World} {q : Nat} {v0 v1 : Value} (h : Below w0.heap.size w0 w) (hq : w0.heap.size ≤ q) : Below w0.heap.size w0 ((w.setCell ⟨q, 0, none⟩ v0).setCell ⟨q, 1, none⟩ v1) := (h.setCell hq _).setCell hq _
def pfltV (c a : Int) : Value := .agg #[.int .i64 c, .int .i64 a]
set_option maxRecDepth 100000 in
theorem bareP (c : Int) (w : World) : Calls Tryd.prog 16 #[.int .i64 c] w (Ret (pfltV c (-1)) w) := by
  unfold pfltV
  go_enter Tryd.func16, Tryd.ntmps16
  go_wp2_with fail
  go_returns
  exact ⟨rfl, (Below.refl _ _).alloc (Nat.le_refl _) _⟩
set_option maxRecDepth 100000 in
theorem fineP (w : World) : Calls Tryd.prog 19 #[] w (Ret (pfltV 0 (-1)) w) := by
  unfold pfltV
  go_enter Tryd.func19, Tryd.ntmps19
  go_wp2_with fail
  go_returns
  exact ⟨rfl, (Below.refl _ _).alloc (Nat.le_refl _) _⟩
/-- The flags tell which were made. -/
def MadeIs (l : List Bool) (m : List Int) : Prop := ∀ v : Nat, v < l.length → l.getD v false = m.contains (v : Int)
theorem made_start (n : Nat) : MadeIs (List.replicate n false) [] := fun v hv => by
  rw [List.getD_eq_getElem?_getD, List.getElem?_eq_getElem hv]; simp
theorem made_put {l : List Bool} {m : List Int} (h : MadeIs l m) {v : Nat} (hv : v < l.length) : MadeIs (l.set v true) ((v : Int) :: m) := fun u hu => by
  rw [List.length_set] at hu
  rw [List.getD_eq_getElem?_getD, List.contains_cons]
  by_cases e : u = v
  · subst e; simp [hu]
  · rw [List.getElem?_set_ne (Ne.symm e)]
    have h9 := h u hu
    rw [List.getD_eq_getElem?_getD] at h9
    rw [h9, show ((u : Int) == (v : Int)) = false from beq_eq_false_iff_ne.2 (by omega), Bool.false_or]
/-- What instructions make. -/
def insD (l : List PIn) : List Int := (l.filter fun x => madeW x.kind).map (·.d)
theorem makesW_eq (b : PBk) : makesW b = b.params ++ insD b.ins := rfl
theorem insD_step {l : List PIn} {k : Nat} (h : k < l.length) : insD (l.drop k) = if madeW l[k].kind = true then l[k].d :: insD (l.drop (k + 1)) else insD (l.drop (k + 1)) := by
  unfold insD
  rw [List.drop_eq_getElem_cons h, List.filter_cons]
  split <;> rfl
theorem once_par {m m2 ps r : List Int} {k : Nat} (h : k < ps.length) : onceW m2 (ps.drop k ++ r) = if m2.contains ps[k] then (false, m2) else onceW (ps[k] :: m2) (ps.drop (k + 1) ++ r) := by
  rw [List.drop_eq_getElem_cons h]; rfl
theorem once_cons (m : List Int) (v : Int) (l : List Int) : onceW m (v :: l) = if m.contains v then (false, m) else onceW (v :: m) l := rfl
theorem bkC_blkE (c : PCo) (m : List Int) (b : PBk) : bkC c m b = if blkE c b ≠ 0 then blkE c b else if (onceW m (makesW b)).1 then 0 else 7 := by
  unfold bkC blkE
  cases bkKinds b <;> cases bkBounds c b <;> cases bkShapes c b <;> simp
theorem blkE_ok {c : PCo} {b : PBk} (h : blkE c b = 0) : BkOk c b := by
  unfold blkE at h
  cases h1 : bkKinds b <;> cases h2 : bkBounds c b <;> cases h3 : bkShapes c b <;> simp [h1, h2, h3] at h
  exact ⟨h1, h2, h3⟩
theorem blkE_le (c : PCo) (b : PBk) : blkE c b ≤ 4 := by
  unfold blkE
  cases bkKinds b <;> cases bkBounds c b <;> cases bkShapes c b <;> simp
def PFlt (c : PCo) (w : World) : Ending → World → Prop := Ret (.agg #[.int .i64 ((coC c).1 : Nat), .int .i64 (coC c).2]) w
set_option maxHeartbeats 16000000 in
set_option maxRecDepth 100000 in
theorem CodeFault_any (c : PCo) (A : Option Addr) (ca : Nat) (hs : ∀ b ∈ c.blocks, PSm b) (w : World) (hr : RdP w c.blocks A) :
    Calls Tryd.prog 8 #[coV c A ca] w (PFlt c w) := by
  obtain ⟨wA, hwA⟩ : ∃ wA, ((w.alloc (.cells #[.string (mkB c.name), .int .i64 c.params, .int .i64 c.values, .slice A c.blocks.length ca] 24)).alloc (.cells #[.int .i64 0, .int .i64 0] 34)) = wA := ⟨_, rfl⟩
  have hbA : Below w.heap.size w wA := by rw [← hwA]; exact grow_alloc (grow_alloc (grow_refl _) _) _
  have hmA : wA.heap[w.heap.size]? = some (.cells #[.string (mkB c.name), .int .i64 c.params, .int .i64 c.values, .slice A c.blocks.length ca] 24 (0, 0)) := by rw [← hwA]; exact (old_block _ _ (by simp)).trans (heap_alloc_new w _)
  have hrA : wA.heap[w.heap.size + 1]? = some (.cells #[.int .i64 0, .int .i64 0] 34 (0, 0)) := by rw [← hwA]; exact new_block _ _ (by simp)
  have hlA : w.heap.size + 1 < wA.heap.size := (Array.getElem?_eq_some_iff.1 hrA).1
  have HX : Hid (∀ w', Below wA.heap.size wA w' → (w'.cell? ⟨w.heap.size, 0, none⟩ = some (.string (mkB c.name)) ∧ w'.cell? ⟨w.heap.size, 1, none⟩ = some (.int .i64 c.params) ∧ w'.cell? ⟨w.heap.size, 2, none⟩ = some (.int .i64 c.values) ∧ w'.cell? ⟨w.heap.size, 3, none⟩ = some (.slice A c.blocks.length ca)) ∧ w'.heap[w.heap.size + 1]? = some (.cells #[.int .i64 0, .int .i64 0] 34 (0, 0)) ∧ RdP w' c.blocks A ∧ Below w.heap.size w w') := fun w' hb =>
    ⟨row4B ((hb.block _ (by omega)).trans hmA), (hb.block _ hlA).trans hrA, hr.keep (Keeps.of_below (grow_trans hbA hb)), grow_trans hbA hb⟩
  have HWA := Lib.hid hwA
  have HS := Lib.hid hs
  obtain ⟨⟨i0, i1, i2, i3⟩, hr0, HRA0, -⟩ := HX.out wA (grow_refl _)
  have HRA := Lib.hid HRA0
  have HDN : Hid (∀ (z : Nat) (at' : Int) (wr : World), coC c = (z, at') → Below wA.heap.size wA wr → PFlt c w (.returned (.agg #[.int .i64 z, .int .i64 at'])) ((wr.setCell ⟨w.heap.size + 1, 0, none⟩ (.int .i64 z)).setCell ⟨w.heap.size + 1, 1, none⟩ (.int .i64 at'))) := fun z at' wr h hb => by
    unfold PFlt
    rw [h]
    exact ⟨rfl, below2P (HX.out wr hb).2.2.2 (by omega)⟩
  have HBR : Hid (∀ (z : Int) (w' : World), Calls Tryd.prog 16 #[.int .i64 z] w' (Ret (.agg #[.int .i64 z, .int .i64 (-1)]) w')) := fun z w' => bareP z w'
  have FIN : Hid (∀ w1, Below wA.heap.size wA w1 → ((w1.cell? ⟨w.heap.size + 1, 0, none⟩ = some (.int .i64 0) ∧ w1.cell? ⟨w.heap.size + 1, 1, none⟩ = some (.int .i64 0)) ∧ (w1.frozen? ⟨w.heap.size + 1, 0, none⟩ = false ∧ w1.frozen? ⟨w.heap.size + 1, 1, none⟩ = false))) := fun w1 hb => ⟨row2P (HX.out w1 hb).2.1, row_frozen (HX.out w1 hb).2.1 0, row_frozen (HX.out w1 hb).2.1 1⟩
  obtain ⟨⟨s0, s1⟩, y0, y1⟩ := FIN.out wA (grow_refl _)
  have HP : Hid (coC c = if 1000 < c.blocks.length ∨ 1000 < c.values then (8, -1) else if c.blocks.length = 0 ∨ 0 < ((c.blocks[0]?).map fun q => q.params.length).getD 0 ∨ c.values < 0 then (3, -1) else if c.params < 0 ∨ 4 < c.params then (9, -1) else bksC c [] c.blocks 0) := show _ = _ from rfl
  have HBE : Hid (∀ (x : PBk) (P : Option Addr) (p : Nat) (I : Option Addr) (i : Nat) (T : Option Addr) (t : Nat) (W : Option Addr) (wc : Nat) (w' : World), PSm x → BkRows w' x P I T W → RdP w' c.blocks A → Calls Tryd.prog 17 #[coV c A ca, bkV x P p I i T t W wc] w' (Ret (.int .i64 (blkE c x : Nat)) w')) := fun x P p I i T t W wc w' h1 h2 h3 => blockError_any c A ca x h1 P p I i T t W wc w' h2 h3
  have HMV : Hid (∀ k w', Calls Tryd.prog 18 #[.string (mkB k)] w' fun e w'' => e = .returned (.bool (madeW k)) ∧ w'' = w') := makesV_any
  unfold coV
  unfold coV at HBE
  clear hr hbA hmA hrA hwA hs hr0 HRA0
  by_cases h1 : 1000 < c.blocks.length
  · have q1 : (1000 : Int) < (c.blocks.length : Int) := by omega
    have HF : Hid (coC c = (8, -1)) := show _ = _ by rw [HP.out, if_pos (.inl h1)]
    clear h1
    go_enter Tryd.func8, Tryd.ntmps8
    go_upto_region 1 with fail
    change Code.wp _ _ _ _ ((w.alloc (.cells #[.string (mkB c.name), .int .i64 c.params, .int .i64 c.values, .slice A c.blocks.length ca] 24)).alloc (.cells #[.int .i64 0, .int .i64 0] 34))
    rw [HWA.out]
    go_wp2_with (go_at_call 16; (with_reducible refine (HBR.out _ _).mono ?_); rintro y w1 ⟨rfl, hb1⟩; obtain ⟨⟨s0, s1⟩, y0, y1⟩ := FIN.out w1 hb1)
    obtain ⟨z0, z1⟩ := row2P (set2P (v0 := .int .i64 8) (v1 := .int .i64 (-1)) (HX.out w1 hb1).2.1)
    refine bodyPost_ret (v := .agg #[.int .i64 8, .int .i64 (-1)]) (by simp [results, Tryd.results8, go_sem, z0, z1]; try rfl) rfl ?_
    exact HDN.out 8 (-1) w1 HF.out hb1
  have q1 : ¬ (1000 : Int) < (c.blocks.length : Int) := by omega
  rcases Classical.em (1000 < c.values) with q1b | q1b
  · skip
    have HF : Hid (coC c = (8, -1)) := show _ = _ by rw [HP.out, if_pos (.inr q1b)]
    clear h1
    go_enter Tryd.func8, Tryd.ntmps8
    go_upto_region 1 with fail
    change Code.wp _ _ _ _ ((w.alloc (.cells #[.string (mkB c.name), .int .i64 c.params, .int .i64 c.values, .slice A c.blocks.length ca] 24)).alloc (.cells #[.int .i64 0, .int .i64 0] 34))
    rw [HWA.out]
    go_wp2_with (go_at_call 16; (with_reducible refine (HBR.out _ _).mono ?_); rintro y w1 ⟨rfl, hb1⟩; obtain ⟨⟨s0, s1⟩, y0, y1⟩ := FIN.out w1 hb1)
    obtain ⟨z0, z1⟩ := row2P (set2P (v0 := .int .i64 8) (v1 := .int .i64 (-1)) (HX.out w1 hb1).2.1)
    refine bodyPost_ret (v := .agg #[.int .i64 8, .int .i64 (-1)]) (by simp [results, Tryd.results8, go_sem, z0, z1]; try rfl) rfl ?_
    exact HDN.out 8 (-1) w1 HF.out hb1
  have hn1 : ¬ (1000 < c.blocks.length ∨ 1000 < c.values) := by omega
  by_cases h2 : c.blocks.length = 0
  · have q2 : ((c.blocks.length : Int) == 0) = true := by rw [h2]; rfl
    have q2' : (c.blocks.length : Int) = 0 := by omega
    have HF : Hid (coC c = (3, -1)) := show _ = _ by rw [HP.out, if_neg hn1, if_pos (.inl h2)]
    clear h1 h2 hn1
    go_enter Tryd.func8, Tryd.ntmps8
    go_upto_region 1 with fail
    change Code.wp _ _ _ _ ((w.alloc (.cells #[.string (mkB c.name), .int .i64 c.params, .int .i64 c.values, .slice A c.blocks.length ca] 24)).alloc (.cells #[.int .i64 0, .int .i64 0] 34))
    rw [HWA.out]
    go_wp2_with (go_at_call 16; (with_reducible refine (HBR.out _ _).mono ?_); rintro y w1 ⟨rfl, hb1⟩; obtain ⟨⟨s0, s1⟩, y0, y1⟩ := FIN.out w1 hb1)
    obtain ⟨z0, z1⟩ := row2P (set2P (v0 := .int .i64 3) (v1 := .int .i64 (-1)) (HX.out w1 hb1).2.1)
    refine bodyPost_ret (v := .agg #[.int .i64 3, .int .i64 (-1)]) (by simp [results, Tryd.results8, go_sem, z0, z1]; try rfl) rfl ?_
    exact HDN.out 3 (-1) w1 HF.out hb1
  have q2 : ((c.blocks.length : Int) == 0) = false := beq_eq_false_iff_ne.2 (by omega)
  have q2' : ¬ (c.blocks.length : Int) = 0 := by omega
  have q2c : (0 : Int) < (c.blocks.length : Int) := by omega
  rcases Classical.em (c.values < 0) with q4 | q4
  · skip
    have HF : Hid (coC c = (3, -1)) := show _ = _ by rw [HP.out, if_neg hn1, if_pos (.inr (.inr q4))]
    clear h1 h2 hn1
    go_enter Tryd.func8, Tryd.ntmps8
    go_upto_region 1 with fail
    change Code.wp _ _ _ _ ((w.alloc (.cells #[.string (mkB c.name), .int .i64 c.params, .int .i64 c.values, .slice A c.blocks.length ca] 24)).alloc (.cells #[.int .i64 0, .int .i64 0] 34))
    rw [HWA.out]
    go_wp2_with (go_at_call 16; (with_reducible refine (HBR.out _ _).mono ?_); rintro y w1 ⟨rfl, hb1⟩; obtain ⟨⟨s0, s1⟩, y0, y1⟩ := FIN.out w1 hb1)
    obtain ⟨z0, z1⟩ := row2P (set2P (v0 := .int .i64 3) (v1 := .int .i64 (-1)) (HX.out w1 hb1).2.1)
    refine bodyPost_ret (v := .agg #[.int .i64 3, .int .i64 (-1)]) (by simp [results, Tryd.results8, go_sem, z0, z1]; try rfl) rfl ?_
    exact HDN.out 3 (-1) w1 HF.out hb1
  obtain ⟨b9, off9, P9, p9, I9, i9', T9, t9, W9, c9, hA9, hB9⟩ := bks_at HRA.out (k := 0) (by omega)
  subst hA9
  have j0 := hB9.c0
  rw [Nat.zero_mul, Nat.add_zero] at j0
  obtain ⟨L0, hL0⟩ : ∃ L, (c.blocks[0]'(by omega)).params.length = L := ⟨_, rfl⟩
  have HL0 : Hid (((c.blocks[0]?).map fun q => q.params.length).getD 0 = L0) := show _ = _ by rw [List.getElem?_eq_getElem (by omega : 0 < c.blocks.length)]; exact hL0
  rw [hL0] at j0
  clear hL0 hB9
  by_cases h3 : 0 < L0
  · have q3 : (0 : Int) < (L0 : Int) := by omega
    have HF : Hid (coC c = (3, -1)) := show _ = _ by rw [HP.out, if_neg hn1, if_pos (.inr (.inl (by rw [HL0.out]; exact h3)))]
    clear h1 h2 hn1 h3
    go_enter Tryd.func8, Tryd.ntmps8
    go_upto_region 1 with fail
    change Code.wp _ _ _ _ ((w.alloc (.cells #[.string (mkB c.name), .int .i64 c.params, .int .i64 c.values, .slice (some ⟨b9, off9, none⟩) c.blocks.length ca] 24)).alloc (.cells #[.int .i64 0, .int .i64 0] 34))
    rw [HWA.out]
    go_wp2_with (go_at_call 16; (with_reducible refine (HBR.out _ _).mono ?_); rintro y w1 ⟨rfl, hb1⟩; obtain ⟨⟨s0, s1⟩, y0, y1⟩ := FIN.out w1 hb1)
    obtain ⟨z0, z1⟩ := row2P (set2P (v0 := .int .i64 3) (v1 := .int .i64 (-1)) (HX.out w1 hb1).2.1)
    refine bodyPost_ret (v := .agg #[.int .i64 3, .int .i64 (-1)]) (by simp [results, Tryd.results8, go_sem, z0, z1]; try rfl) rfl ?_
    exact HDN.out 3 (-1) w1 HF.out hb1
  have q3 : ¬ (0 : Int) < (L0 : Int) := by omega
  have hn2 : ¬ (c.blocks.length = 0 ∨ 0 < ((c.blocks[0]?).map fun q => q.params.length).getD 0 ∨ c.values < 0) := by rw [HL0.out]; omega
  rcases Classical.em (c.params < 0) with q5 | q5
  · skip
    have HF : Hid (coC c = (9, -1)) := show _ = _ by rw [HP.out, if_neg hn1, if_neg hn2, if_pos (Or.inl q5)]
    clear h1 h2 hn1 hn2 h3
    go_enter Tryd.func8, Tryd.ntmps8
    go_upto_region 1 with fail
    change Code.wp _ _ _ _ ((w.alloc (.cells #[.string (mkB c.name), .int .i64 c.params, .int .i64 c.values, .slice (some ⟨b9, off9, none⟩) c.blocks.length ca] 24)).alloc (.cells #[.int .i64 0, .int .i64 0] 34))
    rw [HWA.out]
    go_wp2_with (go_at_call 16; (with_reducible refine (HBR.out _ _).mono ?_); rintro y w1 ⟨rfl, hb1⟩; obtain ⟨⟨s0, s1⟩, y0, y1⟩ := FIN.out w1 hb1)
    obtain ⟨z0, z1⟩ := row2P (set2P (v0 := .int .i64 9) (v1 := .int .i64 (-1)) (HX.out w1 hb1).2.1)
    refine bodyPost_ret (v := .agg #[.int .i64 9, .int .i64 (-1)]) (by simp [results, Tryd.results8, go_sem, z0, z1]; try rfl) rfl ?_
    exact HDN.out 9 (-1) w1 HF.out hb1
  rcases Classical.em (4 < c.params) with q6 | q6
  · skip
    have HF : Hid (coC c = (9, -1)) := show _ = _ by rw [HP.out, if_neg hn1, if_neg hn2, if_pos (Or.inr q6)]
    clear h1 h2 hn1 hn2 h3
    go_enter Tryd.func8, Tryd.ntmps8
    go_upto_region 1 with fail
    change Code.wp _ _ _ _ ((w.alloc (.cells #[.string (mkB c.name), .int .i64 c.params, .int .i64 c.values, .slice (some ⟨b9, off9, none⟩) c.blocks.length ca] 24)).alloc (.cells #[.int .i64 0, .int .i64 0] 34))
    rw [HWA.out]
    go_wp2_with (go_at_call 16; (with_reducible refine (HBR.out _ _).mono ?_); rintro y w1 ⟨rfl, hb1⟩; obtain ⟨⟨s0, s1⟩, y0, y1⟩ := FIN.out w1 hb1)
    obtain ⟨z0, z1⟩ := row2P (set2P (v0 := .int .i64 9) (v1 := .int .i64 (-1)) (HX.out w1 hb1).2.1)
    refine bodyPost_ret (v := .agg #[.int .i64 9, .int .i64 (-1)]) (by simp [results, Tryd.results8, go_sem, z0, z1]; try rfl) rfl ?_
    exact HDN.out 9 (-1) w1 HF.out hb1
  have HP2 : Hid (coC c = bksC c [] c.blocks 0) := show _ = _ by rw [HP.out, if_neg hn1, if_neg hn2, if_neg (by omega)]
  have hlen : c.blocks.length ≤ 1000 := by omega
  obtain ⟨sn, hsn⟩ : ∃ sn : Nat, c.values = (sn : Int) := ⟨c.values.toNat, (Int.toNat_of_nonneg (by omega)).symm⟩
  have hs1000 : sn ≤ 1000 := by omega
  have HSN := Lib.hid hsn
  have hmk : ∀ W, (Instr.makeSlice 63 (.int .i64 c.values) (.int .i64 c.values)).run Tryd.prog W = .ok (.slice (some ⟨W.heap.size, 0, none⟩) sn sn) (W.alloc (flO sn)) := fun W => by rw [HSN.out]; exact make_fl sn (by omega) W
  obtain ⟨gm, hgm⟩ : ∃ gm, wA.heap.size = gm := ⟨_, rfl⟩
  obtain ⟨wM, hwM⟩ : ∃ wM, wA.alloc (flO sn) = wM := ⟨_, rfl⟩
  have hbM : Below wA.heap.size wA wM := by rw [← hwM]; exact grow_alloc (grow_refl _) _
  have hmM : wM.heap[gm]? = some (.cells (boolVs (List.replicate sn false)).toArray 4 (0, 0)) := by rw [← hwM, ← hgm]; exact heap_alloc_new wA _
  have HWM := Lib.hid hwM
  have HGM := Lib.hid hgm
  have HMM := Lib.hid hmM
  have HBM := Lib.hid hbM
  have hgmA : wA.heap.size ≤ gm := by omega
  clear h1 h2 hn1 hn2 h3 hsn hgm hwM hbM hmM
  go_enter Tryd.func8, Tryd.ntmps8
  go_upto_region 1 with fail
  change Code.wp _ _ _ _ ((w.alloc (.cells #[.string (mkB c.name), .int .i64 c.params, .int .i64 c.values, .slice (some ⟨b9, off9, none⟩) c.blocks.length ca] 24)).alloc (.cells #[.int .i64 0, .int .i64 0] 34))
  rw [HWA.out]
  go_upto_region 10 with fail
  rw [HGM.out, HWM.out]
  clear i0 i1 i2 i3 j0 hmk
  obtain ⟨⟨i0, i1, i2, i3⟩, -, -, -⟩ := HX.out wM HBM.out
  go_wp2_with fail
  go_loopw [4, 5, 6, 7, 8, 9] (fun ii _ _ _ _ _ wr => ∃ (k : Nat) (l : List Bool) (m : List Int), k ≤ c.blocks.length ∧ ii = .int .i64 k ∧ l.length = sn ∧ MadeIs l m ∧ wr.heap[gm]? = some (.cells (boolVs l).toArray 4 (0, 0)) ∧ bksC c [] c.blocks 0 = bksC c m (c.blocks.drop k) k ∧ Below wA.heap.size wA wr) (fun ii _ _ _ _ _ _ => c.blocks.length - (intOf ii).toNat)
  case atStart => exact ⟨0, List.replicate sn false, [], Nat.zero_le _, rfl, List.length_replicate, made_start sn, HMM.out, rfl, HBM.out⟩
  case round =>
    obtain ⟨k, l, m, hk, rfl, hll, hml, hgl, hI, hbel⟩ := hrel
    have HI := Lib.hid hI
    have HLL := Lib.hid hll
    have HML := Lib.hid hml
    have HGL := Lib.hid hgl
    clear hI hll hml hgl i0 i1 i2 i3
    obtain ⟨⟨i0, i1, i2, i3⟩, -, hrr, hbw⟩ := HX.out wr hbel
    by_cases hlt : k < c.blocks.length
    · have hlt' : (k : Int) < (c.blocks.length : Int) := by omega
      have hk0 : (0 : Int) ≤ (k : Int) := by omega
      obtain ⟨b8, off8, P, p, I, i, T, t, W, wc, e8, hB⟩ := bks_at hrr hlt
      injection e8 with e8
      injection e8 with e8 e9 _
      subst e8; subst e9
      have HSS := Lib.hid (bksC_drop (m := m) hlt)
      have hsm := HS.out _ (List.getElem_mem hlt)
      obtain ⟨x, hx⟩ : ∃ x, c.blocks[k] = x := ⟨_, rfl⟩
      rw [hx] at HSS hB hsm
      obtain ⟨b0, b1, b2, b3, b4, b5, r1, r2, r3, r4⟩ := hB
      obtain ⟨q, hq⟩ : ∃ q, wr.heap.size = q := ⟨_, rfl⟩
      obtain ⟨wB, hwB⟩ : ∃ wB, wr.alloc (.cells #[.slice P x.params.length p, .slice I x.ins.length i, .string (mkB x.fin), .int .i64 x.v, .slice T x.nx.length t, .slice W x.wth.length wc] 60) = wB := ⟨_, rfl⟩
      have hbB : Below wr.heap.size wr wB := by rw [← hwB]; exact grow_alloc (grow_refl _) _
      have hmB : wB.heap[q]? = some (.cells #[.slice P x.params.length p, .slice I x.ins.length i, .string (mkB x.fin), .int .i64 x.v, .slice T x.nx.length t, .slice W x.wth.length wc] 60 (0, 0)) := by rw [← hwB, ← hq]; exact heap_alloc_new wr _
      have hrows : BkRows wr x P I T W := ⟨r1, r2, r3, r4⟩
      have hbBA : Below wA.heap.size wA wB := grow_trans hbel hbB
      have hc := HBE.out x P p I i T t W wc wB hsm (hrows.keep (Keeps.of_below hbB)) (hrr.keep (Keeps.of_below hbB))
      unfold bkV at hc
      obtain ⟨z, hz⟩ : ∃ z, blkE c x = z := ⟨_, rfl⟩
      rw [hz] at hc
      have hz4 := blkE_le c x
      rw [hz] at hz4
      have HC := Lib.hid hc
      have HZ := Lib.hid hz
      have hl20 := hsm.ins
      have hp10 := hsm.params
      have hGB : wB.heap[gm]? = some (.cells (boolVs l).toArray 4 (0, 0)) := (hbB.block _ (Array.getElem?_eq_some_iff.1 HGL.out).1).trans HGL.out
      have HGB := Lib.hid hGB
      have HBBA := Lib.hid hbBA
      have HRB : Hid (∀ w', Below wA.heap.size wA w' → w'.heap[gm]? ≠ none → True) := fun _ _ _ => trivial
      have HRWS : Hid (BkRows wB x P I T W) := hrows.keep (Keeps.of_below hbB)
      have HMB := Lib.hid hmB
      have HWB := Lib.hid hwB
      have HQ2 := Lib.hid hq
      have hqg : q ≠ gm := ty_ne hmB hGB (by decide)
      have HBKC : Hid (bkC c m x = if z ≠ 0 then z else if (onceW m (makesW x)).1 then 0 else 7) := show _ = _ by rw [bkC_blkE, hz]
      clear hwB hmB hbB hx hq hsm r1 r2 r3 r4 hrows hc hz hGB hbBA hrr
      go_upto_region 14 with fail
      try change Code.wp _ _ _ _ (wr.alloc (.cells #[.slice P x.params.length p, .slice I x.ins.length i, .string (mkB x.fin), .int .i64 x.v, .slice T x.nx.length t, .slice W x.wth.length wc] 60))
      rw [HQ2.out, HWB.out]
      clear b0 b1 b2 b3 b4 b5 i0 i1 i2 i3
      obtain ⟨b0, b1, b2, b3, b4, b5⟩ := row6B HMB.out
      obtain ⟨⟨i0, i1, i2, i3⟩, -, -, -⟩ := HX.out wB HBBA.out
      go_upto_region 15 with (go_at_call 17; (with_reducible refine HC.out.mono ?_); rintro y w1 ⟨rfl, hb1⟩)
      have HB1A := Lib.hid (grow_trans HBBA.out hb1)
      have HMB1 : Hid (w1.heap[q]? = some (.cells #[.slice P x.params.length p, .slice I x.ins.length i, .string (mkB x.fin), .int .i64 x.v, .slice T x.nx.length t, .slice W x.wth.length wc] 60 (0, 0))) := show _ = _ from (hb1.block _ (Array.getElem?_eq_some_iff.1 HMB.out).1).trans HMB.out
      have HGB1 : Hid (w1.heap[gm]? = some (.cells (boolVs l).toArray 4 (0, 0))) := show _ = _ from (hb1.block _ (Array.getElem?_eq_some_iff.1 HGB.out).1).trans HGB.out
      have HRW1 : Hid (BkRows w1 x P I T W) := HRWS.out.keep (Keeps.of_below hb1)
      clear b0 b1 b2 b3 b4 b5 i0 i1 i2 i3 hb1
      obtain ⟨b0, b1, b2, b3, b4, b5⟩ := row6B HMB1.out
      by_cases hz0 : z = 0
      · subst hz0
        have hok := blkE_ok HZ.out
        have hbf := bk_facts hok
        have HPA : Hid (∀ v ∈ x.params, 0 ≤ v ∧ v < (sn : Int)) := fun v hv => by have := hbf.params v hv; have := HSN.out; omega
        have HIA : Hid (∀ y ∈ x.ins, madeW y.kind = true → 0 ≤ y.d ∧ y.d < (sn : Int)) := fun y hy hm => by
          have h9 := (hbf.ins y hy).d (fun e => by rw [(@kindW_is y.kind).2.1.1 e] at hm; exact absurd hm (by decide)) (fun e => by rw [(@kindW_is y.kind).2.2.1 e] at hm; exact absurd hm (by decide))
          have := HSN.out
          omega
        clear hok hbf
        rw [show ((0 : Nat) : Int) = 0 from rfl]
        go_wp2_with fail
        go_loopw [6, 7] (fun e j wy => ∃ (n : Nat) (l2 : List Bool) (ev : Int), n ≤ x.params.length ∧ e = .int .i64 ev ∧ j = .int .i64 n ∧ l2.length = sn ∧ wy.heap[gm]? = some (.cells (boolVs l2).toArray 4 (0, 0)) ∧ ((ev = 0 ∧ ∃ m2, MadeIs l2 m2 ∧ onceW m (makesW x) = onceW m2 (x.params.drop n ++ insD x.ins)) ∨ (ev = 7 ∧ (onceW m (makesW x)).1 = false)) ∧ (∀ k, k ≠ gm → wy.heap[k]? = w1.heap[k]?) ∧ Below wA.heap.size wA wy) (fun _ j _ => x.params.length - (intOf j).toNat)
        case atStart => exact ⟨0, l, 0, Nat.zero_le _, rfl, rfl, HLL.out, HGB1.out, .inl ⟨rfl, m, HML.out, by rw [makesW_eq]; rfl⟩, fun _ _ => rfl, HB1A.out⟩
        case round =>
          obtain ⟨n, l2, ev, hn, rfl, rfl, hl2, hg2, hor, hfar, hb2⟩ := hrel
          have HL2 := Lib.hid hl2
          have HG2 := Lib.hid hg2
          have HFR2 := Lib.hid hfar
          have HMB2 : Hid (wr.heap[q]? = some (.cells #[.slice P x.params.length p, .slice I x.ins.length i, .string (mkB x.fin), .int .i64 x.v, .slice T x.nx.length t, .slice W x.wth.length wc] 60 (0, 0))) := show _ = _ from (hfar q hqg).trans HMB1.out
          clear b0 b1 b2 b3 b4 b5 hl2 hg2 hfar
          obtain ⟨b0, b1, b2, b3, b4, b5⟩ := row6B HMB2.out
          rcases hor with ⟨rfl, hm2⟩ | ⟨rfl, h7⟩
          · by_cases hlt2 : n < x.params.length
            · obtain ⟨m2, hml2, hon⟩ := hm2
              have hlt2' : (n : Int) < (x.params.length : Int) := by omega
              have hn0 : (0 : Int) ≤ (n : Int) := by omega
              have hpn := HPA.out _ (List.getElem_mem hlt2)
              have HST := Lib.hid (once_par (m := m) (m2 := m2) (r := insD x.ins) hlt2)
              have hrow9 := row_by (w' := wr) HRW1.out.params (fun _ a ha => HFR2.out a.block (fun e => by
                obtain ⟨b', o', e', hc'⟩ := HRW1.out.params n _ (intVs_get hlt2)
                rw [ha] at e'
                injection e' with e'
                subst e'
                have h3 := HGB1.out
                simp only at e
                rw [← e] at h3
                rw [cell_of_row _ _ _ _ _ _ h3, List.getElem?_toArray] at hc'
                unfold boolVs at hc'
                rw [List.getElem?_map] at hc'
                cases hq9 : l[o' + n]? with
                | none => rw [hq9] at hc'; cases hc'
                | some u => rw [hq9] at hc'; cases hc'))
              obtain ⟨b9, o9, rfl, hc9⟩ := hrow9 n _ (intVs_get hlt2)
              obtain ⟨dn, hdn⟩ : ∃ dn : Nat, x.params[n] = (dn : Int) := ⟨x.params[n].toNat, (Int.toNat_of_nonneg hpn.1).symm⟩
              rw [hdn] at hc9 HST hpn
              have hd0 : (0 : Int) ≤ (dn : Int) := by omega
              have hd1 : (dn : Int) < (sn : Int) := by omega
              have hdl : dn < l2.length := by rw [HL2.out]; omega
              have cg : wr.cell? ⟨gm, dn, none⟩ = some (.bool (l2.getD dn false)) := by
                rw [cell_of_row _ _ dn _ _ _ HG2.out, List.getElem?_toArray, boolVs_get hdl, List.getD_eq_getElem?_getD, List.getElem?_eq_getElem hdl]; rfl
              have zg := row_frozen HG2.out dn
              have hmd := hml2 dn hdl
              obtain ⟨u, hu⟩ : ∃ u, l2.getD dn false = u := ⟨_, rfl⟩
              rw [hu] at cg hmd
              have HSG : Hid ((wr.setCell ⟨gm, dn, none⟩ (.bool true)).heap[gm]? = some (.cells (boolVs (l2.set dn true)).toArray 4 (0, 0))) := show _ = _ from row_set (j := dn) _ HG2.out (by rw [boolVs_set]; simp)
              have HSF : Hid (∀ k, k ≠ gm → (wr.setCell ⟨gm, dn, none⟩ (.bool true)).heap[k]? = w1.heap[k]?) := fun k hk => (Below.heap_setCell _ _ _ _ hk).trans (HFR2.out k hk)
              have HSB : Hid (Below wA.heap.size wA (wr.setCell ⟨gm, dn, none⟩ (.bool true))) := hb2.setCell hgmA _
              have HMP : Hid (MadeIs (l2.set dn true) ((dn : Int) :: m2)) := made_put hml2 hdl
              have HON := Lib.hid hon
              have HMD := Lib.hid hmd
              clear hpn hdn hu hml2 hon hmd hrow9 hdl
              cases u
              · have HF : Hid (onceW m (makesW x) = onceW ((dn : Int) :: m2) (x.params.drop (n + 1) ++ insD x.ins)) := show _ = _ by rw [HON.out, HST.out, ← HMD.out]; rfl
                go_wp2_with fail
                go_roundw
                case rel => exact ⟨n + 1, l2.set dn true, 0, by omega, rfl, by go_num, by rw [List.length_set]; exact HL2.out, HSG.out, .inl ⟨rfl, _, HMP.out, HF.out⟩, HSF.out, HSB.out⟩
                case measure => simp [intOf]; omega
              · have HF : Hid ((onceW m (makesW x)).1 = false) := show _ = _ by rw [HON.out, HST.out, ← HMD.out]; rfl
                go_wp2_with fail
                go_roundw
                case rel => exact ⟨n + 1, l2.set dn true, 7, by omega, rfl, by go_num, by rw [List.length_set]; exact HL2.out, HSG.out, .inr ⟨rfl, HF.out⟩, HSF.out, HSB.out⟩
                case measure => simp [intOf]; omega
            · have hn' : n = x.params.length := by omega
              have HM2 : Hid (∃ m2, MadeIs l2 m2 ∧ onceW m (makesW x) = onceW m2 (insD x.ins)) := by
                obtain ⟨m2, h5, h6⟩ := hm2
                refine ⟨m2, h5, ?_⟩
                rw [h6, hn', List.drop_length]; rfl
              subst hn'
              clear hm2 hlt2
              go_wp2_with fail
              go_loopw [6, 8, 9] (fun e j _ wy => ∃ (n : Nat) (l2 : List Bool) (ev : Int), n ≤ x.ins.length ∧ e = .int .i64 ev ∧ j = .int .i64 n ∧ l2.length = sn ∧ wy.heap[gm]? = some (.cells (boolVs l2).toArray 4 (0, 0)) ∧ ((ev = 0 ∧ ∃ m2, MadeIs l2 m2 ∧ onceW m (makesW x) = onceW m2 (insD (x.ins.drop n))) ∨ (ev = 7 ∧ (onceW m (makesW x)).1 = false)) ∧ (∀ k, k ≠ gm → wy.heap[k]? = w1.heap[k]?) ∧ Below wA.heap.size wA wy) (fun _ j _ _ => x.ins.length - (intOf j).toNat)
              case atStart => exact ⟨0, l2, 0, Nat.zero_le _, rfl, rfl, HL2.out, HG2.out, .inl ⟨rfl, HM2.out⟩, HFR2.out, hb2⟩
              case round =>
                obtain ⟨n, l2, ev, hn, rfl, rfl, hl2, hg2, hor, hfar, hb2⟩ := hrel
                have HL2 := Lib.hid hl2
                have HG2 := Lib.hid hg2
                have HFR2 := Lib.hid hfar
                have HB2 := Lib.hid hb2
                have HMB2 : Hid (wr.heap[q]? = some (.cells #[.slice P x.params.length p, .slice I x.ins.length i, .string (mkB x.fin), .int .i64 x.v, .slice T x.nx.length t, .slice W x.wth.length wc] 60 (0, 0))) := show _ = _ from (hfar q hqg).trans HMB1.out
                clear b0 b1 b2 b3 b4 b5 hl2 hg2 hfar
                obtain ⟨b0, b1, b2, b3, b4, b5⟩ := row6B HMB2.out
                rcases hor with ⟨rfl, hm2⟩ | ⟨rfl, h7⟩
                · by_cases hlt2 : n < x.ins.length
                  · obtain ⟨m2, hml2, hon⟩ := hm2
                    have hlt2' : (n : Int) < (x.ins.length : Int) := by omega
                    have hn0 : (0 : Int) ≤ (n : Int) := by omega
                    have HST := Lib.hid (insD_step hlt2)
                    obtain ⟨b5', off5, A5, c5, e5, hx5⟩ := ins_at HRW1.out.ins hlt2
                    have hym := List.getElem_mem hlt2
                    obtain ⟨y, hy⟩ : ∃ y, x.ins[n] = y := ⟨_, rfl⟩
                    rw [hy] at hx5 HST hym
                    have hb5g : b5' ≠ gm := fun e => by
                      have h3 := HGB1.out
                      have h4 := hx5.c0
                      rw [← e] at h3
                      rw [cell_of_row _ _ _ _ _ _ h3, List.getElem?_toArray] at h4
                      unfold boolVs at h4
                      rw [List.getElem?_map] at h4
                      cases hq9 : l[off5 + n * 5]? with
                      | none => rw [hq9] at h4; cases h4
                      | some u => rw [hq9] at h4; cases h4
                    have c0 : wr.cell? ⟨b5', off5 + n * 5, none⟩ = some (.string (mkB y.kind)) := (World.cell?_of_block (show wr.heap[(⟨b5', off5 + n * 5, none⟩ : Addr).block]? = _ from HFR2.out b5' hb5g)).trans hx5.c0
                    have c1 : wr.cell? ⟨b5', off5 + n * 5 + 1, none⟩ = some (.int .i64 y.d) := (World.cell?_of_block (show wr.heap[(⟨b5', off5 + n * 5 + 1, none⟩ : Addr).block]? = _ from HFR2.out b5' hb5g)).trans hx5.c1
                    subst e5
                    obtain ⟨vm, hvm⟩ : ∃ z, madeW y.kind = z := ⟨_, rfl⟩
                    have hm0 := HMV.out y.kind wr
                    rw [hvm] at hm0
                    have HM := Lib.hid hm0
                    rw [hvm] at HST
                    have HON := Lib.hid hon
                    have HML2 := Lib.hid hml2
                    clear hm0 hx5 hy hb5g hon hml2
                    cases vm
                    · have HF : Hid (onceW m (makesW x) = onceW m2 (insD (x.ins.drop (n + 1)))) := show _ = _ by rw [HON.out, HST.out]; rfl
                      go_wp2_with (go_at_call 18; (with_reducible refine HM.out.mono ?_); rintro y w2 ⟨rfl, rfl⟩)
                      go_roundw
                      case rel => exact ⟨n + 1, l2, 0, by omega, rfl, by go_num, HL2.out, HG2.out, .inl ⟨rfl, m2, HML2.out, HF.out⟩, HFR2.out, HB2.out⟩
                      case measure => simp [intOf]; omega
                    · have hpn := HIA.out y hym hvm
                      obtain ⟨dn, hdn⟩ : ∃ dn : Nat, y.d = (dn : Int) := ⟨y.d.toNat, (Int.toNat_of_nonneg hpn.1).symm⟩
                      rw [hdn] at c1 HST hpn
                      have hd0 : (0 : Int) ≤ (dn : Int) := by omega
                      have hd1 : (dn : Int) < (sn : Int) := by omega
                      have hdl : dn < l2.length := by rw [HL2.out]; omega
                      have cg : wr.cell? ⟨gm, dn, none⟩ = some (.bool (l2.getD dn false)) := by
                        rw [cell_of_row _ _ dn _ _ _ HG2.out, List.getElem?_toArray, boolVs_get hdl, List.getD_eq_getElem?_getD, List.getElem?_eq_getElem hdl]; rfl
                      have zg := row_frozen HG2.out dn
                      have hmd := HML2.out dn hdl
                      obtain ⟨u, hu⟩ : ∃ u, l2.getD dn false = u := ⟨_, rfl⟩
                      rw [hu] at cg hmd
                      have HSG : Hid ((wr.setCell ⟨gm, dn, none⟩ (.bool true)).heap[gm]? = some (.cells (boolVs (l2.set dn true)).toArray 4 (0, 0))) := show _ = _ from row_set (j := dn) _ HG2.out (by rw [boolVs_set]; simp)
                      have HSF : Hid (∀ k, k ≠ gm → (wr.setCell ⟨gm, dn, none⟩ (.bool true)).heap[k]? = w1.heap[k]?) := fun k hk => (Below.heap_setCell _ _ _ _ hk).trans (HFR2.out k hk)
                      have HSB : Hid (Below wA.heap.size wA (wr.setCell ⟨gm, dn, none⟩ (.bool true))) := hb2.setCell hgmA _
                      have HMP : Hid (MadeIs (l2.set dn true) ((dn : Int) :: m2)) := made_put HML2.out hdl
                      have HMD := Lib.hid hmd
                      clear hpn hdn hu hmd hdl hvm
                      cases u
                      · have HF : Hid (onceW m (makesW x) = onceW ((dn : Int) :: m2) (insD (x.ins.drop (n + 1)))) := show _ = _ by rw [HON.out, HST.out, if_pos rfl, once_cons, ← HMD.out]; rfl
                        go_wp2_with (go_at_call 18; (with_reducible refine HM.out.mono ?_); rintro y w2 ⟨rfl, rfl⟩)
                        go_roundw
                        case rel => exact ⟨n + 1, l2.set dn true, 0, by omega, rfl, by go_num, by rw [List.length_set]; exact HL2.out, HSG.out, .inl ⟨rfl, _, HMP.out, HF.out⟩, HSF.out, HSB.out⟩
                        case measure => simp [intOf]; omega
                      · have HF : Hid ((onceW m (makesW x)).1 = false) := show _ = _ by rw [HON.out, HST.out, if_pos rfl, once_cons, ← HMD.out]; rfl
                        go_wp2_with (go_at_call 18; (with_reducible refine HM.out.mono ?_); rintro y w2 ⟨rfl, rfl⟩)
                        go_roundw
                        case rel => exact ⟨n + 1, l2.set dn true, 7, by omega, rfl, by go_num, by rw [List.length_set]; exact HL2.out, HSG.out, .inr ⟨rfl, HF.out⟩, HSF.out, HSB.out⟩
                        case measure => simp [intOf]; omega
                  · have hn' : n = x.ins.length := by omega
                    have HM2 : Hid (∃ m2, MadeIs l2 m2 ∧ bksC c [] c.blocks 0 = bksC c m2 (c.blocks.drop (k + 1)) (k + 1)) := by
                      obtain ⟨m2, h5, h6⟩ := hm2
                      have h7 : onceW m (makesW x) = (true, m2) := by rw [h6, hn', List.drop_length]; rfl
                      refine ⟨m2, h5, ?_⟩
                      have h8 : bkC c m x = 0 := by rw [HBKC.out, if_neg (by simp), h7]; rfl
                      rw [HI.out, HSS.out, if_neg (by rw [h8]; simp), h7]
                    subst hn'
                    clear hm2 hlt2
                    go_wp2_with fail
                    go_roundw
                    case rel =>
                      obtain ⟨m2, h5, h6⟩ := HM2.out
                      exact ⟨k + 1, l2, m2, by omega, by go_num, HL2.out, h5, HG2.out, h6, HB2.out⟩
                    case measure => simp [intOf]; omega
                · have H7 : Hid ((onceW m (makesW x)).1 = false) := h7
                  have HF : Hid (coC c = (7, (k : Int))) := show _ = _ by
                    have h8 : bkC c m x = 7 := by rw [HBKC.out, if_neg (by simp), H7.out]; rfl
                    rw [HP2.out, HI.out, HSS.out, if_pos (by rw [h8]; decide), h8]
                  clear h7
                  obtain ⟨⟨s0, s1⟩, y0, y1⟩ := FIN.out _ HB2.out
                  rcases Classical.em ((n : Int) < (x.ins.length : Int)) with g1 | g1
                  all_goals (
                    go_upto_region 30 with fail
                    iterate 20 (first | go_values | go_skip | go_guarded | go_step | go_upon | go_back)
                    obtain ⟨z0, z1⟩ := row2P (set2P (v0 := .int .i64 7) (v1 := .int .i64 (k : Int)) (HX.out _ HB2.out).2.1)
                    refine bodyPost_ret (v := .agg #[.int .i64 7, .int .i64 (k : Int)]) (by simp [results, Tryd.results8, go_sem, z0, z1]; try rfl) rfl ?_
                    exact HDN.out 7 (k : Int) _ HF.out HB2.out
                  )
          · have H7 : Hid ((onceW m (makesW x)).1 = false) := h7
            have HF : Hid (coC c = (7, (k : Int))) := show _ = _ by
              have h8 : bkC c m x = 7 := by rw [HBKC.out, if_neg (by simp), H7.out]; rfl
              rw [HP2.out, HI.out, HSS.out, if_pos (by rw [h8]; decide), h8]
            have HB2 := Lib.hid hb2
            clear h7
            rcases Classical.em ((n : Int) < (x.params.length : Int)) with g1 | g1
            all_goals (
              go_wp2_with fail
              go_loopw [6, 8, 9] (fun e j _ wy => e = .int .i64 7 ∧ j = .int .i64 0 ∧ wy = wr) (fun _ _ _ _ => 0)
              case atStart => exact ⟨rfl, rfl, rfl⟩
              case round =>
                obtain ⟨rfl, rfl, rfl⟩ := hrel
                obtain ⟨⟨s0, s1⟩, y0, y1⟩ := FIN.out _ HB2.out
                rcases Classical.em ((0 : Int) < (x.ins.length : Int)) with g2 | g2
                all_goals (
                  go_upto_region 30 with fail
                  iterate 20 (first | go_values | go_skip | go_guarded | go_step | go_upon | go_back)
                  obtain ⟨z0, z1⟩ := row2P (set2P (v0 := .int .i64 7) (v1 := .int .i64 (k : Int)) (HX.out _ HB2.out).2.1)
                  refine bodyPost_ret (v := .agg #[.int .i64 7, .int .i64 (k : Int)]) (by simp [results, Tryd.results8, go_sem, z0, z1]; try rfl) rfl ?_
                  exact HDN.out 7 (k : Int) _ HF.out HB2.out
                ))
      · have hzb : ((z : Int) == 0) = false := beq_eq_false_iff_ne.2 (by omega)
        have hzp : (0 : Int) < (z : Int) := by omega
        have HF : Hid (coC c = (z, (k : Int))) := show _ = _ by rw [HP2.out, HI.out, HSS.out, if_pos (by rw [HBKC.out, if_pos hz0]; exact hz0), HBKC.out, if_pos hz0]
        clear hz0
        go_wp2_with fail
        go_loopw [6, 7] (fun e j wy => e = .int .i64 (z : Nat) ∧ j = .int .i64 0 ∧ wy = w1) (fun _ _ _ => 0)
        case atStart => exact ⟨rfl, rfl, rfl⟩
        case round =>
          obtain ⟨rfl, rfl, rfl⟩ := hrel
          obtain ⟨b0, b1, b2, b3, b4, b5⟩ := row6B HMB1.out
          rcases Classical.em ((0 : Int) < (x.params.length : Int)) with g1 | g1
          all_goals (
            go_wp2_with fail
            go_loopw [6, 8, 9] (fun e j _ wy => e = .int .i64 (z : Nat) ∧ j = .int .i64 0 ∧ wy = wr) (fun _ _ _ _ => 0)
            case atStart => exact ⟨rfl, rfl, rfl⟩
            case round =>
              obtain ⟨rfl, rfl, rfl⟩ := hrel
              obtain ⟨⟨s0, s1⟩, y0, y1⟩ := FIN.out _ HB1A.out
              rcases Classical.em ((0 : Int) < (x.ins.length : Int)) with g2 | g2
              all_goals (
                go_upto_region 30 with fail
                iterate 20 (first | go_values | go_skip | go_guarded | go_step | go_upon | go_back)
                obtain ⟨z0, z1⟩ := row2P (set2P (v0 := .int .i64 z) (v1 := .int .i64 (k : Int)) (HX.out _ HB1A.out).2.1)
                refine bodyPost_ret (v := .agg #[.int .i64 z, .int .i64 (k : Int)]) (by simp [results, Tryd.results8, go_sem, z0, z1]; try rfl) rfl ?_
                exact HDN.out z (k : Int) _ HF.out HB1A.out
              ))
    · have hk' : k = c.blocks.length := by omega
      have HF : Hid (coC c = (0, -1)) := show _ = _ by rw [HP2.out, HI.out, hk', List.drop_length]; rfl
      have HFI : Hid (Calls Tryd.prog 19 #[] wr (Ret (.agg #[.int .i64 0, .int .i64 (-1)]) wr)) := fineP wr
      subst hk'
      have HBEL := Lib.hid hbel
      clear hrr hbw
      go_wp2_with (go_at_call 19; (with_reducible refine HFI.out.mono ?_); rintro y w1 ⟨rfl, hb1⟩; obtain ⟨⟨s0, s1⟩, y0, y1⟩ := FIN.out w1 (grow_trans HBEL.out hb1))
      obtain ⟨z0, z1⟩ := row2P (set2P (v0 := .int .i64 0) (v1 := .int .i64 (-1)) (HX.out w1 (grow_trans HBEL.out hb1)).2.1)
      refine bodyPost_ret (v := .agg #[.int .i64 0, .int .i64 (-1)]) (by simp [results, Tryd.results8, go_sem, z0, z1]; try rfl) rfl ?_
      exact HDN.out 0 (-1) w1 HF.out (grow_trans HBEL.out hb1)
end Go.Proofs.YtdilakpipbkokaaDoor
