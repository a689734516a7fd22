import Derived.Deep.CutBlock
import Derived.Deep.CutRange
import Derived.StillTailTactics
import Derived.Test.YtpmpeihcdiohmaaDoorBn21
import Derived.Test.YtpmpeihcdiohmaaDoorBn15
set_option linter.unusedVariables false
set_option linter.unusedSimpArgs false
namespace Go.Proofs.YtpmpeihcdiohmaaDoor
open Go.RowKit

/-! the document's check of a code (printed by gen_alrf.py) -/
theorem set2A {w : World} {q : Nat} {a0 a1 v0 v1 : Value} {T : TypeId} {fz : Nat × Nat} (h : w.heap[q]? = some (.cells #[a0, a1] T fz)) :
    ((w.setCell ⟨q, 0, none⟩ v0).setCell ⟨q, 1, none⟩ v1).heap[q]? = some (.cells #[v0, v1] T fz) :=
  row_set (j := 1) v1 (row_set (j := 0) v0 h rfl) (by simp)
theorem row2A {w : World} {q : Nat} {v0 v1 : Value} {T : TypeId} {fz : Nat × Nat} (hrow : w.heap[q]? = some (.cells #[v0, v1] T fz)) : w.cell? ⟨q, 0, none⟩ = some v0 ∧ w.cell? ⟨q, 1, none⟩ = some v1 :=
  ⟨cell_of_row _ _ 0 _ _ _ hrow, cell_of_row _ _ 1 _ _ _ hrow⟩
theorem below2A {w0 w : World} {q : Nat} {v0 v1 : Value} (h : Below w0.heap.size w0 w) (hq : w0.heap.size ≤ q) : Below w0.heap.size w0 ((w.setCell ⟨q, 0, none⟩ v0).setCell ⟨q, 1, none⟩ v1) := (h.setCell hq _).setCell hq _
/-- What is still to be looked at in a block from a turn on. -/
def blkFrom (c : PCd) (b : PBlk) (t : Nat) : Nat :=
  if t = 0 then blkC c b else if t = 1 then (if blkBound c b then 2 else if blkShape b then 3 else 0) else if t = 2 then (if blkShape b then 3 else 0) else 0
theorem all_step {P : PLow → Bool} {l : List PLow} {k : Nat} (h : k < l.length) : (l.drop k).all P = (P l[k] && (l.drop (k + 1)).all P) := by
  rw [List.drop_eq_getElem_cons h, List.all_cons]
theorem farTo_step {n : Nat} {l : List Int} {k : Nat} (h : k < l.length) : farTo n (l.take (k + 1)) = (farTo n (l.take k) || farK n l[k]) := by
  unfold farTo; rw [List.take_succ_eq_append_getElem h, List.any_append]; simp [farK]
def codeE (b : Bool) (z : Int) : Int := if b then z else 0
def FltPost (c : PCd) (w : World) : Ending → World → Prop := Ret (.agg #[.int .i64 ((lowC c).1 : Nat), .int .i64 (lowC c).2]) w
set_option maxHeartbeats 16000000 in
set_option maxRecDepth 100000 in
theorem LowFault_any (c : PCd) (A : Option Addr) (ca : Nat) (hn : c.blocks.length ≤ 100000) (hs : ∀ b ∈ c.blocks, BlkSm b) (w : World) (hr : RdC w A c.blocks) :
    Calls Tryd.prog 8 #[cdV c A ca] w (FltPost c w) := by
  obtain ⟨wA, hwA⟩ : ∃ wA, (w.alloc (.cells #[.string (mkB c.name), .int .i64 c.params, .int .i64 c.slots, .slice A c.blocks.length ca] 24)).alloc (.cells #[.int .i64 0, .int .i64 0] 34) = wA := ⟨_, rfl⟩
  have hbA : Below w.heap.size w wA := by rw [← hwA]; exact grow_alloc (grow_alloc (grow_refl _) _) _
  have hmA : wA.heap[w.heap.size]? = some (.cells #[.string (mkB c.name), .int .i64 c.params, .int .i64 c.slots, .slice A c.blocks.length ca] 24 (0, 0)) := by rw [← hwA]; exact (old_block _ _ (by simp)).trans (heap_alloc_new w _)
  have hrA : wA.heap[w.heap.size + 1]? = some (.cells #[.int .i64 0, .int .i64 0] 34 (0, 0)) := by rw [← hwA]; exact new_block _ _ (by simp)
  have hlA : w.heap.size + 1 < wA.heap.size := (Array.getElem?_eq_some_iff.1 hrA).1
  have HX : Hid (∀ w', Below wA.heap.size wA w' → (w'.cell? ⟨w.heap.size, 0, none⟩ = some (.string (mkB c.name)) ∧ w'.cell? ⟨w.heap.size, 1, none⟩ = some (.int .i64 c.params) ∧ w'.cell? ⟨w.heap.size, 2, none⟩ = some (.int .i64 c.slots) ∧ w'.cell? ⟨w.heap.size, 3, none⟩ = some (.slice A c.blocks.length ca)) ∧ w'.heap[w.heap.size + 1]? = some (.cells #[.int .i64 0, .int .i64 0] 34 (0, 0)) ∧ RdC w' A c.blocks ∧ Below w.heap.size w w') := fun w' hb =>
    ⟨row4A ((hb.block _ (by omega)).trans hmA), (hb.block _ hlA).trans hrA, hr.keep (Keeps.of_below (grow_trans hbA hb)), grow_trans hbA hb⟩
  have HWA := Lib.hid hwA
  have HS := Lib.hid hs
  obtain ⟨⟨i0, i1, i2, i3⟩, hr0, -, -⟩ := HX.out wA (grow_refl _)
  have HDN : Hid (∀ (z : Nat) (at' : Int) (wr : World), lowC c = (z, at') → Below wA.heap.size wA wr → FltPost c w (.returned (.agg #[.int .i64 z, .int .i64 at'])) ((wr.setCell ⟨w.heap.size + 1, 0, none⟩ (.int .i64 z)).setCell ⟨w.heap.size + 1, 1, none⟩ (.int .i64 at'))) := fun z at' wr h hb => by
    unfold FltPost
    rw [h]
    exact ⟨rfl, below2A (HX.out wr hb).2.2.2 (by omega)⟩
  have HBR : Hid (∀ (z : Int) (w' : World), Calls Tryd.prog 16 #[.int .i64 z] w' (Ret (.agg #[.int .i64 z, .int .i64 (-1)]) w')) := fun z w' => bare3 z w'
  have FIN : Hid (∀ w1, Below wA.heap.size wA w1 → ((w1.cell? ⟨w.heap.size + 1, 0, none⟩ = some (.int .i64 0) ∧ w1.cell? ⟨w.heap.size + 1, 1, none⟩ = some (.int .i64 0)) ∧ (w1.frozen? ⟨w.heap.size + 1, 0, none⟩ = false ∧ w1.frozen? ⟨w.heap.size + 1, 1, none⟩ = false))) := fun w1 hb => ⟨row2A (HX.out w1 hb).2.1, row_frozen (HX.out w1 hb).2.1 0, row_frozen (HX.out w1 hb).2.1 1⟩
  obtain ⟨⟨s0, s1⟩, y0, y1⟩ := FIN.out wA (grow_refl _)
  have HP : Hid (lowC c = if 3000 < c.blocks.length then (8, -1) else if c.blocks.length = 0 then (3, -1) else if c.params < 0 ∨ 4 < c.params then (9, -1) else if c.slots < 0 ∨ 1000 < c.slots then (2, -1) else blksC c c.blocks 0) := show _ = _ from rfl
  unfold cdV
  clear hr hbA hmA hrA hwA hs hr0
  by_cases h1 : 3000 < c.blocks.length
  · have HF : Hid (lowC c = (8, -1)) := show _ = _ by rw [HP.out, if_pos h1]
    have q1 : (3000 : Int) < (c.blocks.length : Int) := by omega
    clear h1
    go_enter Tryd.func8, Tryd.ntmps8
    go_upto_region 1 with fail
    change Code.wp _ _ _ _ ((w.alloc (.cells #[.string (mkB c.name), .int .i64 c.params, .int .i64 c.slots, .slice A c.blocks.length ca] 24)).alloc (.cells #[.int .i64 0, .int .i64 0] 34))
    rw [HWA.out]
    go_wp2_with (go_at_call 16; (with_reducible refine (HBR.out _ _).mono ?_); rintro y w1 ⟨rfl, hb1⟩; obtain ⟨⟨s0, s1⟩, y0, y1⟩ := FIN.out w1 hb1)
    obtain ⟨z0, z1⟩ := row2A (set2A (v0 := .int .i64 8) (v1 := .int .i64 (-1)) (HX.out w1 hb1).2.1)
    refine bodyPost_ret (v := .agg #[.int .i64 8, .int .i64 (-1)]) (by simp [results, Tryd.results8, go_sem, z0, z1]; try rfl) rfl ?_
    exact HDN.out 8 (-1) w1 HF.out hb1
  · have q1 : ¬ (3000 : Int) < (c.blocks.length : Int) := by omega
    by_cases h2 : c.blocks.length = 0
    · have HF : Hid (lowC c = (3, -1)) := show _ = _ by rw [HP.out, if_neg h1, if_pos h2]
      have q2 : ((c.blocks.length : Int) == 0) = true := by rw [h2]; rfl
      have q2' : (c.blocks.length : Int) = 0 := by omega
      clear h1 h2
      go_enter Tryd.func8, Tryd.ntmps8
      go_upto_region 1 with fail
      change Code.wp _ _ _ _ ((w.alloc (.cells #[.string (mkB c.name), .int .i64 c.params, .int .i64 c.slots, .slice A c.blocks.length ca] 24)).alloc (.cells #[.int .i64 0, .int .i64 0] 34))
      rw [HWA.out]
      go_wp2_with (go_at_call 16; (with_reducible refine (HBR.out _ _).mono ?_); rintro y w1 ⟨rfl, hb1⟩; obtain ⟨⟨s0, s1⟩, y0, y1⟩ := FIN.out w1 hb1)
      obtain ⟨z0, z1⟩ := row2A (set2A (v0 := .int .i64 3) (v1 := .int .i64 (-1)) (HX.out w1 hb1).2.1)
      refine bodyPost_ret (v := .agg #[.int .i64 3, .int .i64 (-1)]) (by simp [results, Tryd.results8, go_sem, z0, z1]; try rfl) rfl ?_
      exact HDN.out 3 (-1) w1 HF.out hb1
    · have q2 : ((c.blocks.length : Int) == 0) = false := beq_eq_false_iff_ne.2 (by omega)
      have q2' : ¬ (c.blocks.length : Int) = 0 := by omega
      rcases Classical.em (c.params < 0) with q3 | q3
      · have HF : Hid (lowC c = (9, -1)) := show _ = _ by rw [HP.out, if_neg h1, if_neg h2, if_pos (Or.inl q3)]
        clear h1 h2
        go_enter Tryd.func8, Tryd.ntmps8
        go_upto_region 1 with fail
        change Code.wp _ _ _ _ ((w.alloc (.cells #[.string (mkB c.name), .int .i64 c.params, .int .i64 c.slots, .slice A c.blocks.length ca] 24)).alloc (.cells #[.int .i64 0, .int .i64 0] 34))
        rw [HWA.out]
        go_wp2_with (go_at_call 16; (with_reducible refine (HBR.out _ _).mono ?_); rintro y w1 ⟨rfl, hb1⟩; obtain ⟨⟨s0, s1⟩, y0, y1⟩ := FIN.out w1 hb1)
        obtain ⟨z0, z1⟩ := row2A (set2A (v0 := .int .i64 9) (v1 := .int .i64 (-1)) (HX.out w1 hb1).2.1)
        refine bodyPost_ret (v := .agg #[.int .i64 9, .int .i64 (-1)]) (by simp [results, Tryd.results8, go_sem, z0, z1]; try rfl) rfl ?_
        exact HDN.out 9 (-1) w1 HF.out hb1
      · rcases Classical.em (4 < c.params) with q4 | q4
        · have HF : Hid (lowC c = (9, -1)) := show _ = _ by rw [HP.out, if_neg h1, if_neg h2, if_pos (Or.inr q4)]
          clear h1 h2
          go_enter Tryd.func8, Tryd.ntmps8
          go_upto_region 1 with fail
          change Code.wp _ _ _ _ ((w.alloc (.cells #[.string (mkB c.name), .int .i64 c.params, .int .i64 c.slots, .slice A c.blocks.length ca] 24)).alloc (.cells #[.int .i64 0, .int .i64 0] 34))
          rw [HWA.out]
          go_wp2_with (go_at_call 16; (with_reducible refine (HBR.out _ _).mono ?_); rintro y w1 ⟨rfl, hb1⟩; obtain ⟨⟨s0, s1⟩, y0, y1⟩ := FIN.out w1 hb1)
          obtain ⟨z0, z1⟩ := row2A (set2A (v0 := .int .i64 9) (v1 := .int .i64 (-1)) (HX.out w1 hb1).2.1)
          refine bodyPost_ret (v := .agg #[.int .i64 9, .int .i64 (-1)]) (by simp [results, Tryd.results8, go_sem, z0, z1]; try rfl) rfl ?_
          exact HDN.out 9 (-1) w1 HF.out hb1
        · rcases Classical.em (c.slots < 0) with q5 | q5
          · have HF : Hid (lowC c = (2, -1)) := show _ = _ by rw [HP.out, if_neg h1, if_neg h2, if_neg (by omega), if_pos (Or.inl q5)]
            clear h1 h2
            go_enter Tryd.func8, Tryd.ntmps8
            go_upto_region 1 with fail
            change Code.wp _ _ _ _ ((w.alloc (.cells #[.string (mkB c.name), .int .i64 c.params, .int .i64 c.slots, .slice A c.blocks.length ca] 24)).alloc (.cells #[.int .i64 0, .int .i64 0] 34))
            rw [HWA.out]
            go_wp2_with (go_at_call 16; (with_reducible refine (HBR.out _ _).mono ?_); rintro y w1 ⟨rfl, hb1⟩; obtain ⟨⟨s0, s1⟩, y0, y1⟩ := FIN.out w1 hb1)
            obtain ⟨z0, z1⟩ := row2A (set2A (v0 := .int .i64 2) (v1 := .int .i64 (-1)) (HX.out w1 hb1).2.1)
            refine bodyPost_ret (v := .agg #[.int .i64 2, .int .i64 (-1)]) (by simp [results, Tryd.results8, go_sem, z0, z1]; try rfl) rfl ?_
            exact HDN.out 2 (-1) w1 HF.out hb1
          · rcases Classical.em (1000 < c.slots) with q6 | q6
            · have HF : Hid (lowC c = (2, -1)) := show _ = _ by rw [HP.out, if_neg h1, if_neg h2, if_neg (by omega), if_pos (Or.inr q6)]
              clear h1 h2
              go_enter Tryd.func8, Tryd.ntmps8
              go_upto_region 1 with fail
              change Code.wp _ _ _ _ ((w.alloc (.cells #[.string (mkB c.name), .int .i64 c.params, .int .i64 c.slots, .slice A c.blocks.length ca] 24)).alloc (.cells #[.int .i64 0, .int .i64 0] 34))
              rw [HWA.out]
              go_wp2_with (go_at_call 16; (with_reducible refine (HBR.out _ _).mono ?_); rintro y w1 ⟨rfl, hb1⟩; obtain ⟨⟨s0, s1⟩, y0, y1⟩ := FIN.out w1 hb1)
              obtain ⟨z0, z1⟩ := row2A (set2A (v0 := .int .i64 2) (v1 := .int .i64 (-1)) (HX.out w1 hb1).2.1)
              refine bodyPost_ret (v := .agg #[.int .i64 2, .int .i64 (-1)]) (by simp [results, Tryd.results8, go_sem, z0, z1]; try rfl) rfl ?_
              exact HDN.out 2 (-1) w1 HF.out hb1
            · have HP2 : Hid (lowC c = blksC c c.blocks 0) := show _ = _ by rw [HP.out, if_neg h1, if_neg h2, if_neg (by omega), if_neg (by omega)]
              clear h1 h2
              go_enter Tryd.func8, Tryd.ntmps8
              go_upto_region 1 with fail
              change Code.wp _ _ _ _ ((w.alloc (.cells #[.string (mkB c.name), .int .i64 c.params, .int .i64 c.slots, .slice A c.blocks.length ca] 24)).alloc (.cells #[.int .i64 0, .int .i64 0] 34))
              rw [HWA.out]
              go_wp2_with fail
              go_loopw [3, 4, 5, 6, 7, 8, 9, 10] (fun i _ _ _ _ _ _ _ wr => ∃ k : Nat, k ≤ c.blocks.length ∧ i = .int .i64 k ∧ blksC c c.blocks 0 = blksC c (c.blocks.drop k) k ∧ Below wA.heap.size wA wr) (fun i _ _ _ _ _ _ _ _ => c.blocks.length - (intOf i).toNat)
              case atStart => exact ⟨0, Nat.zero_le _, rfl, rfl, grow_refl _⟩
              case round =>
                obtain ⟨k, hk, rfl, hI, hbel⟩ := hrel
                have HI := Lib.hid hI
                clear hI
                obtain ⟨⟨i0, i1, i2, i3⟩, -, hrr, -⟩ := HX.out wr hbel
                by_cases hlt : k < c.blocks.length
                · have hlt' : (k : Int) < (c.blocks.length : Int) := by omega
                  have hk0 : (0 : Int) ≤ (k : Int) := by omega
                  obtain ⟨b, off, I, ic, N, nc, rfl, hB⟩ := hrr k hlt
                  have HSS := Lib.hid (blksC_drop hlt)
                  obtain ⟨x, hx⟩ : ∃ x, c.blocks[k] = x := ⟨_, rfl⟩
                  rw [hx] at HSS hB
                  have hsm := HS.out _ (List.getElem_mem hlt)
                  rw [hx] at hsm
                  have hl25 := hsm.ins
                  have hl4 := hsm.nx
                  obtain ⟨b0, b1, b2, b3, hI5, hN5⟩ := hB
                  obtain ⟨q, hq⟩ : ∃ q, wr.heap.size = q := ⟨_, rfl⟩
                  obtain ⟨wB, hwB⟩ : ∃ wB, wr.alloc (.cells #[.slice I x.ins.length ic, .string (mkB x.fin), .int .i64 x.a, .slice N x.nx.length nc] 59) = wB := ⟨_, rfl⟩
                  have hbB : Below wr.heap.size wr wB := by rw [← hwB]; exact grow_alloc (grow_refl _) _
                  have hmB : wB.heap[q]? = some (.cells #[.slice I x.ins.length ic, .string (mkB x.fin), .int .i64 x.a, .slice N x.nx.length nc] 59 (0, 0)) := by rw [← hwB, ← hq]; exact heap_alloc_new wr _
                  have HBX : Hid (∀ w', Below wB.heap.size wB w' → w'.heap[q]? = some (.cells #[.slice I x.ins.length ic, .string (mkB x.fin), .int .i64 x.a, .slice N x.nx.length nc] 59 (0, 0)) ∧ Row w' I (x.ins.flatMap lowL) ∧ Row w' N (intVs x.nx)) := fun w' hb =>
                    ⟨(hb.block _ (Array.getElem?_eq_some_iff.1 hmB).1).trans hmB, hI5.keep (Keeps.of_below (grow_trans hbB hb)), hN5.keep (Keeps.of_below (grow_trans hbB hb))⟩
                  have HBB := Lib.hid (grow_trans hbel hbB)
                  have HWB := Lib.hid hwB
                  have HQ2 := Lib.hid hq
                  obtain ⟨en, hen⟩ : ∃ en, endN x.fin = en := ⟨_, rfl⟩
                  obtain ⟨lb, hlb⟩ : ∃ lb, decide (en < 0) = lb := ⟨_, rfl⟩
                  have HEN := Lib.hid hen
                  have HLB := Lib.hid hlb
                  clear hwB hmB hbB hrr hx hq hI5 hN5
                  go_upto_region 13 with fail
                  try change Code.wp _ _ _ _ (wr.alloc (.cells #[.slice I x.ins.length ic, .string (mkB x.fin), .int .i64 x.a, .slice N x.nx.length nc] 59))
                  rw [HQ2.out]
                  rw [HWB.out]
                  clear b0 b1 b2 b3
                  obtain ⟨b0, b1, b2, b3⟩ := row4A (HBX.out wB (grow_refl _)).1
                  obtain ⟨⟨i0, i1, i2, i3⟩, -, -, -⟩ := HX.out wB HBB.out
                  have e1 : ((mkB x.fin).toList == [106, 117, 109, 112]) = (x.fin == eJump) := by rw [mkB_toList]; rfl
                  have e2 : ((mkB x.fin).toList == [105, 102]) = (x.fin == eIf) := by rw [mkB_toList]; rfl
                  have e3 : ((mkB x.fin).toList == [114, 101, 116, 117, 114, 110]) = (x.fin == eReturn) := by rw [mkB_toList]; rfl
                  go_upto_block 2 with fail
                  go_cut [5] from 53 to 58 (fun v wx => v = .int .i64 en ∧ wB = wx)
                  case first =>
                    have HE9 : Hid (endN x.fin = if (x.fin == eJump) = true then 1 else if (x.fin == eIf) = true then 2 else if (x.fin == eReturn) = true then 0 else -1) := show _ = _ from rfl
                    rw [HEN.out] at HE9
                    cases f1 : (x.fin == eJump)
                    · rw [f1] at e1 HE9
                      cases f2 : (x.fin == eIf)
                      · rw [f2] at e2 HE9
                        cases f3 : (x.fin == eReturn)
                        · rw [f3] at e3 HE9
                          go_wp2_with fail
                          go_meet
                          exact ⟨by rw [HE9.out]; rfl, rfl⟩
                        · rw [f3] at e3 HE9
                          go_wp2_with fail
                          go_meet
                          exact ⟨by rw [HE9.out]; rfl, rfl⟩
                      · rw [f2] at e2 HE9
                        go_wp2_with fail
                        go_meet
                        exact ⟨by rw [HE9.out]; rfl, rfl⟩
                    · rw [f1] at e1 HE9
                      go_wp2_with fail
                      go_meet
                      exact ⟨by rw [HE9.out]; rfl, rfl⟩
                  case rest =>
                    obtain ⟨rfl, rfl⟩ := hcut
                    go_wp2_with fail
                    obtain ⟨jp, hjp⟩ : ∃ z, (x.fin == eJump) = z := ⟨_, rfl⟩
                    obtain ⟨rg, hrg⟩ : ∃ z, regA x.a = z := ⟨_, rfl⟩
                    rw [hjp] at e1
                    have HJP := Lib.hid hjp
                    have HRE := Lib.hid hrg
                    clear hjp hrg
                    go_loopw [6, 7, 8, 9, 10] (fun t _ _ _ _ wt => ∃ j : Nat, j ≤ 3 ∧ t = .int .i64 (j : Nat) ∧ blkC c x = blkFrom c x j ∧ Below wB.heap.size wB wt) (fun t _ _ _ _ _ => 3 - (intOf t).toNat)
                    case atStart => exact ⟨0, by omega, rfl, rfl, grow_refl _⟩
                    case round =>
                      obtain ⟨j, hj, rfl, hBF, hbt⟩ := hrel
                      have HBF := Lib.hid hBF
                      clear hBF
                      obtain ⟨b0, b1, b2, b3⟩ := row4A (HBX.out _ hbt).1
                      obtain ⟨⟨i0, i1, i2, i3⟩, -, -, -⟩ := HX.out _ (grow_trans HBB.out hbt)
                      by_cases hj3 : j = 3
                      · subst hj3
                        have HF : Hid (blksC c c.blocks 0 = blksC c (c.blocks.drop (k + 1)) (k + 1)) := show _ = _ by rw [HI.out, HSS.out, HBF.out]; rfl
                        try rw [show ((3 : Nat) : Int) = 3 from rfl]
                        go_wp2_with fail
                        go_roundw
                        case rel => exact ⟨k + 1, by omega, by go_num, HF.out, grow_trans HBB.out hbt⟩
                        case measure => simp [intOf]; omega
                      · have hj' : j = 0 ∨ j = 1 ∨ j = 2 := by omega
                        rcases hj' with rfl | rfl | rfl
                        · skip
                          try rw [show ((0 : Nat) : Int) = 0 from rfl]
                          go_upto_region 25 with fail
                          go_cut [68] from 63 to 68 (fun v wx => v = .bool (decide (en < 0)) ∧ wr = wx)
                          case first =>
                            rcases Classical.em (en < 0) with f | f
                            · go_wp2_with fail
                              go_meet
                              exact ⟨by simp [f], rfl⟩
                            · go_wp2_with fail
                              go_meet
                              exact ⟨by simp [f], rfl⟩
                          case rest =>
                            obtain ⟨rfl, rfl⟩ := hcut
                            rw [HLB.out]
                            go_upto_if 68 with fail
                            go_cut [7] from 68 to 68 (fun v wx => v = .int .i64 (codeE lb 4) ∧ wr = wx)
                            case first =>
                              cases lb
                              · go_wp2_with fail
                                go_meet
                                exact ⟨rfl, rfl⟩
                              · go_wp2_with fail
                                go_meet
                                exact ⟨rfl, rfl⟩
                            case rest =>
                              obtain ⟨rfl, rfl⟩ := hcut
                              obtain ⟨ev0, hev0⟩ : ∃ e : Int, codeE lb 4 = e := ⟨_, rfl⟩
                              rw [hev0]
                              have HST : Hid ((ev0 = 0 ∧ blkKind x = !(x.ins.drop 0).all lowKnown) ∨ (ev0 = 4 ∧ blkKind x = true)) := show _ ∨ _ by
                                rw [← hev0]
                                unfold blkKind
                                rw [HEN.out, HLB.out]
                                cases lb
                                · exact .inl ⟨rfl, rfl⟩
                                · exact .inr ⟨rfl, rfl⟩
                              clear hev0
                              go_wp2_with fail
                              go_loopw [7, 10] (fun e j wx => ∃ (k2 : Nat) (ev : Int), k2 ≤ x.ins.length ∧ j = .int .i64 k2 ∧ e = .int .i64 ev ∧ ((ev = 0 ∧ blkKind x = !(x.ins.drop k2).all lowKnown) ∨ (ev = 4 ∧ blkKind x = true)) ∧ Below wB.heap.size wB wx) (fun _ j _ => x.ins.length - (intOf j).toNat)
                              case atStart => exact ⟨0, _, Nat.zero_le _, rfl, rfl, HST.out, hbt⟩
                              case round =>
                                obtain ⟨k2, ev, hk2, rfl, rfl, hor, hbx⟩ := hrel
                                obtain ⟨⟨i0, i1, i2, i3⟩, -, -, -⟩ := HX.out _ (grow_trans HBB.out hbx)
                                rcases hor with ⟨rfl, hT⟩ | ⟨rfl, hT⟩
                                · by_cases hlt2 : k2 < x.ins.length
                                  · have hlt2' : (k2 : Int) < (x.ins.length : Int) := by omega
                                    have hk20 : (0 : Int) ≤ (k2 : Int) := by omega
                                    obtain ⟨b0, b1, b2, b3⟩ := row4A (HBX.out _ hbx).1
                                    obtain ⟨b5, off5, rfl, hL5⟩ := low_cells (HBX.out _ hbx).2.1 hlt2
                                    obtain ⟨l0, l1, l2, l3, l4, l5⟩ := hL5
                                    have hAS := all_step (P := lowKnown) hlt2
                                    have HLE : Hid (∀ w', Calls Tryd.prog 18 #[cdV c (some ⟨b, off, none⟩) ca, lowV x.ins[k2], .int .i64 0] w' (Ret (.int .i64 (lowE c x.ins[k2] 0 : Nat)) w')) := fun w' => low0_any c _ ca x.ins[k2] w'
                                    unfold cdV lowV at HLE
                                    cases hp : lowKnown x.ins[k2]
                                    · have he : lowE c x.ins[k2] 0 = 4 := by unfold lowE; simp [hp]
                                      rw [he] at HLE
                                      have HT2 : Hid (blkKind x = true) := show _ = _ by rw [hT, hAS, hp]; rfl
                                      clear hp hT hAS he
                                      go_upto_region 41 with fail
                                      go_still_tail 7, (by kernel_rfl)
                                      go_wp2_with (go_at_call 18; (with_reducible refine (HLE.out _).mono ?_); rintro y w1 ⟨rfl, hb1⟩)
                                      go_roundw
                                      case rel => exact ⟨k2 + 1, 4, by omega, by go_num, rfl, .inr ⟨rfl, HT2.out⟩, grow_trans (grow_drew hbx 1) hb1⟩
                                      case measure => simp [intOf]; omega
                                    · have he : lowE c x.ins[k2] 0 = 0 := by unfold lowE; simp [hp]
                                      rw [he] at HLE
                                      have HT2 : Hid (blkKind x = !(x.ins.drop (k2 + 1)).all lowKnown) := show _ = _ by rw [hT, hAS, hp]; rfl
                                      clear hp hT hAS he
                                      go_upto_region 41 with fail
                                      go_still_tail 7, (by kernel_rfl)
                                      go_wp2_with (go_at_call 18; (with_reducible refine (HLE.out _).mono ?_); rintro y w1 ⟨rfl, hb1⟩)
                                      go_roundw
                                      case rel => exact ⟨k2 + 1, 0, by omega, by go_num, rfl, .inl ⟨rfl, HT2.out⟩, grow_trans (grow_drew hbx 1) hb1⟩
                                      case measure => simp [intOf]; omega
                                  · have hk2' : k2 = x.ins.length := by omega
                                    have HT : Hid (blkKind x = false) := show _ = _ by rw [hT, hk2', List.drop_length]; rfl
                                    obtain ⟨b0, b1, b2, b3⟩ := row4A (HBX.out _ hbx).1
                                    subst hk2'
                                    clear hT hlt2
                                    have HBN : Hid (blkC c x = blkFrom c x 1) := show _ = _ by
                                      rw [HBF.out]; unfold blkFrom; simp only [blkC, HT.out]; rfl
                                    go_wp2_with fail
                                    go_roundw
                                    case rel => exact ⟨1, by omega, rfl, HBN.out, hbx⟩
                                    case measure => simp [intOf]
                                · have HT : Hid (blkKind x = true) := show _ = _ from hT
                                  obtain ⟨b0, b1, b2, b3⟩ := row4A (HBX.out _ hbx).1
                                  clear hT
                                  by_cases hlt2 : k2 < x.ins.length
                                  · have hlt2' : (k2 : Int) < (x.ins.length : Int) := by omega
                                    clear hlt2
                                    have HF : Hid (lowC c = (4, (k : Int))) := show _ = _ by
                                      rw [HP2.out, HI.out, HSS.out, HBF.out, show blkFrom c x 0 = 4 by unfold blkFrom; simp only [blkC, if_pos, HT.out]; try rfl]; try rfl
                                    obtain ⟨⟨s0, s1⟩, y0, y1⟩ := FIN.out _ (grow_trans HBB.out hbx)
                                    go_wp2_with fail
                                    obtain ⟨z0, z1⟩ := row2A (set2A (v0 := .int .i64 4) (v1 := .int .i64 (k : Int)) (HX.out _ (grow_trans HBB.out hbx)).2.1)
                                    refine bodyPost_ret (v := .agg #[.int .i64 4, .int .i64 (k : Int)]) (by simp [results, Tryd.results8, go_sem, z0, z1]; try rfl) rfl ?_
                                    exact HDN.out 4 k _ HF.out (grow_trans HBB.out hbx)
                                  · have hlt2' : ¬ (k2 : Int) < (x.ins.length : Int) := by omega
                                    clear hlt2
                                    have HF : Hid (lowC c = (4, (k : Int))) := show _ = _ by
                                      rw [HP2.out, HI.out, HSS.out, HBF.out, show blkFrom c x 0 = 4 by unfold blkFrom; simp only [blkC, if_pos, HT.out]; try rfl]; try rfl
                                    obtain ⟨⟨s0, s1⟩, y0, y1⟩ := FIN.out _ (grow_trans HBB.out hbx)
                                    go_wp2_with fail
                                    obtain ⟨z0, z1⟩ := row2A (set2A (v0 := .int .i64 4) (v1 := .int .i64 (k : Int)) (HX.out _ (grow_trans HBB.out hbx)).2.1)
                                    refine bodyPost_ret (v := .agg #[.int .i64 4, .int .i64 (k : Int)]) (by simp [results, Tryd.results8, go_sem, z0, z1]; try rfl) rfl ?_
                                    exact HDN.out 4 k _ HF.out (grow_trans HBB.out hbx)
                        · skip
                          try rw [show ((1 : Nat) : Int) = 1 from rfl]
                          have HRG : Hid (∀ w', Calls Tryd.prog 17 #[.int .i64 x.a] w' fun e w'' => e = .returned (.bool rg) ∧ w'' = w') := fun w' => HRE.out ▸ isReg_any x.a w'
                          obtain ⟨hb0, hhb0⟩ : ∃ z, (!jp && !rg) = z := ⟨_, rfl⟩
                          have HHB := Lib.hid hhb0
                          go_upto_if 70 with fail
                          go_cut [7, 8, 9] from 71 to 104 (fun v _ _ wx => v = .int .i64 (codeE (hb0 || farTo c.blocks.length x.nx) 2) ∧ Below wB.heap.size wB wx)
                          case first =>
                            have ej2 : ((mkB x.fin).toList != [106, 117, 109, 112]) = !jp := by unfold bne; rw [e1]
                            cases jp
                            · cases rg
                              · skip
                                have HB0 : Hid (hb0 = true) := show _ = _ by rw [← hhb0]; rfl
                                go_wp2_with (go_at_call 17; (with_reducible refine (HRG.out _).mono ?_); rintro y w1 ⟨rfl, rfl⟩)
                                go_loopw [7, 9] (fun e j wy => ∃ (k2 : Nat), k2 ≤ x.nx.length ∧ j = .int .i64 k2 ∧ e = .int .i64 (codeE (hb0 || farTo c.blocks.length (x.nx.take k2)) 2) ∧ Below wB.heap.size wB wy) (fun _ j _ => x.nx.length - (intOf j).toNat)
                                case atStart => exact ⟨0, Nat.zero_le _, rfl, by rw [HB0.out]; rfl, hbt⟩
                                case round =>
                                  obtain ⟨k2, hk2, rfl, rfl, hbf⟩ := hrel
                                  obtain ⟨b0, b1, b2, b3⟩ := row4A (HBX.out _ hbf).1
                                  obtain ⟨⟨i0, i1, i2, i3⟩, -, -, -⟩ := HX.out _ (grow_trans HBB.out hbf)
                                  have HNX := Lib.hid (HBX.out _ hbf).2.2
                                  by_cases hlt2 : k2 < x.nx.length
                                  · have hlt2' : (k2 : Int) < (x.nx.length : Int) := by omega
                                    have hk20 : (0 : Int) ≤ (k2 : Int) := by omega
                                    obtain ⟨b6, off6, rfl, hc6⟩ := HNX.out k2 _ (intVs_get hlt2)
                                    have HFS := Lib.hid (farTo_step (n := c.blocks.length) hlt2)
                                    rcases Classical.em (x.nx[k2] < 0) with f1 | f1
                                    · have HV : Hid ((hb0 || farTo c.blocks.length (x.nx.take (k2 + 1))) = true) := show _ = _ by rw [HFS.out]; simp [farK, f1]
                                      go_upto_region 34 with fail
                                      go_quiet (fail)
                                      go_wp2_with fail
                                      go_roundw
                                      case rel => exact ⟨k2 + 1, by omega, by go_num, by rw [HV.out]; rfl, grow_drew hbf _⟩
                                      case measure => simp [intOf]; omega
                                    · rcases Classical.em ((c.blocks.length : Int) ≤ x.nx[k2]) with f2 | f2
                                      · have HV : Hid ((hb0 || farTo c.blocks.length (x.nx.take (k2 + 1))) = true) := show _ = _ by rw [HFS.out]; simp [farK, f2]
                                        go_upto_region 34 with fail
                                        go_quiet (fail)
                                        go_wp2_with fail
                                        go_roundw
                                        case rel => exact ⟨k2 + 1, by omega, by go_num, by rw [HV.out]; rfl, grow_drew hbf _⟩
                                        case measure => simp [intOf]; omega
                                      · have HV : Hid ((hb0 || farTo c.blocks.length (x.nx.take (k2 + 1))) = (hb0 || farTo c.blocks.length (x.nx.take k2))) := show _ = _ by rw [HFS.out]; simp [farK, f1, f2]
                                        go_upto_region 34 with fail
                                        go_quiet (fail)
                                        go_wp2_with fail
                                        go_roundw
                                        case rel => exact ⟨k2 + 1, by omega, by go_num, by rw [HV.out], grow_drew hbf _⟩
                                        case measure => simp [intOf]; omega
                                  · have hk2' : k2 = x.nx.length := by omega
                                    subst hk2'
                                    go_wp2_with fail
                                    go_meet
                                    exact ⟨by rw [List.take_length], hbf⟩
                              · skip
                                have HB0 : Hid (hb0 = false) := show _ = _ by rw [← hhb0]; rfl
                                go_wp2_with (go_at_call 17; (with_reducible refine (HRG.out _).mono ?_); rintro y w1 ⟨rfl, rfl⟩)
                                go_loopw [7, 9] (fun e j wy => ∃ (k2 : Nat), k2 ≤ x.nx.length ∧ j = .int .i64 k2 ∧ e = .int .i64 (codeE (hb0 || farTo c.blocks.length (x.nx.take k2)) 2) ∧ Below wB.heap.size wB wy) (fun _ j _ => x.nx.length - (intOf j).toNat)
                                case atStart => exact ⟨0, Nat.zero_le _, rfl, by rw [HB0.out]; rfl, hbt⟩
                                case round =>
                                  obtain ⟨k2, hk2, rfl, rfl, hbf⟩ := hrel
                                  obtain ⟨b0, b1, b2, b3⟩ := row4A (HBX.out _ hbf).1
                                  obtain ⟨⟨i0, i1, i2, i3⟩, -, -, -⟩ := HX.out _ (grow_trans HBB.out hbf)
                                  have HNX := Lib.hid (HBX.out _ hbf).2.2
                                  by_cases hlt2 : k2 < x.nx.length
                                  · have hlt2' : (k2 : Int) < (x.nx.length : Int) := by omega
                                    have hk20 : (0 : Int) ≤ (k2 : Int) := by omega
                                    obtain ⟨b6, off6, rfl, hc6⟩ := HNX.out k2 _ (intVs_get hlt2)
                                    have HFS := Lib.hid (farTo_step (n := c.blocks.length) hlt2)
                                    rcases Classical.em (x.nx[k2] < 0) with f1 | f1
                                    · have HV : Hid ((hb0 || farTo c.blocks.length (x.nx.take (k2 + 1))) = true) := show _ = _ by rw [HFS.out]; simp [farK, f1]
                                      go_upto_region 34 with fail
                                      go_quiet (fail)
                                      go_wp2_with fail
                                      go_roundw
                                      case rel => exact ⟨k2 + 1, by omega, by go_num, by rw [HV.out]; rfl, grow_drew hbf _⟩
                                      case measure => simp [intOf]; omega
                                    · rcases Classical.em ((c.blocks.length : Int) ≤ x.nx[k2]) with f2 | f2
                                      · have HV : Hid ((hb0 || farTo c.blocks.length (x.nx.take (k2 + 1))) = true) := show _ = _ by rw [HFS.out]; simp [farK, f2]
                                        go_upto_region 34 with fail
                                        go_quiet (fail)
                                        go_wp2_with fail
                                        go_roundw
                                        case rel => exact ⟨k2 + 1, by omega, by go_num, by rw [HV.out]; rfl, grow_drew hbf _⟩
                                        case measure => simp [intOf]; omega
                                      · have HV : Hid ((hb0 || farTo c.blocks.length (x.nx.take (k2 + 1))) = (hb0 || farTo c.blocks.length (x.nx.take k2))) := show _ = _ by rw [HFS.out]; simp [farK, f1, f2]
                                        go_upto_region 34 with fail
                                        go_quiet (fail)
                                        go_wp2_with fail
                                        go_roundw
                                        case rel => exact ⟨k2 + 1, by omega, by go_num, by rw [HV.out], grow_drew hbf _⟩
                                        case measure => simp [intOf]; omega
                                  · have hk2' : k2 = x.nx.length := by omega
                                    subst hk2'
                                    go_wp2_with fail
                                    go_meet
                                    exact ⟨by rw [List.take_length], hbf⟩
                            · skip
                              have HB0 : Hid (hb0 = false) := show _ = _ by rw [← hhb0]; rfl
                              go_wp2_with (go_at_call 17; (with_reducible refine (HRG.out _).mono ?_); rintro y w1 ⟨rfl, rfl⟩)
                              go_loopw [7, 9] (fun e j wy => ∃ (k2 : Nat), k2 ≤ x.nx.length ∧ j = .int .i64 k2 ∧ e = .int .i64 (codeE (hb0 || farTo c.blocks.length (x.nx.take k2)) 2) ∧ Below wB.heap.size wB wy) (fun _ j _ => x.nx.length - (intOf j).toNat)
                              case atStart => exact ⟨0, Nat.zero_le _, rfl, by rw [HB0.out]; rfl, hbt⟩
                              case round =>
                                obtain ⟨k2, hk2, rfl, rfl, hbf⟩ := hrel
                                obtain ⟨b0, b1, b2, b3⟩ := row4A (HBX.out _ hbf).1
                                obtain ⟨⟨i0, i1, i2, i3⟩, -, -, -⟩ := HX.out _ (grow_trans HBB.out hbf)
                                have HNX := Lib.hid (HBX.out _ hbf).2.2
                                by_cases hlt2 : k2 < x.nx.length
                                · have hlt2' : (k2 : Int) < (x.nx.length : Int) := by omega
                                  have hk20 : (0 : Int) ≤ (k2 : Int) := by omega
                                  obtain ⟨b6, off6, rfl, hc6⟩ := HNX.out k2 _ (intVs_get hlt2)
                                  have HFS := Lib.hid (farTo_step (n := c.blocks.length) hlt2)
                                  rcases Classical.em (x.nx[k2] < 0) with f1 | f1
                                  · have HV : Hid ((hb0 || farTo c.blocks.length (x.nx.take (k2 + 1))) = true) := show _ = _ by rw [HFS.out]; simp [farK, f1]
                                    go_upto_region 34 with fail
                                    go_quiet (fail)
                                    go_wp2_with fail
                                    go_roundw
                                    case rel => exact ⟨k2 + 1, by omega, by go_num, by rw [HV.out]; rfl, grow_drew hbf _⟩
                                    case measure => simp [intOf]; omega
                                  · rcases Classical.em ((c.blocks.length : Int) ≤ x.nx[k2]) with f2 | f2
                                    · have HV : Hid ((hb0 || farTo c.blocks.length (x.nx.take (k2 + 1))) = true) := show _ = _ by rw [HFS.out]; simp [farK, f2]
                                      go_upto_region 34 with fail
                                      go_quiet (fail)
                                      go_wp2_with fail
                                      go_roundw
                                      case rel => exact ⟨k2 + 1, by omega, by go_num, by rw [HV.out]; rfl, grow_drew hbf _⟩
                                      case measure => simp [intOf]; omega
                                    · have HV : Hid ((hb0 || farTo c.blocks.length (x.nx.take (k2 + 1))) = (hb0 || farTo c.blocks.length (x.nx.take k2))) := show _ = _ by rw [HFS.out]; simp [farK, f1, f2]
                                      go_upto_region 34 with fail
                                      go_quiet (fail)
                                      go_wp2_with fail
                                      go_roundw
                                      case rel => exact ⟨k2 + 1, by omega, by go_num, by rw [HV.out], grow_drew hbf _⟩
                                      case measure => simp [intOf]; omega
                                · have hk2' : k2 = x.nx.length := by omega
                                  subst hk2'
                                  go_wp2_with fail
                                  go_meet
                                  exact ⟨by rw [List.take_length], hbf⟩
                          case rest =>
                            obtain ⟨rfl, hbt⟩ := hcut
                            obtain ⟨b0, b1, b2, b3⟩ := row4A (HBX.out _ hbt).1
                            obtain ⟨⟨i0, i1, i2, i3⟩, -, -, -⟩ := HX.out _ (grow_trans HBB.out hbt)
                            obtain ⟨ev0, hev0⟩ : ∃ e : Int, (codeE (hb0 || farTo c.blocks.length x.nx) 2) = e := ⟨_, rfl⟩
                            rw [hev0]
                            have HST : Hid ((ev0 = 0 ∧ blkBound c x = !(x.ins.drop 0).all (lowWithin c)) ∨ (ev0 = 2 ∧ blkBound c x = true)) := show _ ∨ _ by
                              rw [← hev0]
                              have e : blkBound c x = (hb0 || farTo c.blocks.length x.nx || !x.ins.all (lowWithin c)) := by
                                unfold blkBound bne
                                rw [HJP.out, HRE.out, HHB.out]
                                cases hb0 <;> cases farTo c.blocks.length x.nx <;> rfl
                              rw [e]
                              cases (hb0 || farTo c.blocks.length x.nx)
                              · exact .inl ⟨rfl, rfl⟩
                              · exact .inr ⟨rfl, rfl⟩
                            clear hev0
                            go_wp2_with fail
                            go_loopw [7, 10] (fun e j wx => ∃ (k2 : Nat) (ev : Int), k2 ≤ x.ins.length ∧ j = .int .i64 k2 ∧ e = .int .i64 ev ∧ ((ev = 0 ∧ blkBound c x = !(x.ins.drop k2).all (lowWithin c)) ∨ (ev = 2 ∧ blkBound c x = true)) ∧ Below wB.heap.size wB wx) (fun _ j _ => x.ins.length - (intOf j).toNat)
                            case atStart => exact ⟨0, _, Nat.zero_le _, rfl, rfl, HST.out, hbt⟩
                            case round =>
                              obtain ⟨k2, ev, hk2, rfl, rfl, hor, hbx⟩ := hrel
                              obtain ⟨⟨i0, i1, i2, i3⟩, -, -, -⟩ := HX.out _ (grow_trans HBB.out hbx)
                              rcases hor with ⟨rfl, hT⟩ | ⟨rfl, hT⟩
                              · by_cases hlt2 : k2 < x.ins.length
                                · have hlt2' : (k2 : Int) < (x.ins.length : Int) := by omega
                                  have hk20 : (0 : Int) ≤ (k2 : Int) := by omega
                                  obtain ⟨b0, b1, b2, b3⟩ := row4A (HBX.out _ hbx).1
                                  obtain ⟨b5, off5, rfl, hL5⟩ := low_cells (HBX.out _ hbx).2.1 hlt2
                                  obtain ⟨l0, l1, l2, l3, l4, l5⟩ := hL5
                                  have hAS := all_step (P := (lowWithin c)) hlt2
                                  have HLE : Hid (∀ w', Calls Tryd.prog 18 #[cdV c (some ⟨b, off, none⟩) ca, lowV x.ins[k2], .int .i64 1] w' (Ret (.int .i64 (lowE c x.ins[k2] 1 : Nat)) w')) := fun w' => low1_any c _ ca x.ins[k2] w'
                                  unfold cdV lowV at HLE
                                  cases hp : (lowWithin c) x.ins[k2]
                                  · have he : lowE c x.ins[k2] 1 = 2 := by unfold lowE; simp [hp]
                                    rw [he] at HLE
                                    have HT2 : Hid (blkBound c x = true) := show _ = _ by rw [hT, hAS, hp]; rfl
                                    clear hp hT hAS he
                                    go_upto_region 41 with fail
                                    go_still_tail 7, (by kernel_rfl)
                                    go_wp2_with (go_at_call 18; (with_reducible refine (HLE.out _).mono ?_); rintro y w1 ⟨rfl, hb1⟩)
                                    go_roundw
                                    case rel => exact ⟨k2 + 1, 2, by omega, by go_num, rfl, .inr ⟨rfl, HT2.out⟩, grow_trans (grow_drew hbx 1) hb1⟩
                                    case measure => simp [intOf]; omega
                                  · have he : lowE c x.ins[k2] 1 = 0 := by unfold lowE; simp [hp]
                                    rw [he] at HLE
                                    have HT2 : Hid (blkBound c x = !(x.ins.drop (k2 + 1)).all (lowWithin c)) := show _ = _ by rw [hT, hAS, hp]; rfl
                                    clear hp hT hAS he
                                    go_upto_region 41 with fail
                                    go_still_tail 7, (by kernel_rfl)
                                    go_wp2_with (go_at_call 18; (with_reducible refine (HLE.out _).mono ?_); rintro y w1 ⟨rfl, hb1⟩)
                                    go_roundw
                                    case rel => exact ⟨k2 + 1, 0, by omega, by go_num, rfl, .inl ⟨rfl, HT2.out⟩, grow_trans (grow_drew hbx 1) hb1⟩
                                    case measure => simp [intOf]; omega
                                · have hk2' : k2 = x.ins.length := by omega
                                  have HT : Hid (blkBound c x = false) := show _ = _ by rw [hT, hk2', List.drop_length]; rfl
                                  obtain ⟨b0, b1, b2, b3⟩ := row4A (HBX.out _ hbx).1
                                  subst hk2'
                                  clear hT hlt2
                                  have HBN : Hid (blkC c x = blkFrom c x 2) := show _ = _ by
                                    rw [HBF.out]; unfold blkFrom; simp only [HT.out]; rfl
                                  go_wp2_with fail
                                  go_roundw
                                  case rel => exact ⟨2, by omega, rfl, HBN.out, hbx⟩
                                  case measure => simp [intOf]
                              · have HT : Hid (blkBound c x = true) := show _ = _ from hT
                                obtain ⟨b0, b1, b2, b3⟩ := row4A (HBX.out _ hbx).1
                                clear hT
                                by_cases hlt2 : k2 < x.ins.length
                                · have hlt2' : (k2 : Int) < (x.ins.length : Int) := by omega
                                  clear hlt2
                                  have HF : Hid (lowC c = (2, (k : Int))) := show _ = _ by
                                    rw [HP2.out, HI.out, HSS.out, HBF.out, show blkFrom c x 1 = 2 by unfold blkFrom; simp only [if_pos, HT.out]; try rfl]; try rfl
                                  obtain ⟨⟨s0, s1⟩, y0, y1⟩ := FIN.out _ (grow_trans HBB.out hbx)
                                  go_wp2_with fail
                                  obtain ⟨z0, z1⟩ := row2A (set2A (v0 := .int .i64 2) (v1 := .int .i64 (k : Int)) (HX.out _ (grow_trans HBB.out hbx)).2.1)
                                  refine bodyPost_ret (v := .agg #[.int .i64 2, .int .i64 (k : Int)]) (by simp [results, Tryd.results8, go_sem, z0, z1]; try rfl) rfl ?_
                                  exact HDN.out 2 k _ HF.out (grow_trans HBB.out hbx)
                                · have hlt2' : ¬ (k2 : Int) < (x.ins.length : Int) := by omega
                                  clear hlt2
                                  have HF : Hid (lowC c = (2, (k : Int))) := show _ = _ by
                                    rw [HP2.out, HI.out, HSS.out, HBF.out, show blkFrom c x 1 = 2 by unfold blkFrom; simp only [if_pos, HT.out]; try rfl]; try rfl
                                  obtain ⟨⟨s0, s1⟩, y0, y1⟩ := FIN.out _ (grow_trans HBB.out hbx)
                                  go_wp2_with fail
                                  obtain ⟨z0, z1⟩ := row2A (set2A (v0 := .int .i64 2) (v1 := .int .i64 (k : Int)) (HX.out _ (grow_trans HBB.out hbx)).2.1)
                                  refine bodyPost_ret (v := .agg #[.int .i64 2, .int .i64 (k : Int)]) (by simp [results, Tryd.results8, go_sem, z0, z1]; try rfl) rfl ?_
                                  exact HDN.out 2 k _ HF.out (grow_trans HBB.out hbx)
                        · skip
                          try rw [show ((2 : Nat) : Int) = 2 from rfl]
                          go_upto_region 36 with fail
                          obtain ⟨ln, hln⟩ : ∃ z, ((x.nx.length : Int) != en) = z := ⟨_, rfl⟩
                          obtain ⟨az, haz⟩ : ∃ z, (x.a != 0) = z := ⟨_, rfl⟩
                          have HLN := Lib.hid hln
                          have HAZ := Lib.hid haz
                          go_cut [123] from 105 to 123 (fun v wx => v = .bool (ln || (jp && az)) ∧ wr = wx)
                          case first =>
                            cases ln
                            · cases jp
                              · go_wp2_with fail
                                go_meet
                                exact ⟨rfl, rfl⟩
                              · cases az
                                · go_wp2_with fail
                                  go_meet
                                  exact ⟨rfl, rfl⟩
                                · go_wp2_with fail
                                  go_meet
                                  exact ⟨rfl, rfl⟩
                            · go_wp2_with fail
                              go_meet
                              exact ⟨rfl, rfl⟩
                          case rest =>
                            obtain ⟨rfl, rfl⟩ := hcut
                            obtain ⟨sh, hsh⟩ : ∃ z, (ln || (jp && az)) = z := ⟨_, rfl⟩
                            rw [hsh]
                            have HSH : Hid (blkShape x = (sh || !x.ins.all lowBare)) := show _ = _ by
                              unfold blkShape
                              rw [HEN.out, HLN.out, HJP.out, HAZ.out, hsh]
                            clear hsh hln haz
                            go_upto_if 123 with fail
                            go_cut [7] from 123 to 123 (fun v wx => v = .int .i64 (codeE sh 3) ∧ wr = wx)
                            case first =>
                              cases sh
                              · go_wp2_with fail
                                go_meet
                                exact ⟨rfl, rfl⟩
                              · go_wp2_with fail
                                go_meet
                                exact ⟨rfl, rfl⟩
                            case rest =>
                              obtain ⟨rfl, rfl⟩ := hcut
                              obtain ⟨ev0, hev0⟩ : ∃ e : Int, codeE sh 3 = e := ⟨_, rfl⟩
                              rw [hev0]
                              have HST : Hid ((ev0 = 0 ∧ blkShape x = !(x.ins.drop 0).all lowBare) ∨ (ev0 = 3 ∧ blkShape x = true)) := show _ ∨ _ by
                                rw [← hev0, HSH.out]
                                cases sh
                                · exact .inl ⟨rfl, rfl⟩
                                · exact .inr ⟨rfl, rfl⟩
                              clear hev0
                              go_wp2_with fail
                              go_loopw [7, 10] (fun e j wx => ∃ (k2 : Nat) (ev : Int), k2 ≤ x.ins.length ∧ j = .int .i64 k2 ∧ e = .int .i64 ev ∧ ((ev = 0 ∧ blkShape x = !(x.ins.drop k2).all lowBare) ∨ (ev = 3 ∧ blkShape x = true)) ∧ Below wB.heap.size wB wx) (fun _ j _ => x.ins.length - (intOf j).toNat)
                              case atStart => exact ⟨0, _, Nat.zero_le _, rfl, rfl, HST.out, hbt⟩
                              case round =>
                                obtain ⟨k2, ev, hk2, rfl, rfl, hor, hbx⟩ := hrel
                                obtain ⟨⟨i0, i1, i2, i3⟩, -, -, -⟩ := HX.out _ (grow_trans HBB.out hbx)
                                rcases hor with ⟨rfl, hT⟩ | ⟨rfl, hT⟩
                                · by_cases hlt2 : k2 < x.ins.length
                                  · have hlt2' : (k2 : Int) < (x.ins.length : Int) := by omega
                                    have hk20 : (0 : Int) ≤ (k2 : Int) := by omega
                                    obtain ⟨b0, b1, b2, b3⟩ := row4A (HBX.out _ hbx).1
                                    obtain ⟨b5, off5, rfl, hL5⟩ := low_cells (HBX.out _ hbx).2.1 hlt2
                                    obtain ⟨l0, l1, l2, l3, l4, l5⟩ := hL5
                                    have hAS := all_step (P := lowBare) hlt2
                                    have HLE : Hid (∀ w', Calls Tryd.prog 18 #[cdV c (some ⟨b, off, none⟩) ca, lowV x.ins[k2], .int .i64 2] w' (Ret (.int .i64 (lowE c x.ins[k2] 2 : Nat)) w')) := fun w' => low2_any c _ ca x.ins[k2] w'
                                    unfold cdV lowV at HLE
                                    cases hp : lowBare x.ins[k2]
                                    · have he : lowE c x.ins[k2] 2 = 3 := by unfold lowE; simp [hp]
                                      rw [he] at HLE
                                      have HT2 : Hid (blkShape x = true) := show _ = _ by rw [hT, hAS, hp]; rfl
                                      clear hp hT hAS he
                                      go_upto_region 41 with fail
                                      go_still_tail 7, (by kernel_rfl)
                                      go_wp2_with (go_at_call 18; (with_reducible refine (HLE.out _).mono ?_); rintro y w1 ⟨rfl, hb1⟩)
                                      go_roundw
                                      case rel => exact ⟨k2 + 1, 3, by omega, by go_num, rfl, .inr ⟨rfl, HT2.out⟩, grow_trans (grow_drew hbx 1) hb1⟩
                                      case measure => simp [intOf]; omega
                                    · have he : lowE c x.ins[k2] 2 = 0 := by unfold lowE; simp [hp]
                                      rw [he] at HLE
                                      have HT2 : Hid (blkShape x = !(x.ins.drop (k2 + 1)).all lowBare) := show _ = _ by rw [hT, hAS, hp]; rfl
                                      clear hp hT hAS he
                                      go_upto_region 41 with fail
                                      go_still_tail 7, (by kernel_rfl)
                                      go_wp2_with (go_at_call 18; (with_reducible refine (HLE.out _).mono ?_); rintro y w1 ⟨rfl, hb1⟩)
                                      go_roundw
                                      case rel => exact ⟨k2 + 1, 0, by omega, by go_num, rfl, .inl ⟨rfl, HT2.out⟩, grow_trans (grow_drew hbx 1) hb1⟩
                                      case measure => simp [intOf]; omega
                                  · have hk2' : k2 = x.ins.length := by omega
                                    have HT : Hid (blkShape x = false) := show _ = _ by rw [hT, hk2', List.drop_length]; rfl
                                    obtain ⟨b0, b1, b2, b3⟩ := row4A (HBX.out _ hbx).1
                                    subst hk2'
                                    clear hT hlt2
                                    have HBN : Hid (blkC c x = blkFrom c x 3) := show _ = _ by
                                      rw [HBF.out]; unfold blkFrom; simp only [HT.out]; rfl
                                    go_wp2_with fail
                                    go_roundw
                                    case rel => exact ⟨3, by omega, rfl, HBN.out, hbx⟩
                                    case measure => simp [intOf]
                                · have HT : Hid (blkShape x = true) := show _ = _ from hT
                                  obtain ⟨b0, b1, b2, b3⟩ := row4A (HBX.out _ hbx).1
                                  clear hT
                                  by_cases hlt2 : k2 < x.ins.length
                                  · have hlt2' : (k2 : Int) < (x.ins.length : Int) := by omega
                                    clear hlt2
                                    have HF : Hid (lowC c = (3, (k : Int))) := show _ = _ by
                                      rw [HP2.out, HI.out, HSS.out, HBF.out, show blkFrom c x 2 = 3 by unfold blkFrom; simp only [if_pos, HT.out]; try rfl]; try rfl
                                    obtain ⟨⟨s0, s1⟩, y0, y1⟩ := FIN.out _ (grow_trans HBB.out hbx)
                                    go_wp2_with fail
                                    obtain ⟨z0, z1⟩ := row2A (set2A (v0 := .int .i64 3) (v1 := .int .i64 (k : Int)) (HX.out _ (grow_trans HBB.out hbx)).2.1)
                                    refine bodyPost_ret (v := .agg #[.int .i64 3, .int .i64 (k : Int)]) (by simp [results, Tryd.results8, go_sem, z0, z1]; try rfl) rfl ?_
                                    exact HDN.out 3 k _ HF.out (grow_trans HBB.out hbx)
                                  · have hlt2' : ¬ (k2 : Int) < (x.ins.length : Int) := by omega
                                    clear hlt2
                                    have HF : Hid (lowC c = (3, (k : Int))) := show _ = _ by
                                      rw [HP2.out, HI.out, HSS.out, HBF.out, show blkFrom c x 2 = 3 by unfold blkFrom; simp only [if_pos, HT.out]; try rfl]; try rfl
                                    obtain ⟨⟨s0, s1⟩, y0, y1⟩ := FIN.out _ (grow_trans HBB.out hbx)
                                    go_wp2_with fail
                                    obtain ⟨z0, z1⟩ := row2A (set2A (v0 := .int .i64 3) (v1 := .int .i64 (k : Int)) (HX.out _ (grow_trans HBB.out hbx)).2.1)
                                    refine bodyPost_ret (v := .agg #[.int .i64 3, .int .i64 (k : Int)]) (by simp [results, Tryd.results8, go_sem, z0, z1]; try rfl) rfl ?_
                                    exact HDN.out 3 k _ HF.out (grow_trans HBB.out hbx)
                · have hk' : k = c.blocks.length := by omega
                  have HF : Hid (lowC c = (0, -1)) := show _ = _ by rw [HP2.out, HI.out, hk', List.drop_length]; rfl
                  have HFI : Hid (Calls Tryd.prog 19 #[] wr (Ret (.agg #[.int .i64 0, .int .i64 (-1)]) wr)) := fine3 wr
                  subst hk'
                  go_wp2_with (go_at_call 19; (with_reducible refine HFI.out.mono ?_); rintro y w1 ⟨rfl, hb1⟩; obtain ⟨⟨s0, s1⟩, y0, y1⟩ := FIN.out w1 (grow_trans hbel hb1))
                  obtain ⟨z0, z1⟩ := row2A (set2A (v0 := .int .i64 0) (v1 := .int .i64 (-1)) (HX.out w1 (grow_trans hbel hb1)).2.1)
                  refine bodyPost_ret (v := .agg #[.int .i64 0, .int .i64 (-1)]) (by simp [results, Tryd.results8, go_sem, z0, z1]; try rfl) rfl ?_
                  exact HDN.out 0 (-1) w1 HF.out (grow_trans hbel hb1)
end Go.Proofs.YtpmpeihcdiohmaaDoor
