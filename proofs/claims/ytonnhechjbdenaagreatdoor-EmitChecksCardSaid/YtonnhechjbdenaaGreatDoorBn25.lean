import Derived.Deep.CutRange
import Derived.Deep.Onto
import Derived.Deep.RegionHeld3
import Derived.Deep.DeepCutAuto
import Derived.StillTailTactics
import Derived.Deep.RegionLaw
import Derived.BigRegion
import Derived.BigQuiet
import Derived.Deep.QuietTactic
import Derived.Test.YtonnhechjbdenaaGreatDoorBn24
import Derived.Test.YtonnhechjbdenaaGreatDoorBn18
import Derived.Test.YtonnhechjbdenaaGreatDoorBn21
import Derived.Test.YtonnhechjbdenaaGreatDoorBn22
import Derived.Test.YtonnhechjbdenaaGreatDoorBn2
import Derived.Test.YtonnhechjbdenaaGreatDoorBn7
import Derived.Test.YtonnhechjbdenaaGreatDoorBn8
set_option linter.unusedVariables false
set_option linter.unusedSimpArgs false
namespace Go.Proofs.YtonnhechjbdenaaGreatDoor
open Go.RowKit

/-! emit.Emit -/
def EmitPost (E : Nat → Addr) (l : List PCd) (w : World) : Ending → World → Prop := fun e w' => ∃ vF vC v, e = .returned (.tuple #[.agg #[vF, vC], v]) ∧ ErrIs E w' v ((emitC l).1 : Nat) (emitC l).2 ∧ (v = .nilIface ↔ (emitC l).1 = 0) ∧
  w'.ownsRow w.heap.size 52 4 vF (emitJ l).funs.length ((emitJ l).funs.flatMap fnL) ∧ w'.ownsRow w.heap.size 68 1 vC (emitJ l).words.length (u64Vs (emitJ l).words) ∧ Below w.heap.size w w'
theorem emit_bad {E : Nat → Addr} {l : List PCd} {w w' : World} {z : Nat} {a : Int} {v : Value} {e : Ending} (h : emitC l = (z, a)) (he : e = .returned (.tuple #[.agg #[.slice none 0 0, .slice none 0 0], v])) (h1 : ErrIs E w' v z a) (hv : v ≠ .nilIface) (hz : z ≠ 0) (hb : Below w.heap.size w w') : EmitPost E l w e w' := by
  have e2 : emitJ l = ⟨[], []⟩ := by unfold emitJ; rw [h, if_neg hz]
  refine ⟨_, _, v, he, by rw [h]; exact h1, by rw [h]; exact ⟨fun x => absurd x hv, fun x => absurd x hz⟩, ?_, ?_, hb⟩
  · rw [e2]; exact World.ownsRow_nil _ _ _ _
  · rw [e2]; exact World.ownsRow_nil _ _ _ _
theorem aloneC_le (l : List PCd) (k : Nat) : aloneC l k ≤ 10 := by
  unfold aloneC
  split
  · omega
  · rename_i c _
    have := lowC_le c
    repeat' split
    all_goals omega
theorem callC_le (l : List PCd) (x : PLow) : callC l x ≤ 10 := by
  unfold callC
  repeat' split
  all_goals omega
theorem firstC_le {α : Type} {f : α → Nat} (hf : ∀ x, f x ≤ 10) : ∀ q : List α, firstC f q ≤ 10 := by
  intro q
  induction q with
  | nil => show 0 ≤ 10; omega
  | cons x q ih =>
    unfold firstC
    split
    · exact hf x
    · exact ih
theorem callsC_le (l : List PCd) (c : PCd) : callsC l c ≤ 10 := firstC_le (fun b => firstC_le (callC_le l) _) _
theorem callsCk_at {l : List PCd} {k : Nat} (h : k < l.length) : callsCk l k = callsC l l[k] := by unfold callsCk; rw [List.getElem?_eq_getElem h]
theorem set2e {w : World} {q : Nat} {a0 a1 v0 v1 : Value} {T : TypeId} {fz : Nat × Nat} (h : w.heap[q]? = some (.cells #[a0, a1] T fz)) : ((w.setCell ⟨q, 0, none⟩ v0).setCell ⟨q, 1, none⟩ v1).heap[q]? = some (.cells #[v0, v1] T fz) :=
  row_set (j := 1) v1 (row_set (j := 0) v0 h rfl) rfl
theorem set2b {w : World} {q base : Nat} {v0 v1 : Value} (h : base ≤ q) : Below base w ((w.setCell ⟨q, 0, none⟩ v0).setCell ⟨q, 1, none⟩ v1) := ((Below.refl base w).setCell (p := ⟨q, 0, none⟩) h v0).setCell (p := ⟨q, 1, none⟩) h v1
theorem fault_at {E : Nat → Addr} {w : World} {z fb : Nat} {k : Int} (hz : z ≠ 0) (h10 : z ≤ 10) (h : w.heap[fb]? = some (.cells #[.int .i64 k, esV (E (z - 1))] 83 (0, 0))) : ErrIs E w (ftV ⟨fb, 0, none⟩) z k :=
  .inr (.inr ⟨z - 1, fb, 0, by omega, rfl, cell_of_row _ _ 0 _ _ _ h, cell_of_row _ _ 1 _ _ _ h, by omega⟩)
theorem set2o {w : World} {q b : Nat} {v0 v1 : Value} (h : b ≠ q) : ((w.setCell ⟨q, 0, none⟩ v0).setCell ⟨q, 1, none⟩ v1).heap[b]? = w.heap[b]? := (Below.heap_setCell _ _ _ _ h).trans (Below.heap_setCell _ _ _ _ h)
theorem fault_a (E : Nat → Addr) {w : World} {q : Nat} {a0 a1 v0 v1 : Value} {T : TypeId} (h : w.heap[q]? = some (.cells #[a0, a1] T (0, 0))) (k : Int) (z : Nat) :
    ((((w.alloc (.cells #[.int .i64 k, esV (E (z - 1))] 83)).setCell ⟨q, 0, none⟩ v0).setCell ⟨q, 1, none⟩ v1)).heap[q]? = some (.cells #[v0, v1] T (0, 0)) ∧
    ((((w.alloc (.cells #[.int .i64 k, esV (E (z - 1))] 83)).setCell ⟨q, 0, none⟩ v0).setCell ⟨q, 1, none⟩ v1)).heap[w.heap.size]? = some (.cells #[.int .i64 k, esV (E (z - 1))] 83 (0, 0)) ∧
    (∀ base, base ≤ q → Below base w (((w.alloc (.cells #[.int .i64 k, esV (E (z - 1))] 83)).setCell ⟨q, 0, none⟩ v0).setCell ⟨q, 1, none⟩ v1)) := by
  have hlq := (Array.getElem?_eq_some_iff.1 h).1
  exact ⟨set2e ((old_block _ _ hlq).trans h), (set2o (by omega)).trans (heap_alloc_new w _), fun base hb => (Below.trans ((Below.refl base w).alloc (by omega) _) (set2b hb))⟩
theorem fault_b (E : Nat → Addr) {w : World} {q : Nat} {a0 a1 v0 v1 : Value} {T : TypeId} (h : w.heap[q]? = some (.cells #[a0, a1] T (0, 0))) (k : Int) (z : Nat) :
    ((((w.setCell ⟨q, 0, none⟩ v0).setCell ⟨q, 1, none⟩ v1).alloc (.cells #[.int .i64 k, esV (E (z - 1))] 83))).heap[q]? = some (.cells #[v0, v1] T (0, 0)) ∧
    ((((w.setCell ⟨q, 0, none⟩ v0).setCell ⟨q, 1, none⟩ v1).alloc (.cells #[.int .i64 k, esV (E (z - 1))] 83))).heap[w.heap.size]? = some (.cells #[.int .i64 k, esV (E (z - 1))] 83 (0, 0)) ∧
    (∀ base, base ≤ q → Below base w (((w.setCell ⟨q, 0, none⟩ v0).setCell ⟨q, 1, none⟩ v1).alloc (.cells #[.int .i64 k, esV (E (z - 1))] 83))) := by
  have hlq := (Array.getElem?_eq_some_iff.1 h).1
  have hs : ((w.setCell ⟨q, 0, none⟩ v0).setCell ⟨q, 1, none⟩ v1).heap.size = w.heap.size := by simp
  refine ⟨(old_block _ _ (by rw [hs]; exact hlq)).trans (set2e h), ?_, fun base hb => ((set2b hb).alloc (by rw [hs]; omega) _)⟩
  have := heap_alloc_new ((w.setCell ⟨q, 0, none⟩ v0).setCell ⟨q, 1, none⟩ v1) (.cells #[.int .i64 k, esV (E (z - 1))] 83)
  rw [hs] at this
  exact this
theorem EmAt.ins_cells {base eb : Nat} {vL : Value} {os : List PIns} {A : Option Addr} {cap : Nat} {w : World} (h : EmAt base eb vL os (.slice A os.length cap) w) {k : Nat} (hk : k < os.length) : ∃ g, A = some ⟨g, 0, none⟩ ∧ w.cell? ⟨g, k * 5, none⟩ = some (.string (mkB os[k].op)) ∧ w.cell? ⟨g, k * 5 + 1, none⟩ = some (.int .i64 os[k].d) ∧ w.cell? ⟨g, k * 5 + 2, none⟩ = some (.int .i64 os[k].a) ∧ w.cell? ⟨g, k * 5 + 3, none⟩ = some (.int .i64 os[k].b) ∧ w.cell? ⟨g, k * 5 + 4, none⟩ = some (.int .i64 os[k].imm) := by
  rcases h.out.2 with ⟨q, h0⟩ | ⟨g, cap', cur, q1, q2, q3, q4, q5, q6, q7⟩
  · omega
  · injection q1 with q1 _ _
    have hc : ∀ j u, (os.flatMap insL5)[j]? = some u → w.cell? ⟨g, j, none⟩ = some u := fun j u hj => by
      rw [← q7, List.getElem?_take] at hj
      split at hj
      · rw [cell_of_row _ _ j _ _ _ q3, ← Array.getElem?_toList]; exact hj
      · cases hj
    exact ⟨g, q1, hc _ _ (flat5_get os k hk 0 (by omega)), hc _ _ (flat5_get os k hk 1 (by omega)), hc _ _ (flat5_get os k hk 2 (by omega)), hc _ _ (flat5_get os k hk 3 (by omega)), hc _ _ (flat5_get os k hk 4 (by omega))⟩
def ldFu : Op := Op.load 34 (Operand.tmp 67)
@[go_sem] theorem ldFu_eq : ldFu = Op.load 34 (Operand.tmp 67) := rfl
set_option maxHeartbeats 16000000 in
set_option maxRecDepth 100000 in
theorem Emit_any (E : Nat → Addr) (l : List PCd) (hl : l.length ≤ 1000) (hn : ∀ c ∈ l, c.blocks.length ≤ 100000 ∧ ∀ b ∈ c.blocks, BlkSm b) (h6 : ∀ c ∈ l, ∀ b ∈ c.blocks, ∀ x ∈ b.ins, I64 x.num) (hbig : (insE l).length ≤ 80000) (A : Option Addr) (cl : Nat) (hcl : l.length ≤ cl) (w : World) (hE : Laid E w) (hCL : CodeLaid (E 1) (E 2) (E 3) w) (hr : RdL w A l) :
    Calls Tryz.prog 8 #[.slice A l.length cl] w (EmitPost E l w) := by
  obtain ⟨q, hq⟩ : ∃ q, w.heap.size = q := ⟨_, rfl⟩
  obtain ⟨bx, hbx⟩ : ∃ bx, w.alloc (.cells #[.slice none 0 0, .slice none 0 0] 37) = bx := ⟨_, rfl⟩
  have hb : Below w.heap.size w bx := by rw [← hbx]; exact grow_alloc (grow_refl _) _
  have hm : bx.heap[q]? = some (.cells #[.slice none 0 0, .slice none 0 0] 37 (0, 0)) := by rw [← hbx, ← hq]; exact heap_alloc_new w _
  have hql := (Array.getElem?_eq_some_iff.1 hm).1
  have HX : Hid (∀ w', Below bx.heap.size bx w' → w'.heap[q]? = some (.cells #[.slice none 0 0, .slice none 0 0] 37 (0, 0)) ∧ Laid E w' ∧ CodeLaid (E 1) (E 2) (E 3) w' ∧ RdL w' A l ∧ Below w.heap.size w w') := fun w' hb' => by
    have hbw := grow_trans hb hb'
    exact ⟨(hb'.block _ hql).trans hm, hE.keep hbw, hCL.below hbw, hr.keep (Keeps.of_below hbw), hbw⟩
  have HBX := Lib.hid hbx
  have HQ := Lib.hid hq
  have HQL : Hid (w.heap.size ≤ q) := show _ ≤ _ from Nat.le_of_eq hq
  have HSM := Lib.hid hn
  have HI6 := Lib.hid h6
  have HBIG := Lib.hid hbig
  obtain ⟨Q, hQ⟩ : ∃ Q, EmitPost E l w = Q := ⟨_, rfl⟩
  have HPQ := Lib.hid hQ
  rw [hQ]
  obtain ⟨q0, q1⟩ := row2m hm
  have z0 := row_frozen hm 0
  have z1 := row_frozen hm 1
  have g7 := (hE.keep hb).c7
  have hqg : q ≠ 0 := fun e => by
    have h1 := World.block_lt_of_cell? w _ hE.c7
    simp only at h1
    omega
  clear hb hbx hq hn h6 hbig hQ hE hCL hr hql
  by_cases h8 : 8 < l.length
  · have HP : Hid (emitC l = (8, -1)) := show _ = _ by unfold emitC; rw [if_pos h8]
    have h8' : (8 : Int) < (l.length : Int) := by omega
    clear h8
    go_enter Tryz.func8, Tryz.ntmps8
    go_upto_region 1 with fail
    change Code.wp _ _ _ _ (w.alloc (.cells #[.slice none 0 0, .slice none 0 0] 37))
    rw [HBX.out, HQ.out]
    go_upto_region 2 with fail
    go_region_held3 (fun w' => w'.cell? ⟨0, 0, none⟩ = some (esV (E 7)))
      (first
        | exact g7
        | exact cell_othE (cell_othE (by assumption) hqg.symm) hqg.symm
        | trace_state)
      (first | fail)
    all_goals go_wp2_with fail
    all_goals
      have hm2 := set2e (v0 := .slice none 0 0) (v1 := .slice none 0 0) hm
      obtain ⟨y0, y1⟩ := row2m hm2
      refine bodyPost_ret (v := .tuple #[.agg #[.slice none 0 0, .slice none 0 0], esV (E 7)]) (by simp [results, Tryz.results8, go_sem, y0, y1]; try rfl) rfl ?_
      rw [← HPQ.out]
      exact emit_bad HP.out rfl (.es (i := 7) (by omega)) (by unfold esV; simp) (by decide) (drewE (Below.trans (HX.out bx (grow_refl _)).2.2.2.2 (set2b HQL.out)))
  · have HP : Hid (emitC l = if (firstBad (aloneC l) l.length (l.length - 0) 0).1 ≠ 0 then firstBad (aloneC l) l.length (l.length - 0) 0 else if (firstBad (callsCk l) l.length (l.length - 0) 0).1 ≠ 0 then firstBad (callsCk l) l.length (l.length - 0) 0 else if 8000 < (insE l).length then (8, -1) else (0, -1)) := show _ = _ by unfold emitC; rw [if_neg h8]; rfl
    have h8' : ¬ (8 : Int) < (l.length : Int) := by omega
    have H8 : Hid (l.length ≤ 8) := show _ ≤ _ by omega
    clear h8
    go_enter Tryz.func8, Tryz.ntmps8
    go_upto_region 1 with fail
    change Code.wp _ _ _ _ (w.alloc (.cells #[.slice none 0 0, .slice none 0 0] 37))
    rw [HBX.out, HQ.out]
    go_wp2_with fail
    go_loopw [4, 5, 24] (fun _ _ i wr => ∃ k : Nat, k ≤ l.length ∧ i = .int .i64 k ∧ firstBad (aloneC l) l.length (l.length - 0) 0 = firstBad (aloneC l) l.length (l.length - k) k ∧ Below bx.heap.size bx wr) (fun _ _ i _ => l.length - (intOf i).toNat)
    case atStart => exact ⟨0, Nat.zero_le _, rfl, rfl, grow_refl _⟩
    case round =>
      obtain ⟨k, hk, rfl, hI, hbel⟩ := hrel
      have HI := Lib.hid hI
      clear hI
      by_cases hlt : k < l.length
      · obtain ⟨hm1, hLr, -, hRr, hbw⟩ := HX.out wr hbel
        obtain ⟨q0, q1⟩ := row2m hm1
        have z0 := row_frozen hm1 0
        have z1 := row_frozen hm1 1
        have hlt' : (k : Int) < (l.length : Int) := by omega
        have HN := Lib.hid (alone_any E l hl HSM.out A cl hcl k hlt wr hLr hRr)
        have HS := Lib.hid (firstBad_step (c := aloneC l) hlt)
        have hle := aloneC_le l k
        obtain ⟨z, hz⟩ : ∃ z, aloneC l k = z := ⟨_, rfl⟩
        rw [hz] at HN hle HS
        have HBW := Lib.hid hbw
        clear hLr hRr hz hbw
        by_cases hz0 : z = 0
        · subst hz0
          have HF : Hid (firstBad (aloneC l) l.length (l.length - 0) 0 = firstBad (aloneC l) l.length (l.length - (k + 1)) (k + 1)) := show _ = _ by rw [HI.out, HS.out]; rfl
          rw [oneE_zero] at HN
          go_wp2_with (go_at_call 23; (with_reducible refine HN.out.mono ?_); rintro y w1 ⟨rfl, hb1⟩)
          go_roundw
          case rel => exact ⟨k + 1, by omega, by go_num, HF.out, grow_trans hbel hb1⟩
          case measure => simp [intOf]; omega
        · have HF : Hid (emitC l = (z, (k : Int))) := show _ = _ by
            have e : firstBad (aloneC l) l.length (l.length - 0) 0 = (z, (k : Int)) := by rw [HI.out, HS.out, if_pos hz0]
            rw [HP.out, e, if_pos hz0]
          rw [oneE_pos E hz0] at HN
          have HZ0 := Lib.hid hz0
          have HLE := Lib.hid hle
          unfold esV at HN
          clear hz0 hle
          go_upto_region 8 with (go_at_call 23; (with_reducible refine HN.out.mono ?_); rintro y w1 ⟨rfl, hb1⟩; have hm0 := (HX.out w1 (grow_trans hbel hb1)).1; obtain ⟨p0, p1⟩ := row2m hm0; have x0 := row_frozen hm0 0; have x1 := row_frozen hm0 1; have hm1 := (HX.out (w1.alloc (.cells #[.int .i64 k, .iface 220 (.pointer (some (E (z - 1))))] 83)) (grow_alloc (grow_trans hbel hb1) _)).1; have HLQ := Lib.hid (Array.getElem?_eq_some_iff.1 hm0).1; obtain ⟨q0, q1⟩ := row2m hm1; have z0 := row_frozen hm1 0; have z1 := row_frozen hm1 1)
          go_wp2_with fail
          all_goals first
            | (obtain ⟨hA, hB, hC⟩ := fault_a E (v0 := .slice none 0 0) (v1 := .slice none 0 0) hm0 k z
               obtain ⟨y0, y1⟩ := row2m hA
               refine bodyPost_ret (v := .tuple #[.agg #[.slice none 0 0, .slice none 0 0], ftV ⟨w1.heap.size, 0, none⟩]) (by simp [results, Tryz.results8, go_sem, y0, y1]; try rfl) rfl ?_
               rw [← HPQ.out]
               exact emit_bad HF.out rfl (fault_at HZ0.out HLE.out hB) (by unfold ftV; simp) HZ0.out (Below.trans (grow_trans HBW.out hb1) (hC _ HQL.out)))
            | (obtain ⟨hA, hB, hC⟩ := fault_b E (v0 := .slice none 0 0) (v1 := .slice none 0 0) hm0 k z
               obtain ⟨y0, y1⟩ := row2m hA
               refine bodyPost_ret (v := .tuple #[.agg #[.slice none 0 0, .slice none 0 0], ftV ⟨w1.heap.size, 0, none⟩]) (by simp [results, Tryz.results8, go_sem, y0, y1]; try rfl) rfl ?_
               rw [← HPQ.out]
               exact emit_bad HF.out rfl (fault_at HZ0.out HLE.out hB) (by unfold ftV; simp) HZ0.out (Below.trans (grow_trans HBW.out hb1) (hC _ HQL.out)))
      · have hk' : k = l.length := by omega
        subst hk'
        have HA0 : Hid (firstBad (aloneC l) l.length (l.length - 0) 0 = (0, -1)) := show _ = _ by rw [HI.out, firstBad_end]
        have HP2 : Hid (emitC l = if (firstBad (callsCk l) l.length (l.length - 0) 0).1 ≠ 0 then firstBad (callsCk l) l.length (l.length - 0) 0 else if 8000 < (insE l).length then (8, -1) else (0, -1)) := show _ = _ by rw [HP.out, HA0.out]; rfl
        have HBR := Lib.hid hbel
        clear hbel hk hlt HP HI
        go_wp2_with fail
        go_loopw [6, 7, 8, 41] (fun _ _ _ i wr => ∃ k : Nat, k ≤ l.length ∧ i = .int .i64 k ∧ firstBad (callsCk l) l.length (l.length - 0) 0 = firstBad (callsCk l) l.length (l.length - k) k ∧ Below bx.heap.size bx wr) (fun _ _ _ i _ => l.length - (intOf i).toNat)
        case atStart => exact ⟨0, Nat.zero_le _, rfl, rfl, HBR.out⟩
        case round =>
          clear HBR
          obtain ⟨k, hk, rfl, hI, hbel⟩ := hrel
          have HI := Lib.hid hI
          clear hI
          by_cases hlt : k < l.length
          · obtain ⟨hm1, hLr, -, hRr, hbw⟩ := HX.out wr hbel
            obtain ⟨b, off, Ai, ci, rfl, hc⟩ := hRr k hlt
            obtain ⟨x, hx⟩ : ∃ x, l[k] = x := ⟨_, rfl⟩
            rw [hx] at hc
            have hxm : x ∈ l := hx ▸ List.getElem_mem hlt
            have hck := callsCk_at hlt
            rw [hx] at hck
            obtain ⟨c0, c1, c2, c3, hbk⟩ := hc
            obtain ⟨bq, hbq⟩ : ∃ bq, wr.heap.size = bq := ⟨_, rfl⟩
            obtain ⟨wB, hwB⟩ : ∃ wB, wr.alloc (.cells #[.string (mkB x.name), .int .i64 x.params, .int .i64 x.slots, .slice Ai x.blocks.length ci] 32) = wB := ⟨_, rfl⟩
            have hbB : Below wr.heap.size wr wB := by rw [← hwB]; exact grow_alloc (grow_refl _) _
            have hmB : wB.heap[bq]? = some (.cells #[.string (mkB x.name), .int .i64 x.params, .int .i64 x.slots, .slice Ai x.blocks.length ci] 32 (0, 0)) := by rw [← hwB, ← hbq]; exact heap_alloc_new wr _
            have hbel2 := grow_trans hbel hbB
            have hlt' : (k : Int) < (l.length : Int) := by omega
            have HN := Lib.hid (calls_any E l hl (some ⟨b, off, none⟩) cl x Ai ci (HSM.out x hxm).1 (fun b hb => ((HSM.out x hxm).2 b hb).ins) wB (hLr.keep hbB) (hRr.keep (Keeps.of_below hbB)) (hbk.keep (Keeps.of_below hbB)))
            have HS := Lib.hid (firstBad_step (c := callsCk l) hlt)
            have hle := callsC_le l x
            obtain ⟨z, hz⟩ : ∃ z, callsC l x = z := ⟨_, rfl⟩
            rw [hz] at HN hle hck
            rw [hck] at HS
            have HBW := Lib.hid hbw
            have HWB := Lib.hid (And.intro hwB hbq)
            have HMB := Lib.hid hmB
            have HBB := Lib.hid hbB
            clear hLr hRr hz hbw hck hx hwB hbq hmB hbB hbk hxm
            by_cases hz0 : z = 0
            · subst hz0
              have HF : Hid (firstBad (callsCk l) l.length (l.length - 0) 0 = firstBad (callsCk l) l.length (l.length - (k + 1)) (k + 1)) := show _ = _ by rw [HI.out, HS.out]; rfl
              rw [oneE_zero] at HN
              go_upto_region 13 with fail
              rw [HWB.out.1, HWB.out.2]
              clear c0 c1 c2 c3
              obtain ⟨c0, c1, c2, c3⟩ := row4A HMB.out
              go_wp2_with (go_at_call 24; (with_reducible refine HN.out.mono ?_); rintro y w1 ⟨rfl, hb1⟩)
              go_roundw
              case rel => exact ⟨k + 1, by omega, by go_num, HF.out, grow_trans hbel2 hb1⟩
              case measure => simp [intOf]; omega
            · have HF : Hid (emitC l = (z, (k : Int))) := show _ = _ by
                have e : firstBad (callsCk l) l.length (l.length - 0) 0 = (z, (k : Int)) := by rw [HI.out, HS.out, if_pos hz0]
                rw [HP2.out, e, if_pos hz0]
              rw [oneE_pos E hz0] at HN
              have HZ0 := Lib.hid hz0
              have HLE := Lib.hid hle
              unfold esV at HN
              clear hz0 hle
              go_upto_region 13 with fail
              rw [HWB.out.1, HWB.out.2]
              clear c0 c1 c2 c3
              obtain ⟨c0, c1, c2, c3⟩ := row4A HMB.out
              go_upto_region 15 with (go_at_call 24; (with_reducible refine HN.out.mono ?_); rintro y w1 ⟨rfl, hb1⟩; have hm0 := (HX.out w1 (grow_trans hbel2 hb1)).1; obtain ⟨p0, p1⟩ := row2m hm0; have x0 := row_frozen hm0 0; have x1 := row_frozen hm0 1; have hm1 := (HX.out (w1.alloc (.cells #[.int .i64 k, .iface 220 (.pointer (some (E (z - 1))))] 83)) (grow_alloc (grow_trans hbel2 hb1) _)).1; have HLQ := Lib.hid (Array.getElem?_eq_some_iff.1 hm0).1; obtain ⟨q0, q1⟩ := row2m hm1; have z0 := row_frozen hm1 0; have z1 := row_frozen hm1 1)
              go_wp2_with fail
              all_goals first
                | (obtain ⟨hA, hB, hC⟩ := fault_a E (v0 := .slice none 0 0) (v1 := .slice none 0 0) hm0 k z
                   obtain ⟨y0, y1⟩ := row2m hA
                   refine bodyPost_ret (v := .tuple #[.agg #[.slice none 0 0, .slice none 0 0], ftV ⟨w1.heap.size, 0, none⟩]) (by simp [results, Tryz.results8, go_sem, y0, y1]; try rfl) rfl ?_
                   rw [← HPQ.out]
                   exact emit_bad HF.out rfl (fault_at HZ0.out HLE.out hB) (by unfold ftV; simp) HZ0.out (Below.trans (grow_trans HBW.out (grow_trans HBB.out hb1)) (hC _ HQL.out)))
                | (obtain ⟨hA, hB, hC⟩ := fault_b E (v0 := .slice none 0 0) (v1 := .slice none 0 0) hm0 k z
                   obtain ⟨y0, y1⟩ := row2m hA
                   refine bodyPost_ret (v := .tuple #[.agg #[.slice none 0 0, .slice none 0 0], ftV ⟨w1.heap.size, 0, none⟩]) (by simp [results, Tryz.results8, go_sem, y0, y1]; try rfl) rfl ?_
                   rw [← HPQ.out]
                   exact emit_bad HF.out rfl (fault_at HZ0.out HLE.out hB) (by unfold ftV; simp) HZ0.out (Below.trans (grow_trans HBW.out (grow_trans HBB.out hb1)) (hC _ HQL.out)))
          · have hk' : k = l.length := by omega
            subst hk'
            have HC0 : Hid (firstBad (callsCk l) l.length (l.length - 0) 0 = (0, -1)) := show _ = _ by rw [HI.out, firstBad_end]
            have HP3 : Hid (emitC l = if 8000 < (insE l).length then (8, -1) else (0, -1)) := show _ = _ by rw [HP2.out, HC0.out]; rfl
            have HOK : Hid (AllOk l) := show AllOk l from emit_ok HI6.out H8.out (by have := HA0.out; rw [Nat.sub_zero] at this; rw [this]) (by have := HC0.out; rw [Nat.sub_zero] at this; rw [this])
            clear HP2 HA0 HC0 HI hk hlt
            obtain ⟨w0, rfl⟩ : ∃ w0, w0 = wr := ⟨_, rfl⟩
            obtain ⟨base, hbase⟩ : ∃ base, w0.heap.size = base := ⟨_, rfl⟩
            obtain ⟨w8, hw8⟩ : ∃ w8, w0.alloc (.cells #[.slice A l.length cl, .slice none 0 0] 88) = w8 := ⟨_, rfl⟩
            obtain ⟨w9, hw9⟩ : ∃ w9, w8.alloc (.cells #[.slice none 0 0, .slice none 0 0] 37) = w9 := ⟨_, rfl⟩
            have hb8 : Below base w0 w8 := by rw [← hw8]; exact (Below.refl base w0).alloc (by omega) _
            have h8b : w8.heap[base]? = some (.cells #[.slice A l.length cl, .slice none 0 0] 88 (0, 0)) := by rw [← hw8, ← hbase]; exact heap_alloc_new w0 _
            have hs8 : w8.heap.size = base + 1 := by rw [← hw8, ← hbase]; simp
            have hb9 : Below w8.heap.size w8 w9 := by rw [← hw9]; exact grow_alloc (grow_refl _) _
            have h9b : w9.heap[base + 1]? = some (.cells #[.slice none 0 0, .slice none 0 0] 37 (0, 0)) := by rw [← hw9, ← hs8]; exact heap_alloc_new w8 _
            have hIG : IgAt w0 base base (base + 1) (.slice A l.length cl) (cdsE l 0 (l.take 0)).2 (.slice none 0 0) (.slice none 0 0) (.slice none 0 0) (cdsE l 0 (l.take 0)).1 [] w9 := ⟨⟨Nat.le_refl _, (hb9.block _ (by omega)).trans h8b, World.ownsRow_nil _ _ _ _⟩, h9b, Nat.le_succ _, World.ownsRow_nil _ _ _ _, World.ownsRow_nil _ _ _ _, hb8.trans (hb9.mono (by omega))⟩
            have HIG := Lib.hid hIG
            have HW8 := Lib.hid hw8
            have HW9 := Lib.hid hw9
            have HBS := Lib.hid hbase
            have HS8 := Lib.hid hs8
            have HBW := Lib.hid hbel
            clear hIG hw8 hw9 hbase hb8 h8b hs8 hb9 h9b hbel
            go_upto_region 19 with fail
            rw [HW8.out, HW9.out, HBS.out]
            go_wp2_with fail
            obtain ⟨i0, hi, hz0, hz1, hz2⟩ := info_parts fun4Info
            go_loopw [12, 63] (fun _ i wx => ∃ (k : Nat) (vO vF : Value), k ≤ l.length ∧ i = .int .i64 k ∧ IgAt w0 base base (base + 1) (.slice A l.length cl) (cdsE l 0 (l.take k)).2 vO vF (.slice none 0 0) (cdsE l 0 (l.take k)).1 [] wx) (fun _ i _ => l.length - (intOf i).toNat)
            case atStart => exact ⟨0, _, _, Nat.zero_le _, rfl, HIG.out⟩
            case round =>
              obtain ⟨k, vO, vF, hk, rfl, hig⟩ := hrel
              by_cases hlt : k < l.length
              · have hR0 := (HX.out w0 HBW.out).2.2.2.1
                have hR9 := hR0
                obtain ⟨b, off, Ai, ci, rfl, hc0⟩ := hR0 k hlt
                have HST := Lib.hid (cds_take hlt)
                have hcm := cds_le (l := l) (k := k + 1) (by omega)
                obtain ⟨x, hx⟩ : ∃ x, l[k] = x := ⟨_, rfl⟩
                rw [hx] at hc0 HST
                have hxm : x ∈ l := hx ▸ List.getElem_mem hlt
                have hbw0 : Below w0.heap.size w0 wr := by rw [HBS.out]; exact hig.bel
                obtain ⟨c0, c1, c2, c3, -⟩ := hc0.keep (Keeps.of_below hbw0)
                have hfl := cds_len l (l.take k) 0
                obtain ⟨osk, hosk⟩ : ∃ z, (cdsE l 0 (l.take k)).2 = z := ⟨_, rfl⟩
                obtain ⟨fsk, hfsk⟩ : ∃ z, (cdsE l 0 (l.take k)).1 = z := ⟨_, rfl⟩
                rw [hosk, hfsk] at hig HST
                rw [hfsk, List.length_take] at hfl
                have hfl2 : fsk.length ≤ 1000 := by omega
                have HBG : Hid (osk.length + (blksE l x.blocks).length ≤ 80000) := show _ ≤ _ by
                  have h1 := HBIG.out
                  rw [HST.out] at hcm
                  simp only [List.length_append] at hcm
                  rw [cd_len] at hcm
                  omega
                obtain ⟨bq, hbq⟩ : ∃ bq, wr.heap.size = bq := ⟨_, rfl⟩
                obtain ⟨wB, hwB⟩ : ∃ wB, wr.alloc (.cells #[.string (mkB x.name), .int .i64 x.params, .int .i64 x.slots, .slice Ai x.blocks.length ci] 32) = wB := ⟨_, rfl⟩
                have hbB : Below wr.heap.size wr wB := by rw [← hwB]; exact grow_alloc (grow_refl _) _
                have hmB : wB.heap[bq]? = some (.cells #[.string (mkB x.name), .int .i64 x.params, .int .i64 x.slots, .slice Ai x.blocks.length ci] 32 (0, 0)) := by rw [← hwB, ← hbq]; exact heap_alloc_new wr _
                have hiB := hig.below hbB
                have hlt' : (k : Int) < (l.length : Int) := by omega
                have HCD : Hid (∀ (vF' : Value) (fs' : List PFn) (w' : World), IgAt w0 base base (base + 1) (.slice (some ⟨b, off, none⟩) l.length cl) osk vO vF' (.slice none 0 0) fs' [] w' → Calls Tryz.prog 25 #[.pointer (some ⟨base, 0, none⟩), .agg #[.string (mkB x.name), .int .i64 x.params, .int .i64 x.slots, .slice Ai x.blocks.length ci]] w' (EmPost base base (.slice (some ⟨b, off, none⟩) l.length cl) (osk ++ cdE l osk.length x) vO w')) := fun vF' fs' w' h' =>
                  code_any HBS.out h'.em hl x Ai ci (HOK.out.good x hxm) (fun b hb => ((HSM.out x hxm).2 b hb).ins) (HI6.out x hxm) HBG.out (fun i hi hg => by
                    unfold blksE at hi
                    obtain ⟨b, hb, hj⟩ := List.mem_flatMap.1 hi
                    rcases blk_fine HOK.out hxm hb i hj with ⟨h1, -⟩ | ⟨-, k, hk, h2⟩
                    · rw [h1] at hg; cases hg
                    · rcases h2 with h2 | ⟨a, -, h2⟩
                      · exact ⟨k, hk, by rw [h2]⟩
                      · exact ⟨k, hk, by rw [h2]⟩) h'.bel hR9 hc0.blocks
                obtain ⟨AO, cO, rfl⟩ := own_slice hiB.em.out
                obtain ⟨AF, cF, rfl⟩ := own_slice hiB.fu
                have o1 := hiB.cells.1
                have z1 := row_frozen hiB.blk 0
                have e3 := hiB.em.cells.2
                obtain ⟨e0, e1, e2, -⟩ := row4A hmB
                have q1 : (wB.alloc (.cells #[.string (mkB x.name), .int .i64 x.params, .int .i64 x.slots, .int .i64 osk.length] 52)).cell? ⟨base + 1, 0, none⟩ = some (.slice AF fsk.length cF) := Keeps.alloc _ _ _ _ o1
                have hqb : bq ≠ base + 1 := by have := (Array.getElem?_eq_some_iff.1 hig.blk).1; omega
                have hqF : (Value.slice AF fsk.length cF).ownBlock ≠ some bq := fun e => by have := (own_lt hig.fu e).2; omega
                have hsB : base ≤ wB.heap.size := hiB.em.base_le
                have HWB := Lib.hid (And.intro hwB hbq)
                have HMB := Lib.hid hmB
                have HH := Lib.hid hiB
                have HLT := Lib.hid hlt
                clear hx hxm hbw0 hfl hosk hfsk hwB hbq hmB hbB hiB hig hR9 hlt hk hc0 hcm
                go_upto_region 22 with fail
                rw [HWB.out.1, HWB.out.2]
                rw [show Op.load 34 (Operand.tmp 67) = ldFu from rfl]
                clear c0 c1 c2 c3
                go_region_held3 (fun w' => w'.cell? ⟨bq, 0, none⟩ = some (.string (mkB x.name)) ∧ w'.cell? ⟨bq, 1, none⟩ = some (.int .i64 x.params) ∧ w'.cell? ⟨bq, 2, none⟩ = some (.int .i64 x.slots) ∧ w'.cell? ⟨base, 1, none⟩ = some (.slice AO osk.length cO))
                  (first
                    | exact ⟨e0, e1, e2, e3⟩
                    | exact HJ.out
                    | (go_split_ands
                       refine ⟨?_, ?_, ?_, ?_⟩
                       all_goals (first | assumption | exact Keeps.alloc _ _ _ _ (by assumption) | exact cell_othE (by assumption) hqb | exact cell_othE (by assumption) (by omega))))
                  (first
                    | (refine step_append_lies _ rfl _ _ 34 rfl base 52 i0 _ 4 40 Tryz.underlying34 hi hz0 hz1 hz2 rfl (by decide) _ fsk.length (fsk.flatMap fnL) rfl (by first | exact (World.ownsRow.alloc HH.out.fu _).drewN 1 | exact (HH.out.fu.drewN 1).alloc _ | exact World.ownsRow.alloc HH.out.fu _) ⟨wB.heap.size, 0, none⟩ 1 1 (fnL ⟨x.name, x.params, x.slots, osk.length⟩) rfl rfl (by first | exact World.news_of_block (heap_alloc_new wB _) | exact World.news_of_block (heap_alloc_new wB.drew _) | exact World.news_of_block (w := (wB.alloc (.cells #[.string (mkB x.name), .int .i64 x.params, .int .i64 x.slots, .int .i64 osk.length] 52)).drew) (heap_alloc_new wB _)) (fun u hu => by unfold fnL at hu; simp only [List.mem_cons, List.not_mem_nil, or_false] at hu; rcases hu with rfl | rfl | rfl | rfl <;> rfl) (by decide) (by unfold maxLen; omega) (by omega) (by first | (show base ≤ (wB.alloc _).heap.size; simp; omega) | (simp; omega)) _ rfl ?_; intro g cap w9 hown hgrow hat hlt9; have hgr : (wB.alloc (.cells #[.string (mkB x.name), .int .i64 x.params, .int .i64 x.slots, .int .i64 osk.length] 52)).grownBy w9 (Value.slice AF fsk.length cF).ownBlock := ⟨hgrow.os, hgrow.tape, hgrow.output, hgrow.size, hgrow.block⟩; obtain ⟨j1, j2, j3⟩ := HH.out.putF (f := ⟨x.name, x.params, x.slots, osk.length⟩) hown hgr; have o1 : w9.cell? ⟨base + 1, 0, none⟩ = some (.slice AF fsk.length cF) := (World.cell?_of_block j1).trans HH.out.cells.1; have z1 := row_frozen (j1.trans HH.out.blk) 0; have HJ := Lib.hid (And.intro (grown_cellE hgr e0 hqF) (And.intro (grown_cellE hgr e1 hqF) (And.intro (grown_cellE hgr e2 hqF) ((World.cell?_of_block j2).trans HH.out.em.cells.2)))); have H9 := Lib.hid j3; have HM9 := Lib.hid ((Below.heap_setCell w9 ⟨base + 1, 0, none⟩ (.slice (some ⟨g, 0, none⟩) (fsk.length + 1) cap) bq hqb).trans (grown_keepE hgr HMB.out hqF)); clear j1 j2 j3 hown hgrow hgr hat))
                all_goals obtain ⟨c0, c1, c2, c3⟩ := row4A HM9.out
                all_goals go_wp2_with (go_at_call 25; (with_reducible refine (HCD.out _ _ _ H9.out).mono ?_); rintro z w5 ⟨rfl, vO5, h5, m5⟩; have H5 := Lib.hid (H9.out.emit h5 m5); clear h5 m5)
                all_goals go_roundw
                all_goals first
                  | exact ⟨k + 1, vO5, _, by have := HLT.out; omega, by go_num, by rw [HST.out]; exact H5.out⟩
                  | (have := HLT.out; simp [intOf]; omega)
              · have hk' : k = l.length := by omega
                subst hk'
                rw [List.take_length] at hig
                have hbxr : Below bx.heap.size bx wr := grow_trans HBW.out (by rw [HBS.out]; exact hig.bel)
                obtain ⟨hm1, hLr, hCr, -, hbw⟩ := HX.out wr hbxr
                obtain ⟨AO, cO, rfl⟩ := own_slice hig.em.out
                obtain ⟨AF, cF, rfl⟩ := own_slice hig.fu
                have e3 := hig.em.cells.2
                have hel : insE l = (cdsE l 0 l).2 := rfl
                by_cases h80 : 8000 < (insE l).length
                · have h80' : (8000 : Int) < ((cdsE l 0 l).2.length : Int) := by rw [← hel]; omega
                  have HF : Hid (emitC l = (8, -1)) := show _ = _ by rw [HP3.out, if_pos h80]
                  have g7 := hLr.c7
                  obtain ⟨q0, q1⟩ := row2m hm1
                  have z0 := row_frozen hm1 0
                  have z1 := row_frozen hm1 1
                  have HBWR := Lib.hid hbw
                  have HM1 := Lib.hid hm1
                  clear h80 hel hLr hCr hm1 hbw hbxr hig hlt hk
                  go_upto_region 26 with fail
                  go_region_held3 (fun w' => w'.cell? ⟨0, 0, none⟩ = some (esV (E 7)))
                    (first
                      | exact g7
                      | exact cell_othE (cell_othE (by assumption) hqg.symm) hqg.symm)
                    (first | fail)
                  all_goals go_wp2_with fail
                  all_goals
                    have hm2 := set2e (v0 := .slice none 0 0) (v1 := .slice none 0 0) HM1.out
                    obtain ⟨y0, y1⟩ := row2m hm2
                    refine bodyPost_ret (v := .tuple #[.agg #[.slice none 0 0, .slice none 0 0], esV (E 7)]) (by simp [results, Tryz.results8, go_sem, y0, y1]; try rfl) rfl ?_
                    rw [← HPQ.out]
                    exact emit_bad HF.out rfl (.es (i := 7) (by omega)) (by unfold esV; simp) (by decide) (drewE (Below.trans HBWR.out (set2b HQL.out)))
                · have h80' : ¬ (8000 : Int) < ((cdsE l 0 l).2.length : Int) := by rw [← hel]; omega
                  have HF : Hid (emitC l = (0, -1)) := show _ = _ by rw [HP3.out, if_neg h80]
                  have HFI : Hid (∀ i ∈ (cdsE l 0 l).2, errI i = 0) := show ∀ i ∈ _, _ from (emit_fine HI6.out (by rw [HF.out])).2.1
                  have HEJ : Hid (emitJ l = ⟨(cdsE l 0 l).1, (cdsE l 0 l).2.map wordP⟩) := show _ = _ by unfold emitJ; rw [HF.out]; rfl
                  have HXB : Hid (∀ w', Below base w0 w' → w'.heap[q]? = some (.cells #[.slice none 0 0, .slice none 0 0] 37 (0, 0)) ∧ CodeLaid (E 1) (E 2) (E 3) w' ∧ Below w.heap.size w w') := fun w' hb' => by
                    obtain ⟨h1, -, h2, -, h3⟩ := HX.out w' (grow_trans HBW.out (by rw [HBS.out]; exact hb'))
                    exact ⟨h1, h2, h3⟩
                  have HQB : Hid (w.heap.size ≤ base ∧ q < base) := show _ ∧ _ by
                    have h1 := (Array.getElem?_eq_some_iff.1 (HX.out w0 HBW.out).1).1
                    rw [HBS.out] at h1
                    have := HQL.out
                    omega
                  have hol : (cdsE l 0 l).2.length ≤ 8000 := by rw [← hel]; omega
                  clear hLr hCr hm1 hbw hbxr hlt hk h80 hel
                  obtain ⟨os, hos⟩ : ∃ z, (cdsE l 0 l).2 = z := ⟨_, rfl⟩
                  obtain ⟨fs, hfs⟩ : ∃ z, (cdsE l 0 l).1 = z := ⟨_, rfl⟩
                  rw [hos, hfs] at hig
                  rw [hos, hfs] at HEJ
                  rw [hos] at HFI e3 h80' hol
                  try rw [hos] at hig
                  simp only [hos, hfs] at *
                  clear hos hfs
                  have HIG2 := Lib.hid hig
                  clear hig
                  go_wp2_with fail
                  obtain ⟨k0, kh, kz0, kz1, kz2⟩ := info_parts w64Info
                  go_loopw [14, 15, 16, 101] (fun _ _ _ i wx => ∃ (j : Nat) (vC : Value), j ≤ os.length ∧ i = .int .i64 j ∧ IgAt w0 base base (base + 1) (.slice A l.length cl) os (.slice AO os.length cO) (.slice AF fs.length cF) vC fs ((os.take j).map wordP) wx) (fun _ _ _ i _ => os.length - (intOf i).toNat)
                  case atStart => exact ⟨0, _, Nat.zero_le _, rfl, HIG2.out⟩
                  case round =>
                    clear e3
                    obtain ⟨j, vC, hj, rfl, hc⟩ := hrel
                    by_cases hlt : j < os.length
                    · obtain ⟨g, rfl, c0, c1, c2, c3, c4⟩ := hc.em.ins_cells hlt
                      have HTK := Lib.hid (show (os.take (j + 1)).map wordP = (os.take j).map wordP ++ [wordP os[j]] by rw [List.take_succ_eq_append_getElem hlt, List.map_append, List.map_singleton])
                      have herr := HFI.out os[j] (List.getElem_mem hlt)
                      obtain ⟨y, hy⟩ : ∃ y, os[j] = y := ⟨_, rfl⟩
                      rw [hy] at c0 c1 c2 c3 c4 HTK herr
                      have hckl : ((os.take j).map wordP).length ≤ 10000 := by simp; omega
                      obtain ⟨ck, hck⟩ : ∃ z, (os.take j).map wordP = z := ⟨_, rfl⟩
                      rw [hck] at hc HTK hckl
                      obtain ⟨bq, hbq⟩ : ∃ bq, wr.heap.size = bq := ⟨_, rfl⟩
                      obtain ⟨wB, hwB⟩ : ∃ wB, wr.alloc (.cells #[.string (mkB y.op), .int .i64 y.d, .int .i64 y.a, .int .i64 y.b, .int .i64 y.imm] 90) = wB := ⟨_, rfl⟩
                      have hbB : Below wr.heap.size wr wB := by rw [← hwB]; exact grow_alloc (grow_refl _) _
                      have hmB : wB.heap[bq]? = some (.cells #[.string (mkB y.op), .int .i64 y.d, .int .i64 y.a, .int .i64 y.b, .int .i64 y.imm] 90 (0, 0)) := by rw [← hwB, ← hbq]; exact heap_alloc_new wr _
                      have hcB := hc.below hbB
                      obtain ⟨AC, cC, rfl⟩ := own_slice hcB.co
                      have HEN : Hid (Calls Tryz.prog 26 #[.agg #[.string (mkB y.op), .int .i64 y.d, .int .i64 y.a, .int .i64 y.b, .int .i64 y.imm]] wB (Ret (.tuple #[.int .u64 (wordP y), .nilIface]) wB)) := encode_ok herr (HXB.out wB hcB.bel).2.1
                      have hlt' : (j : Int) < (os.length : Int) := by omega
                      have HWB := Lib.hid (And.intro hwB hbq)
                      have HMB := Lib.hid hmB
                      have HB1 := Lib.hid hcB
                      have HLT := Lib.hid hlt
                      clear hy hck hwB hbq hmB hbB hcB hc hlt hj herr
                      go_upto_region 30 with fail
                      rw [HWB.out.1, HWB.out.2]
                      clear c0 c1 c2 c3 c4
                      have c0 := cell_of_row _ _ 0 _ _ _ HMB.out
                      have c1 := cell_of_row _ _ 1 _ _ _ HMB.out
                      have c2 := cell_of_row _ _ 2 _ _ _ HMB.out
                      have c3 := cell_of_row _ _ 3 _ _ _ HMB.out
                      have c4 := cell_of_row _ _ 4 _ _ _ HMB.out
                      go_upto_region 33 with (go_at_call 26; (with_reducible refine HEN.out.mono ?_); rintro z w1 ⟨rfl, hb1⟩; have h1 := HB1.out.below hb1; have HH := Lib.hid h1; have o1 := h1.cells.2; have z1 := row_frozen h1.blk 1; have hs1 := h1.em.base_le; clear h1)
                      go_wp2_with (at_builtin; (refine wpList_append_lies _ rfl (.tmp 115) (.tmp 117) 35 rfl base 68 k0 _ 1 8 Tryz.underlying35 kh kz0 kz1 kz2 rfl (by decide) _ ck.length (u64Vs ck) rfl (World.ownsRow.alloc HH.out.co _) ⟨w1.heap.size, 0, none⟩ 1 1 [.int .u64 (wordP y)] rfl rfl (World.news_of_block (heap_alloc_new w1 _)) (fun u hu => by simp at hu; subst hu; rfl) (by decide) (by unfold maxLen; omega) (by omega) (by simp; omega) _ rfl ?_; intro g2 cap w9 hown hgrow _ _; obtain ⟨j1, j2, j3⟩ := HH.out.putC (n := wordP y) hown hgrow; have o1 : w9.cell? ⟨base + 1, 1, none⟩ = some (.slice AC ck.length cC) := (World.cell?_of_block j1).trans HH.out.cells.2; have z1 := row_frozen (j1.trans HH.out.blk) 1; have H9 := Lib.hid j3; clear j1 j2 j3 hown hgrow))
                      go_roundw
                      case rel => exact ⟨j + 1, _, by have := HLT.out; omega, by go_num, by rw [HTK.out]; exact H9.out⟩
                      case measure => have := HLT.out; simp [intOf]; omega
                    · have hj' : j = os.length := by omega
                      subst hj'
                      rw [List.take_length] at hc
                      obtain ⟨hm1, -, hbw⟩ := HXB.out wr hc.bel
                      obtain ⟨q0, q1⟩ := row2m hm1
                      have z0 := row_frozen hm1 0
                      have z1 := row_frozen hm1 1
                      obtain ⟨AC, cC, rfl⟩ := own_slice hc.co
                      obtain ⟨u0, u1⟩ := hc.cells
                      have HM1 := Lib.hid hm1
                      have HC := Lib.hid hc
                      have HBWR := Lib.hid hbw
                      clear hm1 hc hbw hlt hj
                      go_wp2_with fail
                      have hm2 := set2e (v0 := .slice AF fs.length cF) (v1 := .slice AC os.length cC) HM1.out
                      obtain ⟨y0, y1⟩ := row2m hm2
                      refine bodyPost_ret (v := .tuple #[.agg #[.slice AF fs.length cF, .slice AC os.length cC], .nilIface]) (by simp [results, Tryz.results8, go_sem, y0, y1]; try rfl) rfl ?_
                      rw [← HPQ.out]
                      have hqb := HQB.out
                      have hco := HC.out.co
                      rw [List.length_map] at hco
                      refine ⟨_, _, _, rfl, by rw [HF.out]; exact .nil_, by rw [HF.out]; simp, ?_, ?_, Below.trans HBWR.out (set2b HQL.out)⟩
                      · rw [HEJ.out]
                        exact own_same (World.ownsRow.mono HC.out.fu hqb.1) fun k hk => set2o (by have := (own_lt HC.out.fu hk).1; omega)
                      · rw [HEJ.out]
                        simp only [List.length_map]
                        exact own_same (World.ownsRow.mono hco hqb.1) fun k hk => set2o (by have := (own_lt hco hk).1; omega)
end Go.Proofs.YtonnhechjbdenaaGreatDoor

namespace Go.Proofs.YtonnhechjbdenaaGreatDoor
open Go.RowKit

/-! the machine in memory -/
def ptrVs (fbs : List (Nat × Nat)) : List Value := fbs.map fun p => .pointer (some ⟨p.1, 0, none⟩)
def frL (x : PFr) (sb : Nat) : List Value := fnL x.f ++ (intVs x.r ++ (.slice (some ⟨sb, 0, none⟩) x.slots.length x.slots.length :: (intVs x.args ++ (intVs x.next ++ [.int .i64 (x.pc : Nat), .int .i64 (x.d : Nat)]))))
section
variable (m : PImg) (A : Option Addr) (cf : Nat) (B : Option Addr) (cw : Nat) (C : Value) (mb T : Nat)
end
section
variable {m : PImg} {A : Option Addr} {cf : Nat} {B : Option Addr} {cw : Nat} {C : Value} {mb T : Nat} {s : PMs} {v u : Value} {fbs : List (Nat × Nat)} {w w' : World}
end
end Go.Proofs.YtonnhechjbdenaaGreatDoor

namespace Go.Proofs.YtonnhechjbdenaaGreatDoor
open Go.RowKit

/-! the machine: end, tick, print -/
section
variable {m : PImg} {A : Option Addr} {cf : Nat} {B : Option Addr} {cw : Nat} {C : Value} {mb T : Nat} {s : PMs} {v u : Value} {fbs : List (Nat × Nat)} {w w' : World}
/-- No other block is touched. -/
def Only (mb : Nat) (w w' : World) : Prop := w'.heap.size = w.heap.size ∧ ∀ k, k ≠ mb → w'.heap[k]? = w.heap[k]?
theorem Only.trans {w1 w2 w3 : World} (h : Only mb w1 w2) (k : Only mb w2 w3) : Only mb w1 w3 := ⟨k.1.trans h.1, fun i hi => (k.2 i hi).trans (h.2 i hi)⟩
end
end Go.Proofs.YtonnhechjbdenaaGreatDoor

namespace Go.Proofs.YtonnhechjbdenaaGreatDoor
open Go.RowKit

/-! the machine: its top frame -/
theorem len4 {α : Type} {l : List α} (h : l.length = 4) : ∃ a b c d, l = [a, b, c, d] := by
  match l, h with
  | [a, b, c, d], _ => exact ⟨a, b, c, d, rfl⟩
theorem len8 {α : Type} {l : List α} (h : l.length = 8) : ∃ a b c d e f g i, l = [a, b, c, d, e, f, g, i] := by
  match l, h with
  | [a, b, c, d, e, f, g, i], _ => exact ⟨a, b, c, d, e, f, g, i, rfl⟩
/-- The lengths of a frame. -/
structure FrLen (x : PFr) : Prop where
  r : x.r.length = 8
  args : x.args.length = 4
  next : x.next.length = 4
theorem FrOk.len {m : PImg} {x : PFr} (h : FrOk m x) : FrLen x := ⟨h.r, h.args, h.next⟩
section
variable {x : PFr} {sb : Nat}
theorem frL_r (h : FrLen x) {j : Nat} (hj : j < 8) : (frL x sb)[4 + j]? = some (.int .i64 (x.r.getD j 0)) := by
  obtain ⟨f, r, sl, ar, nx, pc, d⟩ := x
  obtain ⟨h1, h2, h3⟩ := h
  obtain ⟨a, b, c, e, k, l, n, o, rfl⟩ := len8 h1
  match j, hj with
  | 0, _ => rfl
  | 1, _ => rfl
  | 2, _ => rfl
  | 3, _ => rfl
  | 4, _ => rfl
  | 5, _ => rfl
  | 6, _ => rfl
  | 7, _ => rfl
theorem frL_slots (h : FrLen x) : (frL x sb)[12]? = some (.slice (some ⟨sb, 0, none⟩) x.slots.length x.slots.length) := by
  obtain ⟨f, r, sl, ar, nx, pc, d⟩ := x
  obtain ⟨h1, h2, h3⟩ := h
  obtain ⟨a, b, c, e, k, l, n, o, rfl⟩ := len8 h1
  rfl
theorem frL_args (h : FrLen x) {j : Nat} (hj : j < 4) : (frL x sb)[13 + j]? = some (.int .i64 (x.args.getD j 0)) := by
  obtain ⟨f, r, sl, ar, nx, pc, d⟩ := x
  obtain ⟨h1, h2, h3⟩ := h
  obtain ⟨a, b, c, e, k, l, n, o, rfl⟩ := len8 h1
  obtain ⟨a1, a2, a3, a4, rfl⟩ := len4 h2
  match j, hj with
  | 0, _ => rfl
  | 1, _ => rfl
  | 2, _ => rfl
  | 3, _ => rfl
theorem frL_next (h : FrLen x) {j : Nat} (hj : j < 4) : (frL x sb)[17 + j]? = some (.int .i64 (x.next.getD j 0)) := by
  obtain ⟨f, r, sl, ar, nx, pc, d⟩ := x
  obtain ⟨h1, h2, h3⟩ := h
  obtain ⟨a, b, c, e, k, l, n, o, rfl⟩ := len8 h1
  obtain ⟨a1, a2, a3, a4, rfl⟩ := len4 h2
  obtain ⟨b1, b2, b3, b4, rfl⟩ := len4 h3
  match j, hj with
  | 0, _ => rfl
  | 1, _ => rfl
  | 2, _ => rfl
  | 3, _ => rfl
theorem frL_pc (h : FrLen x) : (frL x sb)[21]? = some (.int .i64 (x.pc : Nat)) ∧ (frL x sb)[22]? = some (.int .i64 (x.d : Nat)) ∧ (frL x sb).length = 23 := by
  obtain ⟨f, r, sl, ar, nx, pc, d⟩ := x
  obtain ⟨h1, h2, h3⟩ := h
  obtain ⟨a, b, c, e, k, l, n, o, rfl⟩ := len8 h1
  obtain ⟨a1, a2, a3, a4, rfl⟩ := len4 h2
  obtain ⟨b1, b2, b3, b4, rfl⟩ := len4 h3
  exact ⟨rfl, rfl, rfl⟩
theorem frL_setR (h : FrLen x) {j : Nat} (hj : j < 8) (n : Int) : (frL x sb).set (4 + j) (.int .i64 n) = frL { x with r := x.r.set j n } sb := by
  obtain ⟨f, r, sl, ar, nx, pc, d⟩ := x
  obtain ⟨h1, h2, h3⟩ := h
  obtain ⟨a, b, c, e, k, l, n, o, rfl⟩ := len8 h1
  match j, hj with
  | 0, _ => rfl
  | 1, _ => rfl
  | 2, _ => rfl
  | 3, _ => rfl
  | 4, _ => rfl
  | 5, _ => rfl
  | 6, _ => rfl
  | 7, _ => rfl
theorem frL_setN (h : FrLen x) {j : Nat} (hj : j < 4) (n : Int) : (frL x sb).set (17 + j) (.int .i64 n) = frL { x with next := x.next.set j n } sb := by
  obtain ⟨f, r, sl, ar, nx, pc, d⟩ := x
  obtain ⟨h1, h2, h3⟩ := h
  obtain ⟨a, b, c, e, k, l, n, o, rfl⟩ := len8 h1
  obtain ⟨a1, a2, a3, a4, rfl⟩ := len4 h2
  obtain ⟨b1, b2, b3, b4, rfl⟩ := len4 h3
  match j, hj with
  | 0, _ => rfl
  | 1, _ => rfl
  | 2, _ => rfl
  | 3, _ => rfl
theorem frL_setPc (h : FrLen x) (n : Nat) : (frL x sb).set 21 (.int .i64 (n : Nat)) = frL { x with pc := n } sb := by
  obtain ⟨f, r, sl, ar, nx, pc, d⟩ := x
  obtain ⟨h1, h2, h3⟩ := h
  obtain ⟨a, b, c, e, k, l, n, o, rfl⟩ := len8 h1
  obtain ⟨a1, a2, a3, a4, rfl⟩ := len4 h2
  obtain ⟨b1, b2, b3, b4, rfl⟩ := len4 h3
  rfl
theorem frL_zeroN (h : FrLen x) : ((((frL x sb).set 17 (.int .i64 0)).set 18 (.int .i64 0)).set 19 (.int .i64 0)).set 20 (.int .i64 0) = frL { x with next := zero4 } sb := by
  obtain ⟨f, r, sl, ar, nx, pc, d⟩ := x
  obtain ⟨h1, h2, h3⟩ := h
  obtain ⟨a, b, c, e, k, l, n, o, rfl⟩ := len8 h1
  obtain ⟨a1, a2, a3, a4, rfl⟩ := len4 h2
  obtain ⟨b1, b2, b3, b4, rfl⟩ := len4 h3
  rfl
end
section
variable {m : PImg} {A : Option Addr} {cf : Nat} {B : Option Addr} {cw : Nat} {C : Value} {mb T : Nat} {s : PMs} {v u : Value} {ps : List (Nat × Nat)} {p : Nat × Nat} {cs : List PFr} {x y : PFr} {w w' : World}
theorem frL_params {sb : Nat} : (frL x sb)[1]? = some (.int .i64 x.f.params) := rfl
theorem frL_fslots {sb : Nat} : (frL x sb)[2]? = some (.int .i64 x.f.slots) := rfl
end
end Go.Proofs.YtonnhechjbdenaaGreatDoor
