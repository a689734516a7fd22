import Derived.Deep.DeepCutAuto
import Derived.Test.YtpmpeihcdiohmaaDoorBn8
import Derived.Test.YtpmpeihcdiohmaaDoorBn4
set_option linter.unusedVariables false
set_option linter.unusedSimpArgs false
namespace Go.Proofs.YtpmpeihcdiohmaaDoor
open Go.RowKit

/-! codes that are too large for a statement; numbers that are too many -/
def lowLong (x : PLow) : Bool := decide (20 < x.kind.length) || decide (20 < x.name.length)
def blkHead (c : PCd) (b : PBlk) : Bool := decide (25 < b.ins.length) || decide (4 < b.nx.length) || decide (20 < b.fin.length) || decide (20 < c.name.length)
def blkLong (c : PCd) (b : PBlk) : Bool := blkHead c b || b.ins.any lowLong
def manyB (c : PCd) : Bool := decide (20 < c.blocks.length) && (c.blocks.length != 3001)
def largeL (c : PCd) : Bool := manyB c || c.blocks.any (blkLong c)
def bit01 (b : Bool) : Int := if b then 1 else 0
def cdV (c : PCd) (A : Option Addr) (ca : Nat) : Value := .agg #[.string (mkB c.name), .int .i64 c.params, .int .i64 c.slots, .slice A c.blocks.length ca]
theorem anyBlk_step {c : PCd} {k : Nat} (h : k < c.blocks.length) : (c.blocks.drop k).any (blkLong c) = (blkLong c c.blocks[k] || (c.blocks.drop (k + 1)).any (blkLong c)) := by
  rw [List.drop_eq_getElem_cons h, List.any_cons]
theorem anyLow_step {l : List PLow} {k : Nat} (h : k < l.length) : (l.drop k).any lowLong = (lowLong l[k] || (l.drop (k + 1)).any lowLong) := by
  rw [List.drop_eq_getElem_cons h, List.any_cons]
theorem row4A {w : World} {q : Nat} {v0 v1 v2 v3 : Value} {T : TypeId} {fz : Nat × Nat} (hrow : w.heap[q]? = some (.cells #[v0, v1, v2, v3] T fz)) :
    w.cell? ⟨q, 0, none⟩ = some v0 ∧ w.cell? ⟨q, 1, none⟩ = some v1 ∧ w.cell? ⟨q, 2, none⟩ = some v2 ∧ w.cell? ⟨q, 3, none⟩ = some v3 :=
  ⟨cell_of_row _ _ 0 _ _ _ hrow, cell_of_row _ _ 1 _ _ _ hrow, cell_of_row _ _ 2 _ _ _ hrow, cell_of_row _ _ 3 _ _ _ hrow⟩
def manyN (n m : Nat) (t : Int) : Bool := decide (8 < n) || decide (30 < m) || decide (t < 0) || decide (60 < t)
set_option maxRecDepth 100000 in
theorem Many_any (n m cx cy : Nat) (t : Int) (X Y : Option Addr) (w : World) :
    Calls Tryd.prog 6 #[.slice X n cx, .slice Y m cy, .int .i64 t] w (Ret (.int .i64 (bit01 (manyN n m t))) w) := by
  have HM : Hid (manyN n m t = (decide (8 < n) || decide (30 < m) || decide (t < 0) || decide (60 < t))) := show _ = _ from rfl
  rcases Classical.em ((8 : Int) < (n : Int)) with g1 | g1
  · have HR : Hid (manyN n m t = true) := show _ = _ by rw [HM.out]; simp; omega
    go_enter Tryd.func6, Tryd.ntmps6
    go_wp2_with fail
    go_ret
    exact ⟨by rw [HR.out]; rfl, grow_refl _⟩
  · rcases Classical.em ((30 : Int) < (m : Int)) with g2 | g2
    · have HR : Hid (manyN n m t = true) := show _ = _ by rw [HM.out]; simp; omega
      go_enter Tryd.func6, Tryd.ntmps6
      go_wp2_with fail
      go_ret
      exact ⟨by rw [HR.out]; rfl, grow_refl _⟩
    · rcases Classical.em (t < 0) with g3 | g3
      · have HR : Hid (manyN n m t = true) := show _ = _ by rw [HM.out]; simp; omega
        go_enter Tryd.func6, Tryd.ntmps6
        go_wp2_with fail
        go_ret
        exact ⟨by rw [HR.out]; rfl, grow_refl _⟩
      · rcases Classical.em (60 < t) with g4 | g4
        · have HR : Hid (manyN n m t = true) := show _ = _ by rw [HM.out]; simp; omega
          go_enter Tryd.func6, Tryd.ntmps6
          go_wp2_with fail
          go_ret
          exact ⟨by rw [HR.out]; rfl, grow_refl _⟩
        · have HR : Hid (manyN n m t = false) := show _ = _ by rw [HM.out]; simp; omega
          go_enter Tryd.func6, Tryd.ntmps6
          go_wp2_with fail
          go_ret
          exact ⟨by rw [HR.out]; rfl, grow_refl _⟩
set_option maxHeartbeats 8000000 in
set_option maxRecDepth 100000 in
theorem LargeLow_any (c : PCd) (hn : c.blocks.length ≤ maxLen) (A : Option Addr) (ca : Nat) (w : World) (hr : RdC w A c.blocks) :
    Calls Tryd.prog 5 #[cdV c A ca] w (Ret (.int .i64 (bit01 (largeL c))) w) := by
  obtain ⟨w0, hw0⟩ : ∃ w0, w.alloc (.cells #[.string (mkB c.name), .int .i64 c.params, .int .i64 c.slots, .slice A c.blocks.length ca] 24) = w0 := ⟨_, rfl⟩
  have hb0 : Below w.heap.size w w0 := by rw [← hw0]; exact grow_alloc (grow_refl w) _
  have hm0 : w0.heap[w.heap.size]? = some (.cells #[.string (mkB c.name), .int .i64 c.params, .int .i64 c.slots, .slice A c.blocks.length ca] 24 (0, 0)) := by rw [← hw0]; exact heap_alloc_new w _
  have HX : Hid (∀ w', Below w0.heap.size w0 w' → (w'.cell? ⟨w.heap.size, 0, none⟩ = some (.string (mkB c.name)) ∧ w'.cell? ⟨w.heap.size, 1, none⟩ = some (.int .i64 c.params) ∧ w'.cell? ⟨w.heap.size, 2, none⟩ = some (.int .i64 c.slots) ∧ w'.cell? ⟨w.heap.size, 3, none⟩ = some (.slice A c.blocks.length ca)) ∧ RdC w' A c.blocks ∧ Below w.heap.size w w') := fun w' hb =>
    ⟨row4A ((hb.block _ (Array.getElem?_eq_some_iff.1 hm0).1).trans hm0), (hr.keep (Keeps.of_below hb0)).keep (Keeps.of_below hb), grow_trans hb0 hb⟩
  have HW0 := Lib.hid hw0
  have hsz : (mkB c.name).size = c.name.length := rfl
  obtain ⟨⟨i0, i1, i2, i3⟩, -, -⟩ := HX.out w0 (grow_refl _)
  clear hr hw0 hm0 hb0
  unfold cdV
  rcases Classical.em ((20 : Int) < (c.blocks.length : Int)) with q1 | q1
  · by_cases h3 : c.blocks.length = 3001
    · have q3 : ((c.blocks.length : Int) != 3001) = false := by rw [h3]; rfl
      have HL : Hid (largeL c = c.blocks.any (blkLong c)) := show _ = _ by unfold largeL manyB; simp [h3]
      clear h3
      go_enter Tryd.func5, Tryd.ntmps5
      go_upto_region 1 with fail
      change Code.wp _ _ _ _ (w.alloc (.cells #[.string (mkB c.name), .int .i64 c.params, .int .i64 c.slots, .slice A c.blocks.length ca] 24))
      rw [HW0.out]
      go_wp2_with fail
      go_loopw [3, 4, 5] (fun i _ _ wr => ∃ k : Nat, k ≤ c.blocks.length ∧ i = .int .i64 k ∧ c.blocks.any (blkLong c) = (c.blocks.drop k).any (blkLong c) ∧ Below w0.heap.size w0 wr) (fun i _ _ _ => c.blocks.length - (intOf i).toNat)
      case atStart => exact ⟨0, Nat.zero_le _, rfl, rfl, grow_refl _⟩
      case round =>
        obtain ⟨k, hk, rfl, hI, hbel⟩ := hrel
        have HI := Lib.hid hI
        clear hI
        obtain ⟨⟨i0, i1, i2, i3⟩, hrd, -⟩ := HX.out wr hbel
        by_cases hlt : k < c.blocks.length
        · have hlt' : (k : Int) < (c.blocks.length : Int) := by omega
          have hk63 : (k : Int) + 1 ≤ 9223372036854775807 := by unfold maxLen at hn; omega
          obtain ⟨b, off, I, ic, N, nc, rfl, hB⟩ := hrd k hlt
          have HS := Lib.hid (anyBlk_step hlt)
          obtain ⟨x, hx⟩ : ∃ x, c.blocks[k] = x := ⟨_, rfl⟩
          rw [hx] at HS hB
          have HIR0 := Lib.hid hB.ins
          obtain ⟨b0, b1, b2, b3, -, -⟩ := hB
          have HLR : Hid (largeL c = (blkLong c x || (c.blocks.drop (k + 1)).any (blkLong c))) := show _ = _ by rw [HL.out, HI.out, HS.out]
          have szf : (mkB x.fin).size = x.fin.length := rfl
          obtain ⟨q, hq⟩ : ∃ q, wr.heap.size = q := ⟨_, rfl⟩
          obtain ⟨wB, hwB⟩ : ∃ wB, wr.alloc (.cells #[.slice I x.ins.length ic, .string (mkB x.fin), .int .i64 x.a, .slice N x.nx.length nc] 59) = wB := ⟨_, rfl⟩
          have hbB : Below wr.heap.size wr wB := by rw [← hwB]; exact grow_alloc (grow_refl _) _
          have hmB : wB.heap[q]? = some (.cells #[.slice I x.ins.length ic, .string (mkB x.fin), .int .i64 x.a, .slice N x.nx.length nc] 59 (0, 0)) := by rw [← hwB, ← hq]; exact heap_alloc_new wr _
          have HBB := Lib.hid (grow_trans hbel hbB)
          have HIR := Lib.hid (HIR0.out.keep (Keeps.of_below hbB))
          have HMB := Lib.hid hmB
          have HWB := Lib.hid hwB
          have HQ := Lib.hid hq
          clear hwB hmB hbB hrd hx HIR0 hq
          go_upto_region 7 with fail
          try change Code.wp _ _ _ _ (wr.alloc (.cells #[.slice I x.ins.length ic, .string (mkB x.fin), .int .i64 x.a, .slice N x.nx.length nc] 59))
          rw [HQ.out]
          rw [HWB.out]
          clear b0 b1 b2 b3
          obtain ⟨b0, b1, b2, b3⟩ := row4A HMB.out
          obtain ⟨⟨i0, i1, i2, i3⟩, -, -⟩ := HX.out wB HBB.out
          rcases Classical.em ((25 : Int) < (x.ins.length : Int)) with h1 | h1
          · have HF : Hid (largeL c = true) := show _ = _ by
              rw [HLR.out, show blkLong c x = true by unfold blkLong blkHead; simp; omega]; rfl
            go_wp2_with fail
            go_ret
            exact ⟨by rw [HF.out]; rfl, (HX.out wB HBB.out).2.2⟩
          · skip
            rcases Classical.em ((4 : Int) < (x.nx.length : Int)) with h2 | h2
            · have HF : Hid (largeL c = true) := show _ = _ by
                rw [HLR.out, show blkLong c x = true by unfold blkLong blkHead; simp; omega]; rfl
              go_wp2_with fail
              go_ret
              exact ⟨by rw [HF.out]; rfl, (HX.out wB HBB.out).2.2⟩
            · skip
              rcases Classical.em ((20 : Int) < (x.fin.length : Int)) with h3 | h3
              · have HF : Hid (largeL c = true) := show _ = _ by
                  rw [HLR.out, show blkLong c x = true by unfold blkLong blkHead; simp; omega]; rfl
                go_wp2_with fail
                go_ret
                exact ⟨by rw [HF.out]; rfl, (HX.out wB HBB.out).2.2⟩
              · skip
                rcases Classical.em ((20 : Int) < (c.name.length : Int)) with h4 | h4
                · have HF : Hid (largeL c = true) := show _ = _ by
                    rw [HLR.out, show blkLong c x = true by unfold blkLong blkHead; simp; omega]; rfl
                  go_wp2_with fail
                  go_ret
                  exact ⟨by rw [HF.out]; rfl, (HX.out wB HBB.out).2.2⟩
                · skip
                  have HD : Hid (blkHead c x = false) := show _ = _ by unfold blkHead; simp; omega
                  go_wp2_with fail
                  go_loop [5] (fun j => ∃ k2 : Nat, k2 ≤ x.ins.length ∧ j = .int .i64 k2 ∧ x.ins.any lowLong = (x.ins.drop k2).any lowLong) (fun j => x.ins.length - (intOf j).toNat)
                  case atStart => exact ⟨0, Nat.zero_le _, rfl, rfl⟩
                  case round =>
                    obtain ⟨k2, hk2, rfl, hJ⟩ := hrel
                    have HJ := Lib.hid hJ
                    clear hJ
                    by_cases hlt2 : k2 < x.ins.length
                    · have hlt2' : (k2 : Int) < (x.ins.length : Int) := by omega
                      obtain ⟨b2, off2, rfl, hL2⟩ := low_cells HIR.out hlt2
                      obtain ⟨l0, -, -, -, -, l5⟩ := hL2
                      have HS2 := Lib.hid (anyLow_step hlt2)
                      have sz1 : (mkB x.ins[k2].kind).size = x.ins[k2].kind.length := rfl
                      have sz2 : (mkB x.ins[k2].name).size = x.ins[k2].name.length := rfl
                      rcases Classical.em ((20 : Int) < (x.ins[k2].kind.length : Int)) with h5 | h5
                      · have HF : Hid (largeL c = true) := show _ = _ by
                          rw [HLR.out]; unfold blkLong; rw [HJ.out, HS2.out, show lowLong x.ins[k2] = true by unfold lowLong; simp; omega]; simp
                        go_wp2_with fail
                        go_ret
                        exact ⟨by rw [HF.out]; rfl, (HX.out wB HBB.out).2.2⟩
                      · rcases Classical.em ((20 : Int) < (x.ins[k2].name.length : Int)) with h6 | h6
                        · have HF : Hid (largeL c = true) := show _ = _ by
                            rw [HLR.out]; unfold blkLong; rw [HJ.out, HS2.out, show lowLong x.ins[k2] = true by unfold lowLong; simp; omega]; simp
                          go_wp2_with fail
                          go_ret
                          exact ⟨by rw [HF.out]; rfl, (HX.out wB HBB.out).2.2⟩
                        · have HN : Hid (x.ins.any lowLong = (x.ins.drop (k2 + 1)).any lowLong) := show _ = _ by
                            rw [HJ.out, HS2.out, show lowLong x.ins[k2] = false by unfold lowLong; simp; omega]; rfl
                          go_wp2_with fail
                          go_round
                          case rel => exact ⟨k2 + 1, by omega, by go_num, HN.out⟩
                          case measure => simp [intOf]; omega
                    · have hk2' : k2 = x.ins.length := by omega
                      have HN : Hid (c.blocks.any (blkLong c) = (c.blocks.drop (k + 1)).any (blkLong c)) := show _ = _ by
                        rw [HI.out, HS.out, show blkLong c x = false by unfold blkLong; rw [HD.out, HJ.out, hk2', List.drop_length]; rfl]; rfl
                      subst hk2'
                      go_wp2_with fail
                      go_roundw
                      case rel => exact ⟨k + 1, by omega, by go_num, HN.out, HBB.out⟩
                      case measure => simp [intOf]; omega
        · have hk' : k = c.blocks.length := by omega
          have HF : Hid (largeL c = false) := show _ = _ by rw [HL.out, HI.out, hk', List.drop_length]; rfl
          subst hk'
          go_wp2_with fail
          go_ret
          exact ⟨by rw [HF.out]; rfl, (HX.out wr hbel).2.2⟩
    · have q3 : ((c.blocks.length : Int) != 3001) = true := by simp; omega
      have HL : Hid (largeL c = true) := show _ = _ by unfold largeL manyB; simp [h3]; omega
      clear h3
      go_enter Tryd.func5, Tryd.ntmps5
      go_upto_region 1 with fail
      change Code.wp _ _ _ _ (w.alloc (.cells #[.string (mkB c.name), .int .i64 c.params, .int .i64 c.slots, .slice A c.blocks.length ca] 24))
      rw [HW0.out]
      go_wp2_with fail
      go_ret
      exact ⟨by rw [HL.out]; rfl, (HX.out w0 (grow_refl _)).2.2⟩
  · have HL : Hid (largeL c = c.blocks.any (blkLong c)) := show _ = _ by unfold largeL manyB; simp; omega
    go_enter Tryd.func5, Tryd.ntmps5
    go_upto_region 1 with fail
    change Code.wp _ _ _ _ (w.alloc (.cells #[.string (mkB c.name), .int .i64 c.params, .int .i64 c.slots, .slice A c.blocks.length ca] 24))
    rw [HW0.out]
    go_wp2_with fail
    go_loopw [3, 4, 5] (fun i _ _ wr => ∃ k : Nat, k ≤ c.blocks.length ∧ i = .int .i64 k ∧ c.blocks.any (blkLong c) = (c.blocks.drop k).any (blkLong c) ∧ Below w0.heap.size w0 wr) (fun i _ _ _ => c.blocks.length - (intOf i).toNat)
    case atStart => exact ⟨0, Nat.zero_le _, rfl, rfl, grow_refl _⟩
    case round =>
      obtain ⟨k, hk, rfl, hI, hbel⟩ := hrel
      have HI := Lib.hid hI
      clear hI
      obtain ⟨⟨i0, i1, i2, i3⟩, hrd, -⟩ := HX.out wr hbel
      by_cases hlt : k < c.blocks.length
      · have hlt' : (k : Int) < (c.blocks.length : Int) := by omega
        have hk63 : (k : Int) + 1 ≤ 9223372036854775807 := by unfold maxLen at hn; omega
        obtain ⟨b, off, I, ic, N, nc, rfl, hB⟩ := hrd k hlt
        have HS := Lib.hid (anyBlk_step hlt)
        obtain ⟨x, hx⟩ : ∃ x, c.blocks[k] = x := ⟨_, rfl⟩
        rw [hx] at HS hB
        have HIR0 := Lib.hid hB.ins
        obtain ⟨b0, b1, b2, b3, -, -⟩ := hB
        have HLR : Hid (largeL c = (blkLong c x || (c.blocks.drop (k + 1)).any (blkLong c))) := show _ = _ by rw [HL.out, HI.out, HS.out]
        have szf : (mkB x.fin).size = x.fin.length := rfl
        obtain ⟨q, hq⟩ : ∃ q, wr.heap.size = q := ⟨_, rfl⟩
        obtain ⟨wB, hwB⟩ : ∃ wB, wr.alloc (.cells #[.slice I x.ins.length ic, .string (mkB x.fin), .int .i64 x.a, .slice N x.nx.length nc] 59) = wB := ⟨_, rfl⟩
        have hbB : Below wr.heap.size wr wB := by rw [← hwB]; exact grow_alloc (grow_refl _) _
        have hmB : wB.heap[q]? = some (.cells #[.slice I x.ins.length ic, .string (mkB x.fin), .int .i64 x.a, .slice N x.nx.length nc] 59 (0, 0)) := by rw [← hwB, ← hq]; exact heap_alloc_new wr _
        have HBB := Lib.hid (grow_trans hbel hbB)
        have HIR := Lib.hid (HIR0.out.keep (Keeps.of_below hbB))
        have HMB := Lib.hid hmB
        have HWB := Lib.hid hwB
        have HQ := Lib.hid hq
        clear hwB hmB hbB hrd hx HIR0 hq
        go_upto_region 7 with fail
        try change Code.wp _ _ _ _ (wr.alloc (.cells #[.slice I x.ins.length ic, .string (mkB x.fin), .int .i64 x.a, .slice N x.nx.length nc] 59))
        rw [HQ.out]
        rw [HWB.out]
        clear b0 b1 b2 b3
        obtain ⟨b0, b1, b2, b3⟩ := row4A HMB.out
        obtain ⟨⟨i0, i1, i2, i3⟩, -, -⟩ := HX.out wB HBB.out
        rcases Classical.em ((25 : Int) < (x.ins.length : Int)) with h1 | h1
        · have HF : Hid (largeL c = true) := show _ = _ by
            rw [HLR.out, show blkLong c x = true by unfold blkLong blkHead; simp; omega]; rfl
          go_wp2_with fail
          go_ret
          exact ⟨by rw [HF.out]; rfl, (HX.out wB HBB.out).2.2⟩
        · skip
          rcases Classical.em ((4 : Int) < (x.nx.length : Int)) with h2 | h2
          · have HF : Hid (largeL c = true) := show _ = _ by
              rw [HLR.out, show blkLong c x = true by unfold blkLong blkHead; simp; omega]; rfl
            go_wp2_with fail
            go_ret
            exact ⟨by rw [HF.out]; rfl, (HX.out wB HBB.out).2.2⟩
          · skip
            rcases Classical.em ((20 : Int) < (x.fin.length : Int)) with h3 | h3
            · have HF : Hid (largeL c = true) := show _ = _ by
                rw [HLR.out, show blkLong c x = true by unfold blkLong blkHead; simp; omega]; rfl
              go_wp2_with fail
              go_ret
              exact ⟨by rw [HF.out]; rfl, (HX.out wB HBB.out).2.2⟩
            · skip
              rcases Classical.em ((20 : Int) < (c.name.length : Int)) with h4 | h4
              · have HF : Hid (largeL c = true) := show _ = _ by
                  rw [HLR.out, show blkLong c x = true by unfold blkLong blkHead; simp; omega]; rfl
                go_wp2_with fail
                go_ret
                exact ⟨by rw [HF.out]; rfl, (HX.out wB HBB.out).2.2⟩
              · skip
                have HD : Hid (blkHead c x = false) := show _ = _ by unfold blkHead; simp; omega
                go_wp2_with fail
                go_loop [5] (fun j => ∃ k2 : Nat, k2 ≤ x.ins.length ∧ j = .int .i64 k2 ∧ x.ins.any lowLong = (x.ins.drop k2).any lowLong) (fun j => x.ins.length - (intOf j).toNat)
                case atStart => exact ⟨0, Nat.zero_le _, rfl, rfl⟩
                case round =>
                  obtain ⟨k2, hk2, rfl, hJ⟩ := hrel
                  have HJ := Lib.hid hJ
                  clear hJ
                  by_cases hlt2 : k2 < x.ins.length
                  · have hlt2' : (k2 : Int) < (x.ins.length : Int) := by omega
                    obtain ⟨b2, off2, rfl, hL2⟩ := low_cells HIR.out hlt2
                    obtain ⟨l0, -, -, -, -, l5⟩ := hL2
                    have HS2 := Lib.hid (anyLow_step hlt2)
                    have sz1 : (mkB x.ins[k2].kind).size = x.ins[k2].kind.length := rfl
                    have sz2 : (mkB x.ins[k2].name).size = x.ins[k2].name.length := rfl
                    rcases Classical.em ((20 : Int) < (x.ins[k2].kind.length : Int)) with h5 | h5
                    · have HF : Hid (largeL c = true) := show _ = _ by
                        rw [HLR.out]; unfold blkLong; rw [HJ.out, HS2.out, show lowLong x.ins[k2] = true by unfold lowLong; simp; omega]; simp
                      go_wp2_with fail
                      go_ret
                      exact ⟨by rw [HF.out]; rfl, (HX.out wB HBB.out).2.2⟩
                    · rcases Classical.em ((20 : Int) < (x.ins[k2].name.length : Int)) with h6 | h6
                      · have HF : Hid (largeL c = true) := show _ = _ by
                          rw [HLR.out]; unfold blkLong; rw [HJ.out, HS2.out, show lowLong x.ins[k2] = true by unfold lowLong; simp; omega]; simp
                        go_wp2_with fail
                        go_ret
                        exact ⟨by rw [HF.out]; rfl, (HX.out wB HBB.out).2.2⟩
                      · have HN : Hid (x.ins.any lowLong = (x.ins.drop (k2 + 1)).any lowLong) := show _ = _ by
                          rw [HJ.out, HS2.out, show lowLong x.ins[k2] = false by unfold lowLong; simp; omega]; rfl
                        go_wp2_with fail
                        go_round
                        case rel => exact ⟨k2 + 1, by omega, by go_num, HN.out⟩
                        case measure => simp [intOf]; omega
                  · have hk2' : k2 = x.ins.length := by omega
                    have HN : Hid (c.blocks.any (blkLong c) = (c.blocks.drop (k + 1)).any (blkLong c)) := show _ = _ by
                      rw [HI.out, HS.out, show blkLong c x = false by unfold blkLong; rw [HD.out, HJ.out, hk2', List.drop_length]; rfl]; rfl
                    subst hk2'
                    go_wp2_with fail
                    go_roundw
                    case rel => exact ⟨k + 1, by omega, by go_num, HN.out, HBB.out⟩
                    case measure => simp [intOf]; omega
      · have hk' : k = c.blocks.length := by omega
        have HF : Hid (largeL c = false) := show _ = _ by rw [HL.out, HI.out, hk', List.drop_length]; rfl
        subst hk'
        go_wp2_with fail
        go_ret
        exact ⟨by rw [HF.out]; rfl, (HX.out wr hbel).2.2⟩
end Go.Proofs.YtpmpeihcdiohmaaDoor
