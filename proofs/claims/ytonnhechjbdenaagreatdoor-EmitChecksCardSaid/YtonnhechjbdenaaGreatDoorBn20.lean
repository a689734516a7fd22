import Derived.Deep.RegionHeld3
import Derived.BigRegion
import Derived.Test.YtonnhechjbdenaaGreatDoorBn12
import Derived.Test.YtonnhechjbdenaaGreatDoorBn19
set_option linter.unusedVariables false
set_option linter.unusedSimpArgs false
namespace Go.Proofs.YtonnhechjbdenaaGreatDoor
open Go.RowKit

/-! is a code well, alone; its calls -/
/-- The error of a number (0: none). -/
def oneE (E : Nat → Addr) (n : Nat) : Value := if n = 0 then .nilIface else esV (E (n - 1))
theorem oneE_zero (E : Nat → Addr) : oneE E 0 = .nilIface := rfl
theorem oneE_pos (E : Nat → Addr) {n : Nat} (h : n ≠ 0) : oneE E n = esV (E (n - 1)) := by unfold oneE; rw [if_neg h]
theorem asrt_yes (v : Value) (xT : TypeId) (w : World) : (Instr.typeAssert (.iface 81 v) xT 81 true).run Tryz.prog w = .ok (.tuple #[v, .bool true]) w := by
  simp [Instr.typeAssert, run_underlying Tryz.underlying81, go_sem, Result.andThen]
theorem fptrInfo : (Tryz.prog.info? 81).map (fun i => (i.zero, i.size, i.bytes)) = some (some (.pointer none), 1, 8) := by kernel_rfl
theorem asrt_no (v : Value) (xT : TypeId) (w : World) : (Instr.typeAssert (.iface 220 v) xT 81 true).run Tryz.prog w = .ok (.tuple #[.pointer none, .bool false]) w := by
  obtain ⟨i0, hi, hz0, hz1, hz2⟩ := info_parts fptrInfo
  simp [Instr.typeAssert, run_underlying Tryz.underlying81, go_sem, Result.andThen, zeroValue, typeInfo, hi, hz0]
set_option maxHeartbeats 1000000 in
set_option maxRecDepth 100000 in
theorem ebare_any (E : Nat → Addr) (w : World) (v : Value) (n : Nat) (a : Int) (hv : ErrIs E w v (n : Nat) a) (hn : n ≠ 0) :
    Calls Tryz.prog 46 #[v] w (Ret (oneE E n) w) := by
  rcases hv with ⟨-, h, -⟩ | ⟨i, h10, rfl, h, -⟩ | ⟨i, fb, fo, h10, rfl, h1, h2, h3⟩
  · omega
  · have HE : Hid (oneE E n = esV (E i)) := show _ = _ by rw [oneE_pos E hn, show n - 1 = i by omega]
    unfold esV
    have hno := asrt_no
    clear h
    go_enter Tryz.func46, Tryz.ntmps46
    go_wp2_with fail
    go_ret
    exact ⟨by rw [HE.out]; rfl, grow_refl _⟩
  · have HE : Hid (oneE E n = esV (E i)) := show _ = _ by rw [oneE_pos E hn, show n - 1 = i by omega]
    unfold ftV
    have hye := asrt_yes
    clear h3
    go_enter Tryz.func46, Tryz.ntmps46
    go_wp2_with fail
    go_ret
    exact ⟨by rw [HE.out]; rfl, grow_refl _⟩
theorem errIs_if {E : Nat → Addr} {w : World} {v : Value} {c a : Int} (h : ErrIs E w v c a) (hc : c ≠ 0) : ∃ t x, v = .iface t x := by
  rcases h with ⟨_, h, _⟩ | ⟨i, _, h, _, _⟩ | ⟨i, fb, fo, _, h, _, _, _⟩
  · exact absurd h hc
  · exact ⟨_, _, h⟩
  · exact ⟨_, _, h⟩
theorem lowC_le (c : PCd) : (lowC c).1 ≤ 10 := by
  have hb : ∀ (l : List PBlk) (k : Nat), (blksC c l k).1 ≤ 10 := by
    intro l
    induction l with
    | nil => intro k; show 0 ≤ 10; omega
    | cons b l ih =>
      intro k
      unfold blksC
      split
      · show blkC c b ≤ 10; unfold blkC; repeat' split
        all_goals omega
      · exact ih _
  unfold lowC
  repeat' split
  all_goals first | exact hb _ _ | (simp only; omega)
set_option maxHeartbeats 4000000 in
set_option maxRecDepth 100000 in
theorem alone_any (E : Nat → Addr) (l : List PCd) (hl : l.length ≤ 1000) (hn : ∀ c ∈ l, c.blocks.length ≤ 100000 ∧ ∀ b ∈ c.blocks, BlkSm b) (A : Option Addr) (cl : Nat) (hcl : l.length ≤ cl) (k : Nat) (hk : k < l.length) (w : World) (hE : Laid E w) (hr : RdL w A l) :
    Calls Tryz.prog 23 #[.slice A l.length cl, .int .i64 k] w (Ret (oneE E (aloneC l k)) w) := by
  obtain ⟨b, off, Ai, ci, rfl, hc⟩ := hr k hk
  obtain ⟨c, hcc⟩ : ∃ c, l[k] = c := ⟨_, rfl⟩
  rw [hcc] at hc
  have hcm : c ∈ l := hcc ▸ List.getElem_mem hk
  have HAL : Hid (aloneC l k = if (lowC c).1 ≠ 0 then (lowC c).1 else if 0 ≤ firstCd c.name (l.take k) 0 then 7 else if c.name.isEmpty then 5 else 0) := show _ = _ by unfold aloneC; rw [List.getElem?_eq_getElem hk, hcc]
  have HCK : Hid (Calls Tryz.prog 45 #[.agg #[.string (mkB c.name), .int .i64 c.params, .int .i64 c.slots, .slice Ai c.blocks.length ci]] w (ChkPost E c w)) := acheck_any E c Ai ci (hn c hcm).1 (hn c hcm).2 w hE hc.blocks
  have hkl : (l.take k).length = k := by rw [List.length_take]; omega
  have HIX : Hid (∀ w', Below w.heap.size w w' → Calls Tryz.prog 47 #[.slice (some ⟨b, off, none⟩) k cl, .string (mkB c.name)] w' (Ret (.int .i64 (firstCd c.name (l.take k) 0)) w')) := fun w' hb => by
    have := eindex_any c.name (l.take k) (by omega) (some ⟨b, off, none⟩) cl w' ((hr.keep (Keeps.of_below hb)).take k)
    rwa [hkl] at this
  have HBA : Hid (∀ w' v, Below w.heap.size w w' → ErrIs E w' v ((lowC c).1 : Nat) (lowC c).2 → (lowC c).1 ≠ 0 → Calls Tryz.prog 46 #[v] w' (Ret (oneE E (lowC c).1) w')) := fun w' v _ hv h0 => ebare_any E w' v (lowC c).1 (lowC c).2 hv h0
  have HCE : Hid (∀ w', Below w.heap.size w w' → CdAt w' b (off + k * 4) c Ai ci ∧ Laid E w') := fun w' hb => ⟨hc.keep (Keeps.of_below hb), hE.keep hb⟩
  obtain ⟨c0, c1, c2, c3, -⟩ := hc
  have hk0 : (0 : Int) ≤ k := by omega
  have hk1 : (k : Int) < (l.length : Int) := by omega
  have hkc : (k : Int) ≤ (cl : Int) := by omega
  clear hr hn hE hcc hcm hkl
  by_cases hz : (lowC c).1 = 0
  · have HZ := Lib.hid hz
    clear hz
    obtain ⟨fi, hfi⟩ : ∃ z, firstCd c.name (l.take k) 0 = z := ⟨_, rfl⟩
    rw [hfi] at HIX
    by_cases hge : 0 ≤ fi
    · have HF : Hid (oneE E (aloneC l k) = esV (E 6)) := show _ = _ by rw [HAL.out, if_neg (by simp [HZ.out]), hfi, if_pos hge]; rfl
      clear hfi
      go_enter Tryz.func23, Tryz.ntmps23
      go_upto_region 4 with (go_at_call 45; (with_reducible refine HCK.out.mono ?_); rintro y w1 ⟨v, rfl, -, hb1, hv0⟩; obtain rfl := hv0.2 HZ.out; have HB1 := Lib.hid hb1; obtain ⟨⟨c0, c1, c2, c3, -⟩, -⟩ := HCE.out w1 hb1; clear hv0 hb1)
      go_region_held3 (fun w' => w'.cell? ⟨b, off + k * 4, none⟩ = some (.string (mkB c.name)))
        (first
          | exact c0
          | exact HJ.out)
        (first
          | (go_at_call 47; (with_reducible refine (HIX.out _ (drewE HB1.out)).mono ?_); rintro z w5 ⟨rfl, hb5⟩; have hbw := grow_trans (drewE HB1.out) hb5; have HJ := Lib.hid (HCE.out w5 hbw).1.c0; have x0 := (HCE.out w5 hbw).1.c0; have e6 := (HCE.out w5 hbw).2.c6; have e4 := (HCE.out w5 hbw).2.c4; have HBW := Lib.hid hbw; clear hb5 hbw; try dsimp only))
      all_goals go_wp2_with fail
      all_goals go_ret
      all_goals exact ⟨by rw [HF.out]; rfl, HBW.out⟩
    · by_cases he : c.name = []
      · have HF : Hid (oneE E (aloneC l k) = esV (E 4)) := show _ = _ by rw [HAL.out, if_neg (by simp [HZ.out]), hfi, if_neg hge, if_pos (by rw [he]; rfl)]; rfl
        have hnm : ((mkB c.name).toList == []) = true := by rw [mkB_toList, he]; rfl
        clear hfi he
        go_enter Tryz.func23, Tryz.ntmps23
        go_upto_region 4 with (go_at_call 45; (with_reducible refine HCK.out.mono ?_); rintro y w1 ⟨v, rfl, -, hb1, hv0⟩; obtain rfl := hv0.2 HZ.out; have HB1 := Lib.hid hb1; obtain ⟨⟨c0, c1, c2, c3, -⟩, -⟩ := HCE.out w1 hb1; clear hv0 hb1)
        go_region_held3 (fun w' => w'.cell? ⟨b, off + k * 4, none⟩ = some (.string (mkB c.name)))
          (first
            | exact c0
            | exact HJ.out)
          (first
            | (go_at_call 47; (with_reducible refine (HIX.out _ (drewE HB1.out)).mono ?_); rintro z w5 ⟨rfl, hb5⟩; have hbw := grow_trans (drewE HB1.out) hb5; have HJ := Lib.hid (HCE.out w5 hbw).1.c0; have x0 := (HCE.out w5 hbw).1.c0; have e6 := (HCE.out w5 hbw).2.c6; have e4 := (HCE.out w5 hbw).2.c4; have HBW := Lib.hid hbw; clear hb5 hbw; try dsimp only))
        all_goals go_wp2_with fail
        all_goals go_ret
        all_goals exact ⟨by rw [HF.out]; rfl, HBW.out⟩
      · have HF : Hid (oneE E (aloneC l k) = .nilIface) := show _ = _ by rw [HAL.out, if_neg (by simp [HZ.out]), hfi, if_neg hge, if_neg (by simpa using he)]; rfl
        have hnm : ((mkB c.name).toList == []) = false := by rw [mkB_toList]; exact beq_eq_false_iff_ne.2 he
        clear hfi he
        go_enter Tryz.func23, Tryz.ntmps23
        go_upto_region 4 with (go_at_call 45; (with_reducible refine HCK.out.mono ?_); rintro y w1 ⟨v, rfl, -, hb1, hv0⟩; obtain rfl := hv0.2 HZ.out; have HB1 := Lib.hid hb1; obtain ⟨⟨c0, c1, c2, c3, -⟩, -⟩ := HCE.out w1 hb1; clear hv0 hb1)
        go_region_held3 (fun w' => w'.cell? ⟨b, off + k * 4, none⟩ = some (.string (mkB c.name)))
          (first
            | exact c0
            | exact HJ.out)
          (first
            | (go_at_call 47; (with_reducible refine (HIX.out _ (drewE HB1.out)).mono ?_); rintro z w5 ⟨rfl, hb5⟩; have hbw := grow_trans (drewE HB1.out) hb5; have HJ := Lib.hid (HCE.out w5 hbw).1.c0; have x0 := (HCE.out w5 hbw).1.c0; have e6 := (HCE.out w5 hbw).2.c6; have e4 := (HCE.out w5 hbw).2.c4; have HBW := Lib.hid hbw; clear hb5 hbw; try dsimp only))
        all_goals go_wp2_with fail
        all_goals go_ret
        all_goals exact ⟨by rw [HF.out]; rfl, HBW.out⟩
  · have HF : Hid (oneE E (aloneC l k) = oneE E (lowC c).1) := show _ = _ by rw [HAL.out, if_pos hz]
    have HZ := Lib.hid hz
    clear hz
    go_enter Tryz.func23, Tryz.ntmps23
    go_wp2_with (first
      | (go_at_call 45; (with_reducible refine HCK.out.mono ?_); rintro y w1 ⟨v, rfl, hv, hb1, hv0⟩; obtain ⟨t9, x9, rfl⟩ := errIs_if hv (by have := HZ.out; omega); have HB1 := Lib.hid hb1; have HV := Lib.hid hv; clear hv0 hb1 hv)
      | (go_at_call 46; (with_reducible refine (HBA.out _ _ HB1.out HV.out HZ.out).mono ?_); rintro y w2 ⟨rfl, hb2⟩))
    go_ret
    exact ⟨by rw [HF.out]; rfl, grow_trans HB1.out hb2⟩
end Go.Proofs.YtonnhechjbdenaaGreatDoor

namespace Go.Proofs.YtonnhechjbdenaaGreatDoor
open Go.RowKit

/-! the calls of a code -/
theorem firstC_drop {α : Type} {f : α → Nat} {l : List α} {k : Nat} (h : k < l.length) : firstC f (l.drop k) = if f l[k] ≠ 0 then f l[k] else firstC f (l.drop (k + 1)) := by
  rw [List.drop_eq_getElem_cons h, firstC]
theorem callC_other {l : List PCd} {x : PLow} (h : x.kind ≠ kCall) : callC l x = 0 := by
  unfold callC
  rw [if_neg]
  intro e
  by_cases hz : kindN x.kind = 0
  · omega
  · rcases kind_casesE hz with h1 | h1 | h1 | h1 | h1 | h1 | h1 | h1 | h1 | h1 | h1 <;> first | exact h h1.1 | (have := h1.2; omega)
theorem callC_none {l : List PCd} {x : PLow} (h : x.kind = kCall) (hn : firstCd x.name l 0 < 0) : callC l x = 6 := by
  unfold callC
  rw [if_pos (by rw [h]; rfl)]
  split
  · rfl
  · rw [if_pos hn]
theorem callC_some {l : List PCd} {x : PLow} (h : x.kind = kCall) {k : Nat} (hn : firstCd x.name l 0 = k) (hk : k < l.length) : callC l x = if l[k].params ≠ x.num then 9 else 0 := by
  unfold callC
  rw [if_pos (by rw [h]; rfl), hn, Int.toNat_natCast, List.getElem?_eq_getElem hk]
  simp only
  rw [if_neg (by omega)]
set_option maxHeartbeats 8000000 in
set_option maxRecDepth 100000 in
theorem calls_any (E : Nat → Addr) (l : List PCd) (hl : l.length ≤ 1000) (A : Option Addr) (cl : Nat) (c : PCd) (Ac : Option Addr) (cc : Nat) (hn : c.blocks.length ≤ 100000) (hsm : ∀ b ∈ c.blocks, b.ins.length ≤ 25) (w : World) (hE : Laid E w) (hr : RdL w A l) (hc : RdC w Ac c.blocks) :
    Calls Tryz.prog 24 #[.slice A l.length cl, .agg #[.string (mkB c.name), .int .i64 c.params, .int .i64 c.slots, .slice Ac c.blocks.length cc]] w (Ret (oneE E (callsC l c)) w) := by
  obtain ⟨b0, hb0⟩ : ∃ b0, w.heap.size = b0 := ⟨_, rfl⟩
  obtain ⟨bx, hbx⟩ : ∃ bx, w.alloc (.cells #[.string (mkB c.name), .int .i64 c.params, .int .i64 c.slots, .slice Ac c.blocks.length cc] 32) = bx := ⟨_, rfl⟩
  have hb : Below w.heap.size w bx := by rw [← hbx]; exact grow_alloc (grow_refl _) _
  have hnb : bx.heap[b0]? = some (.cells #[.string (mkB c.name), .int .i64 c.params, .int .i64 c.slots, .slice Ac c.blocks.length cc] 32 (0, 0)) := by rw [← hbx, ← hb0]; exact heap_alloc_new w _
  obtain ⟨-, -, -, i3⟩ := row4A hnb
  have HBX := Lib.hid (And.intro hbx hb0)
  have HB := Lib.hid hb
  have HIN : Hid (∀ w', Below w.heap.size w w' → RdL w' A l ∧ RdC w' Ac c.blocks ∧ Laid E w') := fun w' hb' => ⟨hr.keep (Keeps.of_below hb'), hc.keep (Keeps.of_below hb'), hE.keep hb'⟩
  have HRC := Lib.hid hc
  have HSM := Lib.hid hsm
  have HIX : Hid (∀ n w', Below w.heap.size w w' → Calls Tryz.prog 47 #[.slice A l.length cl, .string (mkB n)] w' (Ret (.int .i64 (firstCd n l 0)) w')) := fun n w' hb' => eindex_any n l hl A cl w' (hr.keep (Keeps.of_below hb'))
  clear hb hnb hbx hb0 hr hc hE hsm
  go_enter Tryz.func24, Tryz.ntmps24
  go_upto_region 1 with fail
  change Code.wp _ _ _ _ (w.alloc (.cells #[.string (mkB c.name), .int .i64 c.params, .int .i64 c.slots, .slice Ac c.blocks.length cc] 32))
  rw [HBX.out.1, HBX.out.2]
  go_wp2_with fail
  go_loopw [6, 8, 9, 13, 20] (fun _ _ _ i _ wr => ∃ k : Nat, k ≤ c.blocks.length ∧ i = .int .i64 k ∧ callsC l c = firstC (fun b => firstC (callC l) b.ins) (c.blocks.drop k) ∧ Below w.heap.size w wr) (fun _ _ _ i _ _ => c.blocks.length - (intOf i).toNat)
  case atStart => exact ⟨0, Nat.zero_le _, rfl, rfl, HB.out⟩
  case round =>
    obtain ⟨k, hk, rfl, hI, hbel⟩ := hrel
    have HI := Lib.hid hI
    clear hI
    by_cases hlt : k < c.blocks.length
    · have hlt' : (k : Int) < (c.blocks.length : Int) := by omega
      have hk0 : (0 : Int) ≤ k := by omega
      obtain ⟨b, off, I, ic, N, nc, rfl, hB0⟩ := HRC.out k hlt
      obtain ⟨x, hx⟩ : ∃ x, c.blocks[k] = x := ⟨_, rfl⟩
      have HS := Lib.hid (firstC_drop (f := fun b => firstC (callC l) b.ins) hlt)
      rw [hx] at hB0 HS
      have hl25 := HSM.out x (hx ▸ List.getElem_mem hlt)
      have HRI : Hid (∀ w', Below w.heap.size w w' → Row w' I (x.ins.flatMap lowL)) := fun w' hb' => hB0.ins.keep (Keeps.of_below hb')
      obtain ⟨c0, c1, c2, c3, -, -⟩ := hB0.keep (Keeps.of_below hbel)
      obtain ⟨bq, hbq⟩ : ∃ bq, wr.heap.size = bq := ⟨_, rfl⟩
      obtain ⟨wB, hwB⟩ : ∃ wB, wr.alloc (.cells #[.slice I x.ins.length ic, .string (mkB x.fin), .int .i64 x.a, .slice N x.nx.length nc] 74) = wB := ⟨_, rfl⟩
      have hbB : Below wr.heap.size wr wB := by rw [← hwB]; exact grow_alloc (grow_refl _) _
      have hmB : wB.heap[bq]? = some (.cells #[.slice I x.ins.length ic, .string (mkB x.fin), .int .i64 x.a, .slice N x.nx.length nc] 74 (0, 0)) := by rw [← hwB, ← hbq]; exact heap_alloc_new wr _
      have HWB := Lib.hid (And.intro hwB hbq)
      have HMB := Lib.hid hmB
      have HBB := Lib.hid (grow_trans hbel hbB)
      have HLT := Lib.hid hlt
      clear hwB hbq hbB hmB hx hlt hbel hB0 hk
      go_upto_region 4 with fail
      rw [HWB.out.1, HWB.out.2]
      clear c0 c1 c2 c3
      obtain ⟨c0, c1, c2, c3⟩ := row4A HMB.out
      go_wp2_with fail
      go_loopw [8, 9, 20] (fun _ _ i wx => ∃ j : Nat, j ≤ x.ins.length ∧ i = .int .i64 j ∧ firstC (callC l) x.ins = firstC (callC l) (x.ins.drop j) ∧ Below w.heap.size w wx) (fun _ _ i _ => x.ins.length - (intOf i).toNat)
      case atStart => exact ⟨0, Nat.zero_le _, rfl, rfl, HBB.out⟩
      case round =>
        obtain ⟨j, hj, rfl, hJ, hbx⟩ := hrel
        have HJ := Lib.hid hJ
        clear hJ
        by_cases hlt : j < x.ins.length
        · have hlt' : (j : Int) < (x.ins.length : Int) := by omega
          have hj0 : (0 : Int) ≤ j := by omega
          obtain ⟨b5, off5, rfl, hL5⟩ := low_cells (HRI.out _ hbx) hlt
          obtain ⟨l0, l1, l2, l3, l4, l5⟩ := hL5
          have HT := Lib.hid (firstC_drop (f := callC l) hlt)
          obtain ⟨y, hy⟩ : ∃ y, x.ins[j] = y := ⟨_, rfl⟩
          rw [hy] at l0 l1 l2 l3 l4 l5 HT
          obtain ⟨q2, hq2⟩ : ∃ q2, wr.heap.size = q2 := ⟨_, rfl⟩
          obtain ⟨wL, hwL⟩ : ∃ wL, wr.alloc (.cells #[.string (mkB y.kind), .int .i64 y.d, .int .i64 y.a, .int .i64 y.b, .int .i64 y.num, .string (mkB y.name)] 71) = wL := ⟨_, rfl⟩
          have hbL : Below wr.heap.size wr wL := by rw [← hwL]; exact grow_alloc (grow_refl _) _
          have hmL : wL.heap[q2]? = some (.cells #[.string (mkB y.kind), .int .i64 y.d, .int .i64 y.a, .int .i64 y.b, .int .i64 y.num, .string (mkB y.name)] 71 (0, 0)) := by rw [← hwL, ← hq2]; exact heap_alloc_new wr _
          have HWL := Lib.hid (And.intro hwL hq2)
          have HBL := Lib.hid (grow_trans hbx hbL)
          have HKL : Hid (∀ w', Below wL.heap.size wL w' → w'.heap[q2]? = some (.cells #[.string (mkB y.kind), .int .i64 y.d, .int .i64 y.a, .int .i64 y.b, .int .i64 y.num, .string (mkB y.name)] 71 (0, 0))) := fun w' hb' => (hb'.block _ (Array.getElem?_eq_some_iff.1 hmL).1).trans hmL
          have HLT2 := Lib.hid hlt
          have HNX : Hid (callC l y = 0 → firstC (callC l) x.ins = firstC (callC l) (x.ins.drop (j + 1))) := fun h0 => by rw [HJ.out, HT.out, if_neg (by simp [h0])]
          have HBAD : Hid (callC l y ≠ 0 → callsC l c = callC l y) := fun h0 => by
            have h1 : firstC (callC l) x.ins = callC l y := by rw [HJ.out, HT.out, if_pos h0]
            rw [HI.out, HS.out, if_pos (by rw [h1]; exact h0), h1]
          clear hwL hq2 hbL hmL hbx hlt hy hj
          go_upto_region 7 with fail
          rw [HWL.out.1, HWL.out.2]
          clear l0 l1 l2 l3 l4 l5
          obtain ⟨l0, l1, l2, l3, l4, l5⟩ := row6E (HKL.out wL (grow_refl _))
          by_cases hkc : y.kind = kCall
          · have hkb : ((mkB y.kind).toList != [99, 97, 108, 108]) = false := by rw [mkB_toList, hkc]; rfl
            have hkb2 : ((mkB y.kind).toList == [99, 97, 108, 108]) = true := by rw [mkB_toList, hkc]; rfl
            obtain ⟨fi, hfi⟩ : ∃ z, firstCd y.name l 0 = z := ⟨_, rfl⟩
            have HIY := Lib.hid (HIX.out y.name wL HBL.out)
            rw [hfi] at HIY
            by_cases hneg : fi < 0
            · have HF : Hid (oneE E (callsC l c) = esV (E 5)) := show _ = _ by rw [HBAD.out (by rw [callC_none hkc (by rw [hfi]; exact hneg)]; decide), callC_none hkc (by rw [hfi]; exact hneg)]; rfl
              clear hkc hfi
              go_wp2_with (go_at_call 47; (with_reducible refine HIY.out.mono ?_); rintro z w5 ⟨rfl, hb5⟩; have hbw := grow_trans HBL.out hb5; have e5 := (HIN.out w5 hbw).2.2.c5; have HBW := Lib.hid hbw; clear hb5 hbw)
              go_ret
              exact ⟨by rw [HF.out]; rfl, HBW.out⟩
            · obtain ⟨m, rfl⟩ : ∃ m : Nat, fi = m := ⟨fi.toNat, by omega⟩
              have hml : m < l.length := by
                rcases firstCd_range y.name l 0 with h | h
                · omega
                · omega
              have hm0 : (0 : Int) ≤ m := by omega
              have hm1 : (m : Int) < (l.length : Int) := by omega
              have HCS := Lib.hid (callC_some hkc hfi hml)
              obtain ⟨pm, hpm⟩ : ∃ z, l[m].params = z := ⟨_, rfl⟩
              rw [hpm] at HCS
              have HLM : Hid (∀ w', Below w.heap.size w w' → ∃ b7 off7, A = some ⟨b7, off7, none⟩ ∧ w'.cell? ⟨b7, off7 + m * 4 + 1, none⟩ = some (.int .i64 pm)) := fun w' hb' => by
                obtain ⟨b7, off7, Ai, ci, e, hca⟩ := (HIN.out w' hb').1 m hml
                exact ⟨b7, off7, e, by rw [← hpm]; exact hca.c1⟩
              clear hkc hfi hpm
              by_cases hpe : pm = y.num
              · have HN := Lib.hid (HNX.out (by rw [HCS.out, if_neg (by simpa using hpe)]))
                have hpb : (pm != y.num) = false := by rw [hpe]; simp
                clear hpe
                go_upto_region 11 with (go_at_call 47; (with_reducible refine HIY.out.mono ?_); rintro z w5 ⟨rfl, hb5⟩; have hbw := grow_trans HBL.out hb5; obtain ⟨b7, off7, rfl, p1⟩ := HLM.out w5 hbw; obtain ⟨l0, l1, l2, l3, l4, l5⟩ := row6E (HKL.out w5 hb5); have HBW := Lib.hid hbw; clear hb5 hbw)
                go_region
                go_wp2_with fail
                go_roundw
                case rel => exact ⟨j + 1, by have := HLT2.out; omega, by go_num, HN.out, drewE HBW.out⟩
                case measure => have := HLT2.out; simp [intOf]; omega
              · have HF : Hid (oneE E (callsC l c) = esV (E 8)) := show _ = _ by rw [HBAD.out (by rw [HCS.out, if_pos hpe]; decide), HCS.out, if_pos hpe]; rfl
                have hpb : (pm != y.num) = true := by simpa using hpe
                clear hpe
                go_upto_region 11 with (go_at_call 47; (with_reducible refine HIY.out.mono ?_); rintro z w5 ⟨rfl, hb5⟩; have hbw := grow_trans HBL.out hb5; obtain ⟨b7, off7, rfl, p1⟩ := HLM.out w5 hbw; obtain ⟨l0, l1, l2, l3, l4, l5⟩ := row6E (HKL.out w5 hb5); have e8 : w5.drew.cell? ⟨4, 0, none⟩ = some (esV (E 8)) := (HIN.out w5 hbw).2.2.c8; have HBW := Lib.hid hbw; clear hb5 hbw)
                go_region
                go_wp2_with fail
                go_ret
                exact ⟨by rw [HF.out]; rfl, drewE HBW.out⟩
          · have hkb : ((mkB y.kind).toList != [99, 97, 108, 108]) = true := by rw [mkB_toList]; exact bne_iff_ne.2 hkc
            have hkb2 : ((mkB y.kind).toList == [99, 97, 108, 108]) = false := by rw [mkB_toList]; exact beq_eq_false_iff_ne.2 hkc
            have HN := Lib.hid (HNX.out (callC_other hkc))
            clear hkc
            go_wp2_with fail
            go_roundw
            case rel => exact ⟨j + 1, by have := HLT2.out; omega, by go_num, HN.out, HBL.out⟩
            case measure => have := HLT2.out; simp [intOf]; omega
        · have hj' : j = x.ins.length := by omega
          subst hj'
          have HN : Hid (callsC l c = firstC (fun b => firstC (callC l) b.ins) (c.blocks.drop (k + 1))) := show _ = _ by
            have h0 : firstC (callC l) x.ins = 0 := by rw [HJ.out, List.drop_length]; rfl
            rw [HI.out, HS.out, if_neg (by rw [h0]; decide)]
          have HBX2 := Lib.hid hbx
          clear hlt hbx
          go_wp2_with fail
          go_roundw
          case rel => exact ⟨k + 1, by have := HLT.out; omega, by go_num, HN.out, HBX2.out⟩
          case measure => have := HLT.out; simp [intOf]; omega
    · have hk' : k = c.blocks.length := by omega
      subst hk'
      have HF : Hid (oneE E (callsC l c) = .nilIface) := show _ = _ by rw [HI.out, List.drop_length]; rfl
      go_wp2_with fail
      go_ret
      exact ⟨by rw [HF.out]; rfl, hbel⟩
end Go.Proofs.YtonnhechjbdenaaGreatDoor
