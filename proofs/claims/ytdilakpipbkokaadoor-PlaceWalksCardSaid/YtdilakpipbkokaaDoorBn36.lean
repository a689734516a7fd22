import Derived.Test.YtdilakpipbkokaaDoorBn35
import Derived.Test.YtdilakpipbkokaaDoorBn15
import Derived.Test.YtdilakpipbkokaaDoorBn22
set_option linter.unusedVariables false
set_option linter.unusedSimpArgs false
namespace Go.Proofs.YtdilakpipbkokaaDoor
open Go.RowKit

/-! codes that are too large for a statement (printed by gen_pllg.py) -/
def LgP (c : PCo) (w : World) : Ending → World → Prop := fun e w' => ∃ b : Bool, e = .returned (.int .i64 (bit01 b)) ∧ (b = false → (∀ x ∈ c.blocks, PSm x) ∧ c.blocks.length ≤ 1001) ∧ Below w.heap.size w w'
theorem LgP.one {c : PCo} {w w' : World} {e : Ending} (he : e = .returned (.int .i64 1)) (hb : Below w.heap.size w w') : LgP c w e w' := ⟨true, he, fun h => (by cases h), hb⟩
set_option maxHeartbeats 8000000 in
set_option maxRecDepth 100000 in
theorem LargeCode_any (c : PCo) (hn : c.blocks.length ≤ maxLen) (A : Option Addr) (ca : Nat) (w : World) (hr : RdP w c.blocks A) :
    Calls Tryd.prog 5 #[coV c A ca] w (LgP c w) := by
  obtain ⟨cb, hcb⟩ : ∃ cb, w.heap.size = cb := ⟨_, rfl⟩
  obtain ⟨wA, hwA⟩ : ∃ wA, w.alloc (.cells #[.string (mkB c.name), .int .i64 c.params, .int .i64 c.values, .slice A c.blocks.length ca] 24) = wA := ⟨_, rfl⟩
  have hbA : Below w.heap.size w wA := by rw [← hwA]; exact grow_alloc (grow_refl _) _
  have hmA : wA.heap[cb]? = some (.cells #[.string (mkB c.name), .int .i64 c.params, .int .i64 c.values, .slice A c.blocks.length ca] 24 (0, 0)) := by rw [← hwA, ← hcb]; exact heap_alloc_new w _
  have HX : Hid (∀ w', Below wA.heap.size wA w' → (w'.cell? ⟨cb, 0, none⟩ = some (.string (mkB c.name)) ∧ w'.cell? ⟨cb, 1, none⟩ = some (.int .i64 c.params) ∧ w'.cell? ⟨cb, 2, none⟩ = some (.int .i64 c.values) ∧ w'.cell? ⟨cb, 3, none⟩ = some (.slice A c.blocks.length ca)) ∧ RdP w' c.blocks A ∧ Below w.heap.size w w') := fun w' hb =>
    ⟨row4B ((hb.block _ (Array.getElem?_eq_some_iff.1 hmA).1).trans hmA), hr.keep (Keeps.of_below (grow_trans hbA hb)), grow_trans hbA hb⟩
  have HWA := Lib.hid hwA
  have HCB := Lib.hid hcb
  obtain ⟨Q, hQ⟩ : ∃ Q, LgP c w = Q := ⟨_, rfl⟩
  have HQ := Lib.hid hQ
  obtain ⟨⟨i0, i1, i2, i3⟩, -, -⟩ := HX.out wA (grow_refl _)
  rw [hQ]
  unfold coV
  clear hr hwA hbA hmA hcb hQ
  rcases Classical.em ((20 : Int) < (c.blocks.length : Int)) with q1 | q1
  · by_cases h3 : c.blocks.length = 1001
    · have q3 : ((c.blocks.length : Int) != 1001) = false := by rw [h3]; rfl
      have q3' : ((c.blocks.length : Int) == 1001) = true := by rw [h3]; rfl
      have HN : Hid (c.blocks.length ≤ 1001) := show _ ≤ _ by omega
      clear h3
      have hlen : c.blocks.length ≤ 100000 := by have := HN.out; omega
      go_enter Tryd.func5, Tryd.ntmps5
      go_upto_region 1 with fail
      change Code.wp _ _ _ _ (w.alloc (.cells #[.string (mkB c.name), .int .i64 c.params, .int .i64 c.values, .slice A c.blocks.length ca] 24))
      rw [HWA.out, HCB.out]
      go_wp2_with fail
      go_loopw [3, 4, 5, 6] (fun ii _ _ _ wr => ∃ k : Nat, k ≤ c.blocks.length ∧ ii = .int .i64 k ∧ (∀ m (hm : m < c.blocks.length), m < k → PSm c.blocks[m]) ∧ Below wA.heap.size wA wr) (fun ii _ _ _ _ => c.blocks.length - (intOf ii).toNat)
      case atStart => exact ⟨0, Nat.zero_le _, rfl, fun m _ h => absurd h (Nat.not_lt_zero _), grow_refl _⟩
      case round =>
        obtain ⟨k, hk, rfl, hdn, hbel⟩ := hrel
        have HDN := Lib.hid hdn
        clear hdn i0 i1 i2 i3
        obtain ⟨⟨i0, i1, i2, i3⟩, hrr, hbw⟩ := HX.out wr hbel
        by_cases hlt : k < c.blocks.length
        · have hlt' : (k : Int) < (c.blocks.length : Int) := by omega
          have hk0 : (0 : Int) ≤ (k : Int) := by omega
          obtain ⟨b8, off8, P, p, I, i, T, t, W, wc, rfl, hB⟩ := bks_at hrr hlt
          obtain ⟨x, hx⟩ : ∃ x, c.blocks[k] = x := ⟨_, rfl⟩
          rw [hx] at hB
          obtain ⟨b0, b1, b2, b3, b4, b5, r1, r2, r3, r4⟩ := hB
          obtain ⟨q, hq⟩ : ∃ q, wr.heap.size = q := ⟨_, rfl⟩
          obtain ⟨wB, hwB⟩ : ∃ wB, wr.alloc (.cells #[.slice P x.params.length p, .slice I x.ins.length i, .string (mkB x.fin), .int .i64 x.v, .slice T x.nx.length t, .slice W x.wth.length wc] 60) = wB := ⟨_, rfl⟩
          have hbB : Below wr.heap.size wr wB := by rw [← hwB]; exact grow_alloc (grow_refl _) _
          have hmB : wB.heap[q]? = some (.cells #[.slice P x.params.length p, .slice I x.ins.length i, .string (mkB x.fin), .int .i64 x.v, .slice T x.nx.length t, .slice W x.wth.length wc] 60 (0, 0)) := by rw [← hwB, ← hq]; exact heap_alloc_new wr _
          have HRW : Hid (BkRows wB x P I T W) := BkRows.keep ⟨r1, r2, r3, r4⟩ (Keeps.of_below hbB)
          have HQL : Hid (q < wB.heap.size) := (Array.getElem?_eq_some_iff.1 hmB).1
          have HXE := Lib.hid hx
          have HMB := Lib.hid hmB
          have HWB := Lib.hid hwB
          have HQ2 := Lib.hid hq
          have HBB := Lib.hid (grow_trans hbel hbB)
          have hs0 : (mkB x.fin).size = x.fin.length := rfl
          clear hwB hmB hbB hrr hx hq r1 r2 r3 r4 hbw hbel
          go_upto_region 7 with fail
          try change Code.wp _ _ _ _ (wr.alloc (.cells #[.slice P x.params.length p, .slice I x.ins.length i, .string (mkB x.fin), .int .i64 x.v, .slice T x.nx.length t, .slice W x.wth.length wc] 60))
          rw [HQ2.out, HWB.out]
          clear b0 b1 b2 b3 b4 b5 i0 i1 i2 i3
          obtain ⟨b0, b1, b2, b3, b4, b5⟩ := row6B HMB.out
          obtain ⟨⟨i0, i1, i2, i3⟩, -, -⟩ := HX.out wB HBB.out
          rcases Classical.em ((20 : Int) < (x.ins.length : Int)) with g0 | g0
          · go_wp2_with fail
            rw [← HQ.out]
            exact LgP.one rfl (HX.out _ HBB.out).2.2
          · rcases Classical.em ((10 : Int) < (x.params.length : Int)) with g1 | g1
            · go_wp2_with fail
              rw [← HQ.out]
              exact LgP.one rfl (HX.out _ HBB.out).2.2
            · rcases Classical.em ((4 : Int) < (x.nx.length : Int)) with g2 | g2
              · go_wp2_with fail
                rw [← HQ.out]
                exact LgP.one rfl (HX.out _ HBB.out).2.2
              · rcases Classical.em ((4 : Int) < (x.wth.length : Int)) with g3 | g3
                · go_wp2_with fail
                  rw [← HQ.out]
                  exact LgP.one rfl (HX.out _ HBB.out).2.2
                · rcases Classical.em ((20 : Int) < (x.fin.length : Int)) with g4 | g4
                  · go_wp2_with fail
                    rw [← HQ.out]
                    exact LgP.one rfl (HX.out _ HBB.out).2.2
                  · have HSM0 : Hid (x.ins.length ≤ 20 ∧ x.params.length ≤ 10 ∧ x.nx.length ≤ 4 ∧ x.wth.length ≤ 4 ∧ x.fin.length ≤ 20) := ⟨by omega, by omega, by omega, by omega, by omega⟩
                    have hl20 : x.ins.length ≤ 20 := by omega
                    have hw4 : x.wth.length ≤ 4 := by omega
                    go_wp2_with fail
                    go_loopw [5] (fun j wf => ∃ n : Nat, n ≤ x.ins.length ∧ j = .int .i64 n ∧ (∀ m (hm : m < x.ins.length), m < n → x.ins[m].args.length ≤ 8 ∧ x.ins[m].kind.length ≤ 20 ∧ x.ins[m].name.length ≤ 20) ∧ Below wB.heap.size wB wf) (fun j _ => x.ins.length - (intOf j).toNat)
                    case atStart => exact ⟨0, Nat.zero_le _, rfl, fun m _ h => absurd h (Nat.not_lt_zero _), grow_refl _⟩
                    case round =>
                      obtain ⟨n, hn, rfl, hal, hbf2⟩ := hrel
                      have HAL := Lib.hid hal
                      have hbf := grow_trans HBB.out hbf2
                      have HBF2 := Lib.hid hbf2
                      clear hal b0 b1 b2 b3 b4 b5
                      obtain ⟨b0, b1, b2, b3, b4, b5⟩ := row6B ((hbf2.block q HQL.out).trans HMB.out)
                      by_cases hlt2 : n < x.ins.length
                      · have hlt2' : (n : Int) < (x.ins.length : Int) := by omega
                        have hn0 : (0 : Int) ≤ (n : Int) := by omega
                        obtain ⟨b9, off9, A5, c5, rfl, hy9⟩ := ins_at (HRW.out.ins.keep (Keeps.of_below hbf2) fun _ _ => GoodI.keep (Keeps.of_below hbf2)) hlt2
                        obtain ⟨y, hy⟩ : ∃ y, x.ins[n] = y := ⟨_, rfl⟩
                        rw [hy] at hy9
                        obtain ⟨c0, c1, c2, c3, c4, -⟩ := hy9
                        have HY := Lib.hid hy
                        have hs1 : (mkB y.kind).size = y.kind.length := rfl
                        have hs2 : (mkB y.name).size = y.name.length := rfl
                        clear hy
                        rcases Classical.em ((8 : Int) < (y.args.length : Int)) with f1 | f1
                        · go_wp2_with fail
                          rw [← HQ.out]
                          exact LgP.one rfl (HX.out _ hbf).2.2
                        · rcases Classical.em ((20 : Int) < (y.kind.length : Int)) with f2 | f2
                          · go_wp2_with fail
                            rw [← HQ.out]
                            exact LgP.one rfl (HX.out _ hbf).2.2
                          · rcases Classical.em ((20 : Int) < (y.name.length : Int)) with f3 | f3
                            · go_wp2_with fail
                              rw [← HQ.out]
                              exact LgP.one rfl (HX.out _ hbf).2.2
                            · have HA2 : Hid (∀ m (hm : m < x.ins.length), m < n + 1 → x.ins[m].args.length ≤ 8 ∧ x.ins[m].kind.length ≤ 20 ∧ x.ins[m].name.length ≤ 20) := fun m hm h => by
                                by_cases e : m = n
                                · subst e; rw [HY.out]; exact ⟨by omega, by omega, by omega⟩
                                · exact HAL.out m hm (by omega)
                              go_wp2_with fail
                              go_roundw
                              case rel => exact ⟨n + 1, by omega, by go_num, HA2.out, HBF2.out⟩
                              case measure => simp [intOf]; omega
                      · have hn' : n = x.ins.length := by omega
                        have HALL : Hid (∀ y ∈ x.ins, y.args.length ≤ 8 ∧ y.kind.length ≤ 20 ∧ y.name.length ≤ 20) := fun y hy => by
                          obtain ⟨m, hm, rfl⟩ := List.mem_iff_getElem.1 hy
                          exact HAL.out m hm (by omega)
                        subst hn'
                        clear hlt2
                        go_wp2_with fail
                        go_loopw [6] (fun j wf => ∃ n : Nat, n ≤ x.wth.length ∧ j = .int .i64 n ∧ (∀ m (hm : m < x.wth.length), m < n → x.wth[m].length ≤ 12) ∧ Below wB.heap.size wB wf) (fun j _ => x.wth.length - (intOf j).toNat)
                        case atStart => exact ⟨0, Nat.zero_le _, rfl, fun m _ h => absurd h (Nat.not_lt_zero _), HBF2.out⟩
                        case round =>
                          obtain ⟨n, hn, rfl, hal, hbf2⟩ := hrel
                          have HAL := Lib.hid hal
                          have hbf := grow_trans HBB.out hbf2
                          clear hal b0 b1 b2 b3 b4 b5
                          obtain ⟨b0, b1, b2, b3, b4, b5⟩ := row6B ((hbf2.block q HQL.out).trans HMB.out)
                          by_cases hlt2 : n < x.wth.length
                          · have hlt2' : (n : Int) < (x.wth.length : Int) := by omega
                            have hn0 : (0 : Int) ≤ (n : Int) := by omega
                            obtain ⟨b9, off9, A5, c5, rfl, hy9, -⟩ := wth_at (HRW.out.wth.keep (Keeps.of_below hbf2) fun _ _ => GoodL.keep (Keeps.of_below hbf2)) hlt2
                            obtain ⟨L, hL⟩ : ∃ L, x.wth[n].length = L := ⟨_, rfl⟩
                            rw [hL] at hy9
                            have HL := Lib.hid hL
                            clear hL
                            rcases Classical.em ((12 : Int) < (L : Int)) with f1 | f1
                            · go_wp2_with fail
                              rw [← HQ.out]
                              exact LgP.one rfl (HX.out _ hbf).2.2
                            · have HA2 : Hid (∀ m (hm : m < x.wth.length), m < n + 1 → x.wth[m].length ≤ 12) := fun m hm h => by
                                by_cases e : m = n
                                · subst e; rw [HL.out]; omega
                                · exact HAL.out m hm (by omega)
                              go_wp2_with fail
                              go_roundw
                              case rel => exact ⟨n + 1, by omega, by go_num, HA2.out, hbf2⟩
                              case measure => simp [intOf]; omega
                          · have hn' : n = x.wth.length := by omega
                            have HPS : Hid (PSm x) := ⟨HSM0.out.1, HSM0.out.2.1, HSM0.out.2.2.1, HSM0.out.2.2.2.1, HSM0.out.2.2.2.2, HALL.out, fun l hl => by
                              obtain ⟨m, hm, rfl⟩ := List.mem_iff_getElem.1 hl
                              exact HAL.out m hm (by omega)⟩
                            have HA3 : Hid (∀ m (hm : m < c.blocks.length), m < k + 1 → PSm c.blocks[m]) := fun m hm h => by
                              by_cases e : m = k
                              · subst e; rw [HXE.out]; exact HPS.out
                              · exact HDN.out m hm (by omega)
                            subst hn'
                            clear hlt2
                            go_wp2_with fail
                            go_roundw
                            case rel => exact ⟨k + 1, by omega, by go_num, HA3.out, hbf⟩
                            case measure => simp [intOf]; omega
        · have hk' : k = c.blocks.length := by omega
          have HALL : Hid (∀ x ∈ c.blocks, PSm x) := fun x hx => by
            obtain ⟨m, hm, rfl⟩ := List.mem_iff_getElem.1 hx
            exact HDN.out m hm (by omega)
          subst hk'
          have HBW := Lib.hid hbw
          clear hrr hbw
          go_wp2_with fail
          rw [← HQ.out]
          exact ⟨false, rfl, fun _ => ⟨HALL.out, HN.out⟩, HBW.out⟩
    · have q3 : ((c.blocks.length : Int) != 1001) = true := by rw [bne, beq_eq_false_iff_ne.2 (by omega)]; rfl
      have q3' : ((c.blocks.length : Int) == 1001) = false := beq_eq_false_iff_ne.2 (by omega)
      clear h3
      go_enter Tryd.func5, Tryd.ntmps5
      go_upto_region 1 with fail
      change Code.wp _ _ _ _ (w.alloc (.cells #[.string (mkB c.name), .int .i64 c.params, .int .i64 c.values, .slice A c.blocks.length ca] 24))
      rw [HWA.out, HCB.out]
      go_wp2_with fail
      rw [← HQ.out]
      exact LgP.one rfl (HX.out _ (grow_refl _)).2.2
  · have HN : Hid (c.blocks.length ≤ 1001) := show _ ≤ _ by omega
    have hlen : c.blocks.length ≤ 100000 := by have := HN.out; omega
    go_enter Tryd.func5, Tryd.ntmps5
    go_upto_region 1 with fail
    change Code.wp _ _ _ _ (w.alloc (.cells #[.string (mkB c.name), .int .i64 c.params, .int .i64 c.values, .slice A c.blocks.length ca] 24))
    rw [HWA.out, HCB.out]
    go_wp2_with fail
    go_loopw [3, 4, 5, 6] (fun ii _ _ _ wr => ∃ k : Nat, k ≤ c.blocks.length ∧ ii = .int .i64 k ∧ (∀ m (hm : m < c.blocks.length), m < k → PSm c.blocks[m]) ∧ Below wA.heap.size wA wr) (fun ii _ _ _ _ => c.blocks.length - (intOf ii).toNat)
    case atStart => exact ⟨0, Nat.zero_le _, rfl, fun m _ h => absurd h (Nat.not_lt_zero _), grow_refl _⟩
    case round =>
      obtain ⟨k, hk, rfl, hdn, hbel⟩ := hrel
      have HDN := Lib.hid hdn
      clear hdn i0 i1 i2 i3
      obtain ⟨⟨i0, i1, i2, i3⟩, hrr, hbw⟩ := HX.out wr hbel
      by_cases hlt : k < c.blocks.length
      · have hlt' : (k : Int) < (c.blocks.length : Int) := by omega
        have hk0 : (0 : Int) ≤ (k : Int) := by omega
        obtain ⟨b8, off8, P, p, I, i, T, t, W, wc, rfl, hB⟩ := bks_at hrr hlt
        obtain ⟨x, hx⟩ : ∃ x, c.blocks[k] = x := ⟨_, rfl⟩
        rw [hx] at hB
        obtain ⟨b0, b1, b2, b3, b4, b5, r1, r2, r3, r4⟩ := hB
        obtain ⟨q, hq⟩ : ∃ q, wr.heap.size = q := ⟨_, rfl⟩
        obtain ⟨wB, hwB⟩ : ∃ wB, wr.alloc (.cells #[.slice P x.params.length p, .slice I x.ins.length i, .string (mkB x.fin), .int .i64 x.v, .slice T x.nx.length t, .slice W x.wth.length wc] 60) = wB := ⟨_, rfl⟩
        have hbB : Below wr.heap.size wr wB := by rw [← hwB]; exact grow_alloc (grow_refl _) _
        have hmB : wB.heap[q]? = some (.cells #[.slice P x.params.length p, .slice I x.ins.length i, .string (mkB x.fin), .int .i64 x.v, .slice T x.nx.length t, .slice W x.wth.length wc] 60 (0, 0)) := by rw [← hwB, ← hq]; exact heap_alloc_new wr _
        have HRW : Hid (BkRows wB x P I T W) := BkRows.keep ⟨r1, r2, r3, r4⟩ (Keeps.of_below hbB)
        have HQL : Hid (q < wB.heap.size) := (Array.getElem?_eq_some_iff.1 hmB).1
        have HXE := Lib.hid hx
        have HMB := Lib.hid hmB
        have HWB := Lib.hid hwB
        have HQ2 := Lib.hid hq
        have HBB := Lib.hid (grow_trans hbel hbB)
        have hs0 : (mkB x.fin).size = x.fin.length := rfl
        clear hwB hmB hbB hrr hx hq r1 r2 r3 r4 hbw hbel
        go_upto_region 7 with fail
        try change Code.wp _ _ _ _ (wr.alloc (.cells #[.slice P x.params.length p, .slice I x.ins.length i, .string (mkB x.fin), .int .i64 x.v, .slice T x.nx.length t, .slice W x.wth.length wc] 60))
        rw [HQ2.out, HWB.out]
        clear b0 b1 b2 b3 b4 b5 i0 i1 i2 i3
        obtain ⟨b0, b1, b2, b3, b4, b5⟩ := row6B HMB.out
        obtain ⟨⟨i0, i1, i2, i3⟩, -, -⟩ := HX.out wB HBB.out
        rcases Classical.em ((20 : Int) < (x.ins.length : Int)) with g0 | g0
        · go_wp2_with fail
          rw [← HQ.out]
          exact LgP.one rfl (HX.out _ HBB.out).2.2
        · rcases Classical.em ((10 : Int) < (x.params.length : Int)) with g1 | g1
          · go_wp2_with fail
            rw [← HQ.out]
            exact LgP.one rfl (HX.out _ HBB.out).2.2
          · rcases Classical.em ((4 : Int) < (x.nx.length : Int)) with g2 | g2
            · go_wp2_with fail
              rw [← HQ.out]
              exact LgP.one rfl (HX.out _ HBB.out).2.2
            · rcases Classical.em ((4 : Int) < (x.wth.length : Int)) with g3 | g3
              · go_wp2_with fail
                rw [← HQ.out]
                exact LgP.one rfl (HX.out _ HBB.out).2.2
              · rcases Classical.em ((20 : Int) < (x.fin.length : Int)) with g4 | g4
                · go_wp2_with fail
                  rw [← HQ.out]
                  exact LgP.one rfl (HX.out _ HBB.out).2.2
                · have HSM0 : Hid (x.ins.length ≤ 20 ∧ x.params.length ≤ 10 ∧ x.nx.length ≤ 4 ∧ x.wth.length ≤ 4 ∧ x.fin.length ≤ 20) := ⟨by omega, by omega, by omega, by omega, by omega⟩
                  have hl20 : x.ins.length ≤ 20 := by omega
                  have hw4 : x.wth.length ≤ 4 := by omega
                  go_wp2_with fail
                  go_loopw [5] (fun j wf => ∃ n : Nat, n ≤ x.ins.length ∧ j = .int .i64 n ∧ (∀ m (hm : m < x.ins.length), m < n → x.ins[m].args.length ≤ 8 ∧ x.ins[m].kind.length ≤ 20 ∧ x.ins[m].name.length ≤ 20) ∧ Below wB.heap.size wB wf) (fun j _ => x.ins.length - (intOf j).toNat)
                  case atStart => exact ⟨0, Nat.zero_le _, rfl, fun m _ h => absurd h (Nat.not_lt_zero _), grow_refl _⟩
                  case round =>
                    obtain ⟨n, hn, rfl, hal, hbf2⟩ := hrel
                    have HAL := Lib.hid hal
                    have hbf := grow_trans HBB.out hbf2
                    have HBF2 := Lib.hid hbf2
                    clear hal b0 b1 b2 b3 b4 b5
                    obtain ⟨b0, b1, b2, b3, b4, b5⟩ := row6B ((hbf2.block q HQL.out).trans HMB.out)
                    by_cases hlt2 : n < x.ins.length
                    · have hlt2' : (n : Int) < (x.ins.length : Int) := by omega
                      have hn0 : (0 : Int) ≤ (n : Int) := by omega
                      obtain ⟨b9, off9, A5, c5, rfl, hy9⟩ := ins_at (HRW.out.ins.keep (Keeps.of_below hbf2) fun _ _ => GoodI.keep (Keeps.of_below hbf2)) hlt2
                      obtain ⟨y, hy⟩ : ∃ y, x.ins[n] = y := ⟨_, rfl⟩
                      rw [hy] at hy9
                      obtain ⟨c0, c1, c2, c3, c4, -⟩ := hy9
                      have HY := Lib.hid hy
                      have hs1 : (mkB y.kind).size = y.kind.length := rfl
                      have hs2 : (mkB y.name).size = y.name.length := rfl
                      clear hy
                      rcases Classical.em ((8 : Int) < (y.args.length : Int)) with f1 | f1
                      · go_wp2_with fail
                        rw [← HQ.out]
                        exact LgP.one rfl (HX.out _ hbf).2.2
                      · rcases Classical.em ((20 : Int) < (y.kind.length : Int)) with f2 | f2
                        · go_wp2_with fail
                          rw [← HQ.out]
                          exact LgP.one rfl (HX.out _ hbf).2.2
                        · rcases Classical.em ((20 : Int) < (y.name.length : Int)) with f3 | f3
                          · go_wp2_with fail
                            rw [← HQ.out]
                            exact LgP.one rfl (HX.out _ hbf).2.2
                          · have HA2 : Hid (∀ m (hm : m < x.ins.length), m < n + 1 → x.ins[m].args.length ≤ 8 ∧ x.ins[m].kind.length ≤ 20 ∧ x.ins[m].name.length ≤ 20) := fun m hm h => by
                              by_cases e : m = n
                              · subst e; rw [HY.out]; exact ⟨by omega, by omega, by omega⟩
                              · exact HAL.out m hm (by omega)
                            go_wp2_with fail
                            go_roundw
                            case rel => exact ⟨n + 1, by omega, by go_num, HA2.out, HBF2.out⟩
                            case measure => simp [intOf]; omega
                    · have hn' : n = x.ins.length := by omega
                      have HALL : Hid (∀ y ∈ x.ins, y.args.length ≤ 8 ∧ y.kind.length ≤ 20 ∧ y.name.length ≤ 20) := fun y hy => by
                        obtain ⟨m, hm, rfl⟩ := List.mem_iff_getElem.1 hy
                        exact HAL.out m hm (by omega)
                      subst hn'
                      clear hlt2
                      go_wp2_with fail
                      go_loopw [6] (fun j wf => ∃ n : Nat, n ≤ x.wth.length ∧ j = .int .i64 n ∧ (∀ m (hm : m < x.wth.length), m < n → x.wth[m].length ≤ 12) ∧ Below wB.heap.size wB wf) (fun j _ => x.wth.length - (intOf j).toNat)
                      case atStart => exact ⟨0, Nat.zero_le _, rfl, fun m _ h => absurd h (Nat.not_lt_zero _), HBF2.out⟩
                      case round =>
                        obtain ⟨n, hn, rfl, hal, hbf2⟩ := hrel
                        have HAL := Lib.hid hal
                        have hbf := grow_trans HBB.out hbf2
                        clear hal b0 b1 b2 b3 b4 b5
                        obtain ⟨b0, b1, b2, b3, b4, b5⟩ := row6B ((hbf2.block q HQL.out).trans HMB.out)
                        by_cases hlt2 : n < x.wth.length
                        · have hlt2' : (n : Int) < (x.wth.length : Int) := by omega
                          have hn0 : (0 : Int) ≤ (n : Int) := by omega
                          obtain ⟨b9, off9, A5, c5, rfl, hy9, -⟩ := wth_at (HRW.out.wth.keep (Keeps.of_below hbf2) fun _ _ => GoodL.keep (Keeps.of_below hbf2)) hlt2
                          obtain ⟨L, hL⟩ : ∃ L, x.wth[n].length = L := ⟨_, rfl⟩
                          rw [hL] at hy9
                          have HL := Lib.hid hL
                          clear hL
                          rcases Classical.em ((12 : Int) < (L : Int)) with f1 | f1
                          · go_wp2_with fail
                            rw [← HQ.out]
                            exact LgP.one rfl (HX.out _ hbf).2.2
                          · have HA2 : Hid (∀ m (hm : m < x.wth.length), m < n + 1 → x.wth[m].length ≤ 12) := fun m hm h => by
                              by_cases e : m = n
                              · subst e; rw [HL.out]; omega
                              · exact HAL.out m hm (by omega)
                            go_wp2_with fail
                            go_roundw
                            case rel => exact ⟨n + 1, by omega, by go_num, HA2.out, hbf2⟩
                            case measure => simp [intOf]; omega
                        · have hn' : n = x.wth.length := by omega
                          have HPS : Hid (PSm x) := ⟨HSM0.out.1, HSM0.out.2.1, HSM0.out.2.2.1, HSM0.out.2.2.2.1, HSM0.out.2.2.2.2, HALL.out, fun l hl => by
                            obtain ⟨m, hm, rfl⟩ := List.mem_iff_getElem.1 hl
                            exact HAL.out m hm (by omega)⟩
                          have HA3 : Hid (∀ m (hm : m < c.blocks.length), m < k + 1 → PSm c.blocks[m]) := fun m hm h => by
                            by_cases e : m = k
                            · subst e; rw [HXE.out]; exact HPS.out
                            · exact HDN.out m hm (by omega)
                          subst hn'
                          clear hlt2
                          go_wp2_with fail
                          go_roundw
                          case rel => exact ⟨k + 1, by omega, by go_num, HA3.out, hbf⟩
                          case measure => simp [intOf]; omega
      · have hk' : k = c.blocks.length := by omega
        have HALL : Hid (∀ x ∈ c.blocks, PSm x) := fun x hx => by
          obtain ⟨m, hm, rfl⟩ := List.mem_iff_getElem.1 hx
          exact HDN.out m hm (by omega)
        subst hk'
        have HBW := Lib.hid hbw
        clear hrr hbw
        go_wp2_with fail
        rw [← HQ.out]
        exact ⟨false, rfl, fun _ => ⟨HALL.out, HN.out⟩, HBW.out⟩
end Go.Proofs.YtdilakpipbkokaaDoor
