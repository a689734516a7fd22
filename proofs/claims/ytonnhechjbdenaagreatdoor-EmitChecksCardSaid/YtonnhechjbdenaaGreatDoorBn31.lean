import Derived.Deep.CutBlock
import Derived.Deep.CutRange
import Derived.Deep.DeepCutAuto
import Derived.Test.YtonnhechjbdenaaGreatDoorBn23
import Derived.Test.YtonnhechjbdenaaGreatDoorBn30
import Derived.Test.YtonnhechjbdenaaGreatDoorBn18
import Derived.Test.YtonnhechjbdenaaGreatDoorBn27
set_option linter.unusedVariables false
set_option linter.unusedSimpArgs false
namespace Go.Proofs.YtonnhechjbdenaaGreatDoor
open Go.RowKit

/-! the reference: ImageFault -/
theorem set2m {w : World} {q : Nat} {a0 a1 v0 v1 : Value} {T : TypeId} {fz : Nat × Nat} (h : w.heap[q]? = some (.cells #[a0, a1] T fz)) :
    ((w.setCell ⟨q, 0, none⟩ v0).setCell ⟨q, 1, none⟩ v1).heap[q]? = some (.cells #[v0, v1] T fz) :=
  row_set (j := 1) v1 (row_set (j := 0) v0 h rfl) (by simp)
theorem below2m {w0 w : World} {q : Nat} {v0 v1 : Value} (h : Below w0.heap.size w0 w) (hq : w0.heap.size ≤ q) : Below w0.heap.size w0 ((w.setCell ⟨q, 0, none⟩ v0).setCell ⟨q, 1, none⟩ v1) :=
  (h.setCell hq _).setCell hq _
theorem any_take {n : Txt} {l : List PFn} {k : Nat} (h : k < l.length) : ((l.take (k + 1)).any fun g => g.name == n) = (((l.take k).any fun g => g.name == n) || l[k].name == n) := by
  rw [List.take_succ_eq_append_getElem h, List.any_append]; simp
def dupE (m : PImg) (f : PFn) (j : Nat) (ev : Int) : Prop := ev = if fnameB (m.funs.take j) f then 5 else 0
theorem dupE_start {m : PImg} {f : PFn} {b : Bool} (h : f.name.isEmpty = b) : dupE m f 0 (if b then 5 else 0) := by
  unfold dupE fnameB; rw [h]; simp
theorem dupE.no {m : PImg} {f : PFn} {j : Nat} {ev : Int} (h : dupE m f j ev) (ha : ((m.funs.take (j + 1)).any fun g => g.name == f.name) = (((m.funs.take j).any fun g => g.name == f.name) || false)) : dupE m f (j + 1) ev := by
  unfold dupE fnameB at h ⊢; rw [ha, Bool.or_false]; exact h
theorem dupE.yes {m : PImg} {f : PFn} {j : Nat} {ev : Int} (_h : dupE m f j ev) (ha : ((m.funs.take (j + 1)).any fun g => g.name == f.name) = (((m.funs.take j).any fun g => g.name == f.name) || true)) : dupE m f (j + 1) 5 := by
  unfold dupE fnameB; rw [ha, Bool.or_true, Bool.or_true]; rfl
def IfPost (m : PImg) (w : World) : Ending → World → Prop := Ret (faultV3 ((imgC m).1 : Nat) (imgC m).2) w
set_option maxHeartbeats 8000000 in
set_option maxRecDepth 100000 in
theorem ImageFault_any (m : PImg) (hnf : m.funs.length ≤ 100) (hnw : m.words.length ≤ 100000) (A B : Option Addr) (cf cw : Nat) (h64 : ∀ n ∈ m.words, 0 ≤ n ∧ n < 18446744073709551616) (w : World) (hA : Row w A (m.funs.flatMap fnL)) (hB : Row w B (u64Vs m.words)) :
    Calls Tryz.prog 12 #[.agg #[.slice A m.funs.length cf, .slice B m.words.length cw]] w (IfPost m w) := by
  obtain ⟨wA, hwA⟩ : ∃ wA, (w.alloc (.cells #[.slice A m.funs.length cf, .slice B m.words.length cw] 48)).alloc (.cells #[.int .i64 0, .int .i64 0] 43) = wA := ⟨_, rfl⟩
  have hbA : Below w.heap.size w wA := by rw [← hwA]; exact grow_alloc (grow_alloc (grow_refl _) _) _
  have hmA : wA.heap[w.heap.size]? = some (.cells #[.slice A m.funs.length cf, .slice B m.words.length cw] 48 (0, 0)) := by rw [← hwA]; exact (old_block _ _ (by simp)).trans (heap_alloc_new w _)
  have hrA : wA.heap[w.heap.size + 1]? = some (.cells #[.int .i64 0, .int .i64 0] 43 (0, 0)) := by rw [← hwA]; exact new_block _ _ (by simp)
  have hlA : w.heap.size + 1 < wA.heap.size := (Array.getElem?_eq_some_iff.1 hrA).1
  have HX : Hid (∀ w', Below wA.heap.size wA w' → (w'.cell? ⟨w.heap.size, 0, none⟩ = some (.slice A m.funs.length cf) ∧ w'.cell? ⟨w.heap.size, 1, none⟩ = some (.slice B m.words.length cw)) ∧ w'.heap[w.heap.size + 1]? = some (.cells #[.int .i64 0, .int .i64 0] 43 (0, 0)) ∧ Row w' A (m.funs.flatMap fnL) ∧ Row w' B (u64Vs m.words) ∧ Below w.heap.size w w') := fun w' hb =>
    ⟨row2m ((hb.block _ (by omega)).trans hmA), (hb.block _ hlA).trans hrA, (hA.keep (Keeps.of_below hbA)).keep (Keeps.of_below hb), (hB.keep (Keeps.of_below hbA)).keep (Keeps.of_below hb), grow_trans hbA hb⟩
  have HWA := Lib.hid hwA
  obtain ⟨⟨i0, i1⟩, hr0, -, -, -⟩ := HX.out wA (grow_refl _)
  have H64 := Lib.hid h64
  have HDN : Hid (∀ (z : Nat) (at' : Int) (wr : World), imgC m = (z, at') → Below wA.heap.size wA wr → IfPost m w (.returned (.agg #[.int .i64 z, .int .i64 at'])) ((wr.setCell ⟨w.heap.size + 1, 0, none⟩ (.int .i64 z)).setCell ⟨w.heap.size + 1, 1, none⟩ (.int .i64 at'))) := fun z at' wr h hb => by
    unfold IfPost faultV3
    rw [h]
    exact ⟨rfl, below2m (HX.out wr hb).2.2.2.2 (by omega)⟩
  obtain ⟨s0, s1⟩ := row2m hr0
  have y0 := row_frozen hr0 0
  have y1 := row_frozen hr0 1
  have HR0 := Lib.hid hr0
  clear hA hB hbA hmA hrA hwA h64 hr0
  by_cases hbig : 8 < m.funs.length ∨ 8000 < m.words.length
  · have HP : Hid (imgC m = (8, -1)) := show _ = _ by unfold imgC; rw [if_pos hbig]
    have HBR : Hid (Calls Tryz.prog 27 #[.int .i64 8] wA (Ret (.agg #[.int .i64 8, .int .i64 (-1)]) wA)) := bare3 8 wA
    have fin : ∀ w1, Below wA.heap.size wA w1 → ((w1.cell? ⟨w.heap.size + 1, 0, none⟩ = some (.int .i64 0) ∧ w1.cell? ⟨w.heap.size + 1, 1, none⟩ = some (.int .i64 0)) ∧ (w1.frozen? ⟨w.heap.size + 1, 0, none⟩ = false ∧ w1.frozen? ⟨w.heap.size + 1, 1, none⟩ = false)) := fun w1 hb => ⟨row2m (HX.out w1 hb).2.1, row_frozen (HX.out w1 hb).2.1 0, row_frozen (HX.out w1 hb).2.1 1⟩
    have FIN := Lib.hid fin
    clear fin
    by_cases h1 : 8 < m.funs.length
    · have q1 : (8 : Int) < (m.funs.length : Int) := by omega
      clear hbig h1
      go_enter Tryz.func12, Tryz.ntmps12
      go_upto_region 1 with fail
      change Code.wp _ _ _ _ ((w.alloc (.cells #[.slice A m.funs.length cf, .slice B m.words.length cw] 48)).alloc (.cells #[.int .i64 0, .int .i64 0] 43))
      rw [HWA.out]
      go_wp2_with (go_at_call 27; (with_reducible refine HBR.out.mono ?_); rintro x w1 ⟨rfl, hb1⟩; obtain ⟨⟨s0, s1⟩, y0, y1⟩ := FIN.out w1 hb1)
      obtain ⟨z0, z1⟩ := row2m (set2m (v0 := .int .i64 8) (v1 := .int .i64 (-1)) (HX.out w1 hb1).2.1)
      refine bodyPost_ret (v := .agg #[.int .i64 8, .int .i64 (-1)]) (by simp [results, Tryz.results12, go_sem, z0, z1]; try rfl) rfl ?_
      exact HDN.out 8 (-1) w1 HP.out hb1
    · have q1 : ¬ (8 : Int) < (m.funs.length : Int) := by omega
      have q2 : (8000 : Int) < (m.words.length : Int) := by omega
      clear hbig h1
      go_enter Tryz.func12, Tryz.ntmps12
      go_upto_region 1 with fail
      change Code.wp _ _ _ _ ((w.alloc (.cells #[.slice A m.funs.length cf, .slice B m.words.length cw] 48)).alloc (.cells #[.int .i64 0, .int .i64 0] 43))
      rw [HWA.out]
      go_wp2_with (go_at_call 27; (with_reducible refine HBR.out.mono ?_); rintro x w1 ⟨rfl, hb1⟩; obtain ⟨⟨s0, s1⟩, y0, y1⟩ := FIN.out w1 hb1)
      obtain ⟨z0, z1⟩ := row2m (set2m (v0 := .int .i64 8) (v1 := .int .i64 (-1)) (HX.out w1 hb1).2.1)
      refine bodyPost_ret (v := .agg #[.int .i64 8, .int .i64 (-1)]) (by simp [results, Tryz.results12, go_sem, z0, z1]; try rfl) rfl ?_
      exact HDN.out 8 (-1) w1 HP.out hb1
  · have HP : Hid (imgC m = if (firstBad (funCk m) m.funs.length (m.funs.length - 0) 0).1 ≠ 0 then firstBad (funCk m) m.funs.length (m.funs.length - 0) 0 else firstBad (wordCk m) m.words.length (m.words.length - 0) 0) := show _ = _ by unfold imgC; rw [if_neg hbig]; rfl
    have q1 : ¬ (8 : Int) < (m.funs.length : Int) := by omega
    have q2 : ¬ (8000 : Int) < (m.words.length : Int) := by omega
    clear hbig
    go_enter Tryz.func12, Tryz.ntmps12
    go_upto_region 1 with fail
    change Code.wp _ _ _ _ ((w.alloc (.cells #[.slice A m.funs.length cf, .slice B m.words.length cw] 48)).alloc (.cells #[.int .i64 0, .int .i64 0] 43))
    rw [HWA.out]
    go_wp2_with fail
    go_loopw [3, 4, 5, 6] (fun i _ _ _ wr => ∃ k : Nat, k ≤ m.funs.length ∧ i = .int .i64 k ∧ firstBad (funCk m) m.funs.length (m.funs.length - 0) 0 = firstBad (funCk m) m.funs.length (m.funs.length - k) k ∧ Below wA.heap.size wA wr) (fun i _ _ _ _ => m.funs.length - (intOf i).toNat)
    case atStart => exact ⟨0, Nat.zero_le _, rfl, rfl, grow_refl _⟩
    case round =>
      obtain ⟨k, hk, rfl, hI, hbel⟩ := hrel
      have HI := Lib.hid hI
      clear hI
      by_cases hlt : k < m.funs.length
      · obtain ⟨⟨i0, i1⟩, hrr, hAr, -, -⟩ := HX.out wr hbel
        have hlt' : (k : Int) < (m.funs.length : Int) := by omega
        have hk0 : (0 : Int) ≤ k := by omega
        obtain ⟨b, off, rfl, f0, f1, f2, f3⟩ := fn_cells hAr hlt
        have HS := Lib.hid (firstBad_step (c := funCk m) hlt)
        have HCK := Lib.hid (funCk_at hlt)
        obtain ⟨f, hf⟩ : ∃ f, m.funs[k] = f := ⟨_, rfl⟩
        rw [hf] at f0 f1 f2 f3 HCK
        obtain ⟨wF, hwF⟩ : ∃ wF, wr.alloc (.cells #[.string (mkB f.name), .int .i64 f.params, .int .i64 f.slots, .int .i64 f.entry] 98) = wF := ⟨_, rfl⟩
        have hbF : Below wr.heap.size wr wF := by rw [← hwF]; exact grow_alloc (grow_refl _) _
        have hnF : wF.heap[wr.heap.size]? = some (.cells #[.string (mkB f.name), .int .i64 f.params, .int .i64 f.slots, .int .i64 f.entry] 98 (0, 0)) := by rw [← hwF]; exact heap_alloc_new wr _
        have HWF := Lib.hid hwF
        have HBF := Lib.hid (grow_trans hbel hbF)
        have HNF := Lib.hid hnF
        have hem0 : ((mkB f.name).toList == []) = f.name.isEmpty := empty_mkB2 f.name
        have HEM := Lib.hid hem0
        obtain ⟨q, hq⟩ : ∃ q, wr.heap.size = q := ⟨_, rfl⟩
        rw [hq] at hnF
        have HNQ := Lib.hid hnF
        have hql : q < wF.heap.size := (Array.getElem?_eq_some_iff.1 hnF).1
        have HBEL := Lib.hid hbel
        have HLT := Lib.hid hlt
        obtain ⟨g0, g1, g2, g3⟩ := row4e hnF
        clear hrr hAr hf hwF hnF hbF hem0 hbel
        go_upto_region 8 with fail
        rw [HWF.out]
        clear f0 f1 f2 f3
        cases hem : ((mkB f.name).toList == [])
        all_goals
          have hemb := HEM.out.symm.trans hem
          have HEB := Lib.hid hemb
          clear hemb
          go_wp2_with fail
          go_loopw [5, 6] (fun e j wr2 => ∃ (j' : Nat) (ev : Int), j' ≤ k ∧ j = .int .i64 j' ∧ e = .int .i64 ev ∧ dupE m f j' ev ∧ Below wF.heap.size wF wr2) (fun _ j _ => k - (intOf j).toNat)
          case atStart => exact ⟨0, _, Nat.zero_le _, rfl, rfl, dupE_start HEB.out, grow_refl _⟩
          case round =>
            obtain ⟨j, ev, hj, rfl, rfl, hev, hbel2⟩ := hrel
            have HEV := Lib.hid hev
            clear hev
            have hbel3 := grow_trans HBF.out hbel2
            obtain ⟨⟨i0, i1⟩, hrr, hAr, -, -⟩ := HX.out wr hbel3
            obtain ⟨g0, g1, g2, g3⟩ := row4e ((hbel2.block q hql).trans HNQ.out)
            by_cases hjk : j < k
            · have hjn : j < m.funs.length := by have := HLT.out; omega
              obtain ⟨b', off', e', f0, f1, f2, f3⟩ := fn_cells hAr hjn
              injection e' with e'
              injection e' with e1 e2 _
              subst e1; subst e2
              have hjk' : (j : Int) < (k : Int) := by omega
              have hjn' : (j : Int) < (m.funs.length : Int) := by omega
              have hj0 : (0 : Int) ≤ j := by omega
              have HAT := Lib.hid (any_take (n := f.name) hjn)
              have hnn : ((mkB m.funs[j].name).toList == (mkB f.name).toList) = (m.funs[j].name == f.name) := by rw [mkB_toList, mkB_toList]
              have HB3 := Lib.hid hbel2
              clear hrr hAr hbel2 hbel3 f1 f2 f3 g1 g2 g3
              cases hnm : (m.funs[j].name == f.name)
              · rw [hnm] at HAT
                rw [hnm] at hnn
                clear hnm
                go_wp2_with fail
                go_quiet (fail)
                go_wp2_with fail
                go_roundw
                case rel => exact ⟨j + 1, ev, by omega, by go_num, rfl, HEV.out.no HAT.out, grow_drew HB3.out _⟩
                case measure => simp [intOf]; omega
              · rw [hnm] at HAT
                rw [hnm] at hnn
                clear hnm
                go_wp2_with fail
                go_quiet (fail)
                go_wp2_with fail
                go_roundw
                case rel => exact ⟨j + 1, 5, by omega, by go_num, rfl, HEV.out.yes HAT.out, grow_drew HB3.out _⟩
                case measure => simp [intOf]; omega
            · have hjk' : j = k := by omega
              subst hjk'
              obtain ⟨s0, s1⟩ := row2m hrr
              have y0 := row_frozen hrr 0
              have y1 := row_frozen hrr 1
              have HRR := Lib.hid hrr
              have HB3 := Lib.hid hbel3
              have hck := HCK.out
              have hev := HEV.out
              unfold dupE at hev
              clear hrr hAr hbel2 hbel3 hck
              cases hb : fnameB (m.funs.take j) f
              · obtain rfl : ev = 0 := by rw [hev, hb]; rfl
                clear hev HEV
                by_cases hp : f.params < 0 ∨ 4 < f.params
                · have HZ : Hid (imgC m = (9, (j : Int))) := show _ = _ by
                    have e : firstBad (funCk m) m.funs.length (m.funs.length - 0) 0 = (9, (j : Int)) := by rw [HI.out, HS.out, HCK.out, fnC_args hb hp]; rfl
                    rw [HP.out, e]; rfl
                  clear hb
                  rcases hp with hp1 | hp2
                  · go_wp2_with fail
                    obtain ⟨z0, z1⟩ := row2m (set2m (v0 := .int .i64 9) (v1 := .int .i64 j) HRR.out)
                    refine bodyPost_ret (v := .agg #[.int .i64 9, .int .i64 j]) (by simp [results, Tryz.results12, go_sem, z0, z1]; try rfl) rfl ?_
                    exact HDN.out 9 j wr HZ.out HB3.out
                  · have hp1 : ¬ f.params < 0 := by omega
                    go_wp2_with fail
                    obtain ⟨z0, z1⟩ := row2m (set2m (v0 := .int .i64 9) (v1 := .int .i64 j) HRR.out)
                    refine bodyPost_ret (v := .agg #[.int .i64 9, .int .i64 j]) (by simp [results, Tryz.results12, go_sem, z0, z1]; try rfl) rfl ?_
                    exact HDN.out 9 j wr HZ.out HB3.out
                · have hp1 : ¬ f.params < 0 := fun h => hp (.inl h)
                  have hp2 : ¬ 4 < f.params := fun h => hp (.inr h)
                  by_cases hs : f.slots < 0 ∨ 1000 < f.slots ∨ f.entry < 0 ∨ (m.words.length : Int) ≤ f.entry
                  · have HZ : Hid (imgC m = (2, (j : Int))) := show _ = _ by
                      have e : firstBad (funCk m) m.funs.length (m.funs.length - 0) 0 = (2, (j : Int)) := by rw [HI.out, HS.out, HCK.out, fnC_bound hb hp hs]; rfl
                      rw [HP.out, e]; rfl
                    clear hb hp
                    by_cases hs1 : f.slots < 0
                    · clear hs
                      go_wp2_with fail
                      obtain ⟨z0, z1⟩ := row2m (set2m (v0 := .int .i64 2) (v1 := .int .i64 j) HRR.out)
                      refine bodyPost_ret (v := .agg #[.int .i64 2, .int .i64 j]) (by simp [results, Tryz.results12, go_sem, z0, z1]; try rfl) rfl ?_
                      exact HDN.out 2 j wr HZ.out HB3.out
                    · by_cases hs2 : 1000 < f.slots
                      · clear hs
                        go_wp2_with fail
                        obtain ⟨z0, z1⟩ := row2m (set2m (v0 := .int .i64 2) (v1 := .int .i64 j) HRR.out)
                        refine bodyPost_ret (v := .agg #[.int .i64 2, .int .i64 j]) (by simp [results, Tryz.results12, go_sem, z0, z1]; try rfl) rfl ?_
                        exact HDN.out 2 j wr HZ.out HB3.out
                      · by_cases hs3 : f.entry < 0
                        · clear hs
                          go_wp2_with fail
                          obtain ⟨z0, z1⟩ := row2m (set2m (v0 := .int .i64 2) (v1 := .int .i64 j) HRR.out)
                          refine bodyPost_ret (v := .agg #[.int .i64 2, .int .i64 j]) (by simp [results, Tryz.results12, go_sem, z0, z1]; try rfl) rfl ?_
                          exact HDN.out 2 j wr HZ.out HB3.out
                        · have hs4 : (m.words.length : Int) ≤ f.entry := by omega
                          clear hs
                          go_wp2_with fail
                          obtain ⟨z0, z1⟩ := row2m (set2m (v0 := .int .i64 2) (v1 := .int .i64 j) HRR.out)
                          refine bodyPost_ret (v := .agg #[.int .i64 2, .int .i64 j]) (by simp [results, Tryz.results12, go_sem, z0, z1]; try rfl) rfl ?_
                          exact HDN.out 2 j wr HZ.out HB3.out
                  · have HF : Hid (firstBad (funCk m) m.funs.length (m.funs.length - 0) 0 = firstBad (funCk m) m.funs.length (m.funs.length - (j + 1)) (j + 1)) := show _ = _ by rw [HI.out, HS.out, HCK.out, fnC_fine hb hp hs]; rfl
                    have hs1 : ¬ f.slots < 0 := fun h => hs (.inl h)
                    have hs2 : ¬ 1000 < f.slots := fun h => hs (.inr (.inl h))
                    have hs3 : ¬ f.entry < 0 := fun h => hs (.inr (.inr (.inl h)))
                    have hs4 : ¬ (m.words.length : Int) ≤ f.entry := fun h => hs (.inr (.inr (.inr h)))
                    clear hs hb hp
                    go_wp2_with fail
                    go_roundw
                    case rel => exact ⟨j + 1, by have := HLT.out; omega, by go_num, HF.out, HB3.out⟩
                    case measure => have := HLT.out; simp [intOf]; omega
              · obtain rfl : ev = 5 := by rw [hev, hb]; rfl
                clear hev HEV
                have HZ : Hid (imgC m = (5, (j : Int))) := show _ = _ by
                  have e : firstBad (funCk m) m.funs.length (m.funs.length - 0) 0 = (5, (j : Int)) := by rw [HI.out, HS.out, HCK.out, fnC_name hb]; rfl
                  rw [HP.out, e]; rfl
                clear hb
                go_wp2_with fail
                obtain ⟨z0, z1⟩ := row2m (set2m (v0 := .int .i64 5) (v1 := .int .i64 j) HRR.out)
                refine bodyPost_ret (v := .agg #[.int .i64 5, .int .i64 j]) (by simp [results, Tryz.results12, go_sem, z0, z1]; try rfl) rfl ?_
                exact HDN.out 5 j wr HZ.out HB3.out
      · have hk' : k = m.funs.length := by omega
        subst hk'
        have HP2 : Hid (imgC m = firstBad (wordCk m) m.words.length (m.words.length - 0) 0) := show _ = _ by rw [HP.out, HI.out, firstBad_end]; rfl
        obtain ⟨⟨i0, i1⟩, -, -, -, -⟩ := HX.out wr hbel
        have HBR := Lib.hid hbel
        clear hbel hk hlt
        go_wp2_with fail
        go_loopw [7, 8, 9, 10] (fun i _ _ _ wr2 => ∃ k : Nat, k ≤ m.words.length ∧ i = .int .i64 k ∧ firstBad (wordCk m) m.words.length (m.words.length - 0) 0 = firstBad (wordCk m) m.words.length (m.words.length - k) k ∧ Below wA.heap.size wA wr2) (fun i _ _ _ _ => m.words.length - (intOf i).toNat)
        case atStart => exact ⟨0, Nat.zero_le _, rfl, rfl, HBR.out⟩
        case round =>
          obtain ⟨k, hk, rfl, hI, hbel⟩ := hrel
          have HI := Lib.hid hI
          clear hI
          by_cases hlt : k < m.words.length
          · obtain ⟨⟨i0, i1⟩, hrr, -, hBr, -⟩ := HX.out wr hbel
            have hlt' : (k : Int) < (m.words.length : Int) := by omega
            have hk0 : (0 : Int) ≤ k := by omega
            obtain ⟨b, off, rfl, cw0⟩ := hBr k _ (u64_get hlt)
            have hv := H64.out m.words[k] (List.getElem_mem hlt)
            have HN := Lib.hid (InsOf_any m.words[k] hv.1 hv.2 wr)
            have HS := Lib.hid (firstBad_step (c := wordCk m) hlt)
            have HCK := Lib.hid (wordCk_at hlt)
            have HP3 : Hid (∀ z, wordC m.words.length m.funs.length m.words[k] = z → z ≠ 0 → imgC m = (z, (k : Int))) := fun z hz hz0 => by
              rw [HP2.out, HI.out, HS.out, HCK.out, hz, if_pos hz0]
            have HBEL := Lib.hid hbel
            unfold insR at HN
            clear hBr hv hrr hbel
            by_cases he : errW m.words[k] = 0
            · obtain ⟨i, hi⟩ : ∃ i, insP m.words[k] = i := ⟨_, rfl⟩
              have HWC : Hid (wordC m.words.length m.funs.length m.words[k] = if farW m.words.length m.funs.length i then 2 else 0) := by
                show wordC _ _ _ = _
                unfold wordC; rw [if_neg (by simpa using he), hi]
              rw [if_pos he, he, hi] at HN
              rw [show ((0 : Nat) : Int) = 0 from rfl] at HN
              unfold insV at HN
              clear he hi
              go_upto_region 25 with (go_at_call 20; (with_reducible refine HN.out.mono ?_); rintro y w1 ⟨rfl, hb1⟩)
              obtain ⟨wS, hwS⟩ : ∃ wS, w1.alloc (.cells #[.string (mkB i.op), .int .i64 i.d, .int .i64 i.a, .int .i64 i.b, .int .i64 i.imm] 65) = wS := ⟨_, rfl⟩
              have hbS : Below wr.heap.size wr wS := by rw [← hwS]; exact grow_alloc hb1 _
              have hnS : wS.heap[w1.heap.size]? = some (.cells #[.string (mkB i.op), .int .i64 i.d, .int .i64 i.a, .int .i64 i.b, .int .i64 i.imm] 65 (0, 0)) := by rw [← hwS]; exact heap_alloc_new w1 _
              have HBS := Lib.hid (grow_trans HBEL.out hbS)
              have HBS2 := Lib.hid (grow_trans HBEL.out hbS)
              obtain ⟨⟨i0, i1⟩, hrr, -, -, -⟩ := HX.out wS HBS.out
              obtain ⟨s0, s1⟩ := row2m hrr
              have y0 := row_frozen hrr 0
              have y1 := row_frozen hrr 1
              have HRR := Lib.hid hrr
              obtain ⟨e0, e1, e2, e3, e4⟩ := row5e hnS
              obtain ⟨q, hq⟩ : ∃ q, w1.heap.size = q := ⟨_, rfl⟩
              rw [hq] at e0 e1 e2 e3 e4
              rw [hwS]
              clear hbS hnS hrr hb1 hwS cw0
              go_upto_block 6 with fail
              go_cut [10] from 109 to 127 (fun mo wx => mo = .int .i64 (mostW m.words.length m.funs.length i.op) ∧ wS = wx)
              case first =>
                cases g0 : ((mkB i.op).toList == [106, 117, 109, 112])
                · skip
                  cases g1 : ((mkB i.op).toList == [105, 102])
                  · skip
                    cases g2 : ((mkB i.op).toList == [99, 97, 108, 108])
                    · skip
                      cases g3 : ((mkB i.op).toList == [108, 111, 97, 100])
                      · skip
                        cases g4 : ((mkB i.op).toList == [115, 116, 111, 114, 101])
                        · skip
                          cases g5 : ((mkB i.op).toList == [112, 97, 114, 97, 109])
                          · skip
                            cases g6 : ((mkB i.op).toList == [97, 114, 103])
                            · skip
                              have HMO : Hid (mostW m.words.length m.funs.length i.op = -1) := show _ = _ by unfold mostW; simp only [mkB_toList, beq_eq_false_iff_ne] at g0 g1 g2 g3 g4 g5 g6; unfold jumpT ifT callT loadT storeT paramT argT; simp [g0, g1, g2, g3, g4, g5, g6]
                              go_wp2_with fail
                              go_meet
                              exact ⟨by rw [HMO.out], rfl⟩
                            · have HMO : Hid (mostW m.words.length m.funs.length i.op = 4) := show _ = _ by simp only [mkB_toList, beq_eq_false_iff_ne, beq_iff_eq] at g0 g1 g2 g3 g4 g5 g6; unfold mostW; rw [g6]; rfl
                              go_wp2_with fail
                              go_meet
                              exact ⟨by rw [HMO.out], rfl⟩
                          · have HMO : Hid (mostW m.words.length m.funs.length i.op = 4) := show _ = _ by simp only [mkB_toList, beq_eq_false_iff_ne, beq_iff_eq] at g0 g1 g2 g3 g4 g5; unfold mostW; rw [g5]; rfl
                            go_wp2_with fail
                            go_meet
                            exact ⟨by rw [HMO.out], rfl⟩
                        · have HMO : Hid (mostW m.words.length m.funs.length i.op = 1000) := show _ = _ by simp only [mkB_toList, beq_eq_false_iff_ne, beq_iff_eq] at g0 g1 g2 g3 g4; unfold mostW; rw [g4]; rfl
                          go_wp2_with fail
                          go_meet
                          exact ⟨by rw [HMO.out], rfl⟩
                      · have HMO : Hid (mostW m.words.length m.funs.length i.op = 1000) := show _ = _ by simp only [mkB_toList, beq_eq_false_iff_ne, beq_iff_eq] at g0 g1 g2 g3; unfold mostW; rw [g3]; rfl
                        go_wp2_with fail
                        go_meet
                        exact ⟨by rw [HMO.out], rfl⟩
                    · have HMO : Hid (mostW m.words.length m.funs.length i.op = (m.funs.length : Int)) := show _ = _ by simp only [mkB_toList, beq_eq_false_iff_ne, beq_iff_eq] at g0 g1 g2; unfold mostW; rw [g2]; rfl
                      go_wp2_with fail
                      go_meet
                      exact ⟨by rw [HMO.out], rfl⟩
                  · have HMO : Hid (mostW m.words.length m.funs.length i.op = (m.words.length : Int)) := show _ = _ by simp only [mkB_toList, beq_eq_false_iff_ne, beq_iff_eq] at g0 g1; unfold mostW; rw [g1]; rfl
                    go_wp2_with fail
                    go_meet
                    exact ⟨by rw [HMO.out], rfl⟩
                · have HMO : Hid (mostW m.words.length m.funs.length i.op = (m.words.length : Int)) := show _ = _ by simp only [mkB_toList, beq_eq_false_iff_ne, beq_iff_eq] at g0; unfold mostW; rw [g0]; rfl
                  go_wp2_with fail
                  go_meet
                  exact ⟨by rw [HMO.out], rfl⟩
              case rest =>
                obtain ⟨rfl, rfl⟩ := hcut
                obtain ⟨mo, hmo⟩ : ∃ mo, mostW m.words.length m.funs.length i.op = mo := ⟨_, rfl⟩
                rw [hmo]
                have HMO := Lib.hid hmo
                clear hmo
                by_cases hm0 : 0 ≤ mo
                · by_cases hi0 : i.imm < 0
                  · have HZ : Hid (imgC m = (2, (k : Int))) := show _ = _ by exact HP3.out 2 (by rw [HWC.out, show farW m.words.length m.funs.length i = true by unfold farW; rw [HMO.out]; simp [hm0, hi0] <;> omega]; rfl) (by decide)
                    go_wp2_with fail
                    obtain ⟨z0, z1⟩ := row2m (set2m (v0 := .int .i64 2) (v1 := .int .i64 k) HRR.out)
                    refine bodyPost_ret (v := .agg #[.int .i64 2, .int .i64 k]) (by simp [results, Tryz.results12, go_sem, z0, z1]; try rfl) rfl ?_
                    exact HDN.out 2 k wS HZ.out HBS.out
                  · by_cases hi1 : mo ≤ i.imm
                    · have HZ : Hid (imgC m = (2, (k : Int))) := show _ = _ by exact HP3.out 2 (by rw [HWC.out, show farW m.words.length m.funs.length i = true by unfold farW; rw [HMO.out]; simp [hm0, hi1] <;> omega]; rfl) (by decide)
                      go_wp2_with fail
                      obtain ⟨z0, z1⟩ := row2m (set2m (v0 := .int .i64 2) (v1 := .int .i64 k) HRR.out)
                      refine bodyPost_ret (v := .agg #[.int .i64 2, .int .i64 k]) (by simp [results, Tryz.results12, go_sem, z0, z1]; try rfl) rfl ?_
                      exact HDN.out 2 k wS HZ.out HBS.out
                    · have HZ : Hid (wordCk m k = 0) := show _ = _ by rw [HCK.out, HWC.out, show farW m.words.length m.funs.length i = false by unfold farW; rw [HMO.out]; simp [hi0, hi1]]; rfl
                      have HFB : Hid (firstBad (wordCk m) m.words.length (m.words.length - 0) 0 = firstBad (wordCk m) m.words.length (m.words.length - (k + 1)) (k + 1)) := show _ = _ by rw [HI.out, HS.out, HZ.out]; rfl
                      go_wp2_with fail
                      go_roundw
                      case rel => exact ⟨k + 1, by omega, by go_num, HFB.out, HBS2.out⟩
                      case measure => simp [intOf]; omega
                · have HZ : Hid (wordCk m k = 0) := show _ = _ by rw [HCK.out, HWC.out, show farW m.words.length m.funs.length i = false by unfold farW; rw [HMO.out]; simp [hm0]]; rfl
                  have HFB : Hid (firstBad (wordCk m) m.words.length (m.words.length - 0) 0 = firstBad (wordCk m) m.words.length (m.words.length - (k + 1)) (k + 1)) := show _ = _ by rw [HI.out, HS.out, HZ.out]; rfl
                  go_wp2_with fail
                  go_roundw
                  case rel => exact ⟨k + 1, by omega, by go_num, HFB.out, HBS2.out⟩
                  case measure => simp [intOf]; omega
            · have hle := errW_cases m.words[k]
              obtain ⟨z, hz⟩ : ∃ z, errW m.words[k] = z := ⟨_, rfl⟩
              have HZ0 : Hid (imgC m = (z, (k : Int))) := by
                have hzz : wordC m.words.length m.funs.length m.words[k] = z := by unfold wordC; rw [if_pos he, hz]
                exact HP3.out z hzz (by rw [← hz]; exact he)
              rw [if_neg he, hz] at HN
              have hz1 : (0 : Int) < (z : Int) := by omega
              have hz2 : ((z : Int) == 0) = false := beq_eq_false_iff_ne.2 (by omega)
              unfold noIns at HN
              clear he hle hz
              go_upto_region 25 with (go_at_call 20; (with_reducible refine HN.out.mono ?_); rintro y w1 ⟨rfl, hb1⟩)
              obtain ⟨wS, hwS⟩ : ∃ wS, w1.alloc (.cells #[.string ⟨#[]⟩, .int .i64 0, .int .i64 0, .int .i64 0, .int .i64 0] 65) = wS := ⟨_, rfl⟩
              have hbS : Below wr.heap.size wr wS := by rw [← hwS]; exact grow_alloc hb1 _
              have hnS : wS.heap[w1.heap.size]? = some (.cells #[.string ⟨#[]⟩, .int .i64 0, .int .i64 0, .int .i64 0, .int .i64 0] 65 (0, 0)) := by rw [← hwS]; exact heap_alloc_new w1 _
              have HBS := Lib.hid (grow_trans HBEL.out hbS)
              obtain ⟨⟨i0, i1⟩, hrr, -, -, -⟩ := HX.out wS HBS.out
              obtain ⟨s0, s1⟩ := row2m hrr
              have y0 := row_frozen hrr 0
              have y1 := row_frozen hrr 1
              have HRR := Lib.hid hrr
              obtain ⟨e0, e1, e2, e3, e4⟩ := row5e hnS
              obtain ⟨q, hq⟩ : ∃ q, w1.heap.size = q := ⟨_, rfl⟩
              rw [hq] at e0 e1 e2 e3 e4
              rw [hwS]
              clear hbS hnS hrr hb1 hwS cw0
              go_wp2_with fail
              obtain ⟨z0, z1⟩ := row2m (set2m (v0 := .int .i64 z) (v1 := .int .i64 k) HRR.out)
              refine bodyPost_ret (v := .agg #[.int .i64 z, .int .i64 k]) (by simp [results, Tryz.results12, go_sem, z0, z1]; try rfl) rfl ?_
              exact HDN.out z k wS HZ0.out HBS.out
          · have hk' : k = m.words.length := by omega
            subst hk'
            have HP4 : Hid (imgC m = (0, -1)) := show _ = _ by rw [HP2.out, HI.out, firstBad_end]
            have HFN : Hid (Calls Tryz.prog 29 #[] wr (Ret (.agg #[.int .i64 0, .int .i64 (-1)]) wr)) := fine3 wr
            have HBEL := Lib.hid hbel
            obtain ⟨⟨i0, i1⟩, -, -, -, -⟩ := HX.out wr hbel
            clear hbel
            have FIN : Hid (∀ w1, Below wA.heap.size wA w1 → ((w1.cell? ⟨w.heap.size + 1, 0, none⟩ = some (.int .i64 0) ∧ w1.cell? ⟨w.heap.size + 1, 1, none⟩ = some (.int .i64 0)) ∧ (w1.frozen? ⟨w.heap.size + 1, 0, none⟩ = false ∧ w1.frozen? ⟨w.heap.size + 1, 1, none⟩ = false))) := fun w1 hb => ⟨row2m (HX.out w1 hb).2.1, row_frozen (HX.out w1 hb).2.1 0, row_frozen (HX.out w1 hb).2.1 1⟩
            go_wp2_with (go_at_call 29; (with_reducible refine HFN.out.mono ?_); rintro x w1 ⟨rfl, hb1⟩; obtain ⟨⟨s0, s1⟩, y0, y1⟩ := FIN.out w1 (grow_trans HBEL.out hb1))
            obtain ⟨z0, z1⟩ := row2m (set2m (v0 := .int .i64 0) (v1 := .int .i64 (-1)) (HX.out w1 (grow_trans HBEL.out hb1)).2.1)
            refine bodyPost_ret (v := .agg #[.int .i64 0, .int .i64 (-1)]) (by simp [results, Tryz.results12, go_sem, z0, z1]; try rfl) rfl ?_
            exact HDN.out 0 (-1) w1 HP4.out (grow_trans HBEL.out hb1)
end Go.Proofs.YtonnhechjbdenaaGreatDoor
