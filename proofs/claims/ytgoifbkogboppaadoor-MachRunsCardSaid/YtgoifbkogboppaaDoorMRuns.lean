import Derived.Test.YtgoifbkogboppaaDoorBn32
import Derived.Deep.RegionLaw
import Derived.Test.YtgoifbkogboppaaDoorRfM
import Derived.Test.YtgoifbkogboppaaDoorBn29
set_option linter.unusedVariables false
set_option linter.unusedSimpArgs false
namespace Go.Proofs.YtgoifbkogboppaaDoor
open Go.RowKit

/-! MachRuns (printed by gen_mruns.py) -/
def runsOut (m : PImg) (name : Txt) (n : Nat) (ticks : Int) : Bool := largeB m || decide (8 < n) || decide (20 < name.length) || (decide (60 < ticks) && decide (ticks ≤ 5000))
set_option maxHeartbeats 8000000 in
set_option maxRecDepth 100000 in
theorem runs_early (E : Nat → Addr) (m : PImg) (hnf : m.funs.length ≤ maxLen) (hnw : m.words.length ≤ maxLen) (A B : Option Addr) (cf cw : Nat) (name : Txt) (args : List Int) (X : Option Addr) (xc : Nat) (ticks : Int) (w : World) (hE : Laid E w) (hA : Row w A (m.funs.flatMap fnL)) (h : runsOut m name args.length ticks = true) :
    Calls Tryd.prog 5 #[.agg #[.slice A m.funs.length cf, .slice B m.words.length cw], .string (mkB name), .slice X args.length xc, .int .i64 ticks] w (Ret (.bool true) w) := by
  have hb0 := grow_alloc (grow_refl w) (.cells #[.slice A m.funs.length cf, .slice B m.words.length cw] 25)
  have hm0 := heap_alloc_new w (.cells #[.slice A m.funs.length cf, .slice B m.words.length cw] 25)
  have HB0 := Lib.hid hb0
  have HM0 := Lib.hid hm0
  have HS := Lib.hid (machined_any E _ (hE.seven.keep hb0))
  have HLG : Hid (∀ w', Below w.heap.size w w' → Calls Tryd.prog 7 #[.agg #[.slice A m.funs.length cf, .slice B m.words.length cw]] w' (Ret (.bool (largeB m)) w')) := fun w' hb => largeImage_any m hnf hnw A B cf cw w' (hA.keep (Keeps.of_below hb))
  clear hE hA hb0 hm0
  unfold runsOut at h
  have HK : Hid (∀ w1, Below (w.alloc (.cells #[.slice A m.funs.length cf, .slice B m.words.length cw] 25)).heap.size (w.alloc (.cells #[.slice A m.funs.length cf, .slice B m.words.length cw] 25)) w1 → w1.cell? ⟨w.heap.size, 0, none⟩ = some (.slice A m.funs.length cf) ∧ w1.cell? ⟨w.heap.size, 1, none⟩ = some (.slice B m.words.length cw)) := fun w1 hb => row2m ((hb.block _ (by simp)).trans HM0.out)
  clear HM0

  cases h1 : largeB m
  · rw [h1] at HLG h
    have h' : 8 < args.length ∨ 20 < name.length ∨ (60 < ticks ∧ ticks ≤ 5000) := by simpa [or_assoc] using h
    have hsz : (mkB name).size = name.length := rfl
    clear h h1
    rcases Classical.em ((8 : Int) < (args.length : Int)) with g0 | g0
    · clear h'
      go_enter Tryd.func5, Tryd.ntmps5
      go_wp2_with (first
        | (go_at_call 6; (with_reducible refine HS.out.mono ?_); rintro x w1 ⟨rfl, hb1⟩; obtain ⟨i0, i1⟩ := HK.out w1 hb1)
        | (go_at_call 7; (with_reducible refine (HLG.out _ (grow_trans HB0.out hb1)).mono ?_); rintro x w2 ⟨rfl, hb2⟩; obtain ⟨i0, i1⟩ := HK.out w2 (grow_trans hb1 hb2)))
      go_ret
      exact ⟨rfl, grow_trans (grow_trans HB0.out hb1) hb2⟩
    · skip
      rcases Classical.em ((20 : Int) < ((mkB name).size : Int)) with g1 | g1
      · clear h'
        go_enter Tryd.func5, Tryd.ntmps5
        go_wp2_with (first
          | (go_at_call 6; (with_reducible refine HS.out.mono ?_); rintro x w1 ⟨rfl, hb1⟩; obtain ⟨i0, i1⟩ := HK.out w1 hb1)
          | (go_at_call 7; (with_reducible refine (HLG.out _ (grow_trans HB0.out hb1)).mono ?_); rintro x w2 ⟨rfl, hb2⟩; obtain ⟨i0, i1⟩ := HK.out w2 (grow_trans hb1 hb2)))
        go_ret
        exact ⟨rfl, grow_trans (grow_trans HB0.out hb1) hb2⟩
      · skip
        have g2 : 60 < ticks := by omega
        have g3 : ticks ≤ 5000 := by omega
        clear h'
        go_enter Tryd.func5, Tryd.ntmps5
        go_wp2_with (first
          | (go_at_call 6; (with_reducible refine HS.out.mono ?_); rintro x w1 ⟨rfl, hb1⟩; obtain ⟨i0, i1⟩ := HK.out w1 hb1)
          | (go_at_call 7; (with_reducible refine (HLG.out _ (grow_trans HB0.out hb1)).mono ?_); rintro x w2 ⟨rfl, hb2⟩; obtain ⟨i0, i1⟩ := HK.out w2 (grow_trans hb1 hb2)))
        go_ret
        exact ⟨rfl, grow_trans (grow_trans HB0.out hb1) hb2⟩
  · rw [h1] at HLG
    clear h h1
    go_enter Tryd.func5, Tryd.ntmps5
    go_wp2_with (first
      | (go_at_call 6; (with_reducible refine HS.out.mono ?_); rintro x w1 ⟨rfl, hb1⟩; obtain ⟨i0, i1⟩ := HK.out w1 hb1)
      | (go_at_call 7; (with_reducible refine (HLG.out _ (grow_trans HB0.out hb1)).mono ?_); rintro x w2 ⟨rfl, hb2⟩; obtain ⟨i0, i1⟩ := HK.out w2 (grow_trans hb1 hb2)))
    go_ret
    exact ⟨rfl, grow_trans (grow_trans HB0.out hb1) hb2⟩
theorem rowup_row {n : Nat} {w : World} {A : Option Addr} {xs : List Value} (h : RowUp n w A xs) : Row w A xs := h.1
theorem mrunC_low (m : PImg) (name : Txt) (n : Nat) (ticks : Int) : 0 ≤ (mrunC m name n ticks).1 := by
  unfold mrunC
  split
  · exact Int.natCast_nonneg _
  · split
    · decide
    · split
      · decide
      · split <;> decide
theorem runs_zero {m : PImg} {name : Txt} {n : Nat} {ticks z N : Int} (hz : (mrunC m name n ticks).1 = z) (h0 : z = 0) (hN : lastPF name m.funs m.funs.length = N) :
    (imgC m).1 = 0 ∧ ∃ i : Nat, N = i ∧ ∃ hi : i < m.funs.length, m.funs[i].params = n ∧ 0 ≤ ticks ∧ ticks ≤ 5000 := by
  rw [h0] at hz
  unfold mrunC at hz
  split at hz
  · rename_i h; exact absurd (by simpa using hz) h
  · rename_i h
    have hp : (imgC m).1 = 0 := Decidable.not_not.1 h
    have hfi : firstPF name m.funs 0 = N := by rw [← last_first (imgC_good.1 hp) name, hN]
    split at hz
    · exact absurd hz (by decide)
    · rename_i hf
      have hlow := lastPF_low name m.funs m.funs.length
      rw [hN] at hlow
      rw [hfi] at hf hz
      obtain ⟨i, rfl⟩ : ∃ i : Nat, N = i := ⟨N.toNat, by omega⟩
      have hi : i < m.funs.length := by omega
      rw [Int.toNat_natCast, List.getD_eq_getElem?_getD, List.getElem?_eq_getElem hi, Option.getD_some] at hz
      split at hz
      · exact absurd hz (by decide)
      · rename_i hq
        split at hz
        · exact absurd hz (by decide)
        · rename_i ht
          exact ⟨hp, i, rfl, hi, by simpa using hq, by omega, by omega⟩
theorem run_flt (E : Nat → Addr) (m : PImg) (hnf : m.funs.length ≤ 100) (hnw : m.words.length ≤ 100000) (A B : Option Addr) (cf cw : Nat) (hcf : m.funs.length ≤ cf) (h64 : ∀ n ∈ m.words, 0 ≤ n ∧ n < 18446744073709551616) (name : Txt) (args : List Int) (ha : args.length ≤ 1000) (X : Option Addr) (xc : Nat) (ticks : Int) (w : World) (hE : Laid7 E w) (hA : Row w A (m.funs.flatMap fnL)) (hB : Row w B (u64Vs m.words)) (hz : (mrunC m name args.length ticks).1 ≠ 0) :
    Calls Tryd.prog 11 #[.agg #[.slice A m.funs.length cf, .slice B m.words.length cw], .string (mkB name), .slice X args.length xc, .int .i64 ticks] w fun en w'' => ∃ v A c, en = .returned (.tuple #[.agg #[.string ⟨#[]⟩, .int .i64 0, .slice A 0 c, .int .i64 0], v]) ∧ ErrIs E w'' v (mrunC m name args.length ticks).1 (mrunC m name args.length ticks).2 ∧ Below w.heap.size w w'' := by
  have hpost : Calls Tryd.prog 11 #[.agg #[.slice A m.funs.length cf, .slice B m.words.length cw], .string (mkB name), .slice X args.length xc, .int .i64 ticks] w (MRunPost E m name args ticks w) := by
    by_cases hp : (imgC m).1 = 0
    · rcases firstPF_find name m.funs 0 with hf | ⟨i, hi, hf, -⟩
      · exact mrun_none E m hnf hnw A B cf cw hcf h64 name args ha X xc ticks w hE hA hB hp hf
      · rw [Nat.zero_add] at hf
        by_cases hn : m.funs[i].params = args.length
        · by_cases ht : ticks < 0 ∨ 5000 < ticks
          · exact mrun_ticks E m hnf hnw A B cf cw hcf h64 name args ha X xc ticks w hE hA hB hp i hi hf hn ht
          · refine absurd ?_ hz
            unfold mrunC
            rw [if_neg (by rw [hp]; decide), hf, if_neg (by omega), Int.toNat_natCast, List.getD_eq_getElem?_getD, List.getElem?_eq_getElem hi, Option.getD_some, if_neg (by simp [hn]), if_neg ht]
        · exact mrun_args E m hnf hnw A B cf cw hcf h64 name args ha X xc ticks w hE hA hB hp i hi hf hn
    · exact mrun_fault E m hnf hnw A B cf cw hcf h64 name args ha X xc ticks w hE hA hB hp
  refine hpost.mono ?_
  rintro en w' ⟨v, A3, c3, o, rfl, he, hv, ho, hr, hc, hb⟩
  rw [if_neg hz] at ho
  subst ho
  exact ⟨v, A3, c3, rfl, he, hb⟩
theorem bareV (c : Int) (w : World) : Calls Tryd.prog 15 #[.int .i64 c] w (Ret (.agg #[.int .i64 c, .int .i64 (-1)]) w) := by
  have := bare3 c w
  unfold faultV3 at this
  exact this

set_option maxHeartbeats 16000000 in
set_option maxRecDepth 100000 in
theorem runs_main (E : Nat → Addr) (m : PImg) (hnf : m.funs.length ≤ maxLen) (hnw : m.words.length ≤ maxLen) (A B : Option Addr) (cf cw : Nat) (h64 : ∀ n ∈ m.words, 0 ≤ n ∧ n < 18446744073709551616) (name : Txt) (args : List Int) (h6 : ∀ n ∈ args, I64 n) (X : Option Addr) (xc : Nat) (ticks : Int) (w : World) (hE : Laid E w) (hA : Row w A (m.funs.flatMap fnL)) (hB : Row w B (u64Vs m.words)) (hX : Row w X (intVs args)) (h : runsOut m name args.length ticks = false) :
    Calls Tryd.prog 5 #[.agg #[.slice A m.funs.length cf, .slice B m.words.length cw], .string (mkB name), .slice X args.length xc, .int .i64 ticks] w (Ret (.bool true) w) := by
  unfold runsOut at h
  simp only [Bool.or_eq_false_iff, decide_eq_false_iff_not] at h
  obtain ⟨⟨⟨hlg, h8⟩, h20⟩, htk⟩ := h
  obtain ⟨hnf12, hnw8⟩ := large_not hlg
  have g1 : ¬ (8 : Int) < (args.length : Int) := by omega
  have g2 : ¬ (20 : Int) < ((mkB name).size : Int) := by rw [mkB_len]; omega
  have htk' : ¬ (60 < ticks ∧ ticks ≤ 5000) := by simpa using htk
  have hb0 := grow_alloc (grow_refl w) (.cells #[.slice A m.funs.length cf, .slice B m.words.length cw] 25)
  have hm0' := heap_alloc_new w (.cells #[.slice A m.funs.length cf, .slice B m.words.length cw] 25)
  have HB0 := Lib.hid hb0
  have HM0 := Lib.hid hm0'
  have HS := Lib.hid (machined_any E _ (hE.seven.keep hb0))
  have HLG : Hid (∀ w', Below w.heap.size w w' → Calls Tryd.prog 7 #[.agg #[.slice A m.funs.length cf, .slice B m.words.length cw]] w' (Ret (.bool false) w')) := fun w' hb => by
    have := largeImage_any m hnf hnw A B cf cw w' (hA.keep (Keeps.of_below hb))
    rwa [hlg] at this
  have HX : Hid (∀ w', Below (w.alloc (.cells #[.slice A m.funs.length cf, .slice B m.words.length cw] 25)).heap.size (w.alloc (.cells #[.slice A m.funs.length cf, .slice B m.words.length cw] 25)) w' → (w'.cell? ⟨w.heap.size, 0, none⟩ = some (.slice A m.funs.length cf) ∧ w'.cell? ⟨w.heap.size, 1, none⟩ = some (.slice B m.words.length cw)) ∧ Laid E w' ∧ Row w' A (m.funs.flatMap fnL) ∧ Row w' B (u64Vs m.words) ∧ Row w' X (intVs args) ∧ Below w.heap.size w w') := fun w' hb =>
    have hb2 : Below w.heap.size w w' := grow_trans hb0 hb
    ⟨row2m ((hb.block _ (by simp)).trans hm0'), hE.keep hb2, hA.keep (Keeps.of_below hb2), hB.keep (Keeps.of_below hb2), hX.keep (Keeps.of_below hb2), hb2⟩
  have HIF : Hid (∀ w', Below (w.alloc (.cells #[.slice A m.funs.length cf, .slice B m.words.length cw] 25)).heap.size (w.alloc (.cells #[.slice A m.funs.length cf, .slice B m.words.length cw] 25)) w' → Calls Tryd.prog 8 #[.agg #[.slice A m.funs.length cf, .slice B m.words.length cw]] w' (IfPost m w')) := fun w' hb =>
    ImageFault_any m (by omega) (by omega) A B cf cw h64 w' (HX.out w' hb).2.2.1 (HX.out w' hb).2.2.2.1
  have HAS : Hid (∀ w', Below (w.alloc (.cells #[.slice A m.funs.length cf, .slice B m.words.length cw] 25)).heap.size (w.alloc (.cells #[.slice A m.funs.length cf, .slice B m.words.length cw] 25)) w' → Calls Tryd.prog 10 #[.agg #[.slice A m.funs.length cf, .slice B m.words.length cw]] w' (AsPost m w')) := fun w' hb =>
    AsImage_any m (by omega) (by omega) A B cf cw w' (HX.out w' hb).2.2.1 (HX.out w' hb).2.2.2.1
  have H6 := Lib.hid h6
  have H64 := Lib.hid h64
  have hl8 : args.length ≤ 8 := by omega
  have hff := field_fault
  have HTK := Lib.hid htk'
  clear hE hA hB hX hb0 hm0' hlg h8 h20 htk htk' h6 h64
  go_enter Tryd.func5, Tryd.ntmps5
  go_upto_region 2 with (go_at_call 6; (with_reducible refine HS.out.mono ?_); rintro x w1 ⟨rfl, hb1⟩; obtain ⟨⟨i0, i1⟩, -, -, -, -, -⟩ := HX.out w1 hb1)
  go_cut [44] from 21 to 44 (fun v wx => v = .bool false ∧ Below (w.alloc (.cells #[.slice A m.funs.length cf, .slice B m.words.length cw] 25)).heap.size (w.alloc (.cells #[.slice A m.funs.length cf, .slice B m.words.length cw] 25)) wx)
  case first =>
    rcases Classical.em (60 < ticks) with q | q
    · have q2 : ¬ ticks ≤ 5000 := fun h => HTK.out ⟨q, h⟩
      go_wp2_with (go_at_call 7; (with_reducible refine (HLG.out _ (grow_trans HB0.out hb1)).mono ?_); rintro x w2 ⟨rfl, hb2⟩)
      go_meet
      exact ⟨congrArg Value.bool (by simp only [Bool.or_eq_false_iff, decide_eq_false_iff_not]; omega), grow_trans hb1 hb2⟩
    · go_wp2_with (go_at_call 7; (with_reducible refine (HLG.out _ (grow_trans HB0.out hb1)).mono ?_); rintro x w2 ⟨rfl, hb2⟩)
      go_meet
      exact ⟨congrArg Value.bool (by simp only [Bool.or_eq_false_iff, decide_eq_false_iff_not]; omega), grow_trans hb1 hb2⟩
  case rest =>
    obtain ⟨rfl, hb2⟩ := hcut
    obtain ⟨w2, hw2⟩ : ∃ w2, wc = w2 := ⟨_, rfl⟩
    rw [hw2] at hb2
    rw [hw2]
    have HB2 := Lib.hid hb2
    obtain ⟨⟨i0, i1⟩, -, -, -, -, -⟩ := HX.out w2 HB2.out
    obtain ⟨pc, hpc⟩ : ∃ pc, (imgC m).1 = pc := ⟨_, rfl⟩
    obtain ⟨pa, hpa⟩ : ∃ pa, (imgC m).2 = pa := ⟨_, rfl⟩
    have HIF2 : Hid (Calls Tryd.prog 8 #[.agg #[.slice A m.funs.length cf, .slice B m.words.length cw]] w2 (Ret (.agg #[.int .i64 ((pc : Nat) : Int), .int .i64 pa]) w2)) := by
      have := HIF.out w2 HB2.out
      unfold IfPost faultV3 at this
      rw [hpc, hpa] at this
      exact this
    have HPC := Lib.hid hpc
    have HPA := Lib.hid hpa
    clear hb2 hw2 hpc hpa
    go_upto_region 5 with (go_at_call 8; (with_reducible refine HIF2.out.mono ?_); rintro x w3 ⟨rfl, hb3⟩; have HB3 := Lib.hid (grow_trans HB2.out hb3); clear hb3)
    obtain ⟨qF, hqF⟩ : ∃ q, w3.heap.size = q := ⟨_, rfl⟩
    obtain ⟨w4, hw4⟩ : ∃ z, w3.alloc (.cells #[.int .i64 ((pc : Nat) : Int), .int .i64 pa] 32) = z := ⟨_, rfl⟩
    have hb4 : Below w3.heap.size w3 w4 := by rw [← hw4]; exact grow_alloc (grow_refl _) _
    have hm4 : w4.heap[qF]? = some (.cells #[.int .i64 ((pc : Nat) : Int), .int .i64 pa] 32 (0, 0)) := by rw [← hw4, ← hqF]; exact heap_alloc_new w3 _
    try rw [hqF]
    try rw [hw4]
    have HB4 := Lib.hid (grow_trans HB3.out hb4)
    have HM4 := Lib.hid hm4
    have HBF := Lib.hid hb4
    have HLF : Hid (qF < w4.heap.size) := (Array.getElem?_eq_some_iff.1 hm4).1
    have hqF3 : w3.heap.size ≤ qF := by omega
    obtain ⟨⟨i0, i1⟩, -, hA4, -, -, -⟩ := HX.out w4 HB4.out
    clear hw4 hb4 hm4 hqF
    go_wp2_with fail
    go_loop [11, 12] (fun n j => ∃ k : Nat, k ≤ m.funs.length ∧ j = .int .i64 k ∧ n = .int .i64 (lastPF name m.funs k)) (fun _ j => m.funs.length - (intOf j).toNat)
    case atStart => exact ⟨0, Nat.zero_le _, rfl, rfl⟩
    case round =>
      obtain ⟨k, hk, rfl, rfl⟩ := hrel
      by_cases hlt : k < m.funs.length
      · have hlt' : (k : Int) < (m.funs.length : Int) := by omega
        have hk0 : (0 : Int) ≤ k := by omega
        obtain ⟨b, off, rfl, f0, -, -, -⟩ := fn_cells hA4 hlt
        have HLA := Lib.hid (lastPF_at (name := name) hlt)
        have hnn : ((mkB m.funs[k].name).toList == (mkB name).toList) = (m.funs[k].name == name) := by rw [mkB_toList, mkB_toList]
        cases hnm : (m.funs[k].name == name)
        · rw [hnm] at HLA hnn
          clear hnm
          go_wp2_with fail
          go_round
          case rel => exact ⟨k + 1, by omega, by go_num, by rw [HLA.out]; rfl⟩
          case measure => simp [intOf]; omega
        · rw [hnm] at HLA hnn
          clear hnm
          go_wp2_with fail
          go_round
          case rel => exact ⟨k + 1, by omega, by go_num, by rw [HLA.out]; rfl⟩
          case measure => simp [intOf]; omega
      · have hk' : k = m.funs.length := by omega
        rw [hk']
        have hlow := lastPF_low name m.funs m.funs.length
        obtain ⟨N, hN⟩ : ∃ N, lastPF name m.funs m.funs.length = N := ⟨_, rfl⟩
        rw [hN] at hlow
        rw [hN]
        have HN := Lib.hid hN
        obtain ⟨z, hz⟩ : ∃ z, (mrunC m name args.length ticks).1 = z := ⟨_, rfl⟩
        obtain ⟨a, ha⟩ : ∃ a, (mrunC m name args.length ticks).2 = a := ⟨_, rfl⟩
        have HZ := Lib.hid hz
        have HA := Lib.hid ha
        obtain ⟨f0, f1⟩ := row2m HM4.out
        clear hk' hlt hk hN hz ha
        go_upto_if 66 with fail
        go_cut [11] from 66 to 86 (fun v wx => v = .int .i64 N ∧ (∃ a', wx.heap[qF]? = some (.cells #[.int .i64 z, .int .i64 a'] 32 (0, 0)) ∧ (z ≠ 0 → a' = a)) ∧ Below w3.heap.size w3 wx)
        case first =>
          by_cases hp0 : pc = 0
          · subst hp0
            have hgood : GoodI m := imgC_good.1 HPC.out
            have hfi : firstPF name m.funs 0 = N := by rw [← last_first hgood name, HN.out]
            by_cases hN0 : N < 0
            · obtain ⟨rfl, rfl⟩ : z = 6 ∧ a = -1 := by
                have e : mrunC m name args.length ticks = (6, -1) := by unfold mrunC; rw [if_neg (by rw [HPC.out]; decide), hfi, if_pos hN0]
                rw [← HZ.out, ← HA.out, e]; exact ⟨rfl, rfl⟩
              clear hgood hfi
              go_wp2_with (go_at_call 15; (with_reducible refine (bareV 6 _).mono ?_); rintro x w5 ⟨rfl, hb5⟩; have hz5 := (hb5.block qF HLF.out).trans HM4.out; obtain ⟨t0, t1⟩ := row2m hz5; have y0 := row_frozen hz5 0; have y1 := row_frozen hz5 1)
              go_meet
              exact ⟨rfl, ⟨-1, setImg hz5, fun _ => rfl⟩, ((HBF.out.trans (hb5.mono HBF.out.size)).setCell hqF3 _).setCell hqF3 _⟩
            · obtain ⟨i, rfl⟩ : ∃ i : Nat, N = i := ⟨N.toNat, by omega⟩
              have hi : i < m.funs.length := by omega
              obtain ⟨b4, off4, rfl, p0, p1, p2, p3⟩ := fn_cells hA4 hi
              obtain ⟨f, hf⟩ : ∃ f, m.funs[i] = f := ⟨_, rfl⟩
              rw [hf] at p0 p1 p2 p3
              have hi1 : (i : Int) < (m.funs.length : Int) := by omega
              have hi2 : (0 : Int) ≤ (i : Int) := by omega
              have hgd : m.funs.getD (firstPF name m.funs 0).toNat fn0 = f := by rw [hfi, Int.toNat_natCast, List.getD_eq_getElem?_getD, List.getElem?_eq_getElem hi, Option.getD_some, hf]
              have hfn0 : ¬ firstPF name m.funs 0 < 0 := by rw [hfi]; omega
              by_cases hpn : f.params = (args.length : Int)
              · have hpnb : ((f.params : Int) != (args.length : Int)) = false := by simpa using hpn
                rcases Classical.em (ticks < 0) with q1 | q1
                · obtain ⟨rfl, rfl⟩ : z = 2 ∧ a = -1 := by
                    have e : mrunC m name args.length ticks = (2, -1) := by unfold mrunC; rw [if_neg (by rw [HPC.out]; decide), if_neg hfn0, hgd, if_neg (by rw [hpn]; simp), if_pos (Or.inl q1)]
                    rw [← HZ.out, ← HA.out, e]; exact ⟨rfl, rfl⟩
                  clear hgood hfi hpn hgd hfn0 hf
                  go_wp2_with (go_at_call 15; (with_reducible refine (bareV 2 _).mono ?_); rintro x w5 ⟨rfl, hb5⟩; have hz5 := (hb5.block qF HLF.out).trans HM4.out; obtain ⟨t0, t1⟩ := row2m hz5; have y0 := row_frozen hz5 0; have y1 := row_frozen hz5 1)
                  go_meet
                  exact ⟨rfl, ⟨-1, setImg hz5, fun _ => rfl⟩, ((HBF.out.trans (hb5.mono HBF.out.size)).setCell hqF3 _).setCell hqF3 _⟩
                · rcases Classical.em (5000 < ticks) with q2 | q2
                  · obtain ⟨rfl, rfl⟩ : z = 2 ∧ a = -1 := by
                      have e : mrunC m name args.length ticks = (2, -1) := by unfold mrunC; rw [if_neg (by rw [HPC.out]; decide), if_neg hfn0, hgd, if_neg (by rw [hpn]; simp), if_pos (Or.inr q2)]
                      rw [← HZ.out, ← HA.out, e]; exact ⟨rfl, rfl⟩
                    clear hgood hfi hpn hgd hfn0 hf
                    go_wp2_with (go_at_call 15; (with_reducible refine (bareV 2 _).mono ?_); rintro x w5 ⟨rfl, hb5⟩; have hz5 := (hb5.block qF HLF.out).trans HM4.out; obtain ⟨t0, t1⟩ := row2m hz5; have y0 := row_frozen hz5 0; have y1 := row_frozen hz5 1)
                    go_meet
                    exact ⟨rfl, ⟨-1, setImg hz5, fun _ => rfl⟩, ((HBF.out.trans (hb5.mono HBF.out.size)).setCell hqF3 _).setCell hqF3 _⟩
                  · obtain ⟨rfl, rfl⟩ : z = 0 ∧ a = -1 := by
                      have e : mrunC m name args.length ticks = (0, -1) := by unfold mrunC; rw [if_neg (by rw [HPC.out]; decide), if_neg hfn0, hgd, if_neg (by rw [hpn]; simp), if_neg (by omega)]
                      rw [← HZ.out, ← HA.out, e]; exact ⟨rfl, rfl⟩
                    clear hgood hfi hpn hgd hfn0 hf
                    go_wp2_with fail
                    go_meet
                    exact ⟨rfl, ⟨pa, HM4.out, fun h => absurd rfl h⟩, HBF.out⟩
              · have hpnb : ((f.params : Int) != (args.length : Int)) = true := by simpa using hpn
                obtain ⟨rfl, rfl⟩ : z = 9 ∧ a = -1 := by
                  have e : mrunC m name args.length ticks = (9, -1) := by unfold mrunC; rw [if_neg (by rw [HPC.out]; decide), if_neg hfn0, hgd, if_pos (by simpa using hpn)]
                  rw [← HZ.out, ← HA.out, e]; exact ⟨rfl, rfl⟩
                clear hgood hfi hpn hgd hfn0 hf
                go_wp2_with (go_at_call 15; (with_reducible refine (bareV 9 _).mono ?_); rintro x w5 ⟨rfl, hb5⟩; have hz5 := (hb5.block qF HLF.out).trans HM4.out; obtain ⟨t0, t1⟩ := row2m hz5; have y0 := row_frozen hz5 0; have y1 := row_frozen hz5 1)
                go_meet
                exact ⟨rfl, ⟨-1, setImg hz5, fun _ => rfl⟩, ((HBF.out.trans (hb5.mono HBF.out.size)).setCell hqF3 _).setCell hqF3 _⟩
          · have hpcb : ((pc : Int) == 0) = false := by simpa using hp0
            have hpci : ¬ (pc : Int) = 0 := by omega
            obtain ⟨rfl, rfl⟩ : z = (pc : Nat) ∧ a = pa := by
              have e : mrunC m name args.length ticks = (((pc : Nat) : Int), pa) := by unfold mrunC; rw [if_pos (by rw [HPC.out]; exact hp0), HPC.out, HPA.out]
              rw [← HZ.out, ← HA.out, e]; exact ⟨rfl, rfl⟩
            go_wp2_with fail
            go_meet
            exact ⟨rfl, ⟨_, HM4.out, fun _ => rfl⟩, HBF.out⟩
        case rest =>
          obtain ⟨rfl, ⟨a', hq5, haa⟩, hb5⟩ := hcut
          obtain ⟨w5, hw5⟩ : ∃ w5, wc = w5 := ⟨_, rfl⟩
          rw [hw5] at hq5 hb5
          rw [hw5]
          have HQ5 := Lib.hid hq5
          have HB5 := Lib.hid (grow_trans HB3.out hb5)
          obtain ⟨⟨i0, i1⟩, -, -, -, -, -⟩ := HX.out w5 HB5.out
          clear hw5 hq5 hb5 hlow
          go_upto_region 19 with (go_at_call 10; (with_reducible refine (HAS.out _ HB5.out).mono ?_); rintro x wJ ⟨vF, vW, rfl, hvF, hvW, hbJ⟩; obtain ⟨AF, cF, rfl, hcF, hrF⟩ := owns_rowG hvF; obtain ⟨AW, cW, rfl, hcW, hrW⟩ := owns_rowG hvW; have HRFJ := Lib.hid hrF; have HRWJ := Lib.hid hrW; have HBJ := Lib.hid hbJ; clear hvF hvW hbJ hrF hrW)
          obtain ⟨xb, hxb⟩ : ∃ xb, wJ.heap.size = xb := ⟨_, rfl⟩
          obtain ⟨w6, hw6⟩ : ∃ w6, wJ.alloc (.cells #[.slice AF m.funs.length cF, .slice AW m.words.length cW] 39) = w6 := ⟨_, rfl⟩
          have hb6 : Below wJ.heap.size wJ w6 := by rw [← hw6]; exact grow_alloc (grow_refl _) _
          have hm6 : w6.heap[xb]? = some (.cells #[.slice AF m.funs.length cF, .slice AW m.words.length cW] 39 (0, 0)) := by rw [← hw6, ← hxb]; exact heap_alloc_new wJ _
          have HM6 := Lib.hid hm6
          have HRF6 := Lib.hid (HRFJ.out.keep (Keeps.of_below hb6))
          have HRW6 := Lib.hid (HRWJ.out.keep (Keeps.of_below hb6))
          have HB56 := Lib.hid (grow_trans HBJ.out hb6)
          have HB6 := Lib.hid (grow_trans HB5.out HB56.out)
          have HF6 := Lib.hid ((HB56.out.block qF (Array.getElem?_eq_some_iff.1 HQ5.out).1).trans HQ5.out)
          obtain ⟨z0, z1⟩ := row2m hm6
          obtain ⟨f0, f1⟩ := row2m HF6.out
          obtain ⟨⟨i0, i1⟩, -, -, -, -, -⟩ := HX.out w6 HB6.out
          have hxl : xb < w6.heap.size := (Array.getElem?_eq_some_iff.1 hm6).1
          try rw [hxb]
          try rw [hw6]
          have HCF := Lib.hid hcF
          have hzr : z = z := rfl
          have HRF : Hid (z ≠ 0 → ∀ w' X' xc', Below w6.heap.size w6 w' → Row w' X' (intVs args) → Calls Tryd.prog 11 #[.agg #[.slice AF m.funs.length cF, .slice AW m.words.length cW], .string (mkB name), .slice X' args.length xc', .int .i64 ticks] w' fun en w'' => ∃ v A c, en = .returned (.tuple #[.agg #[.string ⟨#[]⟩, .int .i64 0, .slice A 0 c, .int .i64 0], v]) ∧ ErrIs E w'' v z a ∧ Below w'.heap.size w' w'') := fun hz w' X' xc' hb hX' => by
            have := run_flt E m (by omega) (by omega) AF AW cF cW HCF.out H64.out name args (by omega) X' xc' ticks w' (HX.out w' (grow_trans HB6.out hb)).2.1.seven (HRF6.out.keep (Keeps.of_below hb)) (HRW6.out.keep (Keeps.of_below hb)) (by rw [HZ.out]; exact hz)
            rw [HZ.out, HA.out] at this
            exact this
          have HX6 := Lib.hid (fun w' (hb : Below w6.heap.size w6 w') => (HX.out w' (grow_trans HB6.out hb)).2.2.2.2.1)
          clear hb6 hm6 hw6 hxb hcF hcW
          by_cases hz0 : z = 0
          · skip
            obtain ⟨hpc0, i, rfl, hi, hpn, htk0, htk1⟩ := runs_zero HZ.out hz0 HN.out
            obtain ⟨T, rfl⟩ : ∃ T : Nat, ticks = T := ⟨ticks.toNat, by omega⟩
            have hT60 : (T : Int) ≤ 60 := by have := HTK.out; omega
            have hl4 : args.length ≤ 4 := by have := fn_ok ((imgC_good.1 hpc0).funs i hi); omega
            have hi1 : (i : Int) < (m.funs.length : Int) := by omega
            have hi2 : (0 : Int) ≤ (i : Int) := by omega
            have HGD : Hid (GoodI m) := imgC_good.1 hpc0
            have HFI : Hid (firstPF name m.funs 0 = i) := by show firstPF name m.funs 0 = i; rw [← last_first HGD.out name, HN.out]
            have HI9 := Lib.hid hpn
            have HP0 := Lib.hid hpc0
            have HMO : Hid (∀ w', Below (w.alloc (.cells #[.slice A m.funs.length cf, .slice B m.words.length cw] 25)).heap.size (w.alloc (.cells #[.slice A m.funs.length cf, .slice B m.words.length cw] 25)) w' → Calls Tryd.prog 9 #[.agg #[.slice A m.funs.length cf, .slice B m.words.length cw], .int .i64 i, .slice X args.length xc, .int .i64 T, .int .i64 20000] w' (RfPost m i args T 20000 w')) := fun w' hb =>
              MachOf_any m HGD.out A B cf cw H64.out i hi args hl4 H6.out X xc T 20000 (by omega) (by omega) w' (HX.out w' hb).2.2.1 (HX.out w' hb).2.2.2.1 (HX.out w' hb).2.2.2.2.1
            have g5 : ¬ (0 : Int) < z := by omega
            subst hz0
            clear hpn hpc0 htk0 htk1 haa hzr HTK
            go_upto_region 24 with (go_at_call 9; (with_reducible refine (HMO.out _ HB6.out).mono ?_); rintro x w7 ⟨A4, c4, ⟨h4, v4, l4, t4⟩, rfl, ho4, hr4, hc4, hb7⟩; have HO4 := Lib.hid ho4; have HR4 := Lib.hid hr4; have HB7 := Lib.hid hb7; clear ho4 hb7 hr4 hc4; unfold ocM; dsimp only)
            obtain ⟨q4, hq4⟩ : ∃ q, w7.heap.size = q := ⟨_, rfl⟩
            obtain ⟨wM, hwM⟩ : ∃ z, w7.alloc (.cells #[.string (mkB h4), .int .i64 v4, .slice A4 l4.length c4, .int .i64 (t4 : Nat)] 35) = z := ⟨_, rfl⟩
            have hbM : Below w7.heap.size w7 wM := by rw [← hwM]; exact grow_alloc (grow_refl _) _
            have hmM : wM.heap[q4]? = some (.cells #[.string (mkB h4), .int .i64 v4, .slice A4 l4.length c4, .int .i64 (t4 : Nat)] 35 (0, 0)) := by rw [← hwM, ← hq4]; exact heap_alloc_new w7 _
            try rw [hq4]
            try rw [hwM]
            have HBM6 := Lib.hid (grow_trans HB7.out hbM)
            have HBM := Lib.hid (grow_trans HB6.out HBM6.out)
            have HRM := Lib.hid (HR4.out.keep (Keeps.of_below hbM))
            have HMM := Lib.hid hmM
            obtain ⟨m0, m1, m2, m3⟩ := row4e hmM
            clear hwM hq4 hbM hmM
            by_cases hlong : h4 = longT
            · have hll : ((mkB h4).toList == [108, 111, 110, 103]) = true := by rw [mkB_toList, hlong]; rfl
              have HB5 := Lib.hid (HX.out wM HBM.out).2.2.2.2.2
              clear hlong
              go_wp2_with fail
              go_ret
              exact ⟨rfl, HB5.out⟩
            · have hll : ((mkB h4).toList == [108, 111, 110, 103]) = false := by rw [mkB_toList]; exact beq_eq_false_iff_ne.2 hlong
              obtain ⟨b, hb⟩ : ∃ b, machP m i args T 20000 = some b := by
                have ho4 := HO4.out
                cases hm : machP m i args T 20000 with
                | none => rw [hm] at ho4; exact absurd ho4 hlong
                | some b => exact ⟨b, rfl⟩
              obtain ⟨rfl, rfl, rfl, rfl⟩ : h4 = b.how ∧ v4 = b.val ∧ l4 = b.out ∧ t4 = b.ticks := by
                have ho4 := HO4.out
                rw [hb] at ho4
                exact ⟨congrArg (fun o => o.1) ho4, congrArg (fun o => o.2.1) ho4, congrArg (fun o => o.2.2.1) ho4, congrArg (fun o => o.2.2.2) ho4⟩
              have HFIN := Lib.hid hb
              have HOB : Hid (b.out.length ≤ 1000000) := by have := (mach_ok HGD.out hi H6.out hb).out; show b.out.length ≤ 1000000; omega
              clear hlong hb
              have hxm : xb < wM.heap.size := by have := HBM6.out.size; omega
              have hmx := (HBM6.out.block xb hxl).trans HM6.out
              obtain ⟨z0, z1⟩ := row2m hmx
              have HRFM := Lib.hid (HRF6.out.keep (Keeps.of_below HBM6.out))
              have HRWM := Lib.hid (HRW6.out.keep (Keeps.of_below HBM6.out))
              have HR1 : Hid (∀ w' X' xc', Below wM.heap.size wM w' → Row w' X' (intVs args) → Calls Tryd.prog 11 #[.agg #[.slice AF m.funs.length cF, .slice AW m.words.length cW], .string (mkB name), .slice X' args.length xc', .int .i64 T] w' fun en w'' => ∃ A c, en = .returned (.tuple #[.agg #[.string (mkB b.how), .int .i64 b.val, .slice A b.out.length c, .int .i64 (b.ticks : Nat)], .nilIface]) ∧ RowUp w'.heap.size w'' A (intVs b.out) ∧ b.out.length ≤ c ∧ Below w'.heap.size w' w'') := fun w' X' xc' hb hX' =>
                run_end (by omega) (by omega) H64.out HP0.out hi HFI.out HI9.out hl8 H6.out (by omega) HFIN.out HCF.out (HX.out w' (grow_trans HBM.out hb)).2.1.seven (HRFM.out.keep (Keeps.of_below hb)) (HRWM.out.keep (Keeps.of_below hb)) hX'
              have HXM := Lib.hid (fun w' (hb : Below wM.heap.size wM w') => (HX.out w' (grow_trans HBM.out hb)).2.2.2.2.1)
              clear hmx HRF HMO
              go_upto_region 26 with fail
              go_cut [18, 19] from 118 to 127 (fun x1 x2 wx => ∃ (q7 : Nat) (A7 : Option Addr) (c7 : Nat), x1 = .pointer (some ⟨q7, 0, none⟩) ∧ x2 = .nilIface ∧ wx.heap[q7]? = some (.cells #[.string (mkB b.how), .int .i64 b.val, .slice A7 b.out.length c7, .int .i64 (b.ticks : Nat)] 35 (0, 0)) ∧ Row wx A7 (intVs b.out) ∧ b.out.length ≤ c7 ∧ Below wM.heap.size wM wx)
              case first =>
                go_region_held3 (fun w' => Below wM.heap.size wM w' ∧ w'.cell? ⟨xb, 0, none⟩ = some (.slice AF m.funs.length cF) ∧ w'.cell? ⟨xb, 1, none⟩ = some (.slice AW m.words.length cW))
                  (first
                    | with_reducible exact ⟨grow_refl _, z0, z1⟩
                    | with_reducible exact ⟨below_drewM (grow_refl _), cell_drewM z0, cell_drewM z1⟩
                    | (go_split_ands
                       refine ⟨?_, ?_, ?_⟩
                       all_goals (first | with_reducible assumption | ((repeat (first | with_reducible refine below_drewM ?_ | with_reducible refine grow_alloc ?_ _)); (first | with_reducible assumption | with_reducible exact HJ.out.1 | with_reducible exact grow_refl _)) | ((repeat (first | with_reducible refine cell_drewM ?_ | with_reducible refine cell_allocM ?_)); (first | with_reducible assumption | with_reducible exact HJ.out.2.1 | with_reducible exact HJ.out.2.2)) | (with_reducible refine grow_trans ?_ hb7; with_reducible assumption) | (with_reducible refine cell_belowM hb7 ?_; with_reducible assumption) | (with_reducible refine grow_trans ?_ hb8; with_reducible assumption) | (with_reducible refine cell_belowM hb8 ?_; with_reducible assumption) | (with_reducible refine put4_below ?_ (by omega); (first | with_reducible assumption | with_reducible exact HJ.out.1 | with_reducible exact grow_refl _)) | (with_reducible refine put4_cell (by dsimp only; omega) ?_; (first | with_reducible assumption | with_reducible exact HJ.out.2.1 | with_reducible exact HJ.out.2.2)))))
                  (first
                    | (refine step_append_ints0M rfl _ _ rfl args rfl X xc rfl (HXM.out _ (by first | assumption | (go_split_ands; assumption))) (by omega) ?_; intro A7 c7 w7 hr7 hb7; have HR7 := Lib.hid hr7; have hs7 : wM.heap.size ≤ w7.heap.size := (by first | exact hb7.size | exact Nat.le_trans (by show wM.heap.size ≤ (wM.alloc _).heap.size; simp) hb7.size); (first | (have hz7 := (alloc_block (w := wM) (o := .cells #[.string ⟨#[]⟩, .int .i64 0, .slice none 0 0, .int .i64 0] 35) (by rfl) hb7).trans (heap_alloc_new _ _)) | skip); clear hr7)
                    | (go_at_call 11; (with_reducible refine (HR1.out _ _ _ (by first | assumption | (go_split_ands; assumption)) (by first | exact HR7.out | exact HR7.out.keep (Keeps.alloc _ _))).mono ?_); rintro y w8 ⟨A8, c8, rfl, hr8, hc8, hb8⟩; (try dsimp only); have hs8 : w7.heap.size ≤ w8.heap.size := (by first | exact hb8.size | exact Nat.le_trans (by show w7.heap.size ≤ (w7.alloc _).heap.size; simp) hb8.size); have HJ : Hid (Below wM.heap.size wM w8 ∧ w8.cell? ⟨xb, 0, none⟩ = some (.slice AF m.funs.length cF) ∧ w8.cell? ⟨xb, 1, none⟩ = some (.slice AW m.words.length cW)) := show _ ∧ _ from (by go_split_ands; refine ⟨?_, ?_, ?_⟩; all_goals (first | (with_reducible refine grow_trans ?_ hb8; with_reducible assumption) | (with_reducible refine cell_belowM hb8 ?_; with_reducible assumption))); have HR8 := Lib.hid hr8; have HC8 := Lib.hid hc8; clear hr8 hc8; (first | (have hz := (hb8.block _ (Array.getElem?_eq_some_iff.1 hz7).1).trans hz7; obtain ⟨e0, e1, e2, e3⟩ := row4e hz; have y0 := row_frozen hz 0; have y1 := row_frozen hz 1; have y2 := row_frozen hz 2; have y3 := row_frozen hz 3) | (have hz := (alloc_block (w := w7) (o := .cells #[.string ⟨#[]⟩, .int .i64 0, .slice none 0 0, .int .i64 0] 35) (by rfl) hb8).trans (heap_alloc_new _ _); obtain ⟨e0, e1, e2, e3⟩ := row4e hz; have y0 := row_frozen hz 0; have y1 := row_frozen hz 1; have y2 := row_frozen hz 2; have y3 := row_frozen hz 3) | skip)))
                all_goals go_wp2_with fail
                all_goals go_meet
                all_goals first
                  | exact ⟨_, A8, c8, rfl, rfl, heap_alloc_new w8 _, (rowup_row HR8.out).keep (Keeps.alloc _ _), HC8.out, grow_alloc HJ.out.1 _⟩
                  | exact ⟨_, A8, c8, rfl, rfl, set4m hz, rowup_put4 HR8.out (by first | exact (Array.getElem?_eq_some_iff.1 hz7).1 | (show _ < (World.alloc _ _).heap.size; simp) | assumption | omega), HC8.out, put4_below HJ.out.1 (by omega)⟩
              case rest =>
                obtain ⟨q7, A7, c7, rfl, rfl, hq7, hr7, hc7, hb7⟩ := hcut
                obtain ⟨wB, hwB⟩ : ∃ w7, wc = w7 := ⟨_, rfl⟩
                rw [hwB] at hq7 hr7 hb7
                rw [hwB]
                have hk4 := (hb7.block q4 (Array.getElem?_eq_some_iff.1 HMM.out).1).trans HMM.out
                obtain ⟨e0, e1, e2, e3⟩ := row4e hq7
                obtain ⟨m0, m1, m2, m3⟩ := row4e hk4
                have HRB := Lib.hid hr7
                have HRC := Lib.hid (HRM.out.keep (Keeps.of_below hb7))
                have HSO : Hid (Calls Tryd.prog 12 #[.agg #[.string (mkB b.how), .int .i64 b.val, .slice A7 b.out.length c7, .int .i64 (b.ticks : Nat)], .agg #[.string (mkB b.how), .int .i64 b.val, .slice A4 b.out.length c4, .int .i64 (b.ticks : Nat)]] wB (Ret (.bool true) wB)) :=
                  SameOutcome_eqM (endO b) A7 A4 c7 c4 wB HRB.out HRC.out HOB.out
                have HBT := Lib.hid (HX.out wB (grow_trans HBM.out hb7)).2.2.2.2.2
                clear hwB hq7 hr7 hb7 hc7 hk4
                go_wp2_with (go_at_call 12; (with_reducible refine HSO.out.mono ?_); rintro y w9 ⟨rfl, hb9⟩)
                go_ret
                exact ⟨rfl, grow_trans HBT.out hb9⟩
          · skip
            have hzp : (0 : Int) < z := by have := mrunC_low m name args.length ticks; rw [HZ.out] at this; omega
            have HR1 := Lib.hid (HRF.out hz0)
            obtain rfl : a = a' := (haa hz0).symm
            clear hz0 haa hzr
            go_upto_region 21 with fail
            go_cut [15, 16] from 92 to 101 (fun x1 x2 wx => ∃ (q7 : Nat) (A7 : Option Addr) (c7 : Nat) (v2 : Value), x1 = .pointer (some ⟨q7, 0, none⟩) ∧ v2 = x2 ∧ ErrIs E wx v2 z a ∧ wx.heap[q7]? = some (.cells #[.string ⟨#[]⟩, .int .i64 0, .slice A7 0 c7, .int .i64 0] 35 (0, 0)) ∧ Below w6.heap.size w6 wx)
            case first =>
              go_region_held3 (fun w' => Below w6.heap.size w6 w' ∧ w'.cell? ⟨xb, 0, none⟩ = some (.slice AF m.funs.length cF) ∧ w'.cell? ⟨xb, 1, none⟩ = some (.slice AW m.words.length cW))
                (first
                  | with_reducible exact ⟨grow_refl _, z0, z1⟩
                  | with_reducible exact ⟨below_drewM (grow_refl _), cell_drewM z0, cell_drewM z1⟩
                  | (go_split_ands
                     refine ⟨?_, ?_, ?_⟩
                     all_goals (first | with_reducible assumption | ((repeat (first | with_reducible refine below_drewM ?_ | with_reducible refine grow_alloc ?_ _)); (first | with_reducible assumption | with_reducible exact HJ.out.1 | with_reducible exact grow_refl _)) | ((repeat (first | with_reducible refine cell_drewM ?_ | with_reducible refine cell_allocM ?_)); (first | with_reducible assumption | with_reducible exact HJ.out.2.1 | with_reducible exact HJ.out.2.2)) | (with_reducible refine grow_trans ?_ hb7; with_reducible assumption) | (with_reducible refine cell_belowM hb7 ?_; with_reducible assumption) | (with_reducible refine grow_trans ?_ hb8; with_reducible assumption) | (with_reducible refine cell_belowM hb8 ?_; with_reducible assumption) | (with_reducible refine put4_below ?_ (by omega); (first | with_reducible assumption | with_reducible exact HJ.out.1 | with_reducible exact grow_refl _)) | (with_reducible refine put4_cell (by dsimp only; omega) ?_; (first | with_reducible assumption | with_reducible exact HJ.out.2.1 | with_reducible exact HJ.out.2.2)))))
                (first
                  | (refine step_append_ints0M rfl _ _ rfl args rfl X xc rfl (HX6.out _ (by first | assumption | (go_split_ands; assumption))) (by omega) ?_; intro A7 c7 w7 hr7 hb7; have HR7 := Lib.hid hr7; have hs7 : w6.heap.size ≤ w7.heap.size := (by first | exact hb7.size | exact Nat.le_trans (by show w6.heap.size ≤ (w6.alloc _).heap.size; simp) hb7.size); (first | (have hz7 := (alloc_block (w := w6) (o := .cells #[.string ⟨#[]⟩, .int .i64 0, .slice none 0 0, .int .i64 0] 35) (by rfl) hb7).trans (heap_alloc_new _ _)) | skip); clear hr7)
                  | (go_at_call 11; (with_reducible refine (HR1.out _ _ _ (by first | assumption | (go_split_ands; assumption)) (by first | exact HR7.out | exact HR7.out.keep (Keeps.alloc _ _))).mono ?_); rintro y w8 ⟨v8, A8, c8, rfl, hv8, hb8⟩; (try dsimp only); have hs8 : w7.heap.size ≤ w8.heap.size := (by first | exact hb8.size | exact Nat.le_trans (by show w7.heap.size ≤ (w7.alloc _).heap.size; simp) hb8.size); have HJ : Hid (Below w6.heap.size w6 w8 ∧ w8.cell? ⟨xb, 0, none⟩ = some (.slice AF m.funs.length cF) ∧ w8.cell? ⟨xb, 1, none⟩ = some (.slice AW m.words.length cW)) := show _ ∧ _ from (by go_split_ands; refine ⟨?_, ?_, ?_⟩; all_goals (first | (with_reducible refine grow_trans ?_ hb8; with_reducible assumption) | (with_reducible refine cell_belowM hb8 ?_; with_reducible assumption))); have HV8 := Lib.hid hv8; clear hv8; (first | (have hz := (hb8.block _ (Array.getElem?_eq_some_iff.1 hz7).1).trans hz7; obtain ⟨e0, e1, e2, e3⟩ := row4e hz; have y0 := row_frozen hz 0; have y1 := row_frozen hz 1; have y2 := row_frozen hz 2; have y3 := row_frozen hz 3) | (have hz := (alloc_block (w := w7) (o := .cells #[.string ⟨#[]⟩, .int .i64 0, .slice none 0 0, .int .i64 0] 35) (by rfl) hb8).trans (heap_alloc_new _ _); obtain ⟨e0, e1, e2, e3⟩ := row4e hz; have y0 := row_frozen hz 0; have y1 := row_frozen hz 1; have y2 := row_frozen hz 2; have y3 := row_frozen hz 3) | skip)))
              all_goals go_wp2_with fail
              all_goals go_meet
              all_goals first
                | with_reducible exact ⟨_, A8, c8, v8, rfl, rfl, HV8.out.keep (Keeps.alloc _ _), heap_alloc_new w8 _, grow_alloc HJ.out.1 _⟩
                | (refine ⟨_, A8, c8, v8, rfl, rfl, ?_, set4m hz, put4_below HJ.out.1 (by omega)⟩; exact errIs_farm HV8.out hz (fun j u h => noIface4m j u h) (fun k hk => far4m k hk))
            case rest =>
              obtain ⟨q7, A7, c7, v2, rfl, rfl, hv7, hq7, hb7⟩ := hcut
              obtain ⟨wB, hwB⟩ : ∃ w7, wc = w7 := ⟨_, rfl⟩
              rw [hwB] at hq7 hv7 hb7
              rw [hwB]
              have HB9 := Lib.hid (grow_trans HB6.out hb7)
              have hfq := (hb7.block qF (Array.getElem?_eq_some_iff.1 HF6.out).1).trans HF6.out
              obtain ⟨f0, f1⟩ := row2m hfq
              obtain ⟨e0, e1, e2, e3⟩ := row4e hq7
              have HFL : Hid (Calls Tryd.prog 16 #[v2, .agg #[.int .i64 z, .int .i64 a]] wB (Ret (.bool true) wB)) := faulted3_same E wB (HX.out wB HB9.out).2.1 v2 z a hv7
              have HQ7 := Lib.hid hq7
              have HSO : Hid (∀ w', Calls Tryd.prog 12 #[.agg #[.string ⟨#[]⟩, .int .i64 0, .slice A7 0 c7, .int .i64 0], .agg #[.string ⟨#[]⟩, .int .i64 0, .slice none 0 0, .int .i64 0]] w' (Ret (.bool true) w')) := fun w' =>
                SameOutcome_eqM oc0M A7 none c7 0 w' (Row.nil _ _) (Row.nil _ _) (Nat.zero_le _)
              clear hwB hv7 hq7 hb7 hfq
              go_wp2_with (first
                | (go_at_call 16; (with_reducible refine HFL.out.mono ?_); rintro y w9 ⟨rfl, hb9⟩; obtain ⟨e0, e1, e2, e3⟩ := row4e ((hb9.block _ (Array.getElem?_eq_some_iff.1 HQ7.out).1).trans HQ7.out))
                | (go_at_call 12; (with_reducible refine (HSO.out _).mono ?_); rintro y w10 ⟨rfl, hb10⟩))
              go_ret
              exact ⟨rfl, grow_trans (HX.out wB HB9.out).2.2.2.2.2 (grow_trans hb9 hb10)⟩
theorem MachRuns_walk (E : Nat → Addr) (m : PImg) (hnf : m.funs.length ≤ maxLen) (hnw : m.words.length ≤ maxLen) (A B : Option Addr) (cf cw : Nat) (h64 : ∀ n ∈ m.words, 0 ≤ n ∧ n < 18446744073709551616) (name : Txt) (args : List Int) (h6 : ∀ n ∈ args, I64 n) (X : Option Addr) (xc : Nat) (ticks : Int) (w : World) (hE : Laid E w) (hA : Row w A (m.funs.flatMap fnL)) (hB : Row w B (u64Vs m.words)) (hX : Row w X (intVs args)) :
    Calls Tryd.prog 5 #[.agg #[.slice A m.funs.length cf, .slice B m.words.length cw], .string (mkB name), .slice X args.length xc, .int .i64 ticks] w (Ret (.bool true) w) := by
  cases h : runsOut m name args.length ticks
  · exact runs_main E m hnf hnw A B cf cw h64 name args h6 X xc ticks w hE hA hB hX h
  · exact runs_early E m hnf hnw A B cf cw name args X xc ticks w hE hA h
end Go.Proofs.YtgoifbkogboppaaDoor
