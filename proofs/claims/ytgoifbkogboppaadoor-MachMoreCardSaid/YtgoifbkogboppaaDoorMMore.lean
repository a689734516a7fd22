import Derived.Test.YtgoifbkogboppaaDoorBn32
import Derived.Test.YtgoifbkogboppaaDoorRfM
import Derived.Test.YtgoifbkogboppaaDoorBn29
set_option linter.unusedVariables false
set_option linter.unusedSimpArgs false
namespace Go.Proofs.YtgoifbkogboppaaDoor
open Go.RowKit

/-! MachMore -/
theorem rowup_row {n : Nat} {w : World} {A : Option Addr} {xs : List Value} (h : RowUp n w A xs) : Row w A xs := h.1
def moreOut (m : PImg) (n : Nat) (ticks more : Int) : Bool := largeB m || decide (8 < n) || decide (ticks < 0) || decide (60 < ticks) || decide (more < 0) || decide (60 < more)
set_option maxHeartbeats 8000000 in
set_option maxRecDepth 100000 in
theorem more_early (E : Nat → Addr) (m : PImg) (hnf : m.funs.length ≤ maxLen) (hnw : m.words.length ≤ maxLen) (A B : Option Addr) (cf cw : Nat) (name : Txt) (args : List Int) (X : Option Addr) (xc : Nat) (ticks more : Int) (w : World) (hE : Laid7 E w) (hA : Row w A (m.funs.flatMap fnL)) (h : moreOut m args.length ticks more = true) :
    Calls Tryd.prog 3 #[.agg #[.slice A m.funs.length cf, .slice B m.words.length cw], .string (mkB name), .slice X args.length xc, .int .i64 ticks, .int .i64 more] w (Ret (.bool true) w) := by
  have hb0 := grow_alloc (grow_refl w) (.cells #[.slice A m.funs.length cf, .slice B m.words.length cw] 25)
  have hm0 := heap_alloc_new w (.cells #[.slice A m.funs.length cf, .slice B m.words.length cw] 25)
  have HB0 := Lib.hid hb0
  have HM0 := Lib.hid hm0
  have HS := Lib.hid (machined_any E _ (hE.keep hb0))
  have HLG : Hid (∀ w', Below w.heap.size w w' → Calls Tryd.prog 7 #[.agg #[.slice A m.funs.length cf, .slice B m.words.length cw]] w' (Ret (.bool (largeB m)) w')) := fun w' hb => largeImage_any m hnf hnw A B cf cw w' (hA.keep (Keeps.of_below hb))
  clear hE hA hb0 hm0
  unfold moreOut at h
  cases h1 : largeB m
  · rw [h1] at HLG h
    have h' : 8 < args.length ∨ ticks < 0 ∨ 60 < ticks ∨ more < 0 ∨ 60 < more := by simpa [or_assoc] using h
    clear h h1
    rcases Classical.em ((8 : Int) < (args.length : Int)) with g1 | g1
    · clear h'
      go_enter Tryd.func3, Tryd.ntmps3
      go_wp2_with (first
        | (go_at_call 6; (with_reducible refine HS.out.mono ?_); rintro x w1 ⟨rfl, hb1⟩; obtain ⟨i0, i1⟩ := row2m ((hb1.block _ (by simp)).trans HM0.out))
        | (go_at_call 7; (with_reducible refine (HLG.out _ (grow_trans HB0.out hb1)).mono ?_); rintro x w2 ⟨rfl, hb2⟩))
      go_ret
      exact ⟨rfl, grow_trans (grow_trans HB0.out hb1) hb2⟩
    · rcases Classical.em (ticks < 0) with g2 | g2
      · clear h'
        go_enter Tryd.func3, Tryd.ntmps3
        go_wp2_with (first
          | (go_at_call 6; (with_reducible refine HS.out.mono ?_); rintro x w1 ⟨rfl, hb1⟩; obtain ⟨i0, i1⟩ := row2m ((hb1.block _ (by simp)).trans HM0.out))
          | (go_at_call 7; (with_reducible refine (HLG.out _ (grow_trans HB0.out hb1)).mono ?_); rintro x w2 ⟨rfl, hb2⟩))
        go_ret
        exact ⟨rfl, grow_trans (grow_trans HB0.out hb1) hb2⟩
      · rcases Classical.em (60 < ticks) with g3 | g3
        · clear h'
          go_enter Tryd.func3, Tryd.ntmps3
          go_wp2_with (first
            | (go_at_call 6; (with_reducible refine HS.out.mono ?_); rintro x w1 ⟨rfl, hb1⟩; obtain ⟨i0, i1⟩ := row2m ((hb1.block _ (by simp)).trans HM0.out))
            | (go_at_call 7; (with_reducible refine (HLG.out _ (grow_trans HB0.out hb1)).mono ?_); rintro x w2 ⟨rfl, hb2⟩))
          go_ret
          exact ⟨rfl, grow_trans (grow_trans HB0.out hb1) hb2⟩
        · rcases Classical.em (more < 0) with g4 | g4
          · clear h'
            go_enter Tryd.func3, Tryd.ntmps3
            go_wp2_with (first
              | (go_at_call 6; (with_reducible refine HS.out.mono ?_); rintro x w1 ⟨rfl, hb1⟩; obtain ⟨i0, i1⟩ := row2m ((hb1.block _ (by simp)).trans HM0.out))
              | (go_at_call 7; (with_reducible refine (HLG.out _ (grow_trans HB0.out hb1)).mono ?_); rintro x w2 ⟨rfl, hb2⟩))
            go_ret
            exact ⟨rfl, grow_trans (grow_trans HB0.out hb1) hb2⟩
          · have g5 : 60 < more := by rcases h' with h | h | h | h | h <;> omega
            clear h'
            go_enter Tryd.func3, Tryd.ntmps3
            go_wp2_with (first
              | (go_at_call 6; (with_reducible refine HS.out.mono ?_); rintro x w1 ⟨rfl, hb1⟩; obtain ⟨i0, i1⟩ := row2m ((hb1.block _ (by simp)).trans HM0.out))
              | (go_at_call 7; (with_reducible refine (HLG.out _ (grow_trans HB0.out hb1)).mono ?_); rintro x w2 ⟨rfl, hb2⟩))
            go_ret
            exact ⟨rfl, grow_trans (grow_trans HB0.out hb1) hb2⟩
  · rw [h1] at HLG
    clear h h1
    go_enter Tryd.func3, Tryd.ntmps3
    go_wp2_with (first
      | (go_at_call 6; (with_reducible refine HS.out.mono ?_); rintro x w1 ⟨rfl, hb1⟩; obtain ⟨i0, i1⟩ := row2m ((hb1.block _ (by simp)).trans HM0.out))
      | (go_at_call 7; (with_reducible refine (HLG.out _ (grow_trans HB0.out hb1)).mono ?_); rintro x w2 ⟨rfl, hb2⟩))
    go_ret
    exact ⟨rfl, grow_trans (grow_trans HB0.out hb1) hb2⟩
set_option maxHeartbeats 16000000 in
set_option maxRecDepth 100000 in
theorem more_main (E : Nat → Addr) (m : PImg) (hnf : m.funs.length ≤ maxLen) (hnw : m.words.length ≤ maxLen) (A B : Option Addr) (cf cw : Nat) (h64 : ∀ n ∈ m.words, 0 ≤ n ∧ n < 18446744073709551616) (name : Txt) (args : List Int) (h6 : ∀ n ∈ args, I64 n) (X : Option Addr) (xc : Nat) (ticks more : Int) (w : World) (hE : Laid7 E w) (hA : Row w A (m.funs.flatMap fnL)) (hB : Row w B (u64Vs m.words)) (hX : Row w X (intVs args)) (h : moreOut m args.length ticks more = false) :
    Calls Tryd.prog 3 #[.agg #[.slice A m.funs.length cf, .slice B m.words.length cw], .string (mkB name), .slice X args.length xc, .int .i64 ticks, .int .i64 more] w (Ret (.bool true) w) := by
  unfold moreOut at h
  simp only [Bool.or_eq_false_iff, decide_eq_false_iff_not] at h
  obtain ⟨⟨⟨⟨⟨hlg, h8⟩, ht0⟩, ht1⟩, hm0⟩, hm1⟩ := h
  obtain ⟨hnf12, hnw8⟩ := large_not hlg
  obtain ⟨T, rfl⟩ : ∃ T : Nat, ticks = T := ⟨ticks.toNat, by omega⟩
  obtain ⟨M, rfl⟩ : ∃ T : Nat, more = T := ⟨more.toNat, by omega⟩
  have hT60 : (T : Int) ≤ 60 := by omega
  have hM60 : (M : Int) ≤ 60 := by omega
  have hadd : ((T + M : Nat) : Int) = (T : Int) + (M : Int) := by omega
  have g1 : ¬ (8 : Int) < (args.length : Int) := by omega
  have g2 : ¬ (T : Int) < 0 := by omega
  have g3 : ¬ 60 < (T : Int) := by omega
  have g4 : ¬ (M : Int) < 0 := by omega
  have g5 : ¬ 60 < (M : Int) := by omega
  have hb0 := grow_alloc (grow_refl w) (.cells #[.slice A m.funs.length cf, .slice B m.words.length cw] 25)
  have hm0' := heap_alloc_new w (.cells #[.slice A m.funs.length cf, .slice B m.words.length cw] 25)
  have HB0 := Lib.hid hb0
  have HM0 := Lib.hid hm0'
  have HS := Lib.hid (machined_any E _ (hE.keep hb0))
  have HLG : Hid (∀ w', Below w.heap.size w w' → Calls Tryd.prog 7 #[.agg #[.slice A m.funs.length cf, .slice B m.words.length cw]] w' (Ret (.bool false) w')) := fun w' hb => by
    have := largeImage_any m hnf hnw A B cf cw w' (hA.keep (Keeps.of_below hb))
    rwa [hlg] at this
  have HX : Hid (∀ w', Below (w.alloc (.cells #[.slice A m.funs.length cf, .slice B m.words.length cw] 25)).heap.size (w.alloc (.cells #[.slice A m.funs.length cf, .slice B m.words.length cw] 25)) w' → (w'.cell? ⟨w.heap.size, 0, none⟩ = some (.slice A m.funs.length cf) ∧ w'.cell? ⟨w.heap.size, 1, none⟩ = some (.slice B m.words.length cw)) ∧ Laid7 E w' ∧ Row w' A (m.funs.flatMap fnL) ∧ Row w' B (u64Vs m.words) ∧ Row w' X (intVs args) ∧ Below w.heap.size w w') := fun w' hb =>
    have hb2 : Below w.heap.size w w' := grow_trans hb0 hb
    ⟨row2m ((hb.block _ (by simp)).trans hm0'), hE.keep hb2, hA.keep (Keeps.of_below hb2), hB.keep (Keeps.of_below hb2), hX.keep (Keeps.of_below hb2), hb2⟩
  have HIF : Hid (∀ w', Below (w.alloc (.cells #[.slice A m.funs.length cf, .slice B m.words.length cw] 25)).heap.size (w.alloc (.cells #[.slice A m.funs.length cf, .slice B m.words.length cw] 25)) w' → Calls Tryd.prog 8 #[.agg #[.slice A m.funs.length cf, .slice B m.words.length cw]] w' (Ret (.agg #[.int .i64 ((imgC m).1 : Nat), .int .i64 (imgC m).2]) w')) := fun w' hb =>
    ImageFault_any m (by omega) (by omega) A B cf cw h64 w' (HX.out w' hb).2.2.1 (HX.out w' hb).2.2.2.1
  have HAS : Hid (∀ w', Below (w.alloc (.cells #[.slice A m.funs.length cf, .slice B m.words.length cw] 25)).heap.size (w.alloc (.cells #[.slice A m.funs.length cf, .slice B m.words.length cw] 25)) w' → Calls Tryd.prog 10 #[.agg #[.slice A m.funs.length cf, .slice B m.words.length cw]] w' (AsPost m w')) := fun w' hb =>
    AsImage_any m (by omega) (by omega) A B cf cw w' (HX.out w' hb).2.2.1 (HX.out w' hb).2.2.2.1
  have H6 := Lib.hid h6
  have H64 := Lib.hid h64
  have hl8 : args.length ≤ 8 := by omega
  have hff := field_fault
  have hfo2 := field_outcome
  clear hE hA hB hX hb0 hm0' hlg h8 ht0 ht1 hm0 hm1 h6 h64
  go_enter Tryd.func3, Tryd.ntmps3
  go_wp2_with (first
    | (go_at_call 6; (with_reducible refine HS.out.mono ?_); rintro x w1 ⟨rfl, hb1⟩; obtain ⟨i0, i1⟩ := row2m ((hb1.block _ (by simp)).trans HM0.out))
    | (go_at_call 7; (with_reducible refine (HLG.out _ (grow_trans HB0.out hb1)).mono ?_); rintro x w2 ⟨rfl, hb2⟩))
  have HB2 := Lib.hid (grow_trans hb1 hb2)
  obtain ⟨⟨i0, i1⟩, hL2, hA2, -, -, -⟩ := HX.out w2 HB2.out
  clear hb1 hb2 hL2
  go_loop [12, 13] (fun n j => ∃ k : Nat, k ≤ m.funs.length ∧ j = .int .i64 k ∧ n = .int .i64 (lastPF name m.funs k)) (fun _ j => m.funs.length - (intOf j).toNat)
  case atStart => exact ⟨0, Nat.zero_le _, rfl, rfl⟩
  case round =>
    obtain ⟨k, hk, rfl, rfl⟩ := hrel
    by_cases hlt : k < m.funs.length
    · have hlt' : (k : Int) < (m.funs.length : Int) := by omega
      have hk0 : (0 : Int) ≤ k := by omega
      obtain ⟨b, off, rfl, f0, -, -, -⟩ := fn_cells hA2 hlt
      have HLA := Lib.hid (lastPF_at (name := name) hlt)
      have hnn : ((mkB m.funs[k].name).toList == (mkB name).toList) = (m.funs[k].name == name) := by rw [mkB_toList, mkB_toList]
      cases hnm : (m.funs[k].name == name)
      · rw [hnm] at HLA hnn
        clear hnm
        go_wp2_with fail
        go_round
        case rel => exact ⟨k + 1, by omega, by go_num, by rw [HLA.out]; rfl⟩
        case measure => simp [intOf]; omega
      · rw [hnm] at HLA hnn
        clear hnm
        go_wp2_with fail
        go_round
        case rel => exact ⟨k + 1, by omega, by go_num, by rw [HLA.out]; rfl⟩
        case measure => simp [intOf]; omega
    · have hk' : k = m.funs.length := by omega
      rw [hk']
      have hlow := lastPF_low name m.funs m.funs.length
      obtain ⟨N, hN⟩ : ∃ N, lastPF name m.funs m.funs.length = N := ⟨_, rfl⟩
      rw [hN] at hlow
      rw [hN]
      have HN := Lib.hid hN
      have HIF2 := Lib.hid (HIF.out w2 HB2.out)
      obtain ⟨pc, hpc⟩ : ∃ pc, (imgC m).1 = pc := ⟨_, rfl⟩
      obtain ⟨pa, hpa⟩ : ∃ pa, (imgC m).2 = pa := ⟨_, rfl⟩
      rw [hpc, hpa] at HIF2
      have HPC := Lib.hid hpc
      clear hk' hlt hk hN hpc hpa
      by_cases hp0 : pc = 0
      · subst hp0
        rw [show ((0 : Nat) : Int) = 0 from rfl] at HIF2
        by_cases hN0 : N < 0
        · go_wp2_with (go_at_call 8; (with_reducible refine HIF2.out.mono ?_); rintro x w3 ⟨rfl, hb3⟩)
          go_ret
          exact ⟨rfl, grow_trans (HX.out w2 HB2.out).2.2.2.2.2 hb3⟩
        · obtain ⟨i, rfl⟩ : ∃ i : Nat, N = i := ⟨N.toNat, by omega⟩
          have hi : i < m.funs.length := by omega
          have hgood : GoodI m := imgC_good.1 HPC.out
          have hfi : firstPF name m.funs 0 = i := by rw [← last_first hgood name, HN.out]
          have hfo := fn_ok (hgood.funs i hi)
          have HGD := Lib.hid hgood
          have HFI := Lib.hid hfi
          obtain ⟨f, hf⟩ : ∃ f, m.funs[i] = f := ⟨_, rfl⟩
          rw [hf] at hfo
          have HF := Lib.hid hf
          have hi1 : (i : Int) < (m.funs.length : Int) := by omega
          have hi2 : (0 : Int) ≤ (i : Int) := by omega
          clear hN0 hlow hgood hfi hf
          by_cases hpn : f.params = (args.length : Int)
          · have hpnb : ((f.params : Int) != (args.length : Int)) = false := by simpa using hpn
            have hl4 : args.length ≤ 4 := by omega
            have HPN := Lib.hid hpn
            have HMO : Hid (∀ w', Below (w.alloc (.cells #[.slice A m.funs.length cf, .slice B m.words.length cw] 25)).heap.size (w.alloc (.cells #[.slice A m.funs.length cf, .slice B m.words.length cw] 25)) w' → Calls Tryd.prog 9 #[.agg #[.slice A m.funs.length cf, .slice B m.words.length cw], .int .i64 i, .slice X args.length xc, .int .i64 ((T : Int) + (M : Int)), .int .i64 20000] w' (RfPost m i args (T + M) 20000 w')) := fun w' hb => by
              have := MachOf_any m HGD.out A B cf cw H64.out i hi args hl4 H6.out X xc (T + M) 20000 (by omega) (by omega) w' (HX.out w' hb).2.2.1 (HX.out w' hb).2.2.2.1 (HX.out w' hb).2.2.2.2.1
              rw [hadd] at this
              exact this
            have hsum : IntKind.i64.wrap ((T : Int) + (M : Int)) = (T : Int) + (M : Int) := IntWalk.i64_in _ (by omega)
            clear hpn hfo hadd
            go_upto_region 12 with (go_at_call 8; (with_reducible refine HIF2.out.mono ?_); rintro x w3 ⟨rfl, hb3⟩; obtain ⟨⟨i0, i1⟩, hL3, hA3, -, -, -⟩ := HX.out w3 (grow_trans HB2.out hb3))
            obtain ⟨b4, off4, rfl, f0, f1, f2, f3⟩ := fn_cells hA3 hi
            rw [HF.out] at f0 f1 f2 f3
            have HB3 := Lib.hid (grow_trans HB2.out hb3)
            clear hb3 hL3 hA3 f0 f2 f3
            go_upto_if 93 with (go_at_call 9; (with_reducible refine (HMO.out _ HB3.out).mono ?_); rintro x w4 ⟨A4, c4, ⟨h4, v4, l4, t4⟩, rfl, ho4, hr4, hc4, hb4⟩; have HO4 := Lib.hid ho4; have HB4 := Lib.hid (grow_trans HB3.out hb4); clear ho4 hb4; unfold ocM; dsimp only)
            by_cases hlong : h4 = longT
            · have hll : ((mkB h4).toList == [108, 111, 110, 103]) = true := by rw [mkB_toList, hlong]; rfl
              have HB5 := Lib.hid (HX.out w4 HB4.out).2.2.2.2.2
              clear hlong
              rw [hll]
              go_wp2_with fail
              go_ret
              exact ⟨rfl, HB5.out⟩
            · have hll : ((mkB h4).toList == [108, 111, 110, 103]) = false := by rw [mkB_toList]; exact beq_eq_false_iff_ne.2 hlong
              obtain ⟨b, hb⟩ : ∃ b, machP m i args (T + M) 20000 = some b := by
                have ho4 := HO4.out
                cases hm : machP m i args (T + M) 20000 with
                | none => rw [hm] at ho4; exact absurd ho4 hlong
                | some b => exact ⟨b, rfl⟩
              obtain ⟨a, ha, hab⟩ := more_mach (show T ≤ T + M by omega) hb
              have HA2 := Lib.hid ha
              have HB9 := Lib.hid hb
              have HAB := Lib.hid hab
              have hI : m.funs[i].params = args.length := by rw [HF.out]; exact HPN.out
              have HI9 := Lib.hid hI
              obtain ⟨⟨i0, i1⟩, -, -, -, -, -⟩ := HX.out w4 HB4.out
              clear hlong ha hb hab hI f1 HMO HIF2 hr4 hc4
              rw [hll]
              go_upto_region 14 with fail
              go_upto_region 15 with (go_at_call 10; (with_reducible refine (HAS.out _ HB4.out).mono ?_); rintro x w5 ⟨vF, vW, rfl, hvF, hvW, hb5⟩; obtain ⟨AF, cF, rfl, hcF, hrF⟩ := owns_rowG hvF; obtain ⟨AW, cW, rfl, hcW, hrW⟩ := owns_rowG hvW; have HRF := Lib.hid hrF; have HRW := Lib.hid hrW; have HB5 := Lib.hid (grow_trans HB4.out hb5); clear hvF hvW hb5 hrF hrW)
              obtain ⟨xb, hxb⟩ : ∃ xb, w5.heap.size = xb := ⟨_, rfl⟩
              obtain ⟨w6, hw6⟩ : ∃ w6, w5.alloc (.cells #[.slice AF m.funs.length cF, .slice AW m.words.length cW] 39) = w6 := ⟨_, rfl⟩
              have hb6 : Below w5.heap.size w5 w6 := by rw [← hw6]; exact grow_alloc (grow_refl _) _
              have hm6 : w6.heap[xb]? = some (.cells #[.slice AF m.funs.length cF, .slice AW m.words.length cW] 39 (0, 0)) := by rw [← hw6, ← hxb]; exact heap_alloc_new w5 _
              have HM6 := Lib.hid hm6
              have HRF6 := Lib.hid (HRF.out.keep (Keeps.of_below hb6))
              have HRW6 := Lib.hid (HRW.out.keep (Keeps.of_below hb6))
              have HB6 := Lib.hid (grow_trans HB5.out hb6)
              obtain ⟨z0, z1⟩ := row2m hm6
              have hxl : xb < w6.heap.size := (Array.getElem?_eq_some_iff.1 hm6).1
              try rw [hxb]
              try rw [hw6]
              have HRUN : Hid (∀ (S : Nat) (fin : PMs), S ≤ 5000 → machP m i args S 20000 = some fin → ∀ w' X' xc', Below w6.heap.size w6 w' → Row w' X' (intVs args) → Calls Tryd.prog 11 #[.agg #[.slice AF m.funs.length cF, .slice AW m.words.length cW], .string (mkB name), .slice X' args.length xc', .int .i64 S] w' fun en w'' => ∃ A c, en = .returned (.tuple #[.agg #[.string (mkB fin.how), .int .i64 fin.val, .slice A fin.out.length c, .int .i64 (fin.ticks : Nat)], .nilIface]) ∧ RowUp w'.heap.size w'' A (intVs fin.out) ∧ fin.out.length ≤ c ∧ Below w'.heap.size w' w'') := fun S fin hS hfin w' X' xc' hb hX' =>
                run_end (by omega) (by omega) H64.out HPC.out hi HFI.out HI9.out hl8 H6.out hS hfin hcF (HX.out w' (grow_trans HB6.out hb)).2.1 (HRF6.out.keep (Keeps.of_below hb)) (HRW6.out.keep (Keeps.of_below hb)) hX'
              have HR1 := Lib.hid (HRUN.out T a (by omega) HA2.out)
              have HR2 : Hid (∀ w' X' xc', Below w6.heap.size w6 w' → Row w' X' (intVs args) → Calls Tryd.prog 11 #[.agg #[.slice AF m.funs.length cF, .slice AW m.words.length cW], .string (mkB name), .slice X' args.length xc', .int .i64 ((T : Int) + (M : Int))] w' fun en w'' => ∃ A c, en = .returned (.tuple #[.agg #[.string (mkB b.how), .int .i64 b.val, .slice A b.out.length c, .int .i64 (b.ticks : Nat)], .nilIface]) ∧ RowUp w'.heap.size w'' A (intVs b.out) ∧ b.out.length ≤ c ∧ Below w'.heap.size w' w'') := fun w' X' xc' hb hX' => by
                have := HRUN.out (T + M) b (by omega) HB9.out w' X' xc' hb hX'
                rw [show ((T + M : Nat) : Int) = (T : Int) + (M : Int) by omega] at this
                exact this
              have HX6 := Lib.hid (fun w' (hb : Below w6.heap.size w6 w') => (HX.out w' (grow_trans HB6.out hb)).2.2.2.2.1)
              clear hb6 hm6 hw6 i0 i1 HRUN hcF hcW
              go_upto_region 17 with fail
              go_cut [17, 18] from 96 to 105 (fun x1 x2 wx => ∃ (q7 : Nat) (A7 : Option Addr) (c7 : Nat), x1 = .pointer (some ⟨q7, 0, none⟩) ∧ x2 = .nilIface ∧ wx.heap[q7]? = some (.cells #[.string (mkB a.how), .int .i64 a.val, .slice A7 a.out.length c7, .int .i64 (a.ticks : Nat)] 35 (0, 0)) ∧ Row wx A7 (intVs a.out) ∧ a.out.length ≤ c7 ∧ Below w6.heap.size w6 wx)
              case first =>
                go_region_held3 (fun w' => Below w6.heap.size w6 w' ∧ w'.cell? ⟨xb, 0, none⟩ = some (.slice AF m.funs.length cF) ∧ w'.cell? ⟨xb, 1, none⟩ = some (.slice AW m.words.length cW))
                  (first
                    | with_reducible exact ⟨grow_refl _, z0, z1⟩
                    | with_reducible exact ⟨below_drewM (grow_refl _), cell_drewM z0, cell_drewM z1⟩
                    | (go_split_ands
                       refine ⟨?_, ?_, ?_⟩
                       all_goals (first | with_reducible assumption | ((repeat (first | with_reducible refine below_drewM ?_ | with_reducible refine grow_alloc ?_ _)); (first | with_reducible assumption | with_reducible exact HJ.out.1 | with_reducible exact grow_refl _)) | ((repeat (first | with_reducible refine cell_drewM ?_ | with_reducible refine cell_allocM ?_)); (first | with_reducible assumption | with_reducible exact HJ.out.2.1 | with_reducible exact HJ.out.2.2)) | (with_reducible refine grow_trans ?_ hb7; with_reducible assumption) | (with_reducible refine cell_belowM hb7 ?_; with_reducible assumption) | (with_reducible refine grow_trans ?_ hb8; with_reducible assumption) | (with_reducible refine cell_belowM hb8 ?_; with_reducible assumption) | (with_reducible refine put4_below ?_ (by omega); (first | with_reducible assumption | with_reducible exact HJ.out.1 | with_reducible exact grow_refl _)) | (with_reducible refine put4_cell (by dsimp only; omega) ?_; (first | with_reducible assumption | with_reducible exact HJ.out.2.1 | with_reducible exact HJ.out.2.2)))))
                  (first
                    | (refine step_append_ints0M rfl _ _ rfl args rfl X xc rfl (HX6.out _ (by first | assumption | (go_split_ands; assumption))) (by omega) ?_; intro A7 c7 w7 hr7 hb7; have HR7 := Lib.hid hr7; have hs7 : w6.heap.size ≤ w7.heap.size := (by first | exact hb7.size | exact Nat.le_trans (by show w6.heap.size ≤ (w6.alloc _).heap.size; simp) hb7.size); (first | (have hz7 := (alloc_block (w := w6) (o := .cells #[.string ⟨#[]⟩, .int .i64 0, .slice none 0 0, .int .i64 0] 35) (by rfl) hb7).trans (heap_alloc_new _ _)) | skip); clear hr7)
                    | (go_at_call 11; (with_reducible refine (HR1.out _ _ _ (by first | assumption | (go_split_ands; assumption)) (by first | exact HR7.out | exact HR7.out.keep (Keeps.alloc _ _))).mono ?_); rintro y w8 ⟨A8, c8, rfl, hr8, hc8, hb8⟩; (try dsimp only); have hs8 : w7.heap.size ≤ w8.heap.size := (by first | exact hb8.size | exact Nat.le_trans (by show w7.heap.size ≤ (w7.alloc _).heap.size; simp) hb8.size); have HJ : Hid (Below w6.heap.size w6 w8 ∧ w8.cell? ⟨xb, 0, none⟩ = some (.slice AF m.funs.length cF) ∧ w8.cell? ⟨xb, 1, none⟩ = some (.slice AW m.words.length cW)) := show _ ∧ _ from (by go_split_ands; refine ⟨?_, ?_, ?_⟩; all_goals (first | (with_reducible refine grow_trans ?_ hb8; with_reducible assumption) | (with_reducible refine cell_belowM hb8 ?_; with_reducible assumption))); have HR8 := Lib.hid hr8; have HC8 := Lib.hid hc8; (first | (have hz := (hb8.block _ (Array.getElem?_eq_some_iff.1 hz7).1).trans hz7; obtain ⟨e0, e1, e2, e3⟩ := row4e hz; have y0 := row_frozen hz 0; have y1 := row_frozen hz 1; have y2 := row_frozen hz 2; have y3 := row_frozen hz 3) | (have hz := (alloc_block (w := w7) (o := .cells #[.string ⟨#[]⟩, .int .i64 0, .slice none 0 0, .int .i64 0] 35) (by rfl) hb8).trans (heap_alloc_new _ _); obtain ⟨e0, e1, e2, e3⟩ := row4e hz; have y0 := row_frozen hz 0; have y1 := row_frozen hz 1; have y2 := row_frozen hz 2; have y3 := row_frozen hz 3) | skip); clear hr8 hc8))
                all_goals go_wp2_with fail
                all_goals go_meet
                all_goals first
                  | exact ⟨_, A8, c8, rfl, rfl, heap_alloc_new w8 _, (rowup_row HR8.out).keep (Keeps.alloc _ _), HC8.out, grow_alloc HJ.out.1 _⟩
                  | exact ⟨_, A8, c8, rfl, rfl, set4m hz, rowup_put4 HR8.out (by first | exact (Array.getElem?_eq_some_iff.1 hz7).1 | (show _ < (World.alloc _ _).heap.size; simp) | assumption | omega), HC8.out, put4_below HJ.out.1 (by omega)⟩
              case rest =>
                obtain ⟨q7, A7, c7, rfl, rfl, hq7, hr7, hc7, hb7⟩ := hcut
                obtain ⟨wB, hwB⟩ : ∃ w7, wc = w7 := ⟨_, rfl⟩
                rw [hwB] at hq7 hr7 hb7
                rw [hwB]
                have HQ7 := Lib.hid hq7
                have HRO := Lib.hid hr7
                have HB7 := Lib.hid hb7
                obtain ⟨z0, z1⟩ := row2m ((hb7.block xb hxl).trans HM6.out)
                have hxl : xb < wB.heap.size := by have := hb7.size; omega
                clear hwB hq7 hr7 hb7 hc7
                go_upto_region 18 with fail
                go_cut [19, 20] from 106 to 117 (fun x1 x2 wx => ∃ (q7 : Nat) (A7 : Option Addr) (c7 : Nat), x1 = .pointer (some ⟨q7, 0, none⟩) ∧ x2 = .nilIface ∧ wx.heap[q7]? = some (.cells #[.string (mkB b.how), .int .i64 b.val, .slice A7 b.out.length c7, .int .i64 (b.ticks : Nat)] 35 (0, 0)) ∧ Row wx A7 (intVs b.out) ∧ b.out.length ≤ c7 ∧ Below wB.heap.size wB wx)
                case first =>
                  go_region_held3 (fun w' => Below wB.heap.size wB w' ∧ w'.cell? ⟨xb, 0, none⟩ = some (.slice AF m.funs.length cF) ∧ w'.cell? ⟨xb, 1, none⟩ = some (.slice AW m.words.length cW))
                    (first
                      | with_reducible exact ⟨grow_refl _, z0, z1⟩
                      | with_reducible exact ⟨below_drewM (grow_refl _), cell_drewM z0, cell_drewM z1⟩
                      | (go_split_ands
                         refine ⟨?_, ?_, ?_⟩
                         all_goals (first | with_reducible assumption | ((repeat (first | with_reducible refine below_drewM ?_ | with_reducible refine grow_alloc ?_ _)); (first | with_reducible assumption | with_reducible exact HJ.out.1 | with_reducible exact grow_refl _)) | ((repeat (first | with_reducible refine cell_drewM ?_ | with_reducible refine cell_allocM ?_)); (first | with_reducible assumption | with_reducible exact HJ.out.2.1 | with_reducible exact HJ.out.2.2)) | (with_reducible refine grow_trans ?_ hb7; with_reducible assumption) | (with_reducible refine cell_belowM hb7 ?_; with_reducible assumption) | (with_reducible refine grow_trans ?_ hb8; with_reducible assumption) | (with_reducible refine cell_belowM hb8 ?_; with_reducible assumption) | (with_reducible refine put4_below ?_ (by omega); (first | with_reducible assumption | with_reducible exact HJ.out.1 | with_reducible exact grow_refl _)) | (with_reducible refine put4_cell (by dsimp only; omega) ?_; (first | with_reducible assumption | with_reducible exact HJ.out.2.1 | with_reducible exact HJ.out.2.2)))))
                    (first
                      | (refine step_append_ints0M rfl _ _ rfl args rfl X xc rfl (HX6.out _ (grow_trans HB7.out (by first | assumption | (go_split_ands; assumption)))) (by omega) ?_; intro A7 c7 w7 hr7 hb7; have HR7 := Lib.hid hr7; have hs7 : wB.heap.size ≤ w7.heap.size := (by first | exact hb7.size | exact Nat.le_trans (by show wB.heap.size ≤ (wB.alloc _).heap.size; simp) hb7.size); (first | (have hz7 := (alloc_block (w := wB) (o := .cells #[.string ⟨#[]⟩, .int .i64 0, .slice none 0 0, .int .i64 0] 35) (by rfl) hb7).trans (heap_alloc_new _ _)) | skip); clear hr7)
                      | (go_at_call 11; (with_reducible refine (HR2.out _ _ _ (grow_trans HB7.out (by first | assumption | (go_split_ands; assumption))) (by first | exact HR7.out | exact HR7.out.keep (Keeps.alloc _ _))).mono ?_); rintro y w8 ⟨A8, c8, rfl, hr8, hc8, hb8⟩; (try dsimp only); have hs8 : w7.heap.size ≤ w8.heap.size := (by first | exact hb8.size | exact Nat.le_trans (by show w7.heap.size ≤ (w7.alloc _).heap.size; simp) hb8.size); have HJ : Hid (Below wB.heap.size wB w8 ∧ w8.cell? ⟨xb, 0, none⟩ = some (.slice AF m.funs.length cF) ∧ w8.cell? ⟨xb, 1, none⟩ = some (.slice AW m.words.length cW)) := show _ ∧ _ from (by go_split_ands; refine ⟨?_, ?_, ?_⟩; all_goals (first | (with_reducible refine grow_trans ?_ hb8; with_reducible assumption) | (with_reducible refine cell_belowM hb8 ?_; with_reducible assumption))); have HR8 := Lib.hid hr8; have HC8 := Lib.hid hc8; (first | (have hz := (hb8.block _ (Array.getElem?_eq_some_iff.1 hz7).1).trans hz7; obtain ⟨e0, e1, e2, e3⟩ := row4e hz; have y0 := row_frozen hz 0; have y1 := row_frozen hz 1; have y2 := row_frozen hz 2; have y3 := row_frozen hz 3) | (have hz := (alloc_block (w := w7) (o := .cells #[.string ⟨#[]⟩, .int .i64 0, .slice none 0 0, .int .i64 0] 35) (by rfl) hb8).trans (heap_alloc_new _ _); obtain ⟨e0, e1, e2, e3⟩ := row4e hz; have y0 := row_frozen hz 0; have y1 := row_frozen hz 1; have y2 := row_frozen hz 2; have y3 := row_frozen hz 3) | skip); clear hr8 hc8))
                  all_goals go_wp2_with fail
                  all_goals go_meet
                  all_goals first
                    | exact ⟨_, A8, c8, rfl, rfl, heap_alloc_new w8 _, (rowup_row HR8.out).keep (Keeps.alloc _ _), HC8.out, grow_alloc HJ.out.1 _⟩
                    | exact ⟨_, A8, c8, rfl, rfl, set4m hz, rowup_put4 HR8.out (by first | exact (Array.getElem?_eq_some_iff.1 hz7).1 | (show _ < (World.alloc _ _).heap.size; simp) | assumption | omega), HC8.out, put4_below HJ.out.1 (by omega)⟩
                case rest =>
                  obtain ⟨q8, A8, c8, rfl, rfl, hq8, hr8, hc8, hb8⟩ := hcut
                  obtain ⟨w8, hw8⟩ : ∃ w8, wc = w8 := ⟨_, rfl⟩
                  rw [hw8] at hq8 hr8 hb8
                  rw [hw8]
                  have hl : Less a b := by rcases HAB.out with e | ⟨-, h⟩; exact e ▸ Less.refl _; exact h
                  have hq7 := (hb8.block q7 (Array.getElem?_eq_some_iff.1 HQ7.out).1).trans HQ7.out
                  obtain ⟨a0, a1, a2, a3⟩ := row4e hq7
                  obtain ⟨b0, b1, b2, b3⟩ := row4e hq8
                  have hra := HRO.out.keep (Keeps.of_below hb8)
                  have hlen : a.out.length ≤ b.out.length := hl.out.length_le
                  have g6 : ¬ (b.out.length : Int) < (a.out.length : Int) := by omega
                  have g7 : ¬ ((b.ticks : Nat) : Int) < ((a.ticks : Nat) : Int) := by have := hl.ticks; omega
                  have hpre : b.out.take a.out.length = a.out := (List.prefix_iff_eq_take.1 hl.out).symm
                  have hrb : Row w8 A8 (intVs a.out) := by
                    intro j y hj
                    refine hr8 j y ?_
                    rw [← hpre] at hj
                    unfold intVs at hj ⊢
                    rw [List.map_take, List.getElem?_take] at hj
                    split at hj
                    · exact hj
                    · cases hj
                  have HSI : Hid (∀ w', Below w8.heap.size w8 w' → Calls Tryd.prog 13 #[.slice A7 a.out.length c7, .slice A8 a.out.length c8] w' (Quiet (.bool true) w')) := fun w' hb => by
                    have := SameInts_any A7 A8 a.out a.out c7 c8 w' (hra.keep (Keeps.of_below hb)) (hrb.keep (Keeps.of_below hb)) (by have := (mach_ok HGD.out hi H6.out HA2.out).out; omega)
                    rwa [show sameI a.out a.out = true from beq_self_eq_true _] at this
                  have HBZ := Lib.hid (grow_trans (HX.out w6 HB6.out).2.2.2.2.2 (grow_trans HB7.out hb8))
                  have HQ7B := Lib.hid hq7
                  have HQ8B := Lib.hid hq8
                  have HRA := Lib.hid hra
                  have HR8B := Lib.hid hr8
                  have g8 : (a.out.length : Int) ≤ (c8 : Int) := by omega
                  clear hra hrb hpre hq7 hq8 hr8 hl hlen hb8
                  go_upto_region 21 with fail
                  rcases Classical.em (a.how = tiredT) with ht | ht
                  · have hh : ((mkB a.how).toList == [116, 105, 114, 101, 100]) = true := by rw [mkB_toList, ht]; rfl
                    have hh2 : ((mkB a.how).toList != [116, 105, 114, 101, 100]) = false := by rw [mkB_toList, ht]; rfl
                    clear ht
                    go_upto_region 23 with fail
                    go_quiet ((go_at_call 13; exact Calls.quiet_of (HSI.out _ (grow_drew (grow_refl _) _))))
                    go_wp2_with fail
                    go_ret
                    exact ⟨rfl, grow_drew HBZ.out _⟩
                  · obtain rfl : a = b := by rcases HAB.out with e | ⟨e, -⟩; exact e; exact absurd e ht
                    have hh : ((mkB a.how).toList == [116, 105, 114, 101, 100]) = false := by rw [mkB_toList]; exact beq_eq_false_iff_ne.2 ht
                    have hh2 : ((mkB a.how).toList != [116, 105, 114, 101, 100]) = true := by unfold bne; rw [hh]; rfl
                    have HSO : Hid (∀ w', Below w8.heap.size w8 w' → Calls Tryd.prog 12 #[.agg #[.string (mkB a.how), .int .i64 a.val, .slice A7 a.out.length c7, .int .i64 (a.ticks : Nat)], .agg #[.string (mkB a.how), .int .i64 a.val, .slice A8 a.out.length c8, .int .i64 (a.ticks : Nat)]] w' (Ret (.bool true) w')) := fun w' hb =>
                      SameOutcome_eqM (endO a) A7 A8 c7 c8 w' (HRA.out.keep (Keeps.of_below hb)) (HR8B.out.keep (Keeps.of_below hb)) (by have := (mach_ok HGD.out hi H6.out HA2.out).out; show a.out.length ≤ 1000000; omega)
                    clear ht
                    go_upto_region 23 with (go_at_call 12; (with_reducible refine (HSO.out _ (grow_refl _)).mono ?_); rintro y w9 ⟨rfl, hb9⟩; obtain ⟨a0, a1, a2, a3⟩ := row4e ((hb9.block q7 (Array.getElem?_eq_some_iff.1 HQ7B.out).1).trans HQ7B.out); obtain ⟨b0, b1, b2, b3⟩ := row4e ((hb9.block q8 (Array.getElem?_eq_some_iff.1 HQ8B.out).1).trans HQ8B.out))
                    go_quiet ((go_at_call 13; exact Calls.quiet_of (HSI.out _ (grow_drew hb9 _))))
                    go_wp2_with fail
                    go_ret
                    exact ⟨rfl, grow_drew (grow_trans HBZ.out hb9) _⟩
          · have hpnb : ((f.params : Int) != (args.length : Int)) = true := by simpa using hpn
            clear hpn hfo
            go_upto_region 12 with (go_at_call 8; (with_reducible refine HIF2.out.mono ?_); rintro x w3 ⟨rfl, hb3⟩; obtain ⟨⟨i0, i1⟩, hL3, hA3, -, -, -⟩ := HX.out w3 (grow_trans HB2.out hb3))
            obtain ⟨b4, off4, rfl, f0, f1, f2, f3⟩ := fn_cells hA3 hi
            rw [HF.out] at f0 f1 f2 f3
            go_wp2_with fail
            go_ret
            exact ⟨rfl, grow_trans (HX.out w2 HB2.out).2.2.2.2.2 hb3⟩
      · have hpp : (0 : Int) < (pc : Int) := by omega
        go_wp2_with (go_at_call 8; (with_reducible refine HIF2.out.mono ?_); rintro x w3 ⟨rfl, hb3⟩)
        go_ret
        exact ⟨rfl, grow_trans (HX.out w2 HB2.out).2.2.2.2.2 hb3⟩
theorem MachMore_walk (E : Nat → Addr) (m : PImg) (hnf : m.funs.length ≤ maxLen) (hnw : m.words.length ≤ maxLen) (A B : Option Addr) (cf cw : Nat) (h64 : ∀ n ∈ m.words, 0 ≤ n ∧ n < 18446744073709551616) (name : Txt) (args : List Int) (h6 : ∀ n ∈ args, I64 n) (X : Option Addr) (xc : Nat) (ticks more : Int) (w : World) (hE : Laid7 E w) (hA : Row w A (m.funs.flatMap fnL)) (hB : Row w B (u64Vs m.words)) (hX : Row w X (intVs args)) :
    Calls Tryd.prog 3 #[.agg #[.slice A m.funs.length cf, .slice B m.words.length cw], .string (mkB name), .slice X args.length xc, .int .i64 ticks, .int .i64 more] w (Ret (.bool true) w) := by
  cases h : moreOut m args.length ticks more
  · exact more_main E m hnf hnw A B cf cw h64 name args h6 X xc ticks more w hE hA hB hX h
  · exact more_early E m hnf hnw A B cf cw name args X xc ticks more w hE hA h
end Go.Proofs.YtgoifbkogboppaaDoor
