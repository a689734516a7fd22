import Derived.Test.YtgoifbkogboppaaDoorBn32
import Derived.Deep.RegionLaw
import Derived.Test.YtgoifbkogboppaaDoorRfM
import Derived.Test.YtgoifbkogboppaaDoorBn29
set_option linter.unusedVariables false
set_option linter.unusedSimpArgs false
namespace Go.Proofs.YtgoifbkogboppaaDoor
open Go.RowKit

/-! MachApart (printed by gen_mapart.py) -/
theorem first_app {name : Txt} {fs : List PFn} {z : PFn} {i : Nat} (h : firstPF name fs 0 = i) : firstPF name (fs ++ [z]) 0 = i := by
  have key : ∀ (gs : List PFn) (k0 : Nat), firstPF name gs k0 ≠ -1 → firstPF name (gs ++ [z]) k0 = firstPF name gs k0 := by
    intro gs
    induction gs with
    | nil => intro k0 h; exact absurd rfl h
    | cons g gs ih =>
      intro k0 h
      simp only [List.cons_append]
      unfold firstPF at h ⊢
      split
      · rfl
      · rename_i hn
        rw [if_neg hn] at h
        exact ih _ h
  rw [key fs 0 (by omega)]; exact h
theorem more_words {m : PImg} (h : ∀ n ∈ m.words, 0 ≤ n ∧ n < 18446744073709551616) : ∀ n ∈ (moreI m).words, 0 ≤ n ∧ n < 18446744073709551616 := fun n hn => by
  unfold moreI at hn
  rcases List.mem_append.1 hn with hn | hn
  · exact h n hn
  · simp at hn; subst hn; decide
theorem AsAt.word {m : PImg} {base ob k : Nat} {x : Int} {vF vW v' : Value} {w w4 : World} {o : Obj} (h : AsAt m base ob k vF vW w) (hob : base ≤ ob) (hown : w4.ownsRow base 49 1 v' (m.words.length + 1) (u64Vs m.words ++ [.int .u64 x])) (hg : (w.alloc o).grownBy w4 vW.ownBlock) :
    w4.heap[ob]? = w.heap[ob]? ∧ AsAt ⟨m.funs, m.words ++ [x]⟩ base ob k vF v' (w4.setCell ⟨ob, 1, none⟩ v') ∧ Below base w (w4.setCell ⟨ob, 1, none⟩ v') := by
  have hlt := (Array.getElem?_eq_some_iff.1 h.blk).1
  have hne : vF.ownBlock ≠ some ob := own_else h.funs h.blk fun cs e => by injection e with _ e _; exact absurd e (by decide)
  have hnw : vW.ownBlock ≠ some ob := own_else h.words h.blk fun cs e => by injection e with _ e _; exact absurd e (by decide)
  have hm : w4.heap[ob]? = w.heap[ob]? := by rw [hg.block ob (by simp; omega) (fun e => hnw e.symm)]; exact old_block _ _ hlt
  have hne2 : v'.ownBlock ≠ some ob := own_else hown (hm.trans h.blk) fun cs e => by injection e with _ e _; exact absurd e (by decide)
  refine ⟨hm, ⟨row_set (j := 1) v' (hm.trans h.blk) (by simp), own_same h.funs fun j hj => (Below.heap_setCell _ _ _ _ (fun e => hne (by rw [hj, e]))).trans ?_, ?_⟩, ?_⟩
  · have h1 := own_lt h.funs hj
    have h2 := own_ne h.funs h.words (by decide) hj
    rw [hg.block j (by simp; omega) (fun e => h2 e.symm)]
    exact old_block _ _ h1.2
  · have e1 : u64Vs (m.words ++ [x]) = u64Vs m.words ++ [.int .u64 x] := by simp [u64Vs]
    show World.ownsRow _ _ _ _ _ (m.words ++ [x]).length (u64Vs (m.words ++ [x]))
    rw [e1, List.length_append]
    exact own_same hown fun j hj => Below.heap_setCell _ _ _ _ (fun e => hne2 (by rw [hj, e]))
  · exact (Below.grown ((Below.refl base w).alloc (by omega) o) hg (by simp; omega) (fun q hq => (own_lt h.words hq).1)).trans ((Below.refl base w4).setCell (p := ⟨ob, 1, none⟩) hob _)
def apartOut (m : PImg) (n : Nat) (ticks : Int) : Bool := largeB m || decide (8 < n) || decide (ticks < 0) || decide (60 < ticks) || decide (8 ≤ m.funs.length) || decide (200 < m.words.length)
set_option maxHeartbeats 8000000 in
set_option maxRecDepth 100000 in
theorem apart_early (E : Nat → Addr) (m : PImg) (hnf : m.funs.length ≤ maxLen) (hnw : m.words.length ≤ maxLen) (A B : Option Addr) (cf cw : Nat) (name : Txt) (args : List Int) (X : Option Addr) (xc : Nat) (ticks : Int) (w : World) (hE : Laid7 E w) (hA : Row w A (m.funs.flatMap fnL)) (h : apartOut m args.length ticks = true) :
    Calls Tryd.prog 4 #[.agg #[.slice A m.funs.length cf, .slice B m.words.length cw], .string (mkB name), .slice X args.length xc, .int .i64 ticks] w (Ret (.bool true) w) := by
  have hb0 := grow_alloc (grow_refl w) (.cells #[.slice A m.funs.length cf, .slice B m.words.length cw] 25)
  have hm0 := heap_alloc_new w (.cells #[.slice A m.funs.length cf, .slice B m.words.length cw] 25)
  have HB0 := Lib.hid hb0
  have HM0 := Lib.hid hm0
  have HS := Lib.hid (machined_any E _ (hE.keep hb0))
  have HLG : Hid (∀ w', Below w.heap.size w w' → Calls Tryd.prog 7 #[.agg #[.slice A m.funs.length cf, .slice B m.words.length cw]] w' (Ret (.bool (largeB m)) w')) := fun w' hb => largeImage_any m hnf hnw A B cf cw w' (hA.keep (Keeps.of_below hb))
  clear hE hA hb0 hm0
  unfold apartOut at h
  have HK : Hid (∀ w1, Below (w.alloc (.cells #[.slice A m.funs.length cf, .slice B m.words.length cw] 25)).heap.size (w.alloc (.cells #[.slice A m.funs.length cf, .slice B m.words.length cw] 25)) w1 → w1.cell? ⟨w.heap.size, 0, none⟩ = some (.slice A m.funs.length cf) ∧ w1.cell? ⟨w.heap.size, 1, none⟩ = some (.slice B m.words.length cw)) := fun w1 hb => row2m ((hb.block _ (by simp)).trans HM0.out)
  clear HM0

  cases h1 : largeB m
  · rw [h1] at HLG h
    have h' : 8 < args.length ∨ ticks < 0 ∨ 60 < ticks ∨ 8 ≤ m.funs.length ∨ 200 < m.words.length := by simpa [or_assoc] using h
    clear h h1
    rcases Classical.em ((8 : Int) < (args.length : Int)) with g0 | g0
    · clear h'
      go_enter Tryd.func4, Tryd.ntmps4
      go_wp2_with (first
        | (go_at_call 6; (with_reducible refine HS.out.mono ?_); rintro x w1 ⟨rfl, hb1⟩; obtain ⟨i0, i1⟩ := HK.out w1 hb1)
        | (go_at_call 7; (with_reducible refine (HLG.out _ (grow_trans HB0.out hb1)).mono ?_); rintro x w2 ⟨rfl, hb2⟩; obtain ⟨i0, i1⟩ := HK.out w2 (grow_trans hb1 hb2)))
      go_ret
      exact ⟨rfl, grow_trans (grow_trans HB0.out hb1) hb2⟩
    · skip
      rcases Classical.em (ticks < 0) with g1 | g1
      · clear h'
        go_enter Tryd.func4, Tryd.ntmps4
        go_wp2_with (first
          | (go_at_call 6; (with_reducible refine HS.out.mono ?_); rintro x w1 ⟨rfl, hb1⟩; obtain ⟨i0, i1⟩ := HK.out w1 hb1)
          | (go_at_call 7; (with_reducible refine (HLG.out _ (grow_trans HB0.out hb1)).mono ?_); rintro x w2 ⟨rfl, hb2⟩; obtain ⟨i0, i1⟩ := HK.out w2 (grow_trans hb1 hb2)))
        go_ret
        exact ⟨rfl, grow_trans (grow_trans HB0.out hb1) hb2⟩
      · skip
        rcases Classical.em (60 < ticks) with g2 | g2
        · clear h'
          go_enter Tryd.func4, Tryd.ntmps4
          go_wp2_with (first
            | (go_at_call 6; (with_reducible refine HS.out.mono ?_); rintro x w1 ⟨rfl, hb1⟩; obtain ⟨i0, i1⟩ := HK.out w1 hb1)
            | (go_at_call 7; (with_reducible refine (HLG.out _ (grow_trans HB0.out hb1)).mono ?_); rintro x w2 ⟨rfl, hb2⟩; obtain ⟨i0, i1⟩ := HK.out w2 (grow_trans hb1 hb2)))
          go_ret
          exact ⟨rfl, grow_trans (grow_trans HB0.out hb1) hb2⟩
        · skip
          rcases Classical.em ((8 : Int) ≤ (m.funs.length : Int)) with g3 | g3
          · clear h'
            go_enter Tryd.func4, Tryd.ntmps4
            go_wp2_with (first
              | (go_at_call 6; (with_reducible refine HS.out.mono ?_); rintro x w1 ⟨rfl, hb1⟩; obtain ⟨i0, i1⟩ := HK.out w1 hb1)
              | (go_at_call 7; (with_reducible refine (HLG.out _ (grow_trans HB0.out hb1)).mono ?_); rintro x w2 ⟨rfl, hb2⟩; obtain ⟨i0, i1⟩ := HK.out w2 (grow_trans hb1 hb2)))
            go_ret
            exact ⟨rfl, grow_trans (grow_trans HB0.out hb1) hb2⟩
          · skip
            have g4 : (200 : Int) < (m.words.length : Int) := by omega
            clear h'
            go_enter Tryd.func4, Tryd.ntmps4
            go_wp2_with (first
              | (go_at_call 6; (with_reducible refine HS.out.mono ?_); rintro x w1 ⟨rfl, hb1⟩; obtain ⟨i0, i1⟩ := HK.out w1 hb1)
              | (go_at_call 7; (with_reducible refine (HLG.out _ (grow_trans HB0.out hb1)).mono ?_); rintro x w2 ⟨rfl, hb2⟩; obtain ⟨i0, i1⟩ := HK.out w2 (grow_trans hb1 hb2)))
            go_ret
            exact ⟨rfl, grow_trans (grow_trans HB0.out hb1) hb2⟩
  · rw [h1] at HLG
    clear h h1
    go_enter Tryd.func4, Tryd.ntmps4
    go_wp2_with (first
      | (go_at_call 6; (with_reducible refine HS.out.mono ?_); rintro x w1 ⟨rfl, hb1⟩; obtain ⟨i0, i1⟩ := HK.out w1 hb1)
      | (go_at_call 7; (with_reducible refine (HLG.out _ (grow_trans HB0.out hb1)).mono ?_); rintro x w2 ⟨rfl, hb2⟩; obtain ⟨i0, i1⟩ := HK.out w2 (grow_trans hb1 hb2)))
    go_ret
    exact ⟨rfl, grow_trans (grow_trans HB0.out hb1) hb2⟩
set_option maxHeartbeats 16000000 in
set_option maxRecDepth 100000 in
theorem apart_main (E : Nat → Addr) (m : PImg) (hnf : m.funs.length ≤ maxLen) (hnw : m.words.length ≤ maxLen) (A B : Option Addr) (cf cw : Nat) (h64 : ∀ n ∈ m.words, 0 ≤ n ∧ n < 18446744073709551616) (name : Txt) (args : List Int) (h6 : ∀ n ∈ args, I64 n) (X : Option Addr) (xc : Nat) (ticks : Int) (w : World) (hE : Laid7 E w) (hA : Row w A (m.funs.flatMap fnL)) (hB : Row w B (u64Vs m.words)) (hX : Row w X (intVs args)) (h : apartOut m args.length ticks = false) :
    Calls Tryd.prog 4 #[.agg #[.slice A m.funs.length cf, .slice B m.words.length cw], .string (mkB name), .slice X args.length xc, .int .i64 ticks] w (Ret (.bool true) w) := by
  unfold apartOut at h
  simp only [Bool.or_eq_false_iff, decide_eq_false_iff_not] at h
  obtain ⟨⟨⟨⟨⟨hlg, h8⟩, ht0⟩, ht1⟩, hn8⟩, hn2⟩ := h
  obtain ⟨T, rfl⟩ : ∃ T : Nat, ticks = T := ⟨ticks.toNat, by omega⟩
  have hT60 : (T : Int) ≤ 60 := by omega
  have g1 : ¬ (8 : Int) < (args.length : Int) := by omega
  have g2 : ¬ (T : Int) < 0 := by omega
  have g3 : ¬ 60 < (T : Int) := by omega
  have g4 : ¬ (8 : Int) ≤ (m.funs.length : Int) := by omega
  have g5 : ¬ (200 : Int) < (m.words.length : Int) := by omega
  have hb0 := grow_alloc (grow_refl w) (.cells #[.slice A m.funs.length cf, .slice B m.words.length cw] 25)
  have hm0' := heap_alloc_new w (.cells #[.slice A m.funs.length cf, .slice B m.words.length cw] 25)
  have HB0 := Lib.hid hb0
  have HM0 := Lib.hid hm0'
  have HS := Lib.hid (machined_any E _ (hE.keep hb0))
  have HLG : Hid (∀ w', Below w.heap.size w w' → Calls Tryd.prog 7 #[.agg #[.slice A m.funs.length cf, .slice B m.words.length cw]] w' (Ret (.bool false) w')) := fun w' hb => by
    have := largeImage_any m hnf hnw A B cf cw w' (hA.keep (Keeps.of_below hb))
    rwa [hlg] at this
  have HX : Hid (∀ w', Below (w.alloc (.cells #[.slice A m.funs.length cf, .slice B m.words.length cw] 25)).heap.size (w.alloc (.cells #[.slice A m.funs.length cf, .slice B m.words.length cw] 25)) w' → (w'.cell? ⟨w.heap.size, 0, none⟩ = some (.slice A m.funs.length cf) ∧ w'.cell? ⟨w.heap.size, 1, none⟩ = some (.slice B m.words.length cw)) ∧ Laid7 E w' ∧ Row w' A (m.funs.flatMap fnL) ∧ Row w' B (u64Vs m.words) ∧ Row w' X (intVs args) ∧ Below w.heap.size w w') := fun w' hb =>
    have hb2 : Below w.heap.size w w' := grow_trans hb0 hb
    ⟨row2m ((hb.block _ (by simp)).trans hm0'), hE.keep hb2, hA.keep (Keeps.of_below hb2), hB.keep (Keeps.of_below hb2), hX.keep (Keeps.of_below hb2), hb2⟩
  have HIF : Hid (∀ w', Below (w.alloc (.cells #[.slice A m.funs.length cf, .slice B m.words.length cw] 25)).heap.size (w.alloc (.cells #[.slice A m.funs.length cf, .slice B m.words.length cw] 25)) w' → Calls Tryd.prog 8 #[.agg #[.slice A m.funs.length cf, .slice B m.words.length cw]] w' (IfPost m w')) := fun w' hb =>
    ImageFault_any m (by omega) (by omega) A B cf cw h64 w' (HX.out w' hb).2.2.1 (HX.out w' hb).2.2.2.1
  have HAS : Hid (∀ w', Below (w.alloc (.cells #[.slice A m.funs.length cf, .slice B m.words.length cw] 25)).heap.size (w.alloc (.cells #[.slice A m.funs.length cf, .slice B m.words.length cw] 25)) w' → Calls Tryd.prog 10 #[.agg #[.slice A m.funs.length cf, .slice B m.words.length cw]] w' (AsPost m w')) := fun w' hb =>
    AsImage_any m (by omega) (by omega) A B cf cw w' (HX.out w' hb).2.2.1 (HX.out w' hb).2.2.2.1
  have H6 := Lib.hid h6
  have H64 := Lib.hid h64
  have hl8 : args.length ≤ 8 := by omega
  have hff := field_fault
  have HN8 := Lib.hid (And.intro hn8 hn2)
  clear hE hA hB hX hb0 hm0' hlg h8 ht0 ht1 hn8 hn2 h6 h64
  go_enter Tryd.func4, Tryd.ntmps4
  go_wp2_with (first
    | (go_at_call 6; (with_reducible refine HS.out.mono ?_); rintro x w1 ⟨rfl, hb1⟩; obtain ⟨i0, i1⟩ := row2m ((hb1.block _ (by simp)).trans HM0.out))
    | (go_at_call 7; (with_reducible refine (HLG.out _ (grow_trans HB0.out hb1)).mono ?_); rintro x w2 ⟨rfl, hb2⟩; obtain ⟨⟨i0, i1⟩, -, -, -, -⟩ := HX.out w2 (grow_trans hb1 hb2)))
  have HB2 := Lib.hid (grow_trans hb1 hb2)
  obtain ⟨⟨i0, i1⟩, hL2, hA2, -, -, -⟩ := HX.out w2 HB2.out
  clear hb1 hb2 hL2
  go_loop [10, 11] (fun n j => ∃ k : Nat, k ≤ m.funs.length ∧ j = .int .i64 k ∧ n = .int .i64 (lastPF name m.funs k) ∧ ∀ i (hi : i < m.funs.length), i < k → m.funs[i].name ≠ zzT) (fun _ j => m.funs.length - (intOf j).toNat)
  case atStart => exact ⟨0, Nat.zero_le _, rfl, rfl, fun i _ h => absurd h (by omega)⟩
  case round =>
    obtain ⟨k, hk, rfl, rfl, hzz⟩ := hrel
    have HZZ := Lib.hid hzz
    clear hzz
    by_cases hlt : k < m.funs.length
    · have hlt' : (k : Int) < (m.funs.length : Int) := by omega
      have hk0 : (0 : Int) ≤ k := by omega
      obtain ⟨b, off, rfl, f0, -, -, -⟩ := fn_cells hA2 hlt
      have HLA := Lib.hid (lastPF_at (name := name) hlt)
      have hnn : ((mkB m.funs[k].name).toList == (mkB name).toList) = (m.funs[k].name == name) := by rw [mkB_toList, mkB_toList]
      have hnz : ((mkB m.funs[k].name).toList == [122, 122]) = (m.funs[k].name == zzT) := by rw [mkB_toList]; rfl
      cases hnm : (m.funs[k].name == name)
      all_goals cases hzn : (m.funs[k].name == zzT)
      all_goals
        rw [hnm] at HLA hnn
        rw [hzn] at hnz
        have HZN := Lib.hid hzn
        clear hnm hzn
        go_wp2_with fail
        first
          | (go_ret
             exact ⟨rfl, (HX.out w2 HB2.out).2.2.2.2.2⟩)
          | (go_round
             case rel => exact ⟨k + 1, by omega, by go_num, by rw [HLA.out]; rfl, fun i hi hik => by
               by_cases he : i = k
               · subst he; exact fun e => by have := HZN.out; rw [e] at this; simp at this
               · exact HZZ.out i hi (by omega)⟩
             case measure => simp [intOf]; omega)
    · have hk' : k = m.funs.length := by omega
      subst hk'
      have hlow := lastPF_low name m.funs m.funs.length
      obtain ⟨N, hN⟩ : ∃ N, lastPF name m.funs m.funs.length = N := ⟨_, rfl⟩
      rw [hN] at hlow
      rw [hN]
      have HN := Lib.hid hN
      have HIF2 := Lib.hid (HIF.out w2 HB2.out)
      unfold IfPost at HIF2
      obtain ⟨pc, hpc⟩ : ∃ pc, (imgC m).1 = pc := ⟨_, rfl⟩
      obtain ⟨pa, hpa⟩ : ∃ pa, (imgC m).2 = pa := ⟨_, rfl⟩
      rw [hpc, hpa] at HIF2
      unfold faultV3 at HIF2
      have HPC := Lib.hid hpc
      clear hlt hk hN hpc hpa
      by_cases hp0 : pc = 0
      · subst hp0
        rw [show ((0 : Nat) : Int) = 0 from rfl] at HIF2
        by_cases hN0 : N < 0
        · go_wp2_with (go_at_call 8; (with_reducible refine HIF2.out.mono ?_); rintro x w3 ⟨rfl, hb3⟩)
          go_ret
          exact ⟨rfl, grow_trans (HX.out w2 HB2.out).2.2.2.2.2 hb3⟩
        · obtain ⟨i, rfl⟩ : ∃ i : Nat, N = i := ⟨N.toNat, by omega⟩
          have hi : i < m.funs.length := by omega
          have hgood : GoodI m := imgC_good.1 HPC.out
          have hfi : firstPF name m.funs 0 = i := by rw [← last_first hgood name, HN.out]
          have hfo := fn_ok (hgood.funs i hi)
          have HGD := Lib.hid hgood
          have HFI := Lib.hid hfi
          obtain ⟨f, hf⟩ : ∃ f, m.funs[i] = f := ⟨_, rfl⟩
          rw [hf] at hfo
          have HF := Lib.hid hf
          have hi1 : (i : Int) < (m.funs.length : Int) := by omega
          have hi2 : (0 : Int) ≤ (i : Int) := by omega
          clear hN0 hlow hgood hfi hf
          by_cases hpn : f.params = (args.length : Int)
          · have hpnb : ((f.params : Int) != (args.length : Int)) = false := by simpa using hpn
            have hl4 : args.length ≤ 4 := by omega
            have HPN := Lib.hid hpn
            have HMO : Hid (∀ w', Below (w.alloc (.cells #[.slice A m.funs.length cf, .slice B m.words.length cw] 25)).heap.size (w.alloc (.cells #[.slice A m.funs.length cf, .slice B m.words.length cw] 25)) w' → Calls Tryd.prog 9 #[.agg #[.slice A m.funs.length cf, .slice B m.words.length cw], .int .i64 i, .slice X args.length xc, .int .i64 T, .int .i64 20000] w' (RfPost m i args T 20000 w')) := fun w' hb =>
              MachOf_any m HGD.out A B cf cw H64.out i hi args hl4 H6.out X xc T 20000 (by omega) (by omega) w' (HX.out w' hb).2.2.1 (HX.out w' hb).2.2.2.1 (HX.out w' hb).2.2.2.2.1
            clear hpn hfo
            go_upto_region 14 with (go_at_call 8; (with_reducible refine HIF2.out.mono ?_); rintro x w3 ⟨rfl, hb3⟩; obtain ⟨⟨i0, i1⟩, hL3, hA3, -, -, -⟩ := HX.out w3 (grow_trans HB2.out hb3))
            obtain ⟨b4, off4, rfl, f0, f1, f2, f3⟩ := fn_cells hA3 hi
            rw [HF.out] at f0 f1 f2 f3
            have HB3 := Lib.hid (grow_trans HB2.out hb3)
            clear hb3 hL3 hA3 f0 f2 f3
            go_upto_region 17 with (go_at_call 9; (with_reducible refine (HMO.out _ HB3.out).mono ?_); rintro x w4 ⟨A4, c4, ⟨h4, v4, l4, t4⟩, rfl, ho4, hr4, hc4, hb4⟩; have HO4 := Lib.hid ho4; have HB4 := Lib.hid (grow_trans HB3.out hb4); have HR4 := Lib.hid hr4; clear ho4 hb4 hr4; unfold ocM; dsimp only)
            obtain ⟨q4, hq4⟩ : ∃ q, w4.heap.size = q := ⟨_, rfl⟩
            obtain ⟨wM, hwM⟩ : ∃ wM, w4.alloc (.cells #[.string (mkB h4), .int .i64 v4, .slice A4 l4.length c4, .int .i64 (t4 : Nat)] 35) = wM := ⟨_, rfl⟩
            have hbM : Below w4.heap.size w4 wM := by rw [← hwM]; exact grow_alloc (grow_refl _) _
            have hmM : wM.heap[q4]? = some (.cells #[.string (mkB h4), .int .i64 v4, .slice A4 l4.length c4, .int .i64 (t4 : Nat)] 35 (0, 0)) := by rw [← hwM, ← hq4]; exact heap_alloc_new w4 _
            rw [hq4]
            rw [hwM]
            obtain ⟨m0, m1, m2, m3⟩ := row4e hmM
            have HMM := Lib.hid hmM
            have HBM := Lib.hid (grow_trans HB4.out hbM)
            have HRM := Lib.hid (HR4.out.keep (Keeps.of_below hbM))
            clear hwM hq4 hbM hmM HR4 HB4 hc4 f1
            by_cases hlong : h4 = longT
            · have hll : ((mkB h4).toList == [108, 111, 110, 103]) = true := by rw [mkB_toList, hlong]; rfl
              clear hlong
              go_wp2_with fail
              go_ret
              exact ⟨rfl, (HX.out wM HBM.out).2.2.2.2.2⟩
            · have hll : ((mkB h4).toList == [108, 111, 110, 103]) = false := by rw [mkB_toList]; exact beq_eq_false_iff_ne.2 hlong
              by_cases hst : h4 = stuckT
              · have hls : ((mkB h4).toList == [115, 116, 117, 99, 107]) = true := by rw [mkB_toList, hst]; rfl
                clear hlong hst
                go_wp2_with fail
                go_ret
                exact ⟨rfl, (HX.out wM HBM.out).2.2.2.2.2⟩
              · have hls : ((mkB h4).toList == [115, 116, 117, 99, 107]) = false := by rw [mkB_toList]; exact beq_eq_false_iff_ne.2 hst
                obtain ⟨b, hb⟩ : ∃ b, machP m i args T 20000 = some b := by
                  have ho4 := HO4.out
                  cases hm : machP m i args T 20000 with
                  | none => rw [hm] at ho4; exact absurd ho4 hlong
                  | some b => exact ⟨b, rfl⟩
                obtain ⟨rfl, rfl, rfl, rfl⟩ : h4 = b.how ∧ v4 = b.val ∧ l4 = b.out ∧ t4 = b.ticks := by
                  have ho4 := HO4.out
                  rw [hb] at ho4
                  exact ⟨congrArg (fun o => o.1) ho4, congrArg (fun o => o.2.1) ho4, congrArg (fun o => o.2.2.1) ho4, congrArg (fun o => o.2.2.2) ho4⟩
                have hb2 := mach_more HGD.out hi H6.out hb hst
                have HOB := Lib.hid (mach_ok HGD.out hi H6.out hb)
                have hgm : GoodI (moreI m) := good_more HGD.out (by have := HN8.out; omega) (by have := HN8.out; omega) (fun g hg2 => by
                  obtain ⟨j, hj, rfl⟩ := List.getElem_of_mem hg2
                  exact HZZ.out j hj hj)
                have hlF : (moreI m).funs.length = m.funs.length + 1 := by simp [moreI]
                have hlW : (moreI m).words.length = m.words.length + 1 := by simp [moreI]
                have hfm : firstPF name (moreI m).funs 0 = i := first_app HFI.out
                have hgi : ∀ h, (moreI m).funs[i]'h = f := fun h => by
                  have : (moreI m).funs[i]'h = m.funs[i] := by unfold moreI; exact List.getElem_append_left hi
                  rw [this]; exact HF.out
                have HRN : Hid (∀ (AF AW X' : Option Addr) (cF cW xc' : Nat) (w' : World), m.funs.length + 1 ≤ cF → Laid7 E w' → Row w' AF ((moreI m).funs.flatMap fnL) → Row w' AW (u64Vs (moreI m).words) → Row w' X' (intVs args) → Calls Tryd.prog 11 #[.agg #[.slice AF (m.funs.length + 1) cF, .slice AW (m.words.length + 1) cW], .string (mkB name), .slice X' args.length xc', .int .i64 T] w' fun en w'' => ∃ A c, en = .returned (.tuple #[.agg #[.string (mkB b.how), .int .i64 b.val, .slice A b.out.length c, .int .i64 (b.ticks : Nat)], .nilIface]) ∧ RowUp w'.heap.size w'' A (intVs b.out) ∧ b.out.length ≤ c ∧ Below w'.heap.size w' w'') := fun AF AW X' cF cW xc' w' hc hL hF hW hX' => by
                  have := run_end (m := moreI m) (name := name) (i := i) (args := args) (T := T) (fin := b) (cf := cF) (cw := cW) (xc := xc') (by omega) (by omega) (more_words H64.out) (imgC_good.2 hgm) (by omega) hfm (by rw [hgi]; exact HPN.out) hl8 H6.out (by omega) hb2 (by omega) hL hF hW hX'
                  rwa [hlF, hlW] at this
                clear hlong hst hb hb2 hgm hfm hgi HO4 HIF2 HMO HIF
                obtain ⟨⟨i0, i1⟩, -, -, -, -⟩ := HX.out wM HBM.out
                go_upto_region 20 with (go_at_call 10; (with_reducible refine (HAS.out _ HBM.out).mono ?_); rintro x w5 ⟨vF, vW, rfl, hvF, hvW, hb5⟩; obtain ⟨AF, cF, rfl⟩ := own_slice hvF; obtain ⟨AW, cW, rfl⟩ := own_slice hvW; have HVF := Lib.hid hvF; have HVW := Lib.hid hvW; have HB5 := Lib.hid hb5; obtain ⟨⟨i0, i1⟩, -, -, -, -⟩ := HX.out w5 (grow_trans HBM.out hb5); clear hvF hvW hb5)
                obtain ⟨xb, hxb⟩ : ∃ xb, w5.heap.size = xb := ⟨_, rfl⟩
                obtain ⟨w6, hw6⟩ : ∃ w6, w5.alloc (.cells #[.slice AF m.funs.length cF, .slice AW m.words.length cW] 39) = w6 := ⟨_, rfl⟩
                have has : AsAt ⟨m.funs ++ [zzFn], m.words⟩ wM.heap.size xb m.funs.length (.slice AF m.funs.length cF) (.slice AW m.words.length cW) w6 := ⟨by rw [← hw6, ← hxb]; exact heap_alloc_new w5 _, by
                  show World.ownsRow _ _ _ _ _ _ ((List.take m.funs.length (m.funs ++ [zzFn])).flatMap fnL)
                  rw [List.take_left, ← hw6]; exact HVF.out.alloc _, by rw [← hw6]; exact HVW.out.alloc _⟩
                have hb6 : Below wM.heap.size wM w6 := by rw [← hw6]; exact grow_alloc HB5.out _
                have hbo : wM.heap.size ≤ xb := by have := HB5.out.size; omega
                have hs6 : wM.heap.size ≤ w6.heap.size := hb6.size
                have hzz : ∀ h, (m.funs ++ [zzFn])[m.funs.length]'h = zzFn := fun h => by simp
                obtain ⟨o0, o1⟩ := row2m has.blk
                have z0 := row_frozen has.blk 0
                have z1 := row_frozen has.blk 1
                have HAS6 := Lib.hid has
                have HB6 := Lib.hid hb6
                have HZN := Lib.hid hzz
                obtain ⟨fi, hfi, hz0, hz1, hz2⟩ := info_parts efunInfo
                have hf8 : m.funs.length < 8 := by have := HN8.out; omega
                have hnwl : m.words.length ≤ 200 := by have := HN8.out; omega
                rw [hxb]
                rw [hw6]
                clear hw6 has hb6 HVF HVW hzz
                go_upto_region 21 with (at_builtin; (refine wpList_append_own_at _ rfl (.tmp 105) (.tmp 107) 37 rfl wM.heap.size 48 fi _ 4 40 Tryd.underlying37 hfi hz0 hz1 hz2 rfl (by decide) _ m.funs.length _ rfl (HAS6.out.funs.alloc _) ⟨w6.heap.size, 0, none⟩ 1 1 (fnL zzFn) rfl rfl (World.news_of_block (heap_alloc_new w6 _)) (fun u hu => by unfold fnL at hu; simp only [List.mem_cons, List.not_mem_nil, or_false] at hu; rcases hu with rfl | rfl | rfl | rfl <;> rfl) (by unfold maxLen; omega) (by omega) (by simp; omega) ?_; intro v' w7 hown' hgrow _ hat; obtain ⟨A6, a6, rfl⟩ := own_slice hown'; obtain ⟨j1, j2, j3⟩ := HAS6.out.next (by simp) hbo (by rw [HZN.out]; exact hown') hgrow; obtain ⟨o0, o1⟩ := row2m (j1.trans HAS6.out.blk); have z0 := row_frozen (j1.trans HAS6.out.blk) 0; have H2 := Lib.hid j2; have H3 := Lib.hid j3; clear j1 j2 j3 hown' hgrow hat))
                obtain ⟨wC, hwC⟩ : ∃ wC, w7.setCell ⟨xb, 0, none⟩ (.slice A6 (m.funs.length + 1) a6) = wC := ⟨_, rfl⟩
                rw [hwC]
                rw [hwC] at H2 H3
                clear hwC
                have HWO : Hid (∀ w', Calls Tryd.prog 14 #[.agg #[.string ⟨#[116, 105, 99, 107]⟩, .int .i64 0, .int .i64 0, .int .i64 0, .int .i64 0]] w' (Ret (.int .u64 tickW) w')) := fun w' => by
                  have := WordOf_any ⟨[116, 105, 99, 107], 0, 0, 0, 0⟩ w' (by decide)
                  rwa [show wordP ⟨[116, 105, 99, 107], 0, 0, 0, 0⟩ = tickW by decide] at this
                obtain ⟨wi, hwi, hy0, hy1, hy2⟩ := info_parts u64Info
                obtain ⟨o0, o1⟩ := row2m H2.out.blk
                have z1 := row_frozen H2.out.blk 1
                have HB3 := Lib.hid H3.out
                have hlo1 : ∀ u ∈ [Value.int .u64 tickW], u.oneCell' = true := fun z hz => by simp at hz; subst hz; rfl
                go_cut [115] from 110 to 116 (fun _ wx => ∃ vW, AsAt (moreI m) wM.heap.size xb (m.funs.length + 1) (.slice A6 (m.funs.length + 1) a6) vW wx ∧ Below wM.heap.size wM wx)
                case first =>
                  go_region_law (first
                    | (refine step_append_lies _ rfl _ _ 23 rfl wM.heap.size 49 wi _ 1 8 Tryd.underlying23 hwi hy0 hy1 hy2 rfl (by decide) _ m.words.length (u64Vs m.words) rfl (by first | exact HA8.out.words.alloc _ | exact (World.ownsRow.alloc HA8.out.words _).drewN 1 | exact (HA8.out.words.drewN 1).alloc _) ⟨w8.heap.size, 0, none⟩ 1 1 [.int .u64 tickW] rfl rfl (by first | exact World.news_of_block (heap_alloc_new w8 _) | exact World.news_of_block (heap_alloc_new w8.drew _)) hlo1 (by decide) (by unfold maxLen; omega) (by omega) (by first | (simp; omega) | (show wM.heap.size ≤ (w8.alloc _).heap.size; simp; omega)) _ rfl ?_; intro g cap w9 hown hgrow hat hlt9; obtain ⟨j1, j2, j3⟩ := HA8.out.word (o := .cells #[.int .u64 tickW] 49) hbo hown ⟨hgrow.os, hgrow.tape, hgrow.output, hgrow.size, hgrow.block⟩; obtain ⟨-, o1⟩ := row2m (j1.trans HA8.out.blk); have z1 := row_frozen (j1.trans HA8.out.blk) 1; have H9 := Lib.hid j2; have HB9 := Lib.hid j3; clear j1 j2 j3 hown hgrow hat)
                    | (go_simp; go_at_call 14; (with_reducible refine (HWO.out _).mono ?_); rintro y w8 ⟨rfl, hb8'⟩; (try dsimp only); have hb8 : Below wC.heap.size wC w8 := ⟨hb8'.os, hb8'.tape, hb8'.output, hb8'.size, hb8'.block⟩; clear hb8'; have HA8 := Lib.hid (H2.out.below hb8); obtain ⟨-, o1⟩ := row2m HA8.out.blk; have z1 := row_frozen HA8.out.blk 1; have hs8 := hb8.size; have hsC := H3.out.size; have HB8 := Lib.hid hb8; have hxb8 : xb < w8.heap.size := (Array.getElem?_eq_some_iff.1 HA8.out.blk).1; have hnn8 := World.new_ne w8 _ o1; clear hb8))
                  all_goals go_wp2_with fail
                  all_goals go_meet
                  all_goals exact ⟨_, H9.out, HB6.out.trans (H3.out.trans ((HB8.out.mono (by have := H3.out.size; omega)).trans HB9.out))⟩
                case rest =>
                  obtain ⟨vW, has9, hb9⟩ := hcut
                  obtain ⟨wD, hwD⟩ : ∃ w7, wc = w7 := ⟨_, rfl⟩
                  rw [hwD] at has9 hb9
                  rw [hwD]
                  clear hwD
                  obtain ⟨A9, a9, rfl⟩ := own_slice has9.words
                  obtain ⟨AF', cF', heF, hleF, hrF⟩ := owns_rowG has9.funs
                  obtain ⟨AW', cW', heW, hleW, hrW⟩ := owns_rowG has9.words
                  injection heF with heF1 _ heF2
                  injection heW with heW1 _ heW2
                  subst heF1; subst heF2; subst heW1; subst heW2
                  have hblk := has9.blk
                  rw [hlW] at hblk
                  rw [← hlF, List.take_length] at hrF
                  obtain ⟨o0, o1⟩ := row2m hblk
                  obtain ⟨-, hL9, -, -, hX9, hb9w⟩ := HX.out wD (grow_trans HBM.out hb9)
                  have HR2 := Lib.hid (HRN.out _ _ _ a6 a9 xc wD hleF hL9 hrF hrW hX9)
                  have HB9D := Lib.hid hb9
                  clear has9 hblk hleF hleW hrF hrW hL9 hX9 hb9w hb9 HRN H2 H3
                  go_upto_region 23 with (go_at_call 11; (with_reducible refine HR2.out.mono ?_); rintro y w10 ⟨A10, c10, rfl, hr10, hc10, hb10⟩; (try dsimp only); have HR10 := Lib.hid hr10; have HB10 := Lib.hid hb10; clear hr10 hb10 hc10)
                  obtain ⟨q14, hq14⟩ : ∃ q, w10.heap.size = q := ⟨_, rfl⟩
                  obtain ⟨wE, hwE⟩ : ∃ z, w10.alloc (.cells #[.string (mkB b.how), .int .i64 b.val, .slice A10 b.out.length c10, .int .i64 (b.ticks : Nat)] 35) = z := ⟨_, rfl⟩
                  have hbE : Below w10.heap.size w10 wE := by rw [← hwE]; exact grow_alloc (grow_refl _) _
                  have hmE : wE.heap[q14]? = some (.cells #[.string (mkB b.how), .int .i64 b.val, .slice A10 b.out.length c10, .int .i64 (b.ticks : Nat)] 35 (0, 0)) := by rw [← hwE, ← hq14]; exact heap_alloc_new w10 _
                  rw [hq14]
                  rw [hwE]
                  have hbT : Below wM.heap.size wM wE := grow_trans (grow_trans HB9D.out HB10.out) hbE
                  have hk4 := (hbT.block q4 (Array.getElem?_eq_some_iff.1 HMM.out).1).trans HMM.out
                  have hrA := HR10.out.1.keep (Keeps.of_below hbE)
                  have hrB := HRM.out.keep (Keeps.of_below hbT)
                  have HSO : Hid (∀ w', Below wE.heap.size wE w' → Calls Tryd.prog 12 #[.agg #[.string (mkB b.how), .int .i64 b.val, .slice A10 b.out.length c10, .int .i64 (b.ticks : Nat)], .agg #[.string (mkB b.how), .int .i64 b.val, .slice A4 b.out.length c4, .int .i64 (b.ticks : Nat)]] w' (Ret (.bool true) w')) := fun w' hb =>
                    SameOutcome_eqM (endO b) A10 A4 c10 c4 w' (hrA.keep (Keeps.of_below hb)) (hrB.keep (Keeps.of_below hb)) (by have : b.out.length ≤ 1000 := HOB.out.out; show b.out.length ≤ 1000000; omega)
                  obtain ⟨e0, e1, e2, e3⟩ := row4e hmE
                  obtain ⟨m0, m1, m2, m3⟩ := row4e hk4
                  have HBT := Lib.hid (grow_trans (HX.out wM HBM.out).2.2.2.2.2 hbT)
                  clear hwE hq14 hbE hmE hbT hk4 hrA hrB
                  go_wp2_with (go_at_call 12; (with_reducible refine (HSO.out _ (grow_refl _)).mono ?_); rintro y w11 ⟨rfl, hb11⟩)
                  go_ret
                  exact ⟨rfl, grow_trans HBT.out hb11⟩
          · have hpnb : ((f.params : Int) != (args.length : Int)) = true := by simpa using hpn
            clear hpn hfo
            go_upto_region 14 with (go_at_call 8; (with_reducible refine HIF2.out.mono ?_); rintro x w3 ⟨rfl, hb3⟩; obtain ⟨⟨i0, i1⟩, hL3, hA3, -, -, -⟩ := HX.out w3 (grow_trans HB2.out hb3))
            obtain ⟨b4, off4, rfl, f0, f1, f2, f3⟩ := fn_cells hA3 hi
            rw [HF.out] at f0 f1 f2 f3
            go_wp2_with fail
            go_ret
            exact ⟨rfl, grow_trans (HX.out w2 HB2.out).2.2.2.2.2 hb3⟩
      · have hpp : (0 : Int) < (pc : Int) := by omega
        go_wp2_with (go_at_call 8; (with_reducible refine HIF2.out.mono ?_); rintro x w3 ⟨rfl, hb3⟩)
        go_ret
        exact ⟨rfl, grow_trans (HX.out w2 HB2.out).2.2.2.2.2 hb3⟩
theorem MachApart_walk (E : Nat → Addr) (m : PImg) (hnf : m.funs.length ≤ maxLen) (hnw : m.words.length ≤ maxLen) (A B : Option Addr) (cf cw : Nat) (h64 : ∀ n ∈ m.words, 0 ≤ n ∧ n < 18446744073709551616) (name : Txt) (args : List Int) (h6 : ∀ n ∈ args, I64 n) (X : Option Addr) (xc : Nat) (ticks : Int) (w : World) (hE : Laid7 E w) (hA : Row w A (m.funs.flatMap fnL)) (hB : Row w B (u64Vs m.words)) (hX : Row w X (intVs args)) :
    Calls Tryd.prog 4 #[.agg #[.slice A m.funs.length cf, .slice B m.words.length cw], .string (mkB name), .slice X args.length xc, .int .i64 ticks] w (Ret (.bool true) w) := by
  cases h : apartOut m args.length ticks
  · exact apart_main E m hnf hnw A B cf cw h64 name args h6 X xc ticks w hE hA hB hX h
  · exact apart_early E m hnf hnw A B cf cw name args X xc ticks w hE hA h
end Go.Proofs.YtgoifbkogboppaaDoor
