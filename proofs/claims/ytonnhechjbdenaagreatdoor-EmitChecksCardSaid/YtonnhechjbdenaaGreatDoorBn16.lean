import Derived.Test.YtonnhechjbdenaaGreatDoorBn15
set_option linter.unusedVariables false
set_option linter.unusedSimpArgs false
namespace Go.Proofs.YtonnhechjbdenaaGreatDoor
open Go.RowKit

/-! an instruction has nothing that its kind has not (printed by gen_alchk.py) -/
set_option maxHeartbeats 16000000 in
set_option maxRecDepth 100000 in
theorem bare_any (x : PLow) (w : World) : Calls Tryz.prog 95 #[lowV x] w (Ret (.bool (lowBare x)) w) := by
  obtain ⟨wL, hwL⟩ : ∃ wL, w.alloc (.cells #[.string (mkB x.kind), .int .i64 x.d, .int .i64 x.a, .int .i64 x.b, .int .i64 x.num, .string (mkB x.name)] 71) = wL := ⟨_, rfl⟩
  have hbL : Below w.heap.size w wL := by rw [← hwL]; exact grow_alloc (grow_refl w) _
  have hmL : wL.heap[w.heap.size]? = some (.cells #[.string (mkB x.kind), .int .i64 x.d, .int .i64 x.a, .int .i64 x.b, .int .i64 x.num, .string (mkB x.name)] 71 (0, 0)) := by rw [← hwL]; exact heap_alloc_new w _
  have HWL := Lib.hid hwL
  have HBL := Lib.hid hbL
  have HML := Lib.hid hmL
  clear hwL hbL hmL
  obtain ⟨l0, l1, l2, l3, l4, l5⟩ := row6A HML.out
  have HX : Hid (∀ w', Below wL.heap.size wL w' → w'.heap[w.heap.size]? = wL.heap[w.heap.size]?) := fun w' hb => hb.block _ (Array.getElem?_eq_some_iff.1 HML.out).1
  obtain ⟨F, hF⟩ : ∃ F, kHas (kindN x.kind) = F := ⟨_, rfl⟩
  obtain ⟨z, hz⟩ : ∃ z, (kindN x.kind != 0) = z := ⟨_, rfl⟩
  obtain ⟨hd, hhd⟩ : ∃ b, lowHas x 100 = b := ⟨_, rfl⟩
  obtain ⟨zd, hzd⟩ : ∃ b, (x.d == 0) = b := ⟨_, rfl⟩
  obtain ⟨ha, hha⟩ : ∃ b, lowHas x 97 = b := ⟨_, rfl⟩
  obtain ⟨za, hza⟩ : ∃ b, (x.a == 0) = b := ⟨_, rfl⟩
  obtain ⟨hb, hhb⟩ : ∃ b, lowHas x 98 = b := ⟨_, rfl⟩
  obtain ⟨zb, hzb⟩ : ∃ b, (x.b == 0) = b := ⟨_, rfl⟩
  obtain ⟨hn, hhn⟩ : ∃ b, lowHas x 110 = b := ⟨_, rfl⟩
  obtain ⟨zn, hzn⟩ : ∃ b, (x.num == 0) = b := ⟨_, rfl⟩
  obtain ⟨hs, hhs⟩ : ∃ b, lowHas x 115 = b := ⟨_, rfl⟩
  obtain ⟨zs, hzs⟩ : ∃ b, (x.name.isEmpty) = b := ⟨_, rfl⟩
  have HEQ : Hid (lowBare x = ((hd || zd) && (ha || za) && (hb || zb) && (hn || zn) && (hs || zs))) := show _ = _ by unfold lowBare; rw [hhd, hha, hhb, hhn, hhs, hzd, hza, hzb, hzn, hzs]
  have hlen : F.length ≤ 1000 := by
    rw [← hF]
    have hk := kind_lt x.kind
    generalize kindN x.kind = n at hk
    have : n = 0 ∨ n = 1 ∨ n = 2 ∨ n = 3 ∨ n = 4 ∨ n = 5 ∨ n = 6 ∨ n = 7 ∨ n = 8 ∨ n = 9 ∨ n = 10 ∨ n = 11 := by omega
    rcases this with rfl | rfl | rfl | rfl | rfl | rfl | rfl | rfl | rfl | rfl | rfl | rfl <;> decide
  have HH : Hid (∀ w', Calls Tryz.prog 105 #[.string (mkB x.kind)] w' (Ret (.tuple #[.string (mkB F), .bool z]) w')) := fun w' => by
    have := has_any x.kind w'
    rwa [hF, hz] at this
  have HWd : Hid (∀ w', Calls Tryz.prog 109 #[.string (mkB F), .int .u8 100] w' (Ret (.bool hd) w')) := fun w' => by
    have := with_any F hlen 100 w'
    rwa [show hasL F 100 = hd by rw [← hF]; exact hhd] at this
  have HWa : Hid (∀ w', Calls Tryz.prog 109 #[.string (mkB F), .int .u8 97] w' (Ret (.bool ha) w')) := fun w' => by
    have := with_any F hlen 97 w'
    rwa [show hasL F 97 = ha by rw [← hF]; exact hha] at this
  have HWb : Hid (∀ w', Calls Tryz.prog 109 #[.string (mkB F), .int .u8 98] w' (Ret (.bool hb) w')) := fun w' => by
    have := with_any F hlen 98 w'
    rwa [show hasL F 98 = hb by rw [← hF]; exact hhb] at this
  have HWn : Hid (∀ w', Calls Tryz.prog 109 #[.string (mkB F), .int .u8 110] w' (Ret (.bool hn) w')) := fun w' => by
    have := with_any F hlen 110 w'
    rwa [show hasL F 110 = hn by rw [← hF]; exact hhn] at this
  have HWs : Hid (∀ w', Calls Tryz.prog 109 #[.string (mkB F), .int .u8 115] w' (Ret (.bool hs) w')) := fun w' => by
    have := with_any F hlen 115 w'
    rwa [show hasL F 115 = hs by rw [← hF]; exact hhs] at this
  have hbw : Below wL.heap.size wL wL := grow_refl wL
  have hnm : ((mkB x.name).toList == []) = zs := by
    rw [mkB_toList, ← hzs]; cases x.name <;> rfl
  unfold lowV
  clear hF hz hhd hha hhb hhn hhs hlen hzs
  cases hd
  · cases zd
    · skip
      go_enter Tryz.func95, Tryz.ntmps95
      go_upto_region 1 with fail
      change Code.wp _ _ _ _ (w.alloc (.cells #[.string (mkB x.kind), .int .i64 x.d, .int .i64 x.a, .int .i64 x.b, .int .i64 x.num, .string (mkB x.name)] 71))
      rw [HWL.out]
      go_wp2_with (first
        | (go_at_call 105; (with_reducible refine (HH.out _).mono ?_); rintro y w1 ⟨rfl, hb1⟩; replace hbw := grow_trans hbw hb1; clear hb1; obtain ⟨l0, l1, l2, l3, l4, l5⟩ := row6A ((HX.out _ hbw).trans HML.out))
        | (go_at_call 109; (with_reducible refine (HWd.out _).mono ?_); rintro y w1 ⟨rfl, hb1⟩; replace hbw := grow_trans hbw hb1; clear hb1; obtain ⟨l0, l1, l2, l3, l4, l5⟩ := row6A ((HX.out _ hbw).trans HML.out))
        | (go_at_call 109; (with_reducible refine (HWa.out _).mono ?_); rintro y w1 ⟨rfl, hb1⟩; replace hbw := grow_trans hbw hb1; clear hb1; obtain ⟨l0, l1, l2, l3, l4, l5⟩ := row6A ((HX.out _ hbw).trans HML.out))
        | (go_at_call 109; (with_reducible refine (HWb.out _).mono ?_); rintro y w1 ⟨rfl, hb1⟩; replace hbw := grow_trans hbw hb1; clear hb1; obtain ⟨l0, l1, l2, l3, l4, l5⟩ := row6A ((HX.out _ hbw).trans HML.out))
        | (go_at_call 109; (with_reducible refine (HWn.out _).mono ?_); rintro y w1 ⟨rfl, hb1⟩; replace hbw := grow_trans hbw hb1; clear hb1; obtain ⟨l0, l1, l2, l3, l4, l5⟩ := row6A ((HX.out _ hbw).trans HML.out))
        | (go_at_call 109; (with_reducible refine (HWs.out _).mono ?_); rintro y w1 ⟨rfl, hb1⟩; replace hbw := grow_trans hbw hb1; clear hb1; obtain ⟨l0, l1, l2, l3, l4, l5⟩ := row6A ((HX.out _ hbw).trans HML.out)))
      go_ret
      exact ⟨by rw [HEQ.out]; rfl, grow_trans HBL.out hbw⟩
    · skip
      cases ha
      · cases za
        · skip
          go_enter Tryz.func95, Tryz.ntmps95
          go_upto_region 1 with fail
          change Code.wp _ _ _ _ (w.alloc (.cells #[.string (mkB x.kind), .int .i64 x.d, .int .i64 x.a, .int .i64 x.b, .int .i64 x.num, .string (mkB x.name)] 71))
          rw [HWL.out]
          go_wp2_with (first
            | (go_at_call 105; (with_reducible refine (HH.out _).mono ?_); rintro y w1 ⟨rfl, hb1⟩; replace hbw := grow_trans hbw hb1; clear hb1; obtain ⟨l0, l1, l2, l3, l4, l5⟩ := row6A ((HX.out _ hbw).trans HML.out))
            | (go_at_call 109; (with_reducible refine (HWd.out _).mono ?_); rintro y w1 ⟨rfl, hb1⟩; replace hbw := grow_trans hbw hb1; clear hb1; obtain ⟨l0, l1, l2, l3, l4, l5⟩ := row6A ((HX.out _ hbw).trans HML.out))
            | (go_at_call 109; (with_reducible refine (HWa.out _).mono ?_); rintro y w1 ⟨rfl, hb1⟩; replace hbw := grow_trans hbw hb1; clear hb1; obtain ⟨l0, l1, l2, l3, l4, l5⟩ := row6A ((HX.out _ hbw).trans HML.out))
            | (go_at_call 109; (with_reducible refine (HWb.out _).mono ?_); rintro y w1 ⟨rfl, hb1⟩; replace hbw := grow_trans hbw hb1; clear hb1; obtain ⟨l0, l1, l2, l3, l4, l5⟩ := row6A ((HX.out _ hbw).trans HML.out))
            | (go_at_call 109; (with_reducible refine (HWn.out _).mono ?_); rintro y w1 ⟨rfl, hb1⟩; replace hbw := grow_trans hbw hb1; clear hb1; obtain ⟨l0, l1, l2, l3, l4, l5⟩ := row6A ((HX.out _ hbw).trans HML.out))
            | (go_at_call 109; (with_reducible refine (HWs.out _).mono ?_); rintro y w1 ⟨rfl, hb1⟩; replace hbw := grow_trans hbw hb1; clear hb1; obtain ⟨l0, l1, l2, l3, l4, l5⟩ := row6A ((HX.out _ hbw).trans HML.out)))
          go_ret
          exact ⟨by rw [HEQ.out]; rfl, grow_trans HBL.out hbw⟩
        · skip
          cases hb
          · cases zb
            · skip
              go_enter Tryz.func95, Tryz.ntmps95
              go_upto_region 1 with fail
              change Code.wp _ _ _ _ (w.alloc (.cells #[.string (mkB x.kind), .int .i64 x.d, .int .i64 x.a, .int .i64 x.b, .int .i64 x.num, .string (mkB x.name)] 71))
              rw [HWL.out]
              go_wp2_with (first
                | (go_at_call 105; (with_reducible refine (HH.out _).mono ?_); rintro y w1 ⟨rfl, hb1⟩; replace hbw := grow_trans hbw hb1; clear hb1; obtain ⟨l0, l1, l2, l3, l4, l5⟩ := row6A ((HX.out _ hbw).trans HML.out))
                | (go_at_call 109; (with_reducible refine (HWd.out _).mono ?_); rintro y w1 ⟨rfl, hb1⟩; replace hbw := grow_trans hbw hb1; clear hb1; obtain ⟨l0, l1, l2, l3, l4, l5⟩ := row6A ((HX.out _ hbw).trans HML.out))
                | (go_at_call 109; (with_reducible refine (HWa.out _).mono ?_); rintro y w1 ⟨rfl, hb1⟩; replace hbw := grow_trans hbw hb1; clear hb1; obtain ⟨l0, l1, l2, l3, l4, l5⟩ := row6A ((HX.out _ hbw).trans HML.out))
                | (go_at_call 109; (with_reducible refine (HWb.out _).mono ?_); rintro y w1 ⟨rfl, hb1⟩; replace hbw := grow_trans hbw hb1; clear hb1; obtain ⟨l0, l1, l2, l3, l4, l5⟩ := row6A ((HX.out _ hbw).trans HML.out))
                | (go_at_call 109; (with_reducible refine (HWn.out _).mono ?_); rintro y w1 ⟨rfl, hb1⟩; replace hbw := grow_trans hbw hb1; clear hb1; obtain ⟨l0, l1, l2, l3, l4, l5⟩ := row6A ((HX.out _ hbw).trans HML.out))
                | (go_at_call 109; (with_reducible refine (HWs.out _).mono ?_); rintro y w1 ⟨rfl, hb1⟩; replace hbw := grow_trans hbw hb1; clear hb1; obtain ⟨l0, l1, l2, l3, l4, l5⟩ := row6A ((HX.out _ hbw).trans HML.out)))
              go_ret
              exact ⟨by rw [HEQ.out]; rfl, grow_trans HBL.out hbw⟩
            · skip
              cases hn
              · cases zn
                · skip
                  go_enter Tryz.func95, Tryz.ntmps95
                  go_upto_region 1 with fail
                  change Code.wp _ _ _ _ (w.alloc (.cells #[.string (mkB x.kind), .int .i64 x.d, .int .i64 x.a, .int .i64 x.b, .int .i64 x.num, .string (mkB x.name)] 71))
                  rw [HWL.out]
                  go_wp2_with (first
                    | (go_at_call 105; (with_reducible refine (HH.out _).mono ?_); rintro y w1 ⟨rfl, hb1⟩; replace hbw := grow_trans hbw hb1; clear hb1; obtain ⟨l0, l1, l2, l3, l4, l5⟩ := row6A ((HX.out _ hbw).trans HML.out))
                    | (go_at_call 109; (with_reducible refine (HWd.out _).mono ?_); rintro y w1 ⟨rfl, hb1⟩; replace hbw := grow_trans hbw hb1; clear hb1; obtain ⟨l0, l1, l2, l3, l4, l5⟩ := row6A ((HX.out _ hbw).trans HML.out))
                    | (go_at_call 109; (with_reducible refine (HWa.out _).mono ?_); rintro y w1 ⟨rfl, hb1⟩; replace hbw := grow_trans hbw hb1; clear hb1; obtain ⟨l0, l1, l2, l3, l4, l5⟩ := row6A ((HX.out _ hbw).trans HML.out))
                    | (go_at_call 109; (with_reducible refine (HWb.out _).mono ?_); rintro y w1 ⟨rfl, hb1⟩; replace hbw := grow_trans hbw hb1; clear hb1; obtain ⟨l0, l1, l2, l3, l4, l5⟩ := row6A ((HX.out _ hbw).trans HML.out))
                    | (go_at_call 109; (with_reducible refine (HWn.out _).mono ?_); rintro y w1 ⟨rfl, hb1⟩; replace hbw := grow_trans hbw hb1; clear hb1; obtain ⟨l0, l1, l2, l3, l4, l5⟩ := row6A ((HX.out _ hbw).trans HML.out))
                    | (go_at_call 109; (with_reducible refine (HWs.out _).mono ?_); rintro y w1 ⟨rfl, hb1⟩; replace hbw := grow_trans hbw hb1; clear hb1; obtain ⟨l0, l1, l2, l3, l4, l5⟩ := row6A ((HX.out _ hbw).trans HML.out)))
                  go_ret
                  exact ⟨by rw [HEQ.out]; rfl, grow_trans HBL.out hbw⟩
                · skip
                  cases hs
                  · cases zs
                    · skip
                      go_enter Tryz.func95, Tryz.ntmps95
                      go_upto_region 1 with fail
                      change Code.wp _ _ _ _ (w.alloc (.cells #[.string (mkB x.kind), .int .i64 x.d, .int .i64 x.a, .int .i64 x.b, .int .i64 x.num, .string (mkB x.name)] 71))
                      rw [HWL.out]
                      go_wp2_with (first
                        | (go_at_call 105; (with_reducible refine (HH.out _).mono ?_); rintro y w1 ⟨rfl, hb1⟩; replace hbw := grow_trans hbw hb1; clear hb1; obtain ⟨l0, l1, l2, l3, l4, l5⟩ := row6A ((HX.out _ hbw).trans HML.out))
                        | (go_at_call 109; (with_reducible refine (HWd.out _).mono ?_); rintro y w1 ⟨rfl, hb1⟩; replace hbw := grow_trans hbw hb1; clear hb1; obtain ⟨l0, l1, l2, l3, l4, l5⟩ := row6A ((HX.out _ hbw).trans HML.out))
                        | (go_at_call 109; (with_reducible refine (HWa.out _).mono ?_); rintro y w1 ⟨rfl, hb1⟩; replace hbw := grow_trans hbw hb1; clear hb1; obtain ⟨l0, l1, l2, l3, l4, l5⟩ := row6A ((HX.out _ hbw).trans HML.out))
                        | (go_at_call 109; (with_reducible refine (HWb.out _).mono ?_); rintro y w1 ⟨rfl, hb1⟩; replace hbw := grow_trans hbw hb1; clear hb1; obtain ⟨l0, l1, l2, l3, l4, l5⟩ := row6A ((HX.out _ hbw).trans HML.out))
                        | (go_at_call 109; (with_reducible refine (HWn.out _).mono ?_); rintro y w1 ⟨rfl, hb1⟩; replace hbw := grow_trans hbw hb1; clear hb1; obtain ⟨l0, l1, l2, l3, l4, l5⟩ := row6A ((HX.out _ hbw).trans HML.out))
                        | (go_at_call 109; (with_reducible refine (HWs.out _).mono ?_); rintro y w1 ⟨rfl, hb1⟩; replace hbw := grow_trans hbw hb1; clear hb1; obtain ⟨l0, l1, l2, l3, l4, l5⟩ := row6A ((HX.out _ hbw).trans HML.out)))
                      go_ret
                      exact ⟨by rw [HEQ.out]; rfl, grow_trans HBL.out hbw⟩
                    · skip
                      go_enter Tryz.func95, Tryz.ntmps95
                      go_upto_region 1 with fail
                      change Code.wp _ _ _ _ (w.alloc (.cells #[.string (mkB x.kind), .int .i64 x.d, .int .i64 x.a, .int .i64 x.b, .int .i64 x.num, .string (mkB x.name)] 71))
                      rw [HWL.out]
                      go_wp2_with (first
                        | (go_at_call 105; (with_reducible refine (HH.out _).mono ?_); rintro y w1 ⟨rfl, hb1⟩; replace hbw := grow_trans hbw hb1; clear hb1; obtain ⟨l0, l1, l2, l3, l4, l5⟩ := row6A ((HX.out _ hbw).trans HML.out))
                        | (go_at_call 109; (with_reducible refine (HWd.out _).mono ?_); rintro y w1 ⟨rfl, hb1⟩; replace hbw := grow_trans hbw hb1; clear hb1; obtain ⟨l0, l1, l2, l3, l4, l5⟩ := row6A ((HX.out _ hbw).trans HML.out))
                        | (go_at_call 109; (with_reducible refine (HWa.out _).mono ?_); rintro y w1 ⟨rfl, hb1⟩; replace hbw := grow_trans hbw hb1; clear hb1; obtain ⟨l0, l1, l2, l3, l4, l5⟩ := row6A ((HX.out _ hbw).trans HML.out))
                        | (go_at_call 109; (with_reducible refine (HWb.out _).mono ?_); rintro y w1 ⟨rfl, hb1⟩; replace hbw := grow_trans hbw hb1; clear hb1; obtain ⟨l0, l1, l2, l3, l4, l5⟩ := row6A ((HX.out _ hbw).trans HML.out))
                        | (go_at_call 109; (with_reducible refine (HWn.out _).mono ?_); rintro y w1 ⟨rfl, hb1⟩; replace hbw := grow_trans hbw hb1; clear hb1; obtain ⟨l0, l1, l2, l3, l4, l5⟩ := row6A ((HX.out _ hbw).trans HML.out))
                        | (go_at_call 109; (with_reducible refine (HWs.out _).mono ?_); rintro y w1 ⟨rfl, hb1⟩; replace hbw := grow_trans hbw hb1; clear hb1; obtain ⟨l0, l1, l2, l3, l4, l5⟩ := row6A ((HX.out _ hbw).trans HML.out)))
                      go_ret
                      exact ⟨by rw [HEQ.out]; rfl, grow_trans HBL.out hbw⟩
                  · skip
                    go_enter Tryz.func95, Tryz.ntmps95
                    go_upto_region 1 with fail
                    change Code.wp _ _ _ _ (w.alloc (.cells #[.string (mkB x.kind), .int .i64 x.d, .int .i64 x.a, .int .i64 x.b, .int .i64 x.num, .string (mkB x.name)] 71))
                    rw [HWL.out]
                    go_wp2_with (first
                      | (go_at_call 105; (with_reducible refine (HH.out _).mono ?_); rintro y w1 ⟨rfl, hb1⟩; replace hbw := grow_trans hbw hb1; clear hb1; obtain ⟨l0, l1, l2, l3, l4, l5⟩ := row6A ((HX.out _ hbw).trans HML.out))
                      | (go_at_call 109; (with_reducible refine (HWd.out _).mono ?_); rintro y w1 ⟨rfl, hb1⟩; replace hbw := grow_trans hbw hb1; clear hb1; obtain ⟨l0, l1, l2, l3, l4, l5⟩ := row6A ((HX.out _ hbw).trans HML.out))
                      | (go_at_call 109; (with_reducible refine (HWa.out _).mono ?_); rintro y w1 ⟨rfl, hb1⟩; replace hbw := grow_trans hbw hb1; clear hb1; obtain ⟨l0, l1, l2, l3, l4, l5⟩ := row6A ((HX.out _ hbw).trans HML.out))
                      | (go_at_call 109; (with_reducible refine (HWb.out _).mono ?_); rintro y w1 ⟨rfl, hb1⟩; replace hbw := grow_trans hbw hb1; clear hb1; obtain ⟨l0, l1, l2, l3, l4, l5⟩ := row6A ((HX.out _ hbw).trans HML.out))
                      | (go_at_call 109; (with_reducible refine (HWn.out _).mono ?_); rintro y w1 ⟨rfl, hb1⟩; replace hbw := grow_trans hbw hb1; clear hb1; obtain ⟨l0, l1, l2, l3, l4, l5⟩ := row6A ((HX.out _ hbw).trans HML.out))
                      | (go_at_call 109; (with_reducible refine (HWs.out _).mono ?_); rintro y w1 ⟨rfl, hb1⟩; replace hbw := grow_trans hbw hb1; clear hb1; obtain ⟨l0, l1, l2, l3, l4, l5⟩ := row6A ((HX.out _ hbw).trans HML.out)))
                    go_ret
                    exact ⟨by rw [HEQ.out]; rfl, grow_trans HBL.out hbw⟩
              · skip
                cases hs
                · cases zs
                  · skip
                    go_enter Tryz.func95, Tryz.ntmps95
                    go_upto_region 1 with fail
                    change Code.wp _ _ _ _ (w.alloc (.cells #[.string (mkB x.kind), .int .i64 x.d, .int .i64 x.a, .int .i64 x.b, .int .i64 x.num, .string (mkB x.name)] 71))
                    rw [HWL.out]
                    go_wp2_with (first
                      | (go_at_call 105; (with_reducible refine (HH.out _).mono ?_); rintro y w1 ⟨rfl, hb1⟩; replace hbw := grow_trans hbw hb1; clear hb1; obtain ⟨l0, l1, l2, l3, l4, l5⟩ := row6A ((HX.out _ hbw).trans HML.out))
                      | (go_at_call 109; (with_reducible refine (HWd.out _).mono ?_); rintro y w1 ⟨rfl, hb1⟩; replace hbw := grow_trans hbw hb1; clear hb1; obtain ⟨l0, l1, l2, l3, l4, l5⟩ := row6A ((HX.out _ hbw).trans HML.out))
                      | (go_at_call 109; (with_reducible refine (HWa.out _).mono ?_); rintro y w1 ⟨rfl, hb1⟩; replace hbw := grow_trans hbw hb1; clear hb1; obtain ⟨l0, l1, l2, l3, l4, l5⟩ := row6A ((HX.out _ hbw).trans HML.out))
                      | (go_at_call 109; (with_reducible refine (HWb.out _).mono ?_); rintro y w1 ⟨rfl, hb1⟩; replace hbw := grow_trans hbw hb1; clear hb1; obtain ⟨l0, l1, l2, l3, l4, l5⟩ := row6A ((HX.out _ hbw).trans HML.out))
                      | (go_at_call 109; (with_reducible refine (HWn.out _).mono ?_); rintro y w1 ⟨rfl, hb1⟩; replace hbw := grow_trans hbw hb1; clear hb1; obtain ⟨l0, l1, l2, l3, l4, l5⟩ := row6A ((HX.out _ hbw).trans HML.out))
                      | (go_at_call 109; (with_reducible refine (HWs.out _).mono ?_); rintro y w1 ⟨rfl, hb1⟩; replace hbw := grow_trans hbw hb1; clear hb1; obtain ⟨l0, l1, l2, l3, l4, l5⟩ := row6A ((HX.out _ hbw).trans HML.out)))
                    go_ret
                    exact ⟨by rw [HEQ.out]; rfl, grow_trans HBL.out hbw⟩
                  · skip
                    go_enter Tryz.func95, Tryz.ntmps95
                    go_upto_region 1 with fail
                    change Code.wp _ _ _ _ (w.alloc (.cells #[.string (mkB x.kind), .int .i64 x.d, .int .i64 x.a, .int .i64 x.b, .int .i64 x.num, .string (mkB x.name)] 71))
                    rw [HWL.out]
                    go_wp2_with (first
                      | (go_at_call 105; (with_reducible refine (HH.out _).mono ?_); rintro y w1 ⟨rfl, hb1⟩; replace hbw := grow_trans hbw hb1; clear hb1; obtain ⟨l0, l1, l2, l3, l4, l5⟩ := row6A ((HX.out _ hbw).trans HML.out))
                      | (go_at_call 109; (with_reducible refine (HWd.out _).mono ?_); rintro y w1 ⟨rfl, hb1⟩; replace hbw := grow_trans hbw hb1; clear hb1; obtain ⟨l0, l1, l2, l3, l4, l5⟩ := row6A ((HX.out _ hbw).trans HML.out))
                      | (go_at_call 109; (with_reducible refine (HWa.out _).mono ?_); rintro y w1 ⟨rfl, hb1⟩; replace hbw := grow_trans hbw hb1; clear hb1; obtain ⟨l0, l1, l2, l3, l4, l5⟩ := row6A ((HX.out _ hbw).trans HML.out))
                      | (go_at_call 109; (with_reducible refine (HWb.out _).mono ?_); rintro y w1 ⟨rfl, hb1⟩; replace hbw := grow_trans hbw hb1; clear hb1; obtain ⟨l0, l1, l2, l3, l4, l5⟩ := row6A ((HX.out _ hbw).trans HML.out))
                      | (go_at_call 109; (with_reducible refine (HWn.out _).mono ?_); rintro y w1 ⟨rfl, hb1⟩; replace hbw := grow_trans hbw hb1; clear hb1; obtain ⟨l0, l1, l2, l3, l4, l5⟩ := row6A ((HX.out _ hbw).trans HML.out))
                      | (go_at_call 109; (with_reducible refine (HWs.out _).mono ?_); rintro y w1 ⟨rfl, hb1⟩; replace hbw := grow_trans hbw hb1; clear hb1; obtain ⟨l0, l1, l2, l3, l4, l5⟩ := row6A ((HX.out _ hbw).trans HML.out)))
                    go_ret
                    exact ⟨by rw [HEQ.out]; rfl, grow_trans HBL.out hbw⟩
                · skip
                  go_enter Tryz.func95, Tryz.ntmps95
                  go_upto_region 1 with fail
                  change Code.wp _ _ _ _ (w.alloc (.cells #[.string (mkB x.kind), .int .i64 x.d, .int .i64 x.a, .int .i64 x.b, .int .i64 x.num, .string (mkB x.name)] 71))
                  rw [HWL.out]
                  go_wp2_with (first
                    | (go_at_call 105; (with_reducible refine (HH.out _).mono ?_); rintro y w1 ⟨rfl, hb1⟩; replace hbw := grow_trans hbw hb1; clear hb1; obtain ⟨l0, l1, l2, l3, l4, l5⟩ := row6A ((HX.out _ hbw).trans HML.out))
                    | (go_at_call 109; (with_reducible refine (HWd.out _).mono ?_); rintro y w1 ⟨rfl, hb1⟩; replace hbw := grow_trans hbw hb1; clear hb1; obtain ⟨l0, l1, l2, l3, l4, l5⟩ := row6A ((HX.out _ hbw).trans HML.out))
                    | (go_at_call 109; (with_reducible refine (HWa.out _).mono ?_); rintro y w1 ⟨rfl, hb1⟩; replace hbw := grow_trans hbw hb1; clear hb1; obtain ⟨l0, l1, l2, l3, l4, l5⟩ := row6A ((HX.out _ hbw).trans HML.out))
                    | (go_at_call 109; (with_reducible refine (HWb.out _).mono ?_); rintro y w1 ⟨rfl, hb1⟩; replace hbw := grow_trans hbw hb1; clear hb1; obtain ⟨l0, l1, l2, l3, l4, l5⟩ := row6A ((HX.out _ hbw).trans HML.out))
                    | (go_at_call 109; (with_reducible refine (HWn.out _).mono ?_); rintro y w1 ⟨rfl, hb1⟩; replace hbw := grow_trans hbw hb1; clear hb1; obtain ⟨l0, l1, l2, l3, l4, l5⟩ := row6A ((HX.out _ hbw).trans HML.out))
                    | (go_at_call 109; (with_reducible refine (HWs.out _).mono ?_); rintro y w1 ⟨rfl, hb1⟩; replace hbw := grow_trans hbw hb1; clear hb1; obtain ⟨l0, l1, l2, l3, l4, l5⟩ := row6A ((HX.out _ hbw).trans HML.out)))
                  go_ret
                  exact ⟨by rw [HEQ.out]; rfl, grow_trans HBL.out hbw⟩
          · skip
            cases hn
            · cases zn
              · skip
                go_enter Tryz.func95, Tryz.ntmps95
                go_upto_region 1 with fail
                change Code.wp _ _ _ _ (w.alloc (.cells #[.string (mkB x.kind), .int .i64 x.d, .int .i64 x.a, .int .i64 x.b, .int .i64 x.num, .string (mkB x.name)] 71))
                rw [HWL.out]
                go_wp2_with (first
                  | (go_at_call 105; (with_reducible refine (HH.out _).mono ?_); rintro y w1 ⟨rfl, hb1⟩; replace hbw := grow_trans hbw hb1; clear hb1; obtain ⟨l0, l1, l2, l3, l4, l5⟩ := row6A ((HX.out _ hbw).trans HML.out))
                  | (go_at_call 109; (with_reducible refine (HWd.out _).mono ?_); rintro y w1 ⟨rfl, hb1⟩; replace hbw := grow_trans hbw hb1; clear hb1; obtain ⟨l0, l1, l2, l3, l4, l5⟩ := row6A ((HX.out _ hbw).trans HML.out))
                  | (go_at_call 109; (with_reducible refine (HWa.out _).mono ?_); rintro y w1 ⟨rfl, hb1⟩; replace hbw := grow_trans hbw hb1; clear hb1; obtain ⟨l0, l1, l2, l3, l4, l5⟩ := row6A ((HX.out _ hbw).trans HML.out))
                  | (go_at_call 109; (with_reducible refine (HWb.out _).mono ?_); rintro y w1 ⟨rfl, hb1⟩; replace hbw := grow_trans hbw hb1; clear hb1; obtain ⟨l0, l1, l2, l3, l4, l5⟩ := row6A ((HX.out _ hbw).trans HML.out))
                  | (go_at_call 109; (with_reducible refine (HWn.out _).mono ?_); rintro y w1 ⟨rfl, hb1⟩; replace hbw := grow_trans hbw hb1; clear hb1; obtain ⟨l0, l1, l2, l3, l4, l5⟩ := row6A ((HX.out _ hbw).trans HML.out))
                  | (go_at_call 109; (with_reducible refine (HWs.out _).mono ?_); rintro y w1 ⟨rfl, hb1⟩; replace hbw := grow_trans hbw hb1; clear hb1; obtain ⟨l0, l1, l2, l3, l4, l5⟩ := row6A ((HX.out _ hbw).trans HML.out)))
                go_ret
                exact ⟨by rw [HEQ.out]; rfl, grow_trans HBL.out hbw⟩
              · skip
                cases hs
                · cases zs
                  · skip
                    go_enter Tryz.func95, Tryz.ntmps95
                    go_upto_region 1 with fail
                    change Code.wp _ _ _ _ (w.alloc (.cells #[.string (mkB x.kind), .int .i64 x.d, .int .i64 x.a, .int .i64 x.b, .int .i64 x.num, .string (mkB x.name)] 71))
                    rw [HWL.out]
                    go_wp2_with (first
                      | (go_at_call 105; (with_reducible refine (HH.out _).mono ?_); rintro y w1 ⟨rfl, hb1⟩; replace hbw := grow_trans hbw hb1; clear hb1; obtain ⟨l0, l1, l2, l3, l4, l5⟩ := row6A ((HX.out _ hbw).trans HML.out))
                      | (go_at_call 109; (with_reducible refine (HWd.out _).mono ?_); rintro y w1 ⟨rfl, hb1⟩; replace hbw := grow_trans hbw hb1; clear hb1; obtain ⟨l0, l1, l2, l3, l4, l5⟩ := row6A ((HX.out _ hbw).trans HML.out))
                      | (go_at_call 109; (with_reducible refine (HWa.out _).mono ?_); rintro y w1 ⟨rfl, hb1⟩; replace hbw := grow_trans hbw hb1; clear hb1; obtain ⟨l0, l1, l2, l3, l4, l5⟩ := row6A ((HX.out _ hbw).trans HML.out))
                      | (go_at_call 109; (with_reducible refine (HWb.out _).mono ?_); rintro y w1 ⟨rfl, hb1⟩; replace hbw := grow_trans hbw hb1; clear hb1; obtain ⟨l0, l1, l2, l3, l4, l5⟩ := row6A ((HX.out _ hbw).trans HML.out))
                      | (go_at_call 109; (with_reducible refine (HWn.out _).mono ?_); rintro y w1 ⟨rfl, hb1⟩; replace hbw := grow_trans hbw hb1; clear hb1; obtain ⟨l0, l1, l2, l3, l4, l5⟩ := row6A ((HX.out _ hbw).trans HML.out))
                      | (go_at_call 109; (with_reducible refine (HWs.out _).mono ?_); rintro y w1 ⟨rfl, hb1⟩; replace hbw := grow_trans hbw hb1; clear hb1; obtain ⟨l0, l1, l2, l3, l4, l5⟩ := row6A ((HX.out _ hbw).trans HML.out)))
                    go_ret
                    exact ⟨by rw [HEQ.out]; rfl, grow_trans HBL.out hbw⟩
                  · skip
                    go_enter Tryz.func95, Tryz.ntmps95
                    go_upto_region 1 with fail
                    change Code.wp _ _ _ _ (w.alloc (.cells #[.string (mkB x.kind), .int .i64 x.d, .int .i64 x.a, .int .i64 x.b, .int .i64 x.num, .string (mkB x.name)] 71))
                    rw [HWL.out]
                    go_wp2_with (first
                      | (go_at_call 105; (with_reducible refine (HH.out _).mono ?_); rintro y w1 ⟨rfl, hb1⟩; replace hbw := grow_trans hbw hb1; clear hb1; obtain ⟨l0, l1, l2, l3, l4, l5⟩ := row6A ((HX.out _ hbw).trans HML.out))
                      | (go_at_call 109; (with_reducible refine (HWd.out _).mono ?_); rintro y w1 ⟨rfl, hb1⟩; replace hbw := grow_trans hbw hb1; clear hb1; obtain ⟨l0, l1, l2, l3, l4, l5⟩ := row6A ((HX.out _ hbw).trans HML.out))
                      | (go_at_call 109; (with_reducible refine (HWa.out _).mono ?_); rintro y w1 ⟨rfl, hb1⟩; replace hbw := grow_trans hbw hb1; clear hb1; obtain ⟨l0, l1, l2, l3, l4, l5⟩ := row6A ((HX.out _ hbw).trans HML.out))
                      | (go_at_call 109; (with_reducible refine (HWb.out _).mono ?_); rintro y w1 ⟨rfl, hb1⟩; replace hbw := grow_trans hbw hb1; clear hb1; obtain ⟨l0, l1, l2, l3, l4, l5⟩ := row6A ((HX.out _ hbw).trans HML.out))
                      | (go_at_call 109; (with_reducible refine (HWn.out _).mono ?_); rintro y w1 ⟨rfl, hb1⟩; replace hbw := grow_trans hbw hb1; clear hb1; obtain ⟨l0, l1, l2, l3, l4, l5⟩ := row6A ((HX.out _ hbw).trans HML.out))
                      | (go_at_call 109; (with_reducible refine (HWs.out _).mono ?_); rintro y w1 ⟨rfl, hb1⟩; replace hbw := grow_trans hbw hb1; clear hb1; obtain ⟨l0, l1, l2, l3, l4, l5⟩ := row6A ((HX.out _ hbw).trans HML.out)))
                    go_ret
                    exact ⟨by rw [HEQ.out]; rfl, grow_trans HBL.out hbw⟩
                · skip
                  go_enter Tryz.func95, Tryz.ntmps95
                  go_upto_region 1 with fail
                  change Code.wp _ _ _ _ (w.alloc (.cells #[.string (mkB x.kind), .int .i64 x.d, .int .i64 x.a, .int .i64 x.b, .int .i64 x.num, .string (mkB x.name)] 71))
                  rw [HWL.out]
                  go_wp2_with (first
                    | (go_at_call 105; (with_reducible refine (HH.out _).mono ?_); rintro y w1 ⟨rfl, hb1⟩; replace hbw := grow_trans hbw hb1; clear hb1; obtain ⟨l0, l1, l2, l3, l4, l5⟩ := row6A ((HX.out _ hbw).trans HML.out))
                    | (go_at_call 109; (with_reducible refine (HWd.out _).mono ?_); rintro y w1 ⟨rfl, hb1⟩; replace hbw := grow_trans hbw hb1; clear hb1; obtain ⟨l0, l1, l2, l3, l4, l5⟩ := row6A ((HX.out _ hbw).trans HML.out))
                    | (go_at_call 109; (with_reducible refine (HWa.out _).mono ?_); rintro y w1 ⟨rfl, hb1⟩; replace hbw := grow_trans hbw hb1; clear hb1; obtain ⟨l0, l1, l2, l3, l4, l5⟩ := row6A ((HX.out _ hbw).trans HML.out))
                    | (go_at_call 109; (with_reducible refine (HWb.out _).mono ?_); rintro y w1 ⟨rfl, hb1⟩; replace hbw := grow_trans hbw hb1; clear hb1; obtain ⟨l0, l1, l2, l3, l4, l5⟩ := row6A ((HX.out _ hbw).trans HML.out))
                    | (go_at_call 109; (with_reducible refine (HWn.out _).mono ?_); rintro y w1 ⟨rfl, hb1⟩; replace hbw := grow_trans hbw hb1; clear hb1; obtain ⟨l0, l1, l2, l3, l4, l5⟩ := row6A ((HX.out _ hbw).trans HML.out))
                    | (go_at_call 109; (with_reducible refine (HWs.out _).mono ?_); rintro y w1 ⟨rfl, hb1⟩; replace hbw := grow_trans hbw hb1; clear hb1; obtain ⟨l0, l1, l2, l3, l4, l5⟩ := row6A ((HX.out _ hbw).trans HML.out)))
                  go_ret
                  exact ⟨by rw [HEQ.out]; rfl, grow_trans HBL.out hbw⟩
            · skip
              cases hs
              · cases zs
                · skip
                  go_enter Tryz.func95, Tryz.ntmps95
                  go_upto_region 1 with fail
                  change Code.wp _ _ _ _ (w.alloc (.cells #[.string (mkB x.kind), .int .i64 x.d, .int .i64 x.a, .int .i64 x.b, .int .i64 x.num, .string (mkB x.name)] 71))
                  rw [HWL.out]
                  go_wp2_with (first
                    | (go_at_call 105; (with_reducible refine (HH.out _).mono ?_); rintro y w1 ⟨rfl, hb1⟩; replace hbw := grow_trans hbw hb1; clear hb1; obtain ⟨l0, l1, l2, l3, l4, l5⟩ := row6A ((HX.out _ hbw).trans HML.out))
                    | (go_at_call 109; (with_reducible refine (HWd.out _).mono ?_); rintro y w1 ⟨rfl, hb1⟩; replace hbw := grow_trans hbw hb1; clear hb1; obtain ⟨l0, l1, l2, l3, l4, l5⟩ := row6A ((HX.out _ hbw).trans HML.out))
                    | (go_at_call 109; (with_reducible refine (HWa.out _).mono ?_); rintro y w1 ⟨rfl, hb1⟩; replace hbw := grow_trans hbw hb1; clear hb1; obtain ⟨l0, l1, l2, l3, l4, l5⟩ := row6A ((HX.out _ hbw).trans HML.out))
                    | (go_at_call 109; (with_reducible refine (HWb.out _).mono ?_); rintro y w1 ⟨rfl, hb1⟩; replace hbw := grow_trans hbw hb1; clear hb1; obtain ⟨l0, l1, l2, l3, l4, l5⟩ := row6A ((HX.out _ hbw).trans HML.out))
                    | (go_at_call 109; (with_reducible refine (HWn.out _).mono ?_); rintro y w1 ⟨rfl, hb1⟩; replace hbw := grow_trans hbw hb1; clear hb1; obtain ⟨l0, l1, l2, l3, l4, l5⟩ := row6A ((HX.out _ hbw).trans HML.out))
                    | (go_at_call 109; (with_reducible refine (HWs.out _).mono ?_); rintro y w1 ⟨rfl, hb1⟩; replace hbw := grow_trans hbw hb1; clear hb1; obtain ⟨l0, l1, l2, l3, l4, l5⟩ := row6A ((HX.out _ hbw).trans HML.out)))
                  go_ret
                  exact ⟨by rw [HEQ.out]; rfl, grow_trans HBL.out hbw⟩
                · skip
                  go_enter Tryz.func95, Tryz.ntmps95
                  go_upto_region 1 with fail
                  change Code.wp _ _ _ _ (w.alloc (.cells #[.string (mkB x.kind), .int .i64 x.d, .int .i64 x.a, .int .i64 x.b, .int .i64 x.num, .string (mkB x.name)] 71))
                  rw [HWL.out]
                  go_wp2_with (first
                    | (go_at_call 105; (with_reducible refine (HH.out _).mono ?_); rintro y w1 ⟨rfl, hb1⟩; replace hbw := grow_trans hbw hb1; clear hb1; obtain ⟨l0, l1, l2, l3, l4, l5⟩ := row6A ((HX.out _ hbw).trans HML.out))
                    | (go_at_call 109; (with_reducible refine (HWd.out _).mono ?_); rintro y w1 ⟨rfl, hb1⟩; replace hbw := grow_trans hbw hb1; clear hb1; obtain ⟨l0, l1, l2, l3, l4, l5⟩ := row6A ((HX.out _ hbw).trans HML.out))
                    | (go_at_call 109; (with_reducible refine (HWa.out _).mono ?_); rintro y w1 ⟨rfl, hb1⟩; replace hbw := grow_trans hbw hb1; clear hb1; obtain ⟨l0, l1, l2, l3, l4, l5⟩ := row6A ((HX.out _ hbw).trans HML.out))
                    | (go_at_call 109; (with_reducible refine (HWb.out _).mono ?_); rintro y w1 ⟨rfl, hb1⟩; replace hbw := grow_trans hbw hb1; clear hb1; obtain ⟨l0, l1, l2, l3, l4, l5⟩ := row6A ((HX.out _ hbw).trans HML.out))
                    | (go_at_call 109; (with_reducible refine (HWn.out _).mono ?_); rintro y w1 ⟨rfl, hb1⟩; replace hbw := grow_trans hbw hb1; clear hb1; obtain ⟨l0, l1, l2, l3, l4, l5⟩ := row6A ((HX.out _ hbw).trans HML.out))
                    | (go_at_call 109; (with_reducible refine (HWs.out _).mono ?_); rintro y w1 ⟨rfl, hb1⟩; replace hbw := grow_trans hbw hb1; clear hb1; obtain ⟨l0, l1, l2, l3, l4, l5⟩ := row6A ((HX.out _ hbw).trans HML.out)))
                  go_ret
                  exact ⟨by rw [HEQ.out]; rfl, grow_trans HBL.out hbw⟩
              · skip
                go_enter Tryz.func95, Tryz.ntmps95
                go_upto_region 1 with fail
                change Code.wp _ _ _ _ (w.alloc (.cells #[.string (mkB x.kind), .int .i64 x.d, .int .i64 x.a, .int .i64 x.b, .int .i64 x.num, .string (mkB x.name)] 71))
                rw [HWL.out]
                go_wp2_with (first
                  | (go_at_call 105; (with_reducible refine (HH.out _).mono ?_); rintro y w1 ⟨rfl, hb1⟩; replace hbw := grow_trans hbw hb1; clear hb1; obtain ⟨l0, l1, l2, l3, l4, l5⟩ := row6A ((HX.out _ hbw).trans HML.out))
                  | (go_at_call 109; (with_reducible refine (HWd.out _).mono ?_); rintro y w1 ⟨rfl, hb1⟩; replace hbw := grow_trans hbw hb1; clear hb1; obtain ⟨l0, l1, l2, l3, l4, l5⟩ := row6A ((HX.out _ hbw).trans HML.out))
                  | (go_at_call 109; (with_reducible refine (HWa.out _).mono ?_); rintro y w1 ⟨rfl, hb1⟩; replace hbw := grow_trans hbw hb1; clear hb1; obtain ⟨l0, l1, l2, l3, l4, l5⟩ := row6A ((HX.out _ hbw).trans HML.out))
                  | (go_at_call 109; (with_reducible refine (HWb.out _).mono ?_); rintro y w1 ⟨rfl, hb1⟩; replace hbw := grow_trans hbw hb1; clear hb1; obtain ⟨l0, l1, l2, l3, l4, l5⟩ := row6A ((HX.out _ hbw).trans HML.out))
                  | (go_at_call 109; (with_reducible refine (HWn.out _).mono ?_); rintro y w1 ⟨rfl, hb1⟩; replace hbw := grow_trans hbw hb1; clear hb1; obtain ⟨l0, l1, l2, l3, l4, l5⟩ := row6A ((HX.out _ hbw).trans HML.out))
                  | (go_at_call 109; (with_reducible refine (HWs.out _).mono ?_); rintro y w1 ⟨rfl, hb1⟩; replace hbw := grow_trans hbw hb1; clear hb1; obtain ⟨l0, l1, l2, l3, l4, l5⟩ := row6A ((HX.out _ hbw).trans HML.out)))
                go_ret
                exact ⟨by rw [HEQ.out]; rfl, grow_trans HBL.out hbw⟩
      · skip
        cases hb
        · cases zb
          · skip
            go_enter Tryz.func95, Tryz.ntmps95
            go_upto_region 1 with fail
            change Code.wp _ _ _ _ (w.alloc (.cells #[.string (mkB x.kind), .int .i64 x.d, .int .i64 x.a, .int .i64 x.b, .int .i64 x.num, .string (mkB x.name)] 71))
            rw [HWL.out]
            go_wp2_with (first
              | (go_at_call 105; (with_reducible refine (HH.out _).mono ?_); rintro y w1 ⟨rfl, hb1⟩; replace hbw := grow_trans hbw hb1; clear hb1; obtain ⟨l0, l1, l2, l3, l4, l5⟩ := row6A ((HX.out _ hbw).trans HML.out))
              | (go_at_call 109; (with_reducible refine (HWd.out _).mono ?_); rintro y w1 ⟨rfl, hb1⟩; replace hbw := grow_trans hbw hb1; clear hb1; obtain ⟨l0, l1, l2, l3, l4, l5⟩ := row6A ((HX.out _ hbw).trans HML.out))
              | (go_at_call 109; (with_reducible refine (HWa.out _).mono ?_); rintro y w1 ⟨rfl, hb1⟩; replace hbw := grow_trans hbw hb1; clear hb1; obtain ⟨l0, l1, l2, l3, l4, l5⟩ := row6A ((HX.out _ hbw).trans HML.out))
              | (go_at_call 109; (with_reducible refine (HWb.out _).mono ?_); rintro y w1 ⟨rfl, hb1⟩; replace hbw := grow_trans hbw hb1; clear hb1; obtain ⟨l0, l1, l2, l3, l4, l5⟩ := row6A ((HX.out _ hbw).trans HML.out))
              | (go_at_call 109; (with_reducible refine (HWn.out _).mono ?_); rintro y w1 ⟨rfl, hb1⟩; replace hbw := grow_trans hbw hb1; clear hb1; obtain ⟨l0, l1, l2, l3, l4, l5⟩ := row6A ((HX.out _ hbw).trans HML.out))
              | (go_at_call 109; (with_reducible refine (HWs.out _).mono ?_); rintro y w1 ⟨rfl, hb1⟩; replace hbw := grow_trans hbw hb1; clear hb1; obtain ⟨l0, l1, l2, l3, l4, l5⟩ := row6A ((HX.out _ hbw).trans HML.out)))
            go_ret
            exact ⟨by rw [HEQ.out]; rfl, grow_trans HBL.out hbw⟩
          · skip
            cases hn
            · cases zn
              · skip
                go_enter Tryz.func95, Tryz.ntmps95
                go_upto_region 1 with fail
                change Code.wp _ _ _ _ (w.alloc (.cells #[.string (mkB x.kind), .int .i64 x.d, .int .i64 x.a, .int .i64 x.b, .int .i64 x.num, .string (mkB x.name)] 71))
                rw [HWL.out]
                go_wp2_with (first
                  | (go_at_call 105; (with_reducible refine (HH.out _).mono ?_); rintro y w1 ⟨rfl, hb1⟩; replace hbw := grow_trans hbw hb1; clear hb1; obtain ⟨l0, l1, l2, l3, l4, l5⟩ := row6A ((HX.out _ hbw).trans HML.out))
                  | (go_at_call 109; (with_reducible refine (HWd.out _).mono ?_); rintro y w1 ⟨rfl, hb1⟩; replace hbw := grow_trans hbw hb1; clear hb1; obtain ⟨l0, l1, l2, l3, l4, l5⟩ := row6A ((HX.out _ hbw).trans HML.out))
                  | (go_at_call 109; (with_reducible refine (HWa.out _).mono ?_); rintro y w1 ⟨rfl, hb1⟩; replace hbw := grow_trans hbw hb1; clear hb1; obtain ⟨l0, l1, l2, l3, l4, l5⟩ := row6A ((HX.out _ hbw).trans HML.out))
                  | (go_at_call 109; (with_reducible refine (HWb.out _).mono ?_); rintro y w1 ⟨rfl, hb1⟩; replace hbw := grow_trans hbw hb1; clear hb1; obtain ⟨l0, l1, l2, l3, l4, l5⟩ := row6A ((HX.out _ hbw).trans HML.out))
                  | (go_at_call 109; (with_reducible refine (HWn.out _).mono ?_); rintro y w1 ⟨rfl, hb1⟩; replace hbw := grow_trans hbw hb1; clear hb1; obtain ⟨l0, l1, l2, l3, l4, l5⟩ := row6A ((HX.out _ hbw).trans HML.out))
                  | (go_at_call 109; (with_reducible refine (HWs.out _).mono ?_); rintro y w1 ⟨rfl, hb1⟩; replace hbw := grow_trans hbw hb1; clear hb1; obtain ⟨l0, l1, l2, l3, l4, l5⟩ := row6A ((HX.out _ hbw).trans HML.out)))
                go_ret
                exact ⟨by rw [HEQ.out]; rfl, grow_trans HBL.out hbw⟩
              · skip
                cases hs
                · cases zs
                  · skip
                    go_enter Tryz.func95, Tryz.ntmps95
                    go_upto_region 1 with fail
                    change Code.wp _ _ _ _ (w.alloc (.cells #[.string (mkB x.kind), .int .i64 x.d, .int .i64 x.a, .int .i64 x.b, .int .i64 x.num, .string (mkB x.name)] 71))
                    rw [HWL.out]
                    go_wp2_with (first
                      | (go_at_call 105; (with_reducible refine (HH.out _).mono ?_); rintro y w1 ⟨rfl, hb1⟩; replace hbw := grow_trans hbw hb1; clear hb1; obtain ⟨l0, l1, l2, l3, l4, l5⟩ := row6A ((HX.out _ hbw).trans HML.out))
                      | (go_at_call 109; (with_reducible refine (HWd.out _).mono ?_); rintro y w1 ⟨rfl, hb1⟩; replace hbw := grow_trans hbw hb1; clear hb1; obtain ⟨l0, l1, l2, l3, l4, l5⟩ := row6A ((HX.out _ hbw).trans HML.out))
                      | (go_at_call 109; (with_reducible refine (HWa.out _).mono ?_); rintro y w1 ⟨rfl, hb1⟩; replace hbw := grow_trans hbw hb1; clear hb1; obtain ⟨l0, l1, l2, l3, l4, l5⟩ := row6A ((HX.out _ hbw).trans HML.out))
                      | (go_at_call 109; (with_reducible refine (HWb.out _).mono ?_); rintro y w1 ⟨rfl, hb1⟩; replace hbw := grow_trans hbw hb1; clear hb1; obtain ⟨l0, l1, l2, l3, l4, l5⟩ := row6A ((HX.out _ hbw).trans HML.out))
                      | (go_at_call 109; (with_reducible refine (HWn.out _).mono ?_); rintro y w1 ⟨rfl, hb1⟩; replace hbw := grow_trans hbw hb1; clear hb1; obtain ⟨l0, l1, l2, l3, l4, l5⟩ := row6A ((HX.out _ hbw).trans HML.out))
                      | (go_at_call 109; (with_reducible refine (HWs.out _).mono ?_); rintro y w1 ⟨rfl, hb1⟩; replace hbw := grow_trans hbw hb1; clear hb1; obtain ⟨l0, l1, l2, l3, l4, l5⟩ := row6A ((HX.out _ hbw).trans HML.out)))
                    go_ret
                    exact ⟨by rw [HEQ.out]; rfl, grow_trans HBL.out hbw⟩
                  · skip
                    go_enter Tryz.func95, Tryz.ntmps95
                    go_upto_region 1 with fail
                    change Code.wp _ _ _ _ (w.alloc (.cells #[.string (mkB x.kind), .int .i64 x.d, .int .i64 x.a, .int .i64 x.b, .int .i64 x.num, .string (mkB x.name)] 71))
                    rw [HWL.out]
                    go_wp2_with (first
                      | (go_at_call 105; (with_reducible refine (HH.out _).mono ?_); rintro y w1 ⟨rfl, hb1⟩; replace hbw := grow_trans hbw hb1; clear hb1; obtain ⟨l0, l1, l2, l3, l4, l5⟩ := row6A ((HX.out _ hbw).trans HML.out))
                      | (go_at_call 109; (with_reducible refine (HWd.out _).mono ?_); rintro y w1 ⟨rfl, hb1⟩; replace hbw := grow_trans hbw hb1; clear hb1; obtain ⟨l0, l1, l2, l3, l4, l5⟩ := row6A ((HX.out _ hbw).trans HML.out))
                      | (go_at_call 109; (with_reducible refine (HWa.out _).mono ?_); rintro y w1 ⟨rfl, hb1⟩; replace hbw := grow_trans hbw hb1; clear hb1; obtain ⟨l0, l1, l2, l3, l4, l5⟩ := row6A ((HX.out _ hbw).trans HML.out))
                      | (go_at_call 109; (with_reducible refine (HWb.out _).mono ?_); rintro y w1 ⟨rfl, hb1⟩; replace hbw := grow_trans hbw hb1; clear hb1; obtain ⟨l0, l1, l2, l3, l4, l5⟩ := row6A ((HX.out _ hbw).trans HML.out))
                      | (go_at_call 109; (with_reducible refine (HWn.out _).mono ?_); rintro y w1 ⟨rfl, hb1⟩; replace hbw := grow_trans hbw hb1; clear hb1; obtain ⟨l0, l1, l2, l3, l4, l5⟩ := row6A ((HX.out _ hbw).trans HML.out))
                      | (go_at_call 109; (with_reducible refine (HWs.out _).mono ?_); rintro y w1 ⟨rfl, hb1⟩; replace hbw := grow_trans hbw hb1; clear hb1; obtain ⟨l0, l1, l2, l3, l4, l5⟩ := row6A ((HX.out _ hbw).trans HML.out)))
                    go_ret
                    exact ⟨by rw [HEQ.out]; rfl, grow_trans HBL.out hbw⟩
                · skip
                  go_enter Tryz.func95, Tryz.ntmps95
                  go_upto_region 1 with fail
                  change Code.wp _ _ _ _ (w.alloc (.cells #[.string (mkB x.kind), .int .i64 x.d, .int .i64 x.a, .int .i64 x.b, .int .i64 x.num, .string (mkB x.name)] 71))
                  rw [HWL.out]
                  go_wp2_with (first
                    | (go_at_call 105; (with_reducible refine (HH.out _).mono ?_); rintro y w1 ⟨rfl, hb1⟩; replace hbw := grow_trans hbw hb1; clear hb1; obtain ⟨l0, l1, l2, l3, l4, l5⟩ := row6A ((HX.out _ hbw).trans HML.out))
                    | (go_at_call 109; (with_reducible refine (HWd.out _).mono ?_); rintro y w1 ⟨rfl, hb1⟩; replace hbw := grow_trans hbw hb1; clear hb1; obtain ⟨l0, l1, l2, l3, l4, l5⟩ := row6A ((HX.out _ hbw).trans HML.out))
                    | (go_at_call 109; (with_reducible refine (HWa.out _).mono ?_); rintro y w1 ⟨rfl, hb1⟩; replace hbw := grow_trans hbw hb1; clear hb1; obtain ⟨l0, l1, l2, l3, l4, l5⟩ := row6A ((HX.out _ hbw).trans HML.out))
                    | (go_at_call 109; (with_reducible refine (HWb.out _).mono ?_); rintro y w1 ⟨rfl, hb1⟩; replace hbw := grow_trans hbw hb1; clear hb1; obtain ⟨l0, l1, l2, l3, l4, l5⟩ := row6A ((HX.out _ hbw).trans HML.out))
                    | (go_at_call 109; (with_reducible refine (HWn.out _).mono ?_); rintro y w1 ⟨rfl, hb1⟩; replace hbw := grow_trans hbw hb1; clear hb1; obtain ⟨l0, l1, l2, l3, l4, l5⟩ := row6A ((HX.out _ hbw).trans HML.out))
                    | (go_at_call 109; (with_reducible refine (HWs.out _).mono ?_); rintro y w1 ⟨rfl, hb1⟩; replace hbw := grow_trans hbw hb1; clear hb1; obtain ⟨l0, l1, l2, l3, l4, l5⟩ := row6A ((HX.out _ hbw).trans HML.out)))
                  go_ret
                  exact ⟨by rw [HEQ.out]; rfl, grow_trans HBL.out hbw⟩
            · skip
              cases hs
              · cases zs
                · skip
                  go_enter Tryz.func95, Tryz.ntmps95
                  go_upto_region 1 with fail
                  change Code.wp _ _ _ _ (w.alloc (.cells #[.string (mkB x.kind), .int .i64 x.d, .int .i64 x.a, .int .i64 x.b, .int .i64 x.num, .string (mkB x.name)] 71))
                  rw [HWL.out]
                  go_wp2_with (first
                    | (go_at_call 105; (with_reducible refine (HH.out _).mono ?_); rintro y w1 ⟨rfl, hb1⟩; replace hbw := grow_trans hbw hb1; clear hb1; obtain ⟨l0, l1, l2, l3, l4, l5⟩ := row6A ((HX.out _ hbw).trans HML.out))
                    | (go_at_call 109; (with_reducible refine (HWd.out _).mono ?_); rintro y w1 ⟨rfl, hb1⟩; replace hbw := grow_trans hbw hb1; clear hb1; obtain ⟨l0, l1, l2, l3, l4, l5⟩ := row6A ((HX.out _ hbw).trans HML.out))
                    | (go_at_call 109; (with_reducible refine (HWa.out _).mono ?_); rintro y w1 ⟨rfl, hb1⟩; replace hbw := grow_trans hbw hb1; clear hb1; obtain ⟨l0, l1, l2, l3, l4, l5⟩ := row6A ((HX.out _ hbw).trans HML.out))
                    | (go_at_call 109; (with_reducible refine (HWb.out _).mono ?_); rintro y w1 ⟨rfl, hb1⟩; replace hbw := grow_trans hbw hb1; clear hb1; obtain ⟨l0, l1, l2, l3, l4, l5⟩ := row6A ((HX.out _ hbw).trans HML.out))
                    | (go_at_call 109; (with_reducible refine (HWn.out _).mono ?_); rintro y w1 ⟨rfl, hb1⟩; replace hbw := grow_trans hbw hb1; clear hb1; obtain ⟨l0, l1, l2, l3, l4, l5⟩ := row6A ((HX.out _ hbw).trans HML.out))
                    | (go_at_call 109; (with_reducible refine (HWs.out _).mono ?_); rintro y w1 ⟨rfl, hb1⟩; replace hbw := grow_trans hbw hb1; clear hb1; obtain ⟨l0, l1, l2, l3, l4, l5⟩ := row6A ((HX.out _ hbw).trans HML.out)))
                  go_ret
                  exact ⟨by rw [HEQ.out]; rfl, grow_trans HBL.out hbw⟩
                · skip
                  go_enter Tryz.func95, Tryz.ntmps95
                  go_upto_region 1 with fail
                  change Code.wp _ _ _ _ (w.alloc (.cells #[.string (mkB x.kind), .int .i64 x.d, .int .i64 x.a, .int .i64 x.b, .int .i64 x.num, .string (mkB x.name)] 71))
                  rw [HWL.out]
                  go_wp2_with (first
                    | (go_at_call 105; (with_reducible refine (HH.out _).mono ?_); rintro y w1 ⟨rfl, hb1⟩; replace hbw := grow_trans hbw hb1; clear hb1; obtain ⟨l0, l1, l2, l3, l4, l5⟩ := row6A ((HX.out _ hbw).trans HML.out))
                    | (go_at_call 109; (with_reducible refine (HWd.out _).mono ?_); rintro y w1 ⟨rfl, hb1⟩; replace hbw := grow_trans hbw hb1; clear hb1; obtain ⟨l0, l1, l2, l3, l4, l5⟩ := row6A ((HX.out _ hbw).trans HML.out))
                    | (go_at_call 109; (with_reducible refine (HWa.out _).mono ?_); rintro y w1 ⟨rfl, hb1⟩; replace hbw := grow_trans hbw hb1; clear hb1; obtain ⟨l0, l1, l2, l3, l4, l5⟩ := row6A ((HX.out _ hbw).trans HML.out))
                    | (go_at_call 109; (with_reducible refine (HWb.out _).mono ?_); rintro y w1 ⟨rfl, hb1⟩; replace hbw := grow_trans hbw hb1; clear hb1; obtain ⟨l0, l1, l2, l3, l4, l5⟩ := row6A ((HX.out _ hbw).trans HML.out))
                    | (go_at_call 109; (with_reducible refine (HWn.out _).mono ?_); rintro y w1 ⟨rfl, hb1⟩; replace hbw := grow_trans hbw hb1; clear hb1; obtain ⟨l0, l1, l2, l3, l4, l5⟩ := row6A ((HX.out _ hbw).trans HML.out))
                    | (go_at_call 109; (with_reducible refine (HWs.out _).mono ?_); rintro y w1 ⟨rfl, hb1⟩; replace hbw := grow_trans hbw hb1; clear hb1; obtain ⟨l0, l1, l2, l3, l4, l5⟩ := row6A ((HX.out _ hbw).trans HML.out)))
                  go_ret
                  exact ⟨by rw [HEQ.out]; rfl, grow_trans HBL.out hbw⟩
              · skip
                go_enter Tryz.func95, Tryz.ntmps95
                go_upto_region 1 with fail
                change Code.wp _ _ _ _ (w.alloc (.cells #[.string (mkB x.kind), .int .i64 x.d, .int .i64 x.a, .int .i64 x.b, .int .i64 x.num, .string (mkB x.name)] 71))
                rw [HWL.out]
                go_wp2_with (first
                  | (go_at_call 105; (with_reducible refine (HH.out _).mono ?_); rintro y w1 ⟨rfl, hb1⟩; replace hbw := grow_trans hbw hb1; clear hb1; obtain ⟨l0, l1, l2, l3, l4, l5⟩ := row6A ((HX.out _ hbw).trans HML.out))
                  | (go_at_call 109; (with_reducible refine (HWd.out _).mono ?_); rintro y w1 ⟨rfl, hb1⟩; replace hbw := grow_trans hbw hb1; clear hb1; obtain ⟨l0, l1, l2, l3, l4, l5⟩ := row6A ((HX.out _ hbw).trans HML.out))
                  | (go_at_call 109; (with_reducible refine (HWa.out _).mono ?_); rintro y w1 ⟨rfl, hb1⟩; replace hbw := grow_trans hbw hb1; clear hb1; obtain ⟨l0, l1, l2, l3, l4, l5⟩ := row6A ((HX.out _ hbw).trans HML.out))
                  | (go_at_call 109; (with_reducible refine (HWb.out _).mono ?_); rintro y w1 ⟨rfl, hb1⟩; replace hbw := grow_trans hbw hb1; clear hb1; obtain ⟨l0, l1, l2, l3, l4, l5⟩ := row6A ((HX.out _ hbw).trans HML.out))
                  | (go_at_call 109; (with_reducible refine (HWn.out _).mono ?_); rintro y w1 ⟨rfl, hb1⟩; replace hbw := grow_trans hbw hb1; clear hb1; obtain ⟨l0, l1, l2, l3, l4, l5⟩ := row6A ((HX.out _ hbw).trans HML.out))
                  | (go_at_call 109; (with_reducible refine (HWs.out _).mono ?_); rintro y w1 ⟨rfl, hb1⟩; replace hbw := grow_trans hbw hb1; clear hb1; obtain ⟨l0, l1, l2, l3, l4, l5⟩ := row6A ((HX.out _ hbw).trans HML.out)))
                go_ret
                exact ⟨by rw [HEQ.out]; rfl, grow_trans HBL.out hbw⟩
        · skip
          cases hn
          · cases zn
            · skip
              go_enter Tryz.func95, Tryz.ntmps95
              go_upto_region 1 with fail
              change Code.wp _ _ _ _ (w.alloc (.cells #[.string (mkB x.kind), .int .i64 x.d, .int .i64 x.a, .int .i64 x.b, .int .i64 x.num, .string (mkB x.name)] 71))
              rw [HWL.out]
              go_wp2_with (first
                | (go_at_call 105; (with_reducible refine (HH.out _).mono ?_); rintro y w1 ⟨rfl, hb1⟩; replace hbw := grow_trans hbw hb1; clear hb1; obtain ⟨l0, l1, l2, l3, l4, l5⟩ := row6A ((HX.out _ hbw).trans HML.out))
                | (go_at_call 109; (with_reducible refine (HWd.out _).mono ?_); rintro y w1 ⟨rfl, hb1⟩; replace hbw := grow_trans hbw hb1; clear hb1; obtain ⟨l0, l1, l2, l3, l4, l5⟩ := row6A ((HX.out _ hbw).trans HML.out))
                | (go_at_call 109; (with_reducible refine (HWa.out _).mono ?_); rintro y w1 ⟨rfl, hb1⟩; replace hbw := grow_trans hbw hb1; clear hb1; obtain ⟨l0, l1, l2, l3, l4, l5⟩ := row6A ((HX.out _ hbw).trans HML.out))
                | (go_at_call 109; (with_reducible refine (HWb.out _).mono ?_); rintro y w1 ⟨rfl, hb1⟩; replace hbw := grow_trans hbw hb1; clear hb1; obtain ⟨l0, l1, l2, l3, l4, l5⟩ := row6A ((HX.out _ hbw).trans HML.out))
                | (go_at_call 109; (with_reducible refine (HWn.out _).mono ?_); rintro y w1 ⟨rfl, hb1⟩; replace hbw := grow_trans hbw hb1; clear hb1; obtain ⟨l0, l1, l2, l3, l4, l5⟩ := row6A ((HX.out _ hbw).trans HML.out))
                | (go_at_call 109; (with_reducible refine (HWs.out _).mono ?_); rintro y w1 ⟨rfl, hb1⟩; replace hbw := grow_trans hbw hb1; clear hb1; obtain ⟨l0, l1, l2, l3, l4, l5⟩ := row6A ((HX.out _ hbw).trans HML.out)))
              go_ret
              exact ⟨by rw [HEQ.out]; rfl, grow_trans HBL.out hbw⟩
            · skip
              cases hs
              · cases zs
                · skip
                  go_enter Tryz.func95, Tryz.ntmps95
                  go_upto_region 1 with fail
                  change Code.wp _ _ _ _ (w.alloc (.cells #[.string (mkB x.kind), .int .i64 x.d, .int .i64 x.a, .int .i64 x.b, .int .i64 x.num, .string (mkB x.name)] 71))
                  rw [HWL.out]
                  go_wp2_with (first
                    | (go_at_call 105; (with_reducible refine (HH.out _).mono ?_); rintro y w1 ⟨rfl, hb1⟩; replace hbw := grow_trans hbw hb1; clear hb1; obtain ⟨l0, l1, l2, l3, l4, l5⟩ := row6A ((HX.out _ hbw).trans HML.out))
                    | (go_at_call 109; (with_reducible refine (HWd.out _).mono ?_); rintro y w1 ⟨rfl, hb1⟩; replace hbw := grow_trans hbw hb1; clear hb1; obtain ⟨l0, l1, l2, l3, l4, l5⟩ := row6A ((HX.out _ hbw).trans HML.out))
                    | (go_at_call 109; (with_reducible refine (HWa.out _).mono ?_); rintro y w1 ⟨rfl, hb1⟩; replace hbw := grow_trans hbw hb1; clear hb1; obtain ⟨l0, l1, l2, l3, l4, l5⟩ := row6A ((HX.out _ hbw).trans HML.out))
                    | (go_at_call 109; (with_reducible refine (HWb.out _).mono ?_); rintro y w1 ⟨rfl, hb1⟩; replace hbw := grow_trans hbw hb1; clear hb1; obtain ⟨l0, l1, l2, l3, l4, l5⟩ := row6A ((HX.out _ hbw).trans HML.out))
                    | (go_at_call 109; (with_reducible refine (HWn.out _).mono ?_); rintro y w1 ⟨rfl, hb1⟩; replace hbw := grow_trans hbw hb1; clear hb1; obtain ⟨l0, l1, l2, l3, l4, l5⟩ := row6A ((HX.out _ hbw).trans HML.out))
                    | (go_at_call 109; (with_reducible refine (HWs.out _).mono ?_); rintro y w1 ⟨rfl, hb1⟩; replace hbw := grow_trans hbw hb1; clear hb1; obtain ⟨l0, l1, l2, l3, l4, l5⟩ := row6A ((HX.out _ hbw).trans HML.out)))
                  go_ret
                  exact ⟨by rw [HEQ.out]; rfl, grow_trans HBL.out hbw⟩
                · skip
                  go_enter Tryz.func95, Tryz.ntmps95
                  go_upto_region 1 with fail
                  change Code.wp _ _ _ _ (w.alloc (.cells #[.string (mkB x.kind), .int .i64 x.d, .int .i64 x.a, .int .i64 x.b, .int .i64 x.num, .string (mkB x.name)] 71))
                  rw [HWL.out]
                  go_wp2_with (first
                    | (go_at_call 105; (with_reducible refine (HH.out _).mono ?_); rintro y w1 ⟨rfl, hb1⟩; replace hbw := grow_trans hbw hb1; clear hb1; obtain ⟨l0, l1, l2, l3, l4, l5⟩ := row6A ((HX.out _ hbw).trans HML.out))
                    | (go_at_call 109; (with_reducible refine (HWd.out _).mono ?_); rintro y w1 ⟨rfl, hb1⟩; replace hbw := grow_trans hbw hb1; clear hb1; obtain ⟨l0, l1, l2, l3, l4, l5⟩ := row6A ((HX.out _ hbw).trans HML.out))
                    | (go_at_call 109; (with_reducible refine (HWa.out _).mono ?_); rintro y w1 ⟨rfl, hb1⟩; replace hbw := grow_trans hbw hb1; clear hb1; obtain ⟨l0, l1, l2, l3, l4, l5⟩ := row6A ((HX.out _ hbw).trans HML.out))
                    | (go_at_call 109; (with_reducible refine (HWb.out _).mono ?_); rintro y w1 ⟨rfl, hb1⟩; replace hbw := grow_trans hbw hb1; clear hb1; obtain ⟨l0, l1, l2, l3, l4, l5⟩ := row6A ((HX.out _ hbw).trans HML.out))
                    | (go_at_call 109; (with_reducible refine (HWn.out _).mono ?_); rintro y w1 ⟨rfl, hb1⟩; replace hbw := grow_trans hbw hb1; clear hb1; obtain ⟨l0, l1, l2, l3, l4, l5⟩ := row6A ((HX.out _ hbw).trans HML.out))
                    | (go_at_call 109; (with_reducible refine (HWs.out _).mono ?_); rintro y w1 ⟨rfl, hb1⟩; replace hbw := grow_trans hbw hb1; clear hb1; obtain ⟨l0, l1, l2, l3, l4, l5⟩ := row6A ((HX.out _ hbw).trans HML.out)))
                  go_ret
                  exact ⟨by rw [HEQ.out]; rfl, grow_trans HBL.out hbw⟩
              · skip
                go_enter Tryz.func95, Tryz.ntmps95
                go_upto_region 1 with fail
                change Code.wp _ _ _ _ (w.alloc (.cells #[.string (mkB x.kind), .int .i64 x.d, .int .i64 x.a, .int .i64 x.b, .int .i64 x.num, .string (mkB x.name)] 71))
                rw [HWL.out]
                go_wp2_with (first
                  | (go_at_call 105; (with_reducible refine (HH.out _).mono ?_); rintro y w1 ⟨rfl, hb1⟩; replace hbw := grow_trans hbw hb1; clear hb1; obtain ⟨l0, l1, l2, l3, l4, l5⟩ := row6A ((HX.out _ hbw).trans HML.out))
                  | (go_at_call 109; (with_reducible refine (HWd.out _).mono ?_); rintro y w1 ⟨rfl, hb1⟩; replace hbw := grow_trans hbw hb1; clear hb1; obtain ⟨l0, l1, l2, l3, l4, l5⟩ := row6A ((HX.out _ hbw).trans HML.out))
                  | (go_at_call 109; (with_reducible refine (HWa.out _).mono ?_); rintro y w1 ⟨rfl, hb1⟩; replace hbw := grow_trans hbw hb1; clear hb1; obtain ⟨l0, l1, l2, l3, l4, l5⟩ := row6A ((HX.out _ hbw).trans HML.out))
                  | (go_at_call 109; (with_reducible refine (HWb.out _).mono ?_); rintro y w1 ⟨rfl, hb1⟩; replace hbw := grow_trans hbw hb1; clear hb1; obtain ⟨l0, l1, l2, l3, l4, l5⟩ := row6A ((HX.out _ hbw).trans HML.out))
                  | (go_at_call 109; (with_reducible refine (HWn.out _).mono ?_); rintro y w1 ⟨rfl, hb1⟩; replace hbw := grow_trans hbw hb1; clear hb1; obtain ⟨l0, l1, l2, l3, l4, l5⟩ := row6A ((HX.out _ hbw).trans HML.out))
                  | (go_at_call 109; (with_reducible refine (HWs.out _).mono ?_); rintro y w1 ⟨rfl, hb1⟩; replace hbw := grow_trans hbw hb1; clear hb1; obtain ⟨l0, l1, l2, l3, l4, l5⟩ := row6A ((HX.out _ hbw).trans HML.out)))
                go_ret
                exact ⟨by rw [HEQ.out]; rfl, grow_trans HBL.out hbw⟩
          · skip
            cases hs
            · cases zs
              · skip
                go_enter Tryz.func95, Tryz.ntmps95
                go_upto_region 1 with fail
                change Code.wp _ _ _ _ (w.alloc (.cells #[.string (mkB x.kind), .int .i64 x.d, .int .i64 x.a, .int .i64 x.b, .int .i64 x.num, .string (mkB x.name)] 71))
                rw [HWL.out]
                go_wp2_with (first
                  | (go_at_call 105; (with_reducible refine (HH.out _).mono ?_); rintro y w1 ⟨rfl, hb1⟩; replace hbw := grow_trans hbw hb1; clear hb1; obtain ⟨l0, l1, l2, l3, l4, l5⟩ := row6A ((HX.out _ hbw).trans HML.out))
                  | (go_at_call 109; (with_reducible refine (HWd.out _).mono ?_); rintro y w1 ⟨rfl, hb1⟩; replace hbw := grow_trans hbw hb1; clear hb1; obtain ⟨l0, l1, l2, l3, l4, l5⟩ := row6A ((HX.out _ hbw).trans HML.out))
                  | (go_at_call 109; (with_reducible refine (HWa.out _).mono ?_); rintro y w1 ⟨rfl, hb1⟩; replace hbw := grow_trans hbw hb1; clear hb1; obtain ⟨l0, l1, l2, l3, l4, l5⟩ := row6A ((HX.out _ hbw).trans HML.out))
                  | (go_at_call 109; (with_reducible refine (HWb.out _).mono ?_); rintro y w1 ⟨rfl, hb1⟩; replace hbw := grow_trans hbw hb1; clear hb1; obtain ⟨l0, l1, l2, l3, l4, l5⟩ := row6A ((HX.out _ hbw).trans HML.out))
                  | (go_at_call 109; (with_reducible refine (HWn.out _).mono ?_); rintro y w1 ⟨rfl, hb1⟩; replace hbw := grow_trans hbw hb1; clear hb1; obtain ⟨l0, l1, l2, l3, l4, l5⟩ := row6A ((HX.out _ hbw).trans HML.out))
                  | (go_at_call 109; (with_reducible refine (HWs.out _).mono ?_); rintro y w1 ⟨rfl, hb1⟩; replace hbw := grow_trans hbw hb1; clear hb1; obtain ⟨l0, l1, l2, l3, l4, l5⟩ := row6A ((HX.out _ hbw).trans HML.out)))
                go_ret
                exact ⟨by rw [HEQ.out]; rfl, grow_trans HBL.out hbw⟩
              · skip
                go_enter Tryz.func95, Tryz.ntmps95
                go_upto_region 1 with fail
                change Code.wp _ _ _ _ (w.alloc (.cells #[.string (mkB x.kind), .int .i64 x.d, .int .i64 x.a, .int .i64 x.b, .int .i64 x.num, .string (mkB x.name)] 71))
                rw [HWL.out]
                go_wp2_with (first
                  | (go_at_call 105; (with_reducible refine (HH.out _).mono ?_); rintro y w1 ⟨rfl, hb1⟩; replace hbw := grow_trans hbw hb1; clear hb1; obtain ⟨l0, l1, l2, l3, l4, l5⟩ := row6A ((HX.out _ hbw).trans HML.out))
                  | (go_at_call 109; (with_reducible refine (HWd.out _).mono ?_); rintro y w1 ⟨rfl, hb1⟩; replace hbw := grow_trans hbw hb1; clear hb1; obtain ⟨l0, l1, l2, l3, l4, l5⟩ := row6A ((HX.out _ hbw).trans HML.out))
                  | (go_at_call 109; (with_reducible refine (HWa.out _).mono ?_); rintro y w1 ⟨rfl, hb1⟩; replace hbw := grow_trans hbw hb1; clear hb1; obtain ⟨l0, l1, l2, l3, l4, l5⟩ := row6A ((HX.out _ hbw).trans HML.out))
                  | (go_at_call 109; (with_reducible refine (HWb.out _).mono ?_); rintro y w1 ⟨rfl, hb1⟩; replace hbw := grow_trans hbw hb1; clear hb1; obtain ⟨l0, l1, l2, l3, l4, l5⟩ := row6A ((HX.out _ hbw).trans HML.out))
                  | (go_at_call 109; (with_reducible refine (HWn.out _).mono ?_); rintro y w1 ⟨rfl, hb1⟩; replace hbw := grow_trans hbw hb1; clear hb1; obtain ⟨l0, l1, l2, l3, l4, l5⟩ := row6A ((HX.out _ hbw).trans HML.out))
                  | (go_at_call 109; (with_reducible refine (HWs.out _).mono ?_); rintro y w1 ⟨rfl, hb1⟩; replace hbw := grow_trans hbw hb1; clear hb1; obtain ⟨l0, l1, l2, l3, l4, l5⟩ := row6A ((HX.out _ hbw).trans HML.out)))
                go_ret
                exact ⟨by rw [HEQ.out]; rfl, grow_trans HBL.out hbw⟩
            · skip
              go_enter Tryz.func95, Tryz.ntmps95
              go_upto_region 1 with fail
              change Code.wp _ _ _ _ (w.alloc (.cells #[.string (mkB x.kind), .int .i64 x.d, .int .i64 x.a, .int .i64 x.b, .int .i64 x.num, .string (mkB x.name)] 71))
              rw [HWL.out]
              go_wp2_with (first
                | (go_at_call 105; (with_reducible refine (HH.out _).mono ?_); rintro y w1 ⟨rfl, hb1⟩; replace hbw := grow_trans hbw hb1; clear hb1; obtain ⟨l0, l1, l2, l3, l4, l5⟩ := row6A ((HX.out _ hbw).trans HML.out))
                | (go_at_call 109; (with_reducible refine (HWd.out _).mono ?_); rintro y w1 ⟨rfl, hb1⟩; replace hbw := grow_trans hbw hb1; clear hb1; obtain ⟨l0, l1, l2, l3, l4, l5⟩ := row6A ((HX.out _ hbw).trans HML.out))
                | (go_at_call 109; (with_reducible refine (HWa.out _).mono ?_); rintro y w1 ⟨rfl, hb1⟩; replace hbw := grow_trans hbw hb1; clear hb1; obtain ⟨l0, l1, l2, l3, l4, l5⟩ := row6A ((HX.out _ hbw).trans HML.out))
                | (go_at_call 109; (with_reducible refine (HWb.out _).mono ?_); rintro y w1 ⟨rfl, hb1⟩; replace hbw := grow_trans hbw hb1; clear hb1; obtain ⟨l0, l1, l2, l3, l4, l5⟩ := row6A ((HX.out _ hbw).trans HML.out))
                | (go_at_call 109; (with_reducible refine (HWn.out _).mono ?_); rintro y w1 ⟨rfl, hb1⟩; replace hbw := grow_trans hbw hb1; clear hb1; obtain ⟨l0, l1, l2, l3, l4, l5⟩ := row6A ((HX.out _ hbw).trans HML.out))
                | (go_at_call 109; (with_reducible refine (HWs.out _).mono ?_); rintro y w1 ⟨rfl, hb1⟩; replace hbw := grow_trans hbw hb1; clear hb1; obtain ⟨l0, l1, l2, l3, l4, l5⟩ := row6A ((HX.out _ hbw).trans HML.out)))
              go_ret
              exact ⟨by rw [HEQ.out]; rfl, grow_trans HBL.out hbw⟩
  · skip
    cases ha
    · cases za
      · skip
        go_enter Tryz.func95, Tryz.ntmps95
        go_upto_region 1 with fail
        change Code.wp _ _ _ _ (w.alloc (.cells #[.string (mkB x.kind), .int .i64 x.d, .int .i64 x.a, .int .i64 x.b, .int .i64 x.num, .string (mkB x.name)] 71))
        rw [HWL.out]
        go_wp2_with (first
          | (go_at_call 105; (with_reducible refine (HH.out _).mono ?_); rintro y w1 ⟨rfl, hb1⟩; replace hbw := grow_trans hbw hb1; clear hb1; obtain ⟨l0, l1, l2, l3, l4, l5⟩ := row6A ((HX.out _ hbw).trans HML.out))
          | (go_at_call 109; (with_reducible refine (HWd.out _).mono ?_); rintro y w1 ⟨rfl, hb1⟩; replace hbw := grow_trans hbw hb1; clear hb1; obtain ⟨l0, l1, l2, l3, l4, l5⟩ := row6A ((HX.out _ hbw).trans HML.out))
          | (go_at_call 109; (with_reducible refine (HWa.out _).mono ?_); rintro y w1 ⟨rfl, hb1⟩; replace hbw := grow_trans hbw hb1; clear hb1; obtain ⟨l0, l1, l2, l3, l4, l5⟩ := row6A ((HX.out _ hbw).trans HML.out))
          | (go_at_call 109; (with_reducible refine (HWb.out _).mono ?_); rintro y w1 ⟨rfl, hb1⟩; replace hbw := grow_trans hbw hb1; clear hb1; obtain ⟨l0, l1, l2, l3, l4, l5⟩ := row6A ((HX.out _ hbw).trans HML.out))
          | (go_at_call 109; (with_reducible refine (HWn.out _).mono ?_); rintro y w1 ⟨rfl, hb1⟩; replace hbw := grow_trans hbw hb1; clear hb1; obtain ⟨l0, l1, l2, l3, l4, l5⟩ := row6A ((HX.out _ hbw).trans HML.out))
          | (go_at_call 109; (with_reducible refine (HWs.out _).mono ?_); rintro y w1 ⟨rfl, hb1⟩; replace hbw := grow_trans hbw hb1; clear hb1; obtain ⟨l0, l1, l2, l3, l4, l5⟩ := row6A ((HX.out _ hbw).trans HML.out)))
        go_ret
        exact ⟨by rw [HEQ.out]; rfl, grow_trans HBL.out hbw⟩
      · skip
        cases hb
        · cases zb
          · skip
            go_enter Tryz.func95, Tryz.ntmps95
            go_upto_region 1 with fail
            change Code.wp _ _ _ _ (w.alloc (.cells #[.string (mkB x.kind), .int .i64 x.d, .int .i64 x.a, .int .i64 x.b, .int .i64 x.num, .string (mkB x.name)] 71))
            rw [HWL.out]
            go_wp2_with (first
              | (go_at_call 105; (with_reducible refine (HH.out _).mono ?_); rintro y w1 ⟨rfl, hb1⟩; replace hbw := grow_trans hbw hb1; clear hb1; obtain ⟨l0, l1, l2, l3, l4, l5⟩ := row6A ((HX.out _ hbw).trans HML.out))
              | (go_at_call 109; (with_reducible refine (HWd.out _).mono ?_); rintro y w1 ⟨rfl, hb1⟩; replace hbw := grow_trans hbw hb1; clear hb1; obtain ⟨l0, l1, l2, l3, l4, l5⟩ := row6A ((HX.out _ hbw).trans HML.out))
              | (go_at_call 109; (with_reducible refine (HWa.out _).mono ?_); rintro y w1 ⟨rfl, hb1⟩; replace hbw := grow_trans hbw hb1; clear hb1; obtain ⟨l0, l1, l2, l3, l4, l5⟩ := row6A ((HX.out _ hbw).trans HML.out))
              | (go_at_call 109; (with_reducible refine (HWb.out _).mono ?_); rintro y w1 ⟨rfl, hb1⟩; replace hbw := grow_trans hbw hb1; clear hb1; obtain ⟨l0, l1, l2, l3, l4, l5⟩ := row6A ((HX.out _ hbw).trans HML.out))
              | (go_at_call 109; (with_reducible refine (HWn.out _).mono ?_); rintro y w1 ⟨rfl, hb1⟩; replace hbw := grow_trans hbw hb1; clear hb1; obtain ⟨l0, l1, l2, l3, l4, l5⟩ := row6A ((HX.out _ hbw).trans HML.out))
              | (go_at_call 109; (with_reducible refine (HWs.out _).mono ?_); rintro y w1 ⟨rfl, hb1⟩; replace hbw := grow_trans hbw hb1; clear hb1; obtain ⟨l0, l1, l2, l3, l4, l5⟩ := row6A ((HX.out _ hbw).trans HML.out)))
            go_ret
            exact ⟨by rw [HEQ.out]; rfl, grow_trans HBL.out hbw⟩
          · skip
            cases hn
            · cases zn
              · skip
                go_enter Tryz.func95, Tryz.ntmps95
                go_upto_region 1 with fail
                change Code.wp _ _ _ _ (w.alloc (.cells #[.string (mkB x.kind), .int .i64 x.d, .int .i64 x.a, .int .i64 x.b, .int .i64 x.num, .string (mkB x.name)] 71))
                rw [HWL.out]
                go_wp2_with (first
                  | (go_at_call 105; (with_reducible refine (HH.out _).mono ?_); rintro y w1 ⟨rfl, hb1⟩; replace hbw := grow_trans hbw hb1; clear hb1; obtain ⟨l0, l1, l2, l3, l4, l5⟩ := row6A ((HX.out _ hbw).trans HML.out))
                  | (go_at_call 109; (with_reducible refine (HWd.out _).mono ?_); rintro y w1 ⟨rfl, hb1⟩; replace hbw := grow_trans hbw hb1; clear hb1; obtain ⟨l0, l1, l2, l3, l4, l5⟩ := row6A ((HX.out _ hbw).trans HML.out))
                  | (go_at_call 109; (with_reducible refine (HWa.out _).mono ?_); rintro y w1 ⟨rfl, hb1⟩; replace hbw := grow_trans hbw hb1; clear hb1; obtain ⟨l0, l1, l2, l3, l4, l5⟩ := row6A ((HX.out _ hbw).trans HML.out))
                  | (go_at_call 109; (with_reducible refine (HWb.out _).mono ?_); rintro y w1 ⟨rfl, hb1⟩; replace hbw := grow_trans hbw hb1; clear hb1; obtain ⟨l0, l1, l2, l3, l4, l5⟩ := row6A ((HX.out _ hbw).trans HML.out))
                  | (go_at_call 109; (with_reducible refine (HWn.out _).mono ?_); rintro y w1 ⟨rfl, hb1⟩; replace hbw := grow_trans hbw hb1; clear hb1; obtain ⟨l0, l1, l2, l3, l4, l5⟩ := row6A ((HX.out _ hbw).trans HML.out))
                  | (go_at_call 109; (with_reducible refine (HWs.out _).mono ?_); rintro y w1 ⟨rfl, hb1⟩; replace hbw := grow_trans hbw hb1; clear hb1; obtain ⟨l0, l1, l2, l3, l4, l5⟩ := row6A ((HX.out _ hbw).trans HML.out)))
                go_ret
                exact ⟨by rw [HEQ.out]; rfl, grow_trans HBL.out hbw⟩
              · skip
                cases hs
                · cases zs
                  · skip
                    go_enter Tryz.func95, Tryz.ntmps95
                    go_upto_region 1 with fail
                    change Code.wp _ _ _ _ (w.alloc (.cells #[.string (mkB x.kind), .int .i64 x.d, .int .i64 x.a, .int .i64 x.b, .int .i64 x.num, .string (mkB x.name)] 71))
                    rw [HWL.out]
                    go_wp2_with (first
                      | (go_at_call 105; (with_reducible refine (HH.out _).mono ?_); rintro y w1 ⟨rfl, hb1⟩; replace hbw := grow_trans hbw hb1; clear hb1; obtain ⟨l0, l1, l2, l3, l4, l5⟩ := row6A ((HX.out _ hbw).trans HML.out))
                      | (go_at_call 109; (with_reducible refine (HWd.out _).mono ?_); rintro y w1 ⟨rfl, hb1⟩; replace hbw := grow_trans hbw hb1; clear hb1; obtain ⟨l0, l1, l2, l3, l4, l5⟩ := row6A ((HX.out _ hbw).trans HML.out))
                      | (go_at_call 109; (with_reducible refine (HWa.out _).mono ?_); rintro y w1 ⟨rfl, hb1⟩; replace hbw := grow_trans hbw hb1; clear hb1; obtain ⟨l0, l1, l2, l3, l4, l5⟩ := row6A ((HX.out _ hbw).trans HML.out))
                      | (go_at_call 109; (with_reducible refine (HWb.out _).mono ?_); rintro y w1 ⟨rfl, hb1⟩; replace hbw := grow_trans hbw hb1; clear hb1; obtain ⟨l0, l1, l2, l3, l4, l5⟩ := row6A ((HX.out _ hbw).trans HML.out))
                      | (go_at_call 109; (with_reducible refine (HWn.out _).mono ?_); rintro y w1 ⟨rfl, hb1⟩; replace hbw := grow_trans hbw hb1; clear hb1; obtain ⟨l0, l1, l2, l3, l4, l5⟩ := row6A ((HX.out _ hbw).trans HML.out))
                      | (go_at_call 109; (with_reducible refine (HWs.out _).mono ?_); rintro y w1 ⟨rfl, hb1⟩; replace hbw := grow_trans hbw hb1; clear hb1; obtain ⟨l0, l1, l2, l3, l4, l5⟩ := row6A ((HX.out _ hbw).trans HML.out)))
                    go_ret
                    exact ⟨by rw [HEQ.out]; rfl, grow_trans HBL.out hbw⟩
                  · skip
                    go_enter Tryz.func95, Tryz.ntmps95
                    go_upto_region 1 with fail
                    change Code.wp _ _ _ _ (w.alloc (.cells #[.string (mkB x.kind), .int .i64 x.d, .int .i64 x.a, .int .i64 x.b, .int .i64 x.num, .string (mkB x.name)] 71))
                    rw [HWL.out]
                    go_wp2_with (first
                      | (go_at_call 105; (with_reducible refine (HH.out _).mono ?_); rintro y w1 ⟨rfl, hb1⟩; replace hbw := grow_trans hbw hb1; clear hb1; obtain ⟨l0, l1, l2, l3, l4, l5⟩ := row6A ((HX.out _ hbw).trans HML.out))
                      | (go_at_call 109; (with_reducible refine (HWd.out _).mono ?_); rintro y w1 ⟨rfl, hb1⟩; replace hbw := grow_trans hbw hb1; clear hb1; obtain ⟨l0, l1, l2, l3, l4, l5⟩ := row6A ((HX.out _ hbw).trans HML.out))
                      | (go_at_call 109; (with_reducible refine (HWa.out _).mono ?_); rintro y w1 ⟨rfl, hb1⟩; replace hbw := grow_trans hbw hb1; clear hb1; obtain ⟨l0, l1, l2, l3, l4, l5⟩ := row6A ((HX.out _ hbw).trans HML.out))
                      | (go_at_call 109; (with_reducible refine (HWb.out _).mono ?_); rintro y w1 ⟨rfl, hb1⟩; replace hbw := grow_trans hbw hb1; clear hb1; obtain ⟨l0, l1, l2, l3, l4, l5⟩ := row6A ((HX.out _ hbw).trans HML.out))
                      | (go_at_call 109; (with_reducible refine (HWn.out _).mono ?_); rintro y w1 ⟨rfl, hb1⟩; replace hbw := grow_trans hbw hb1; clear hb1; obtain ⟨l0, l1, l2, l3, l4, l5⟩ := row6A ((HX.out _ hbw).trans HML.out))
                      | (go_at_call 109; (with_reducible refine (HWs.out _).mono ?_); rintro y w1 ⟨rfl, hb1⟩; replace hbw := grow_trans hbw hb1; clear hb1; obtain ⟨l0, l1, l2, l3, l4, l5⟩ := row6A ((HX.out _ hbw).trans HML.out)))
                    go_ret
                    exact ⟨by rw [HEQ.out]; rfl, grow_trans HBL.out hbw⟩
                · skip
                  go_enter Tryz.func95, Tryz.ntmps95
                  go_upto_region 1 with fail
                  change Code.wp _ _ _ _ (w.alloc (.cells #[.string (mkB x.kind), .int .i64 x.d, .int .i64 x.a, .int .i64 x.b, .int .i64 x.num, .string (mkB x.name)] 71))
                  rw [HWL.out]
                  go_wp2_with (first
                    | (go_at_call 105; (with_reducible refine (HH.out _).mono ?_); rintro y w1 ⟨rfl, hb1⟩; replace hbw := grow_trans hbw hb1; clear hb1; obtain ⟨l0, l1, l2, l3, l4, l5⟩ := row6A ((HX.out _ hbw).trans HML.out))
                    | (go_at_call 109; (with_reducible refine (HWd.out _).mono ?_); rintro y w1 ⟨rfl, hb1⟩; replace hbw := grow_trans hbw hb1; clear hb1; obtain ⟨l0, l1, l2, l3, l4, l5⟩ := row6A ((HX.out _ hbw).trans HML.out))
                    | (go_at_call 109; (with_reducible refine (HWa.out _).mono ?_); rintro y w1 ⟨rfl, hb1⟩; replace hbw := grow_trans hbw hb1; clear hb1; obtain ⟨l0, l1, l2, l3, l4, l5⟩ := row6A ((HX.out _ hbw).trans HML.out))
                    | (go_at_call 109; (with_reducible refine (HWb.out _).mono ?_); rintro y w1 ⟨rfl, hb1⟩; replace hbw := grow_trans hbw hb1; clear hb1; obtain ⟨l0, l1, l2, l3, l4, l5⟩ := row6A ((HX.out _ hbw).trans HML.out))
                    | (go_at_call 109; (with_reducible refine (HWn.out _).mono ?_); rintro y w1 ⟨rfl, hb1⟩; replace hbw := grow_trans hbw hb1; clear hb1; obtain ⟨l0, l1, l2, l3, l4, l5⟩ := row6A ((HX.out _ hbw).trans HML.out))
                    | (go_at_call 109; (with_reducible refine (HWs.out _).mono ?_); rintro y w1 ⟨rfl, hb1⟩; replace hbw := grow_trans hbw hb1; clear hb1; obtain ⟨l0, l1, l2, l3, l4, l5⟩ := row6A ((HX.out _ hbw).trans HML.out)))
                  go_ret
                  exact ⟨by rw [HEQ.out]; rfl, grow_trans HBL.out hbw⟩
            · skip
              cases hs
              · cases zs
                · skip
                  go_enter Tryz.func95, Tryz.ntmps95
                  go_upto_region 1 with fail
                  change Code.wp _ _ _ _ (w.alloc (.cells #[.string (mkB x.kind), .int .i64 x.d, .int .i64 x.a, .int .i64 x.b, .int .i64 x.num, .string (mkB x.name)] 71))
                  rw [HWL.out]
                  go_wp2_with (first
                    | (go_at_call 105; (with_reducible refine (HH.out _).mono ?_); rintro y w1 ⟨rfl, hb1⟩; replace hbw := grow_trans hbw hb1; clear hb1; obtain ⟨l0, l1, l2, l3, l4, l5⟩ := row6A ((HX.out _ hbw).trans HML.out))
                    | (go_at_call 109; (with_reducible refine (HWd.out _).mono ?_); rintro y w1 ⟨rfl, hb1⟩; replace hbw := grow_trans hbw hb1; clear hb1; obtain ⟨l0, l1, l2, l3, l4, l5⟩ := row6A ((HX.out _ hbw).trans HML.out))
                    | (go_at_call 109; (with_reducible refine (HWa.out _).mono ?_); rintro y w1 ⟨rfl, hb1⟩; replace hbw := grow_trans hbw hb1; clear hb1; obtain ⟨l0, l1, l2, l3, l4, l5⟩ := row6A ((HX.out _ hbw).trans HML.out))
                    | (go_at_call 109; (with_reducible refine (HWb.out _).mono ?_); rintro y w1 ⟨rfl, hb1⟩; replace hbw := grow_trans hbw hb1; clear hb1; obtain ⟨l0, l1, l2, l3, l4, l5⟩ := row6A ((HX.out _ hbw).trans HML.out))
                    | (go_at_call 109; (with_reducible refine (HWn.out _).mono ?_); rintro y w1 ⟨rfl, hb1⟩; replace hbw := grow_trans hbw hb1; clear hb1; obtain ⟨l0, l1, l2, l3, l4, l5⟩ := row6A ((HX.out _ hbw).trans HML.out))
                    | (go_at_call 109; (with_reducible refine (HWs.out _).mono ?_); rintro y w1 ⟨rfl, hb1⟩; replace hbw := grow_trans hbw hb1; clear hb1; obtain ⟨l0, l1, l2, l3, l4, l5⟩ := row6A ((HX.out _ hbw).trans HML.out)))
                  go_ret
                  exact ⟨by rw [HEQ.out]; rfl, grow_trans HBL.out hbw⟩
                · skip
                  go_enter Tryz.func95, Tryz.ntmps95
                  go_upto_region 1 with fail
                  change Code.wp _ _ _ _ (w.alloc (.cells #[.string (mkB x.kind), .int .i64 x.d, .int .i64 x.a, .int .i64 x.b, .int .i64 x.num, .string (mkB x.name)] 71))
                  rw [HWL.out]
                  go_wp2_with (first
                    | (go_at_call 105; (with_reducible refine (HH.out _).mono ?_); rintro y w1 ⟨rfl, hb1⟩; replace hbw := grow_trans hbw hb1; clear hb1; obtain ⟨l0, l1, l2, l3, l4, l5⟩ := row6A ((HX.out _ hbw).trans HML.out))
                    | (go_at_call 109; (with_reducible refine (HWd.out _).mono ?_); rintro y w1 ⟨rfl, hb1⟩; replace hbw := grow_trans hbw hb1; clear hb1; obtain ⟨l0, l1, l2, l3, l4, l5⟩ := row6A ((HX.out _ hbw).trans HML.out))
                    | (go_at_call 109; (with_reducible refine (HWa.out _).mono ?_); rintro y w1 ⟨rfl, hb1⟩; replace hbw := grow_trans hbw hb1; clear hb1; obtain ⟨l0, l1, l2, l3, l4, l5⟩ := row6A ((HX.out _ hbw).trans HML.out))
                    | (go_at_call 109; (with_reducible refine (HWb.out _).mono ?_); rintro y w1 ⟨rfl, hb1⟩; replace hbw := grow_trans hbw hb1; clear hb1; obtain ⟨l0, l1, l2, l3, l4, l5⟩ := row6A ((HX.out _ hbw).trans HML.out))
                    | (go_at_call 109; (with_reducible refine (HWn.out _).mono ?_); rintro y w1 ⟨rfl, hb1⟩; replace hbw := grow_trans hbw hb1; clear hb1; obtain ⟨l0, l1, l2, l3, l4, l5⟩ := row6A ((HX.out _ hbw).trans HML.out))
                    | (go_at_call 109; (with_reducible refine (HWs.out _).mono ?_); rintro y w1 ⟨rfl, hb1⟩; replace hbw := grow_trans hbw hb1; clear hb1; obtain ⟨l0, l1, l2, l3, l4, l5⟩ := row6A ((HX.out _ hbw).trans HML.out)))
                  go_ret
                  exact ⟨by rw [HEQ.out]; rfl, grow_trans HBL.out hbw⟩
              · skip
                go_enter Tryz.func95, Tryz.ntmps95
                go_upto_region 1 with fail
                change Code.wp _ _ _ _ (w.alloc (.cells #[.string (mkB x.kind), .int .i64 x.d, .int .i64 x.a, .int .i64 x.b, .int .i64 x.num, .string (mkB x.name)] 71))
                rw [HWL.out]
                go_wp2_with (first
                  | (go_at_call 105; (with_reducible refine (HH.out _).mono ?_); rintro y w1 ⟨rfl, hb1⟩; replace hbw := grow_trans hbw hb1; clear hb1; obtain ⟨l0, l1, l2, l3, l4, l5⟩ := row6A ((HX.out _ hbw).trans HML.out))
                  | (go_at_call 109; (with_reducible refine (HWd.out _).mono ?_); rintro y w1 ⟨rfl, hb1⟩; replace hbw := grow_trans hbw hb1; clear hb1; obtain ⟨l0, l1, l2, l3, l4, l5⟩ := row6A ((HX.out _ hbw).trans HML.out))
                  | (go_at_call 109; (with_reducible refine (HWa.out _).mono ?_); rintro y w1 ⟨rfl, hb1⟩; replace hbw := grow_trans hbw hb1; clear hb1; obtain ⟨l0, l1, l2, l3, l4, l5⟩ := row6A ((HX.out _ hbw).trans HML.out))
                  | (go_at_call 109; (with_reducible refine (HWb.out _).mono ?_); rintro y w1 ⟨rfl, hb1⟩; replace hbw := grow_trans hbw hb1; clear hb1; obtain ⟨l0, l1, l2, l3, l4, l5⟩ := row6A ((HX.out _ hbw).trans HML.out))
                  | (go_at_call 109; (with_reducible refine (HWn.out _).mono ?_); rintro y w1 ⟨rfl, hb1⟩; replace hbw := grow_trans hbw hb1; clear hb1; obtain ⟨l0, l1, l2, l3, l4, l5⟩ := row6A ((HX.out _ hbw).trans HML.out))
                  | (go_at_call 109; (with_reducible refine (HWs.out _).mono ?_); rintro y w1 ⟨rfl, hb1⟩; replace hbw := grow_trans hbw hb1; clear hb1; obtain ⟨l0, l1, l2, l3, l4, l5⟩ := row6A ((HX.out _ hbw).trans HML.out)))
                go_ret
                exact ⟨by rw [HEQ.out]; rfl, grow_trans HBL.out hbw⟩
        · skip
          cases hn
          · cases zn
            · skip
              go_enter Tryz.func95, Tryz.ntmps95
              go_upto_region 1 with fail
              change Code.wp _ _ _ _ (w.alloc (.cells #[.string (mkB x.kind), .int .i64 x.d, .int .i64 x.a, .int .i64 x.b, .int .i64 x.num, .string (mkB x.name)] 71))
              rw [HWL.out]
              go_wp2_with (first
                | (go_at_call 105; (with_reducible refine (HH.out _).mono ?_); rintro y w1 ⟨rfl, hb1⟩; replace hbw := grow_trans hbw hb1; clear hb1; obtain ⟨l0, l1, l2, l3, l4, l5⟩ := row6A ((HX.out _ hbw).trans HML.out))
                | (go_at_call 109; (with_reducible refine (HWd.out _).mono ?_); rintro y w1 ⟨rfl, hb1⟩; replace hbw := grow_trans hbw hb1; clear hb1; obtain ⟨l0, l1, l2, l3, l4, l5⟩ := row6A ((HX.out _ hbw).trans HML.out))
                | (go_at_call 109; (with_reducible refine (HWa.out _).mono ?_); rintro y w1 ⟨rfl, hb1⟩; replace hbw := grow_trans hbw hb1; clear hb1; obtain ⟨l0, l1, l2, l3, l4, l5⟩ := row6A ((HX.out _ hbw).trans HML.out))
                | (go_at_call 109; (with_reducible refine (HWb.out _).mono ?_); rintro y w1 ⟨rfl, hb1⟩; replace hbw := grow_trans hbw hb1; clear hb1; obtain ⟨l0, l1, l2, l3, l4, l5⟩ := row6A ((HX.out _ hbw).trans HML.out))
                | (go_at_call 109; (with_reducible refine (HWn.out _).mono ?_); rintro y w1 ⟨rfl, hb1⟩; replace hbw := grow_trans hbw hb1; clear hb1; obtain ⟨l0, l1, l2, l3, l4, l5⟩ := row6A ((HX.out _ hbw).trans HML.out))
                | (go_at_call 109; (with_reducible refine (HWs.out _).mono ?_); rintro y w1 ⟨rfl, hb1⟩; replace hbw := grow_trans hbw hb1; clear hb1; obtain ⟨l0, l1, l2, l3, l4, l5⟩ := row6A ((HX.out _ hbw).trans HML.out)))
              go_ret
              exact ⟨by rw [HEQ.out]; rfl, grow_trans HBL.out hbw⟩
            · skip
              cases hs
              · cases zs
                · skip
                  go_enter Tryz.func95, Tryz.ntmps95
                  go_upto_region 1 with fail
                  change Code.wp _ _ _ _ (w.alloc (.cells #[.string (mkB x.kind), .int .i64 x.d, .int .i64 x.a, .int .i64 x.b, .int .i64 x.num, .string (mkB x.name)] 71))
                  rw [HWL.out]
                  go_wp2_with (first
                    | (go_at_call 105; (with_reducible refine (HH.out _).mono ?_); rintro y w1 ⟨rfl, hb1⟩; replace hbw := grow_trans hbw hb1; clear hb1; obtain ⟨l0, l1, l2, l3, l4, l5⟩ := row6A ((HX.out _ hbw).trans HML.out))
                    | (go_at_call 109; (with_reducible refine (HWd.out _).mono ?_); rintro y w1 ⟨rfl, hb1⟩; replace hbw := grow_trans hbw hb1; clear hb1; obtain ⟨l0, l1, l2, l3, l4, l5⟩ := row6A ((HX.out _ hbw).trans HML.out))
                    | (go_at_call 109; (with_reducible refine (HWa.out _).mono ?_); rintro y w1 ⟨rfl, hb1⟩; replace hbw := grow_trans hbw hb1; clear hb1; obtain ⟨l0, l1, l2, l3, l4, l5⟩ := row6A ((HX.out _ hbw).trans HML.out))
                    | (go_at_call 109; (with_reducible refine (HWb.out _).mono ?_); rintro y w1 ⟨rfl, hb1⟩; replace hbw := grow_trans hbw hb1; clear hb1; obtain ⟨l0, l1, l2, l3, l4, l5⟩ := row6A ((HX.out _ hbw).trans HML.out))
                    | (go_at_call 109; (with_reducible refine (HWn.out _).mono ?_); rintro y w1 ⟨rfl, hb1⟩; replace hbw := grow_trans hbw hb1; clear hb1; obtain ⟨l0, l1, l2, l3, l4, l5⟩ := row6A ((HX.out _ hbw).trans HML.out))
                    | (go_at_call 109; (with_reducible refine (HWs.out _).mono ?_); rintro y w1 ⟨rfl, hb1⟩; replace hbw := grow_trans hbw hb1; clear hb1; obtain ⟨l0, l1, l2, l3, l4, l5⟩ := row6A ((HX.out _ hbw).trans HML.out)))
                  go_ret
                  exact ⟨by rw [HEQ.out]; rfl, grow_trans HBL.out hbw⟩
                · skip
                  go_enter Tryz.func95, Tryz.ntmps95
                  go_upto_region 1 with fail
                  change Code.wp _ _ _ _ (w.alloc (.cells #[.string (mkB x.kind), .int .i64 x.d, .int .i64 x.a, .int .i64 x.b, .int .i64 x.num, .string (mkB x.name)] 71))
                  rw [HWL.out]
                  go_wp2_with (first
                    | (go_at_call 105; (with_reducible refine (HH.out _).mono ?_); rintro y w1 ⟨rfl, hb1⟩; replace hbw := grow_trans hbw hb1; clear hb1; obtain ⟨l0, l1, l2, l3, l4, l5⟩ := row6A ((HX.out _ hbw).trans HML.out))
                    | (go_at_call 109; (with_reducible refine (HWd.out _).mono ?_); rintro y w1 ⟨rfl, hb1⟩; replace hbw := grow_trans hbw hb1; clear hb1; obtain ⟨l0, l1, l2, l3, l4, l5⟩ := row6A ((HX.out _ hbw).trans HML.out))
                    | (go_at_call 109; (with_reducible refine (HWa.out _).mono ?_); rintro y w1 ⟨rfl, hb1⟩; replace hbw := grow_trans hbw hb1; clear hb1; obtain ⟨l0, l1, l2, l3, l4, l5⟩ := row6A ((HX.out _ hbw).trans HML.out))
                    | (go_at_call 109; (with_reducible refine (HWb.out _).mono ?_); rintro y w1 ⟨rfl, hb1⟩; replace hbw := grow_trans hbw hb1; clear hb1; obtain ⟨l0, l1, l2, l3, l4, l5⟩ := row6A ((HX.out _ hbw).trans HML.out))
                    | (go_at_call 109; (with_reducible refine (HWn.out _).mono ?_); rintro y w1 ⟨rfl, hb1⟩; replace hbw := grow_trans hbw hb1; clear hb1; obtain ⟨l0, l1, l2, l3, l4, l5⟩ := row6A ((HX.out _ hbw).trans HML.out))
                    | (go_at_call 109; (with_reducible refine (HWs.out _).mono ?_); rintro y w1 ⟨rfl, hb1⟩; replace hbw := grow_trans hbw hb1; clear hb1; obtain ⟨l0, l1, l2, l3, l4, l5⟩ := row6A ((HX.out _ hbw).trans HML.out)))
                  go_ret
                  exact ⟨by rw [HEQ.out]; rfl, grow_trans HBL.out hbw⟩
              · skip
                go_enter Tryz.func95, Tryz.ntmps95
                go_upto_region 1 with fail
                change Code.wp _ _ _ _ (w.alloc (.cells #[.string (mkB x.kind), .int .i64 x.d, .int .i64 x.a, .int .i64 x.b, .int .i64 x.num, .string (mkB x.name)] 71))
                rw [HWL.out]
                go_wp2_with (first
                  | (go_at_call 105; (with_reducible refine (HH.out _).mono ?_); rintro y w1 ⟨rfl, hb1⟩; replace hbw := grow_trans hbw hb1; clear hb1; obtain ⟨l0, l1, l2, l3, l4, l5⟩ := row6A ((HX.out _ hbw).trans HML.out))
                  | (go_at_call 109; (with_reducible refine (HWd.out _).mono ?_); rintro y w1 ⟨rfl, hb1⟩; replace hbw := grow_trans hbw hb1; clear hb1; obtain ⟨l0, l1, l2, l3, l4, l5⟩ := row6A ((HX.out _ hbw).trans HML.out))
                  | (go_at_call 109; (with_reducible refine (HWa.out _).mono ?_); rintro y w1 ⟨rfl, hb1⟩; replace hbw := grow_trans hbw hb1; clear hb1; obtain ⟨l0, l1, l2, l3, l4, l5⟩ := row6A ((HX.out _ hbw).trans HML.out))
                  | (go_at_call 109; (with_reducible refine (HWb.out _).mono ?_); rintro y w1 ⟨rfl, hb1⟩; replace hbw := grow_trans hbw hb1; clear hb1; obtain ⟨l0, l1, l2, l3, l4, l5⟩ := row6A ((HX.out _ hbw).trans HML.out))
                  | (go_at_call 109; (with_reducible refine (HWn.out _).mono ?_); rintro y w1 ⟨rfl, hb1⟩; replace hbw := grow_trans hbw hb1; clear hb1; obtain ⟨l0, l1, l2, l3, l4, l5⟩ := row6A ((HX.out _ hbw).trans HML.out))
                  | (go_at_call 109; (with_reducible refine (HWs.out _).mono ?_); rintro y w1 ⟨rfl, hb1⟩; replace hbw := grow_trans hbw hb1; clear hb1; obtain ⟨l0, l1, l2, l3, l4, l5⟩ := row6A ((HX.out _ hbw).trans HML.out)))
                go_ret
                exact ⟨by rw [HEQ.out]; rfl, grow_trans HBL.out hbw⟩
          · skip
            cases hs
            · cases zs
              · skip
                go_enter Tryz.func95, Tryz.ntmps95
                go_upto_region 1 with fail
                change Code.wp _ _ _ _ (w.alloc (.cells #[.string (mkB x.kind), .int .i64 x.d, .int .i64 x.a, .int .i64 x.b, .int .i64 x.num, .string (mkB x.name)] 71))
                rw [HWL.out]
                go_wp2_with (first
                  | (go_at_call 105; (with_reducible refine (HH.out _).mono ?_); rintro y w1 ⟨rfl, hb1⟩; replace hbw := grow_trans hbw hb1; clear hb1; obtain ⟨l0, l1, l2, l3, l4, l5⟩ := row6A ((HX.out _ hbw).trans HML.out))
                  | (go_at_call 109; (with_reducible refine (HWd.out _).mono ?_); rintro y w1 ⟨rfl, hb1⟩; replace hbw := grow_trans hbw hb1; clear hb1; obtain ⟨l0, l1, l2, l3, l4, l5⟩ := row6A ((HX.out _ hbw).trans HML.out))
                  | (go_at_call 109; (with_reducible refine (HWa.out _).mono ?_); rintro y w1 ⟨rfl, hb1⟩; replace hbw := grow_trans hbw hb1; clear hb1; obtain ⟨l0, l1, l2, l3, l4, l5⟩ := row6A ((HX.out _ hbw).trans HML.out))
                  | (go_at_call 109; (with_reducible refine (HWb.out _).mono ?_); rintro y w1 ⟨rfl, hb1⟩; replace hbw := grow_trans hbw hb1; clear hb1; obtain ⟨l0, l1, l2, l3, l4, l5⟩ := row6A ((HX.out _ hbw).trans HML.out))
                  | (go_at_call 109; (with_reducible refine (HWn.out _).mono ?_); rintro y w1 ⟨rfl, hb1⟩; replace hbw := grow_trans hbw hb1; clear hb1; obtain ⟨l0, l1, l2, l3, l4, l5⟩ := row6A ((HX.out _ hbw).trans HML.out))
                  | (go_at_call 109; (with_reducible refine (HWs.out _).mono ?_); rintro y w1 ⟨rfl, hb1⟩; replace hbw := grow_trans hbw hb1; clear hb1; obtain ⟨l0, l1, l2, l3, l4, l5⟩ := row6A ((HX.out _ hbw).trans HML.out)))
                go_ret
                exact ⟨by rw [HEQ.out]; rfl, grow_trans HBL.out hbw⟩
              · skip
                go_enter Tryz.func95, Tryz.ntmps95
                go_upto_region 1 with fail
                change Code.wp _ _ _ _ (w.alloc (.cells #[.string (mkB x.kind), .int .i64 x.d, .int .i64 x.a, .int .i64 x.b, .int .i64 x.num, .string (mkB x.name)] 71))
                rw [HWL.out]
                go_wp2_with (first
                  | (go_at_call 105; (with_reducible refine (HH.out _).mono ?_); rintro y w1 ⟨rfl, hb1⟩; replace hbw := grow_trans hbw hb1; clear hb1; obtain ⟨l0, l1, l2, l3, l4, l5⟩ := row6A ((HX.out _ hbw).trans HML.out))
                  | (go_at_call 109; (with_reducible refine (HWd.out _).mono ?_); rintro y w1 ⟨rfl, hb1⟩; replace hbw := grow_trans hbw hb1; clear hb1; obtain ⟨l0, l1, l2, l3, l4, l5⟩ := row6A ((HX.out _ hbw).trans HML.out))
                  | (go_at_call 109; (with_reducible refine (HWa.out _).mono ?_); rintro y w1 ⟨rfl, hb1⟩; replace hbw := grow_trans hbw hb1; clear hb1; obtain ⟨l0, l1, l2, l3, l4, l5⟩ := row6A ((HX.out _ hbw).trans HML.out))
                  | (go_at_call 109; (with_reducible refine (HWb.out _).mono ?_); rintro y w1 ⟨rfl, hb1⟩; replace hbw := grow_trans hbw hb1; clear hb1; obtain ⟨l0, l1, l2, l3, l4, l5⟩ := row6A ((HX.out _ hbw).trans HML.out))
                  | (go_at_call 109; (with_reducible refine (HWn.out _).mono ?_); rintro y w1 ⟨rfl, hb1⟩; replace hbw := grow_trans hbw hb1; clear hb1; obtain ⟨l0, l1, l2, l3, l4, l5⟩ := row6A ((HX.out _ hbw).trans HML.out))
                  | (go_at_call 109; (with_reducible refine (HWs.out _).mono ?_); rintro y w1 ⟨rfl, hb1⟩; replace hbw := grow_trans hbw hb1; clear hb1; obtain ⟨l0, l1, l2, l3, l4, l5⟩ := row6A ((HX.out _ hbw).trans HML.out)))
                go_ret
                exact ⟨by rw [HEQ.out]; rfl, grow_trans HBL.out hbw⟩
            · skip
              go_enter Tryz.func95, Tryz.ntmps95
              go_upto_region 1 with fail
              change Code.wp _ _ _ _ (w.alloc (.cells #[.string (mkB x.kind), .int .i64 x.d, .int .i64 x.a, .int .i64 x.b, .int .i64 x.num, .string (mkB x.name)] 71))
              rw [HWL.out]
              go_wp2_with (first
                | (go_at_call 105; (with_reducible refine (HH.out _).mono ?_); rintro y w1 ⟨rfl, hb1⟩; replace hbw := grow_trans hbw hb1; clear hb1; obtain ⟨l0, l1, l2, l3, l4, l5⟩ := row6A ((HX.out _ hbw).trans HML.out))
                | (go_at_call 109; (with_reducible refine (HWd.out _).mono ?_); rintro y w1 ⟨rfl, hb1⟩; replace hbw := grow_trans hbw hb1; clear hb1; obtain ⟨l0, l1, l2, l3, l4, l5⟩ := row6A ((HX.out _ hbw).trans HML.out))
                | (go_at_call 109; (with_reducible refine (HWa.out _).mono ?_); rintro y w1 ⟨rfl, hb1⟩; replace hbw := grow_trans hbw hb1; clear hb1; obtain ⟨l0, l1, l2, l3, l4, l5⟩ := row6A ((HX.out _ hbw).trans HML.out))
                | (go_at_call 109; (with_reducible refine (HWb.out _).mono ?_); rintro y w1 ⟨rfl, hb1⟩; replace hbw := grow_trans hbw hb1; clear hb1; obtain ⟨l0, l1, l2, l3, l4, l5⟩ := row6A ((HX.out _ hbw).trans HML.out))
                | (go_at_call 109; (with_reducible refine (HWn.out _).mono ?_); rintro y w1 ⟨rfl, hb1⟩; replace hbw := grow_trans hbw hb1; clear hb1; obtain ⟨l0, l1, l2, l3, l4, l5⟩ := row6A ((HX.out _ hbw).trans HML.out))
                | (go_at_call 109; (with_reducible refine (HWs.out _).mono ?_); rintro y w1 ⟨rfl, hb1⟩; replace hbw := grow_trans hbw hb1; clear hb1; obtain ⟨l0, l1, l2, l3, l4, l5⟩ := row6A ((HX.out _ hbw).trans HML.out)))
              go_ret
              exact ⟨by rw [HEQ.out]; rfl, grow_trans HBL.out hbw⟩
    · skip
      cases hb
      · cases zb
        · skip
          go_enter Tryz.func95, Tryz.ntmps95
          go_upto_region 1 with fail
          change Code.wp _ _ _ _ (w.alloc (.cells #[.string (mkB x.kind), .int .i64 x.d, .int .i64 x.a, .int .i64 x.b, .int .i64 x.num, .string (mkB x.name)] 71))
          rw [HWL.out]
          go_wp2_with (first
            | (go_at_call 105; (with_reducible refine (HH.out _).mono ?_); rintro y w1 ⟨rfl, hb1⟩; replace hbw := grow_trans hbw hb1; clear hb1; obtain ⟨l0, l1, l2, l3, l4, l5⟩ := row6A ((HX.out _ hbw).trans HML.out))
            | (go_at_call 109; (with_reducible refine (HWd.out _).mono ?_); rintro y w1 ⟨rfl, hb1⟩; replace hbw := grow_trans hbw hb1; clear hb1; obtain ⟨l0, l1, l2, l3, l4, l5⟩ := row6A ((HX.out _ hbw).trans HML.out))
            | (go_at_call 109; (with_reducible refine (HWa.out _).mono ?_); rintro y w1 ⟨rfl, hb1⟩; replace hbw := grow_trans hbw hb1; clear hb1; obtain ⟨l0, l1, l2, l3, l4, l5⟩ := row6A ((HX.out _ hbw).trans HML.out))
            | (go_at_call 109; (with_reducible refine (HWb.out _).mono ?_); rintro y w1 ⟨rfl, hb1⟩; replace hbw := grow_trans hbw hb1; clear hb1; obtain ⟨l0, l1, l2, l3, l4, l5⟩ := row6A ((HX.out _ hbw).trans HML.out))
            | (go_at_call 109; (with_reducible refine (HWn.out _).mono ?_); rintro y w1 ⟨rfl, hb1⟩; replace hbw := grow_trans hbw hb1; clear hb1; obtain ⟨l0, l1, l2, l3, l4, l5⟩ := row6A ((HX.out _ hbw).trans HML.out))
            | (go_at_call 109; (with_reducible refine (HWs.out _).mono ?_); rintro y w1 ⟨rfl, hb1⟩; replace hbw := grow_trans hbw hb1; clear hb1; obtain ⟨l0, l1, l2, l3, l4, l5⟩ := row6A ((HX.out _ hbw).trans HML.out)))
          go_ret
          exact ⟨by rw [HEQ.out]; rfl, grow_trans HBL.out hbw⟩
        · skip
          cases hn
          · cases zn
            · skip
              go_enter Tryz.func95, Tryz.ntmps95
              go_upto_region 1 with fail
              change Code.wp _ _ _ _ (w.alloc (.cells #[.string (mkB x.kind), .int .i64 x.d, .int .i64 x.a, .int .i64 x.b, .int .i64 x.num, .string (mkB x.name)] 71))
              rw [HWL.out]
              go_wp2_with (first
                | (go_at_call 105; (with_reducible refine (HH.out _).mono ?_); rintro y w1 ⟨rfl, hb1⟩; replace hbw := grow_trans hbw hb1; clear hb1; obtain ⟨l0, l1, l2, l3, l4, l5⟩ := row6A ((HX.out _ hbw).trans HML.out))
                | (go_at_call 109; (with_reducible refine (HWd.out _).mono ?_); rintro y w1 ⟨rfl, hb1⟩; replace hbw := grow_trans hbw hb1; clear hb1; obtain ⟨l0, l1, l2, l3, l4, l5⟩ := row6A ((HX.out _ hbw).trans HML.out))
                | (go_at_call 109; (with_reducible refine (HWa.out _).mono ?_); rintro y w1 ⟨rfl, hb1⟩; replace hbw := grow_trans hbw hb1; clear hb1; obtain ⟨l0, l1, l2, l3, l4, l5⟩ := row6A ((HX.out _ hbw).trans HML.out))
                | (go_at_call 109; (with_reducible refine (HWb.out _).mono ?_); rintro y w1 ⟨rfl, hb1⟩; replace hbw := grow_trans hbw hb1; clear hb1; obtain ⟨l0, l1, l2, l3, l4, l5⟩ := row6A ((HX.out _ hbw).trans HML.out))
                | (go_at_call 109; (with_reducible refine (HWn.out _).mono ?_); rintro y w1 ⟨rfl, hb1⟩; replace hbw := grow_trans hbw hb1; clear hb1; obtain ⟨l0, l1, l2, l3, l4, l5⟩ := row6A ((HX.out _ hbw).trans HML.out))
                | (go_at_call 109; (with_reducible refine (HWs.out _).mono ?_); rintro y w1 ⟨rfl, hb1⟩; replace hbw := grow_trans hbw hb1; clear hb1; obtain ⟨l0, l1, l2, l3, l4, l5⟩ := row6A ((HX.out _ hbw).trans HML.out)))
              go_ret
              exact ⟨by rw [HEQ.out]; rfl, grow_trans HBL.out hbw⟩
            · skip
              cases hs
              · cases zs
                · skip
                  go_enter Tryz.func95, Tryz.ntmps95
                  go_upto_region 1 with fail
                  change Code.wp _ _ _ _ (w.alloc (.cells #[.string (mkB x.kind), .int .i64 x.d, .int .i64 x.a, .int .i64 x.b, .int .i64 x.num, .string (mkB x.name)] 71))
                  rw [HWL.out]
                  go_wp2_with (first
                    | (go_at_call 105; (with_reducible refine (HH.out _).mono ?_); rintro y w1 ⟨rfl, hb1⟩; replace hbw := grow_trans hbw hb1; clear hb1; obtain ⟨l0, l1, l2, l3, l4, l5⟩ := row6A ((HX.out _ hbw).trans HML.out))
                    | (go_at_call 109; (with_reducible refine (HWd.out _).mono ?_); rintro y w1 ⟨rfl, hb1⟩; replace hbw := grow_trans hbw hb1; clear hb1; obtain ⟨l0, l1, l2, l3, l4, l5⟩ := row6A ((HX.out _ hbw).trans HML.out))
                    | (go_at_call 109; (with_reducible refine (HWa.out _).mono ?_); rintro y w1 ⟨rfl, hb1⟩; replace hbw := grow_trans hbw hb1; clear hb1; obtain ⟨l0, l1, l2, l3, l4, l5⟩ := row6A ((HX.out _ hbw).trans HML.out))
                    | (go_at_call 109; (with_reducible refine (HWb.out _).mono ?_); rintro y w1 ⟨rfl, hb1⟩; replace hbw := grow_trans hbw hb1; clear hb1; obtain ⟨l0, l1, l2, l3, l4, l5⟩ := row6A ((HX.out _ hbw).trans HML.out))
                    | (go_at_call 109; (with_reducible refine (HWn.out _).mono ?_); rintro y w1 ⟨rfl, hb1⟩; replace hbw := grow_trans hbw hb1; clear hb1; obtain ⟨l0, l1, l2, l3, l4, l5⟩ := row6A ((HX.out _ hbw).trans HML.out))
                    | (go_at_call 109; (with_reducible refine (HWs.out _).mono ?_); rintro y w1 ⟨rfl, hb1⟩; replace hbw := grow_trans hbw hb1; clear hb1; obtain ⟨l0, l1, l2, l3, l4, l5⟩ := row6A ((HX.out _ hbw).trans HML.out)))
                  go_ret
                  exact ⟨by rw [HEQ.out]; rfl, grow_trans HBL.out hbw⟩
                · skip
                  go_enter Tryz.func95, Tryz.ntmps95
                  go_upto_region 1 with fail
                  change Code.wp _ _ _ _ (w.alloc (.cells #[.string (mkB x.kind), .int .i64 x.d, .int .i64 x.a, .int .i64 x.b, .int .i64 x.num, .string (mkB x.name)] 71))
                  rw [HWL.out]
                  go_wp2_with (first
                    | (go_at_call 105; (with_reducible refine (HH.out _).mono ?_); rintro y w1 ⟨rfl, hb1⟩; replace hbw := grow_trans hbw hb1; clear hb1; obtain ⟨l0, l1, l2, l3, l4, l5⟩ := row6A ((HX.out _ hbw).trans HML.out))
                    | (go_at_call 109; (with_reducible refine (HWd.out _).mono ?_); rintro y w1 ⟨rfl, hb1⟩; replace hbw := grow_trans hbw hb1; clear hb1; obtain ⟨l0, l1, l2, l3, l4, l5⟩ := row6A ((HX.out _ hbw).trans HML.out))
                    | (go_at_call 109; (with_reducible refine (HWa.out _).mono ?_); rintro y w1 ⟨rfl, hb1⟩; replace hbw := grow_trans hbw hb1; clear hb1; obtain ⟨l0, l1, l2, l3, l4, l5⟩ := row6A ((HX.out _ hbw).trans HML.out))
                    | (go_at_call 109; (with_reducible refine (HWb.out _).mono ?_); rintro y w1 ⟨rfl, hb1⟩; replace hbw := grow_trans hbw hb1; clear hb1; obtain ⟨l0, l1, l2, l3, l4, l5⟩ := row6A ((HX.out _ hbw).trans HML.out))
                    | (go_at_call 109; (with_reducible refine (HWn.out _).mono ?_); rintro y w1 ⟨rfl, hb1⟩; replace hbw := grow_trans hbw hb1; clear hb1; obtain ⟨l0, l1, l2, l3, l4, l5⟩ := row6A ((HX.out _ hbw).trans HML.out))
                    | (go_at_call 109; (with_reducible refine (HWs.out _).mono ?_); rintro y w1 ⟨rfl, hb1⟩; replace hbw := grow_trans hbw hb1; clear hb1; obtain ⟨l0, l1, l2, l3, l4, l5⟩ := row6A ((HX.out _ hbw).trans HML.out)))
                  go_ret
                  exact ⟨by rw [HEQ.out]; rfl, grow_trans HBL.out hbw⟩
              · skip
                go_enter Tryz.func95, Tryz.ntmps95
                go_upto_region 1 with fail
                change Code.wp _ _ _ _ (w.alloc (.cells #[.string (mkB x.kind), .int .i64 x.d, .int .i64 x.a, .int .i64 x.b, .int .i64 x.num, .string (mkB x.name)] 71))
                rw [HWL.out]
                go_wp2_with (first
                  | (go_at_call 105; (with_reducible refine (HH.out _).mono ?_); rintro y w1 ⟨rfl, hb1⟩; replace hbw := grow_trans hbw hb1; clear hb1; obtain ⟨l0, l1, l2, l3, l4, l5⟩ := row6A ((HX.out _ hbw).trans HML.out))
                  | (go_at_call 109; (with_reducible refine (HWd.out _).mono ?_); rintro y w1 ⟨rfl, hb1⟩; replace hbw := grow_trans hbw hb1; clear hb1; obtain ⟨l0, l1, l2, l3, l4, l5⟩ := row6A ((HX.out _ hbw).trans HML.out))
                  | (go_at_call 109; (with_reducible refine (HWa.out _).mono ?_); rintro y w1 ⟨rfl, hb1⟩; replace hbw := grow_trans hbw hb1; clear hb1; obtain ⟨l0, l1, l2, l3, l4, l5⟩ := row6A ((HX.out _ hbw).trans HML.out))
                  | (go_at_call 109; (with_reducible refine (HWb.out _).mono ?_); rintro y w1 ⟨rfl, hb1⟩; replace hbw := grow_trans hbw hb1; clear hb1; obtain ⟨l0, l1, l2, l3, l4, l5⟩ := row6A ((HX.out _ hbw).trans HML.out))
                  | (go_at_call 109; (with_reducible refine (HWn.out _).mono ?_); rintro y w1 ⟨rfl, hb1⟩; replace hbw := grow_trans hbw hb1; clear hb1; obtain ⟨l0, l1, l2, l3, l4, l5⟩ := row6A ((HX.out _ hbw).trans HML.out))
                  | (go_at_call 109; (with_reducible refine (HWs.out _).mono ?_); rintro y w1 ⟨rfl, hb1⟩; replace hbw := grow_trans hbw hb1; clear hb1; obtain ⟨l0, l1, l2, l3, l4, l5⟩ := row6A ((HX.out _ hbw).trans HML.out)))
                go_ret
                exact ⟨by rw [HEQ.out]; rfl, grow_trans HBL.out hbw⟩
          · skip
            cases hs
            · cases zs
              · skip
                go_enter Tryz.func95, Tryz.ntmps95
                go_upto_region 1 with fail
                change Code.wp _ _ _ _ (w.alloc (.cells #[.string (mkB x.kind), .int .i64 x.d, .int .i64 x.a, .int .i64 x.b, .int .i64 x.num, .string (mkB x.name)] 71))
                rw [HWL.out]
                go_wp2_with (first
                  | (go_at_call 105; (with_reducible refine (HH.out _).mono ?_); rintro y w1 ⟨rfl, hb1⟩; replace hbw := grow_trans hbw hb1; clear hb1; obtain ⟨l0, l1, l2, l3, l4, l5⟩ := row6A ((HX.out _ hbw).trans HML.out))
                  | (go_at_call 109; (with_reducible refine (HWd.out _).mono ?_); rintro y w1 ⟨rfl, hb1⟩; replace hbw := grow_trans hbw hb1; clear hb1; obtain ⟨l0, l1, l2, l3, l4, l5⟩ := row6A ((HX.out _ hbw).trans HML.out))
                  | (go_at_call 109; (with_reducible refine (HWa.out _).mono ?_); rintro y w1 ⟨rfl, hb1⟩; replace hbw := grow_trans hbw hb1; clear hb1; obtain ⟨l0, l1, l2, l3, l4, l5⟩ := row6A ((HX.out _ hbw).trans HML.out))
                  | (go_at_call 109; (with_reducible refine (HWb.out _).mono ?_); rintro y w1 ⟨rfl, hb1⟩; replace hbw := grow_trans hbw hb1; clear hb1; obtain ⟨l0, l1, l2, l3, l4, l5⟩ := row6A ((HX.out _ hbw).trans HML.out))
                  | (go_at_call 109; (with_reducible refine (HWn.out _).mono ?_); rintro y w1 ⟨rfl, hb1⟩; replace hbw := grow_trans hbw hb1; clear hb1; obtain ⟨l0, l1, l2, l3, l4, l5⟩ := row6A ((HX.out _ hbw).trans HML.out))
                  | (go_at_call 109; (with_reducible refine (HWs.out _).mono ?_); rintro y w1 ⟨rfl, hb1⟩; replace hbw := grow_trans hbw hb1; clear hb1; obtain ⟨l0, l1, l2, l3, l4, l5⟩ := row6A ((HX.out _ hbw).trans HML.out)))
                go_ret
                exact ⟨by rw [HEQ.out]; rfl, grow_trans HBL.out hbw⟩
              · skip
                go_enter Tryz.func95, Tryz.ntmps95
                go_upto_region 1 with fail
                change Code.wp _ _ _ _ (w.alloc (.cells #[.string (mkB x.kind), .int .i64 x.d, .int .i64 x.a, .int .i64 x.b, .int .i64 x.num, .string (mkB x.name)] 71))
                rw [HWL.out]
                go_wp2_with (first
                  | (go_at_call 105; (with_reducible refine (HH.out _).mono ?_); rintro y w1 ⟨rfl, hb1⟩; replace hbw := grow_trans hbw hb1; clear hb1; obtain ⟨l0, l1, l2, l3, l4, l5⟩ := row6A ((HX.out _ hbw).trans HML.out))
                  | (go_at_call 109; (with_reducible refine (HWd.out _).mono ?_); rintro y w1 ⟨rfl, hb1⟩; replace hbw := grow_trans hbw hb1; clear hb1; obtain ⟨l0, l1, l2, l3, l4, l5⟩ := row6A ((HX.out _ hbw).trans HML.out))
                  | (go_at_call 109; (with_reducible refine (HWa.out _).mono ?_); rintro y w1 ⟨rfl, hb1⟩; replace hbw := grow_trans hbw hb1; clear hb1; obtain ⟨l0, l1, l2, l3, l4, l5⟩ := row6A ((HX.out _ hbw).trans HML.out))
                  | (go_at_call 109; (with_reducible refine (HWb.out _).mono ?_); rintro y w1 ⟨rfl, hb1⟩; replace hbw := grow_trans hbw hb1; clear hb1; obtain ⟨l0, l1, l2, l3, l4, l5⟩ := row6A ((HX.out _ hbw).trans HML.out))
                  | (go_at_call 109; (with_reducible refine (HWn.out _).mono ?_); rintro y w1 ⟨rfl, hb1⟩; replace hbw := grow_trans hbw hb1; clear hb1; obtain ⟨l0, l1, l2, l3, l4, l5⟩ := row6A ((HX.out _ hbw).trans HML.out))
                  | (go_at_call 109; (with_reducible refine (HWs.out _).mono ?_); rintro y w1 ⟨rfl, hb1⟩; replace hbw := grow_trans hbw hb1; clear hb1; obtain ⟨l0, l1, l2, l3, l4, l5⟩ := row6A ((HX.out _ hbw).trans HML.out)))
                go_ret
                exact ⟨by rw [HEQ.out]; rfl, grow_trans HBL.out hbw⟩
            · skip
              go_enter Tryz.func95, Tryz.ntmps95
              go_upto_region 1 with fail
              change Code.wp _ _ _ _ (w.alloc (.cells #[.string (mkB x.kind), .int .i64 x.d, .int .i64 x.a, .int .i64 x.b, .int .i64 x.num, .string (mkB x.name)] 71))
              rw [HWL.out]
              go_wp2_with (first
                | (go_at_call 105; (with_reducible refine (HH.out _).mono ?_); rintro y w1 ⟨rfl, hb1⟩; replace hbw := grow_trans hbw hb1; clear hb1; obtain ⟨l0, l1, l2, l3, l4, l5⟩ := row6A ((HX.out _ hbw).trans HML.out))
                | (go_at_call 109; (with_reducible refine (HWd.out _).mono ?_); rintro y w1 ⟨rfl, hb1⟩; replace hbw := grow_trans hbw hb1; clear hb1; obtain ⟨l0, l1, l2, l3, l4, l5⟩ := row6A ((HX.out _ hbw).trans HML.out))
                | (go_at_call 109; (with_reducible refine (HWa.out _).mono ?_); rintro y w1 ⟨rfl, hb1⟩; replace hbw := grow_trans hbw hb1; clear hb1; obtain ⟨l0, l1, l2, l3, l4, l5⟩ := row6A ((HX.out _ hbw).trans HML.out))
                | (go_at_call 109; (with_reducible refine (HWb.out _).mono ?_); rintro y w1 ⟨rfl, hb1⟩; replace hbw := grow_trans hbw hb1; clear hb1; obtain ⟨l0, l1, l2, l3, l4, l5⟩ := row6A ((HX.out _ hbw).trans HML.out))
                | (go_at_call 109; (with_reducible refine (HWn.out _).mono ?_); rintro y w1 ⟨rfl, hb1⟩; replace hbw := grow_trans hbw hb1; clear hb1; obtain ⟨l0, l1, l2, l3, l4, l5⟩ := row6A ((HX.out _ hbw).trans HML.out))
                | (go_at_call 109; (with_reducible refine (HWs.out _).mono ?_); rintro y w1 ⟨rfl, hb1⟩; replace hbw := grow_trans hbw hb1; clear hb1; obtain ⟨l0, l1, l2, l3, l4, l5⟩ := row6A ((HX.out _ hbw).trans HML.out)))
              go_ret
              exact ⟨by rw [HEQ.out]; rfl, grow_trans HBL.out hbw⟩
      · skip
        cases hn
        · cases zn
          · skip
            go_enter Tryz.func95, Tryz.ntmps95
            go_upto_region 1 with fail
            change Code.wp _ _ _ _ (w.alloc (.cells #[.string (mkB x.kind), .int .i64 x.d, .int .i64 x.a, .int .i64 x.b, .int .i64 x.num, .string (mkB x.name)] 71))
            rw [HWL.out]
            go_wp2_with (first
              | (go_at_call 105; (with_reducible refine (HH.out _).mono ?_); rintro y w1 ⟨rfl, hb1⟩; replace hbw := grow_trans hbw hb1; clear hb1; obtain ⟨l0, l1, l2, l3, l4, l5⟩ := row6A ((HX.out _ hbw).trans HML.out))
              | (go_at_call 109; (with_reducible refine (HWd.out _).mono ?_); rintro y w1 ⟨rfl, hb1⟩; replace hbw := grow_trans hbw hb1; clear hb1; obtain ⟨l0, l1, l2, l3, l4, l5⟩ := row6A ((HX.out _ hbw).trans HML.out))
              | (go_at_call 109; (with_reducible refine (HWa.out _).mono ?_); rintro y w1 ⟨rfl, hb1⟩; replace hbw := grow_trans hbw hb1; clear hb1; obtain ⟨l0, l1, l2, l3, l4, l5⟩ := row6A ((HX.out _ hbw).trans HML.out))
              | (go_at_call 109; (with_reducible refine (HWb.out _).mono ?_); rintro y w1 ⟨rfl, hb1⟩; replace hbw := grow_trans hbw hb1; clear hb1; obtain ⟨l0, l1, l2, l3, l4, l5⟩ := row6A ((HX.out _ hbw).trans HML.out))
              | (go_at_call 109; (with_reducible refine (HWn.out _).mono ?_); rintro y w1 ⟨rfl, hb1⟩; replace hbw := grow_trans hbw hb1; clear hb1; obtain ⟨l0, l1, l2, l3, l4, l5⟩ := row6A ((HX.out _ hbw).trans HML.out))
              | (go_at_call 109; (with_reducible refine (HWs.out _).mono ?_); rintro y w1 ⟨rfl, hb1⟩; replace hbw := grow_trans hbw hb1; clear hb1; obtain ⟨l0, l1, l2, l3, l4, l5⟩ := row6A ((HX.out _ hbw).trans HML.out)))
            go_ret
            exact ⟨by rw [HEQ.out]; rfl, grow_trans HBL.out hbw⟩
          · skip
            cases hs
            · cases zs
              · skip
                go_enter Tryz.func95, Tryz.ntmps95
                go_upto_region 1 with fail
                change Code.wp _ _ _ _ (w.alloc (.cells #[.string (mkB x.kind), .int .i64 x.d, .int .i64 x.a, .int .i64 x.b, .int .i64 x.num, .string (mkB x.name)] 71))
                rw [HWL.out]
                go_wp2_with (first
                  | (go_at_call 105; (with_reducible refine (HH.out _).mono ?_); rintro y w1 ⟨rfl, hb1⟩; replace hbw := grow_trans hbw hb1; clear hb1; obtain ⟨l0, l1, l2, l3, l4, l5⟩ := row6A ((HX.out _ hbw).trans HML.out))
                  | (go_at_call 109; (with_reducible refine (HWd.out _).mono ?_); rintro y w1 ⟨rfl, hb1⟩; replace hbw := grow_trans hbw hb1; clear hb1; obtain ⟨l0, l1, l2, l3, l4, l5⟩ := row6A ((HX.out _ hbw).trans HML.out))
                  | (go_at_call 109; (with_reducible refine (HWa.out _).mono ?_); rintro y w1 ⟨rfl, hb1⟩; replace hbw := grow_trans hbw hb1; clear hb1; obtain ⟨l0, l1, l2, l3, l4, l5⟩ := row6A ((HX.out _ hbw).trans HML.out))
                  | (go_at_call 109; (with_reducible refine (HWb.out _).mono ?_); rintro y w1 ⟨rfl, hb1⟩; replace hbw := grow_trans hbw hb1; clear hb1; obtain ⟨l0, l1, l2, l3, l4, l5⟩ := row6A ((HX.out _ hbw).trans HML.out))
                  | (go_at_call 109; (with_reducible refine (HWn.out _).mono ?_); rintro y w1 ⟨rfl, hb1⟩; replace hbw := grow_trans hbw hb1; clear hb1; obtain ⟨l0, l1, l2, l3, l4, l5⟩ := row6A ((HX.out _ hbw).trans HML.out))
                  | (go_at_call 109; (with_reducible refine (HWs.out _).mono ?_); rintro y w1 ⟨rfl, hb1⟩; replace hbw := grow_trans hbw hb1; clear hb1; obtain ⟨l0, l1, l2, l3, l4, l5⟩ := row6A ((HX.out _ hbw).trans HML.out)))
                go_ret
                exact ⟨by rw [HEQ.out]; rfl, grow_trans HBL.out hbw⟩
              · skip
                go_enter Tryz.func95, Tryz.ntmps95
                go_upto_region 1 with fail
                change Code.wp _ _ _ _ (w.alloc (.cells #[.string (mkB x.kind), .int .i64 x.d, .int .i64 x.a, .int .i64 x.b, .int .i64 x.num, .string (mkB x.name)] 71))
                rw [HWL.out]
                go_wp2_with (first
                  | (go_at_call 105; (with_reducible refine (HH.out _).mono ?_); rintro y w1 ⟨rfl, hb1⟩; replace hbw := grow_trans hbw hb1; clear hb1; obtain ⟨l0, l1, l2, l3, l4, l5⟩ := row6A ((HX.out _ hbw).trans HML.out))
                  | (go_at_call 109; (with_reducible refine (HWd.out _).mono ?_); rintro y w1 ⟨rfl, hb1⟩; replace hbw := grow_trans hbw hb1; clear hb1; obtain ⟨l0, l1, l2, l3, l4, l5⟩ := row6A ((HX.out _ hbw).trans HML.out))
                  | (go_at_call 109; (with_reducible refine (HWa.out _).mono ?_); rintro y w1 ⟨rfl, hb1⟩; replace hbw := grow_trans hbw hb1; clear hb1; obtain ⟨l0, l1, l2, l3, l4, l5⟩ := row6A ((HX.out _ hbw).trans HML.out))
                  | (go_at_call 109; (with_reducible refine (HWb.out _).mono ?_); rintro y w1 ⟨rfl, hb1⟩; replace hbw := grow_trans hbw hb1; clear hb1; obtain ⟨l0, l1, l2, l3, l4, l5⟩ := row6A ((HX.out _ hbw).trans HML.out))
                  | (go_at_call 109; (with_reducible refine (HWn.out _).mono ?_); rintro y w1 ⟨rfl, hb1⟩; replace hbw := grow_trans hbw hb1; clear hb1; obtain ⟨l0, l1, l2, l3, l4, l5⟩ := row6A ((HX.out _ hbw).trans HML.out))
                  | (go_at_call 109; (with_reducible refine (HWs.out _).mono ?_); rintro y w1 ⟨rfl, hb1⟩; replace hbw := grow_trans hbw hb1; clear hb1; obtain ⟨l0, l1, l2, l3, l4, l5⟩ := row6A ((HX.out _ hbw).trans HML.out)))
                go_ret
                exact ⟨by rw [HEQ.out]; rfl, grow_trans HBL.out hbw⟩
            · skip
              go_enter Tryz.func95, Tryz.ntmps95
              go_upto_region 1 with fail
              change Code.wp _ _ _ _ (w.alloc (.cells #[.string (mkB x.kind), .int .i64 x.d, .int .i64 x.a, .int .i64 x.b, .int .i64 x.num, .string (mkB x.name)] 71))
              rw [HWL.out]
              go_wp2_with (first
                | (go_at_call 105; (with_reducible refine (HH.out _).mono ?_); rintro y w1 ⟨rfl, hb1⟩; replace hbw := grow_trans hbw hb1; clear hb1; obtain ⟨l0, l1, l2, l3, l4, l5⟩ := row6A ((HX.out _ hbw).trans HML.out))
                | (go_at_call 109; (with_reducible refine (HWd.out _).mono ?_); rintro y w1 ⟨rfl, hb1⟩; replace hbw := grow_trans hbw hb1; clear hb1; obtain ⟨l0, l1, l2, l3, l4, l5⟩ := row6A ((HX.out _ hbw).trans HML.out))
                | (go_at_call 109; (with_reducible refine (HWa.out _).mono ?_); rintro y w1 ⟨rfl, hb1⟩; replace hbw := grow_trans hbw hb1; clear hb1; obtain ⟨l0, l1, l2, l3, l4, l5⟩ := row6A ((HX.out _ hbw).trans HML.out))
                | (go_at_call 109; (with_reducible refine (HWb.out _).mono ?_); rintro y w1 ⟨rfl, hb1⟩; replace hbw := grow_trans hbw hb1; clear hb1; obtain ⟨l0, l1, l2, l3, l4, l5⟩ := row6A ((HX.out _ hbw).trans HML.out))
                | (go_at_call 109; (with_reducible refine (HWn.out _).mono ?_); rintro y w1 ⟨rfl, hb1⟩; replace hbw := grow_trans hbw hb1; clear hb1; obtain ⟨l0, l1, l2, l3, l4, l5⟩ := row6A ((HX.out _ hbw).trans HML.out))
                | (go_at_call 109; (with_reducible refine (HWs.out _).mono ?_); rintro y w1 ⟨rfl, hb1⟩; replace hbw := grow_trans hbw hb1; clear hb1; obtain ⟨l0, l1, l2, l3, l4, l5⟩ := row6A ((HX.out _ hbw).trans HML.out)))
              go_ret
              exact ⟨by rw [HEQ.out]; rfl, grow_trans HBL.out hbw⟩
        · skip
          cases hs
          · cases zs
            · skip
              go_enter Tryz.func95, Tryz.ntmps95
              go_upto_region 1 with fail
              change Code.wp _ _ _ _ (w.alloc (.cells #[.string (mkB x.kind), .int .i64 x.d, .int .i64 x.a, .int .i64 x.b, .int .i64 x.num, .string (mkB x.name)] 71))
              rw [HWL.out]
              go_wp2_with (first
                | (go_at_call 105; (with_reducible refine (HH.out _).mono ?_); rintro y w1 ⟨rfl, hb1⟩; replace hbw := grow_trans hbw hb1; clear hb1; obtain ⟨l0, l1, l2, l3, l4, l5⟩ := row6A ((HX.out _ hbw).trans HML.out))
                | (go_at_call 109; (with_reducible refine (HWd.out _).mono ?_); rintro y w1 ⟨rfl, hb1⟩; replace hbw := grow_trans hbw hb1; clear hb1; obtain ⟨l0, l1, l2, l3, l4, l5⟩ := row6A ((HX.out _ hbw).trans HML.out))
                | (go_at_call 109; (with_reducible refine (HWa.out _).mono ?_); rintro y w1 ⟨rfl, hb1⟩; replace hbw := grow_trans hbw hb1; clear hb1; obtain ⟨l0, l1, l2, l3, l4, l5⟩ := row6A ((HX.out _ hbw).trans HML.out))
                | (go_at_call 109; (with_reducible refine (HWb.out _).mono ?_); rintro y w1 ⟨rfl, hb1⟩; replace hbw := grow_trans hbw hb1; clear hb1; obtain ⟨l0, l1, l2, l3, l4, l5⟩ := row6A ((HX.out _ hbw).trans HML.out))
                | (go_at_call 109; (with_reducible refine (HWn.out _).mono ?_); rintro y w1 ⟨rfl, hb1⟩; replace hbw := grow_trans hbw hb1; clear hb1; obtain ⟨l0, l1, l2, l3, l4, l5⟩ := row6A ((HX.out _ hbw).trans HML.out))
                | (go_at_call 109; (with_reducible refine (HWs.out _).mono ?_); rintro y w1 ⟨rfl, hb1⟩; replace hbw := grow_trans hbw hb1; clear hb1; obtain ⟨l0, l1, l2, l3, l4, l5⟩ := row6A ((HX.out _ hbw).trans HML.out)))
              go_ret
              exact ⟨by rw [HEQ.out]; rfl, grow_trans HBL.out hbw⟩
            · skip
              go_enter Tryz.func95, Tryz.ntmps95
              go_upto_region 1 with fail
              change Code.wp _ _ _ _ (w.alloc (.cells #[.string (mkB x.kind), .int .i64 x.d, .int .i64 x.a, .int .i64 x.b, .int .i64 x.num, .string (mkB x.name)] 71))
              rw [HWL.out]
              go_wp2_with (first
                | (go_at_call 105; (with_reducible refine (HH.out _).mono ?_); rintro y w1 ⟨rfl, hb1⟩; replace hbw := grow_trans hbw hb1; clear hb1; obtain ⟨l0, l1, l2, l3, l4, l5⟩ := row6A ((HX.out _ hbw).trans HML.out))
                | (go_at_call 109; (with_reducible refine (HWd.out _).mono ?_); rintro y w1 ⟨rfl, hb1⟩; replace hbw := grow_trans hbw hb1; clear hb1; obtain ⟨l0, l1, l2, l3, l4, l5⟩ := row6A ((HX.out _ hbw).trans HML.out))
                | (go_at_call 109; (with_reducible refine (HWa.out _).mono ?_); rintro y w1 ⟨rfl, hb1⟩; replace hbw := grow_trans hbw hb1; clear hb1; obtain ⟨l0, l1, l2, l3, l4, l5⟩ := row6A ((HX.out _ hbw).trans HML.out))
                | (go_at_call 109; (with_reducible refine (HWb.out _).mono ?_); rintro y w1 ⟨rfl, hb1⟩; replace hbw := grow_trans hbw hb1; clear hb1; obtain ⟨l0, l1, l2, l3, l4, l5⟩ := row6A ((HX.out _ hbw).trans HML.out))
                | (go_at_call 109; (with_reducible refine (HWn.out _).mono ?_); rintro y w1 ⟨rfl, hb1⟩; replace hbw := grow_trans hbw hb1; clear hb1; obtain ⟨l0, l1, l2, l3, l4, l5⟩ := row6A ((HX.out _ hbw).trans HML.out))
                | (go_at_call 109; (with_reducible refine (HWs.out _).mono ?_); rintro y w1 ⟨rfl, hb1⟩; replace hbw := grow_trans hbw hb1; clear hb1; obtain ⟨l0, l1, l2, l3, l4, l5⟩ := row6A ((HX.out _ hbw).trans HML.out)))
              go_ret
              exact ⟨by rw [HEQ.out]; rfl, grow_trans HBL.out hbw⟩
          · skip
            go_enter Tryz.func95, Tryz.ntmps95
            go_upto_region 1 with fail
            change Code.wp _ _ _ _ (w.alloc (.cells #[.string (mkB x.kind), .int .i64 x.d, .int .i64 x.a, .int .i64 x.b, .int .i64 x.num, .string (mkB x.name)] 71))
            rw [HWL.out]
            go_wp2_with (first
              | (go_at_call 105; (with_reducible refine (HH.out _).mono ?_); rintro y w1 ⟨rfl, hb1⟩; replace hbw := grow_trans hbw hb1; clear hb1; obtain ⟨l0, l1, l2, l3, l4, l5⟩ := row6A ((HX.out _ hbw).trans HML.out))
              | (go_at_call 109; (with_reducible refine (HWd.out _).mono ?_); rintro y w1 ⟨rfl, hb1⟩; replace hbw := grow_trans hbw hb1; clear hb1; obtain ⟨l0, l1, l2, l3, l4, l5⟩ := row6A ((HX.out _ hbw).trans HML.out))
              | (go_at_call 109; (with_reducible refine (HWa.out _).mono ?_); rintro y w1 ⟨rfl, hb1⟩; replace hbw := grow_trans hbw hb1; clear hb1; obtain ⟨l0, l1, l2, l3, l4, l5⟩ := row6A ((HX.out _ hbw).trans HML.out))
              | (go_at_call 109; (with_reducible refine (HWb.out _).mono ?_); rintro y w1 ⟨rfl, hb1⟩; replace hbw := grow_trans hbw hb1; clear hb1; obtain ⟨l0, l1, l2, l3, l4, l5⟩ := row6A ((HX.out _ hbw).trans HML.out))
              | (go_at_call 109; (with_reducible refine (HWn.out _).mono ?_); rintro y w1 ⟨rfl, hb1⟩; replace hbw := grow_trans hbw hb1; clear hb1; obtain ⟨l0, l1, l2, l3, l4, l5⟩ := row6A ((HX.out _ hbw).trans HML.out))
              | (go_at_call 109; (with_reducible refine (HWs.out _).mono ?_); rintro y w1 ⟨rfl, hb1⟩; replace hbw := grow_trans hbw hb1; clear hb1; obtain ⟨l0, l1, l2, l3, l4, l5⟩ := row6A ((HX.out _ hbw).trans HML.out)))
            go_ret
            exact ⟨by rw [HEQ.out]; rfl, grow_trans HBL.out hbw⟩
end Go.Proofs.YtonnhechjbdenaaGreatDoor
