import Derived.Test.YtonnhechjbdenaaGreatDoorBn14
set_option linter.unusedVariables false
set_option linter.unusedSimpArgs false
namespace Go.Proofs.YtonnhechjbdenaaGreatDoor
open Go.RowKit

/-! an instruction's number (printed by gen_alchk.py) -/
def numIn (m n : Int) : Bool := decide (0 ≤ n) && decide (n < m)
theorem number_eq (c : PCd) (x : PLow) {n : Nat} (hn : kindN x.kind = n) : lowNumber c x = if n = 1 then numIn c.params x.num else if n = 3 then numIn c.slots x.num else if n = 7 then numIn c.slots x.num else if n = 8 then numIn 4 x.num else if n = 9 then (decide (0 ≤ x.num) && decide (x.num ≤ 4)) else true := by
  unfold lowNumber numIn
  have hk := kind_lt x.kind
  rw [hn] at hk ⊢
  have : n = 0 ∨ n = 1 ∨ n = 2 ∨ n = 3 ∨ n = 4 ∨ n = 5 ∨ n = 6 ∨ n = 7 ∨ n = 8 ∨ n = 9 ∨ n = 10 ∨ n = 11 := by omega
  rcases this with rfl | rfl | rfl | rfl | rfl | rfl | rfl | rfl | rfl | rfl | rfl | rfl <;> rfl
set_option maxHeartbeats 4000000 in
set_option maxRecDepth 100000 in
theorem number_any (c : PCd) (A : Option Addr) (ca : Nat) (x : PLow) (w : World) : Calls Tryz.prog 108 #[cdV c A ca, lowV x] w (Ret (.bool (lowNumber c x)) w) := by
  obtain ⟨wC, hwC⟩ : ∃ wC, w.alloc (.cells #[.string (mkB c.name), .int .i64 c.params, .int .i64 c.slots, .slice A c.blocks.length ca] 32) = wC := ⟨_, rfl⟩
  obtain ⟨wL, hwL⟩ : ∃ wL, wC.alloc (.cells #[.string (mkB x.kind), .int .i64 x.d, .int .i64 x.a, .int .i64 x.b, .int .i64 x.num, .string (mkB x.name)] 71) = wL := ⟨_, rfl⟩
  have hbC : Below w.heap.size w wC := by rw [← hwC]; exact grow_alloc (grow_refl w) _
  have hbL : Below wC.heap.size wC wL := by rw [← hwL]; exact grow_alloc (grow_refl wC) _
  have hmC : wC.heap[w.heap.size]? = some (.cells #[.string (mkB c.name), .int .i64 c.params, .int .i64 c.slots, .slice A c.blocks.length ca] 32 (0, 0)) := by rw [← hwC]; exact heap_alloc_new w _
  have hsz : wC.heap.size = w.heap.size + 1 := by rw [← hwC]; simp
  have hmL : wL.heap[w.heap.size + 1]? = some (.cells #[.string (mkB x.kind), .int .i64 x.d, .int .i64 x.a, .int .i64 x.b, .int .i64 x.num, .string (mkB x.name)] 71 (0, 0)) := by rw [← hwL, ← hsz]; exact heap_alloc_new wC _
  have hmC2 := (hbL.block _ (Array.getElem?_eq_some_iff.1 hmC).1).trans hmC
  have HX : Hid (∀ w', Below wL.heap.size wL w' → (w'.cell? ⟨w.heap.size, 0, none⟩ = some (.string (mkB c.name)) ∧ w'.cell? ⟨w.heap.size, 1, none⟩ = some (.int .i64 c.params) ∧ w'.cell? ⟨w.heap.size, 2, none⟩ = some (.int .i64 c.slots) ∧ w'.cell? ⟨w.heap.size, 3, none⟩ = some (.slice A c.blocks.length ca)) ∧
      (w'.cell? ⟨w.heap.size + 1, 0, none⟩ = some (.string (mkB x.kind)) ∧ w'.cell? ⟨w.heap.size + 1, 1, none⟩ = some (.int .i64 x.d) ∧ w'.cell? ⟨w.heap.size + 1, 2, none⟩ = some (.int .i64 x.a) ∧ w'.cell? ⟨w.heap.size + 1, 3, none⟩ = some (.int .i64 x.b) ∧ w'.cell? ⟨w.heap.size + 1, 4, none⟩ = some (.int .i64 x.num) ∧ w'.cell? ⟨w.heap.size + 1, 5, none⟩ = some (.string (mkB x.name))) ∧ Below w.heap.size w w') := fun w' hb =>
    ⟨row4A ((hb.block _ (Array.getElem?_eq_some_iff.1 hmC2).1).trans hmC2), row6A ((hb.block _ (Array.getElem?_eq_some_iff.1 hmL).1).trans hmL), grow_trans (grow_trans hbC hbL) hb⟩
  have HWC := Lib.hid hwC
  have HWL := Lib.hid hwL
  have HSZ := Lib.hid hsz
  obtain ⟨⟨i0, i1, i2, i3⟩, ⟨l0, l1, l2, l3, l4, l5⟩, -⟩ := HX.out wL (grow_refl _)
  clear hwC hwL hbC hbL hmC hmL hmC2 hsz

  have e1 : ((mkB x.kind).toList == [112, 97, 114, 97, 109]) = (x.kind == kParam) := by rw [mkB_toList]; rfl
  have e3 : ((mkB x.kind).toList == [108, 111, 97, 100]) = (x.kind == kLoad) := by rw [mkB_toList]; rfl
  have e7 : ((mkB x.kind).toList == [115, 116, 111, 114, 101]) = (x.kind == kStore) := by rw [mkB_toList]; rfl
  have e8 : ((mkB x.kind).toList == [97, 114, 103]) = (x.kind == kArg) := by rw [mkB_toList]; rfl
  have e9 : ((mkB x.kind).toList == [99, 97, 108, 108]) = (x.kind == kCall) := by rw [mkB_toList]; rfl
  obtain ⟨n, hn⟩ : ∃ n, kindN x.kind = n := ⟨_, rfl⟩
  have HN := Lib.hid (number_eq c x hn)
  have hk := kind_of hn
  rw [hk.1] at e1
  rw [hk.2.2.1] at e3
  rw [hk.2.2.2.2.2.2.1] at e7
  rw [hk.2.2.2.2.2.2.2.1] at e8
  rw [hk.2.2.2.2.2.2.2.2.1] at e9
  unfold cdV lowV
  clear hk hn
  by_cases g1 : n = 1
  · subst g1
    rcases Classical.em (0 ≤ x.num) with q1 | q1
    · rcases Classical.em (x.num < c.params) with q2 | q2
      · have HF : Hid (lowNumber c x = true) := show _ = _ by rw [HN.out]; simp [numIn, q1, q2]
        go_enter Tryz.func108, Tryz.ntmps108
        go_upto_region 1 with fail
        change Code.wp _ _ _ _ ((w.alloc (.cells #[.string (mkB c.name), .int .i64 c.params, .int .i64 c.slots, .slice A c.blocks.length ca] 32)).alloc (.cells #[.string (mkB x.kind), .int .i64 x.d, .int .i64 x.a, .int .i64 x.b, .int .i64 x.num, .string (mkB x.name)] 71))
        rw [HWC.out]
        rw [HWL.out]
        try rw [HSZ.out]
        go_wp2_with fail
        go_ret
        exact ⟨by rw [HF.out]; rfl, (HX.out wL (grow_refl _)).2.2⟩
      · have HF : Hid (lowNumber c x = false) := show _ = _ by rw [HN.out]; simp [numIn, q2]
        go_enter Tryz.func108, Tryz.ntmps108
        go_upto_region 1 with fail
        change Code.wp _ _ _ _ ((w.alloc (.cells #[.string (mkB c.name), .int .i64 c.params, .int .i64 c.slots, .slice A c.blocks.length ca] 32)).alloc (.cells #[.string (mkB x.kind), .int .i64 x.d, .int .i64 x.a, .int .i64 x.b, .int .i64 x.num, .string (mkB x.name)] 71))
        rw [HWC.out]
        rw [HWL.out]
        try rw [HSZ.out]
        go_wp2_with fail
        go_ret
        exact ⟨by rw [HF.out]; rfl, (HX.out wL (grow_refl _)).2.2⟩
    · have HF : Hid (lowNumber c x = false) := show _ = _ by rw [HN.out]; simp [numIn, q1]
      go_enter Tryz.func108, Tryz.ntmps108
      go_upto_region 1 with fail
      change Code.wp _ _ _ _ ((w.alloc (.cells #[.string (mkB c.name), .int .i64 c.params, .int .i64 c.slots, .slice A c.blocks.length ca] 32)).alloc (.cells #[.string (mkB x.kind), .int .i64 x.d, .int .i64 x.a, .int .i64 x.b, .int .i64 x.num, .string (mkB x.name)] 71))
      rw [HWC.out]
      rw [HWL.out]
      try rw [HSZ.out]
      go_wp2_with fail
      go_ret
      exact ⟨by rw [HF.out]; rfl, (HX.out wL (grow_refl _)).2.2⟩
  · rw [show (n == 1) = false from beq_eq_false_iff_ne.2 g1] at e1
    by_cases g3 : n = 3
    · subst g3
      rcases Classical.em (0 ≤ x.num) with q1 | q1
      · rcases Classical.em (x.num < c.slots) with q2 | q2
        · have HF : Hid (lowNumber c x = true) := show _ = _ by rw [HN.out]; simp [numIn, q1, q2]
          go_enter Tryz.func108, Tryz.ntmps108
          go_upto_region 1 with fail
          change Code.wp _ _ _ _ ((w.alloc (.cells #[.string (mkB c.name), .int .i64 c.params, .int .i64 c.slots, .slice A c.blocks.length ca] 32)).alloc (.cells #[.string (mkB x.kind), .int .i64 x.d, .int .i64 x.a, .int .i64 x.b, .int .i64 x.num, .string (mkB x.name)] 71))
          rw [HWC.out]
          rw [HWL.out]
          try rw [HSZ.out]
          go_wp2_with fail
          go_ret
          exact ⟨by rw [HF.out]; rfl, (HX.out wL (grow_refl _)).2.2⟩
        · have HF : Hid (lowNumber c x = false) := show _ = _ by rw [HN.out]; simp [numIn, q2]
          go_enter Tryz.func108, Tryz.ntmps108
          go_upto_region 1 with fail
          change Code.wp _ _ _ _ ((w.alloc (.cells #[.string (mkB c.name), .int .i64 c.params, .int .i64 c.slots, .slice A c.blocks.length ca] 32)).alloc (.cells #[.string (mkB x.kind), .int .i64 x.d, .int .i64 x.a, .int .i64 x.b, .int .i64 x.num, .string (mkB x.name)] 71))
          rw [HWC.out]
          rw [HWL.out]
          try rw [HSZ.out]
          go_wp2_with fail
          go_ret
          exact ⟨by rw [HF.out]; rfl, (HX.out wL (grow_refl _)).2.2⟩
      · have HF : Hid (lowNumber c x = false) := show _ = _ by rw [HN.out]; simp [numIn, q1]
        go_enter Tryz.func108, Tryz.ntmps108
        go_upto_region 1 with fail
        change Code.wp _ _ _ _ ((w.alloc (.cells #[.string (mkB c.name), .int .i64 c.params, .int .i64 c.slots, .slice A c.blocks.length ca] 32)).alloc (.cells #[.string (mkB x.kind), .int .i64 x.d, .int .i64 x.a, .int .i64 x.b, .int .i64 x.num, .string (mkB x.name)] 71))
        rw [HWC.out]
        rw [HWL.out]
        try rw [HSZ.out]
        go_wp2_with fail
        go_ret
        exact ⟨by rw [HF.out]; rfl, (HX.out wL (grow_refl _)).2.2⟩
    · rw [show (n == 3) = false from beq_eq_false_iff_ne.2 g3] at e3
      by_cases g7 : n = 7
      · subst g7
        rcases Classical.em (0 ≤ x.num) with q1 | q1
        · rcases Classical.em (x.num < c.slots) with q2 | q2
          · have HF : Hid (lowNumber c x = true) := show _ = _ by rw [HN.out]; simp [numIn, q1, q2]
            go_enter Tryz.func108, Tryz.ntmps108
            go_upto_region 1 with fail
            change Code.wp _ _ _ _ ((w.alloc (.cells #[.string (mkB c.name), .int .i64 c.params, .int .i64 c.slots, .slice A c.blocks.length ca] 32)).alloc (.cells #[.string (mkB x.kind), .int .i64 x.d, .int .i64 x.a, .int .i64 x.b, .int .i64 x.num, .string (mkB x.name)] 71))
            rw [HWC.out]
            rw [HWL.out]
            try rw [HSZ.out]
            go_wp2_with fail
            go_ret
            exact ⟨by rw [HF.out]; rfl, (HX.out wL (grow_refl _)).2.2⟩
          · have HF : Hid (lowNumber c x = false) := show _ = _ by rw [HN.out]; simp [numIn, q2]
            go_enter Tryz.func108, Tryz.ntmps108
            go_upto_region 1 with fail
            change Code.wp _ _ _ _ ((w.alloc (.cells #[.string (mkB c.name), .int .i64 c.params, .int .i64 c.slots, .slice A c.blocks.length ca] 32)).alloc (.cells #[.string (mkB x.kind), .int .i64 x.d, .int .i64 x.a, .int .i64 x.b, .int .i64 x.num, .string (mkB x.name)] 71))
            rw [HWC.out]
            rw [HWL.out]
            try rw [HSZ.out]
            go_wp2_with fail
            go_ret
            exact ⟨by rw [HF.out]; rfl, (HX.out wL (grow_refl _)).2.2⟩
        · have HF : Hid (lowNumber c x = false) := show _ = _ by rw [HN.out]; simp [numIn, q1]
          go_enter Tryz.func108, Tryz.ntmps108
          go_upto_region 1 with fail
          change Code.wp _ _ _ _ ((w.alloc (.cells #[.string (mkB c.name), .int .i64 c.params, .int .i64 c.slots, .slice A c.blocks.length ca] 32)).alloc (.cells #[.string (mkB x.kind), .int .i64 x.d, .int .i64 x.a, .int .i64 x.b, .int .i64 x.num, .string (mkB x.name)] 71))
          rw [HWC.out]
          rw [HWL.out]
          try rw [HSZ.out]
          go_wp2_with fail
          go_ret
          exact ⟨by rw [HF.out]; rfl, (HX.out wL (grow_refl _)).2.2⟩
      · rw [show (n == 7) = false from beq_eq_false_iff_ne.2 g7] at e7
        by_cases g8 : n = 8
        · subst g8
          rcases Classical.em (0 ≤ x.num) with q1 | q1
          · rcases Classical.em (x.num < 4) with q2 | q2
            · have HF : Hid (lowNumber c x = true) := show _ = _ by rw [HN.out]; simp [numIn, q1, q2]
              go_enter Tryz.func108, Tryz.ntmps108
              go_upto_region 1 with fail
              change Code.wp _ _ _ _ ((w.alloc (.cells #[.string (mkB c.name), .int .i64 c.params, .int .i64 c.slots, .slice A c.blocks.length ca] 32)).alloc (.cells #[.string (mkB x.kind), .int .i64 x.d, .int .i64 x.a, .int .i64 x.b, .int .i64 x.num, .string (mkB x.name)] 71))
              rw [HWC.out]
              rw [HWL.out]
              try rw [HSZ.out]
              go_wp2_with fail
              go_ret
              exact ⟨by rw [HF.out]; rfl, (HX.out wL (grow_refl _)).2.2⟩
            · have HF : Hid (lowNumber c x = false) := show _ = _ by rw [HN.out]; simp [numIn, q2]
              go_enter Tryz.func108, Tryz.ntmps108
              go_upto_region 1 with fail
              change Code.wp _ _ _ _ ((w.alloc (.cells #[.string (mkB c.name), .int .i64 c.params, .int .i64 c.slots, .slice A c.blocks.length ca] 32)).alloc (.cells #[.string (mkB x.kind), .int .i64 x.d, .int .i64 x.a, .int .i64 x.b, .int .i64 x.num, .string (mkB x.name)] 71))
              rw [HWC.out]
              rw [HWL.out]
              try rw [HSZ.out]
              go_wp2_with fail
              go_ret
              exact ⟨by rw [HF.out]; rfl, (HX.out wL (grow_refl _)).2.2⟩
          · have HF : Hid (lowNumber c x = false) := show _ = _ by rw [HN.out]; simp [numIn, q1]
            go_enter Tryz.func108, Tryz.ntmps108
            go_upto_region 1 with fail
            change Code.wp _ _ _ _ ((w.alloc (.cells #[.string (mkB c.name), .int .i64 c.params, .int .i64 c.slots, .slice A c.blocks.length ca] 32)).alloc (.cells #[.string (mkB x.kind), .int .i64 x.d, .int .i64 x.a, .int .i64 x.b, .int .i64 x.num, .string (mkB x.name)] 71))
            rw [HWC.out]
            rw [HWL.out]
            try rw [HSZ.out]
            go_wp2_with fail
            go_ret
            exact ⟨by rw [HF.out]; rfl, (HX.out wL (grow_refl _)).2.2⟩
        · rw [show (n == 8) = false from beq_eq_false_iff_ne.2 g8] at e8
          by_cases g9 : n = 9
          · subst g9
            rcases Classical.em (0 ≤ x.num) with q1 | q1
            · rcases Classical.em (x.num ≤ 4) with q2 | q2
              · have HF : Hid (lowNumber c x = true) := show _ = _ by rw [HN.out]; simp [numIn, q1, q2]
                go_enter Tryz.func108, Tryz.ntmps108
                go_upto_region 1 with fail
                change Code.wp _ _ _ _ ((w.alloc (.cells #[.string (mkB c.name), .int .i64 c.params, .int .i64 c.slots, .slice A c.blocks.length ca] 32)).alloc (.cells #[.string (mkB x.kind), .int .i64 x.d, .int .i64 x.a, .int .i64 x.b, .int .i64 x.num, .string (mkB x.name)] 71))
                rw [HWC.out]
                rw [HWL.out]
                try rw [HSZ.out]
                go_wp2_with fail
                go_ret
                exact ⟨by rw [HF.out]; rfl, (HX.out wL (grow_refl _)).2.2⟩
              · have HF : Hid (lowNumber c x = false) := show _ = _ by rw [HN.out]; simp [numIn, q2]
                go_enter Tryz.func108, Tryz.ntmps108
                go_upto_region 1 with fail
                change Code.wp _ _ _ _ ((w.alloc (.cells #[.string (mkB c.name), .int .i64 c.params, .int .i64 c.slots, .slice A c.blocks.length ca] 32)).alloc (.cells #[.string (mkB x.kind), .int .i64 x.d, .int .i64 x.a, .int .i64 x.b, .int .i64 x.num, .string (mkB x.name)] 71))
                rw [HWC.out]
                rw [HWL.out]
                try rw [HSZ.out]
                go_wp2_with fail
                go_ret
                exact ⟨by rw [HF.out]; rfl, (HX.out wL (grow_refl _)).2.2⟩
            · have HF : Hid (lowNumber c x = false) := show _ = _ by rw [HN.out]; simp [numIn, q1]
              go_enter Tryz.func108, Tryz.ntmps108
              go_upto_region 1 with fail
              change Code.wp _ _ _ _ ((w.alloc (.cells #[.string (mkB c.name), .int .i64 c.params, .int .i64 c.slots, .slice A c.blocks.length ca] 32)).alloc (.cells #[.string (mkB x.kind), .int .i64 x.d, .int .i64 x.a, .int .i64 x.b, .int .i64 x.num, .string (mkB x.name)] 71))
              rw [HWC.out]
              rw [HWL.out]
              try rw [HSZ.out]
              go_wp2_with fail
              go_ret
              exact ⟨by rw [HF.out]; rfl, (HX.out wL (grow_refl _)).2.2⟩
          · rw [show (n == 9) = false from beq_eq_false_iff_ne.2 g9] at e9
            have HF : Hid (lowNumber c x = true) := show _ = _ by rw [HN.out]; simp [g1, g3, g7, g8, g9]
            go_enter Tryz.func108, Tryz.ntmps108
            go_upto_region 1 with fail
            change Code.wp _ _ _ _ ((w.alloc (.cells #[.string (mkB c.name), .int .i64 c.params, .int .i64 c.slots, .slice A c.blocks.length ca] 32)).alloc (.cells #[.string (mkB x.kind), .int .i64 x.d, .int .i64 x.a, .int .i64 x.b, .int .i64 x.num, .string (mkB x.name)] 71))
            rw [HWC.out]
            rw [HWL.out]
            try rw [HSZ.out]
            go_wp2_with fail
            go_ret
            exact ⟨by rw [HF.out]; rfl, (HX.out wL (grow_refl _)).2.2⟩
end Go.Proofs.YtonnhechjbdenaaGreatDoor

namespace Go.Proofs.YtonnhechjbdenaaGreatDoor
open Go.RowKit

/-! an instruction within its bounds (printed by gen_alchk.py) -/
set_option maxHeartbeats 8000000 in
set_option maxRecDepth 100000 in
theorem within_any (c : PCd) (A : Option Addr) (ca : Nat) (x : PLow) (w : World) : Calls Tryz.prog 94 #[cdV c A ca, lowV x] w (Ret (.bool (lowWithin c x)) w) := by
  obtain ⟨wC, hwC⟩ : ∃ wC, w.alloc (.cells #[.string (mkB c.name), .int .i64 c.params, .int .i64 c.slots, .slice A c.blocks.length ca] 32) = wC := ⟨_, rfl⟩
  obtain ⟨wL, hwL⟩ : ∃ wL, wC.alloc (.cells #[.string (mkB x.kind), .int .i64 x.d, .int .i64 x.a, .int .i64 x.b, .int .i64 x.num, .string (mkB x.name)] 71) = wL := ⟨_, rfl⟩
  have hbC : Below w.heap.size w wC := by rw [← hwC]; exact grow_alloc (grow_refl w) _
  have hbL : Below wC.heap.size wC wL := by rw [← hwL]; exact grow_alloc (grow_refl wC) _
  have hmC : wC.heap[w.heap.size]? = some (.cells #[.string (mkB c.name), .int .i64 c.params, .int .i64 c.slots, .slice A c.blocks.length ca] 32 (0, 0)) := by rw [← hwC]; exact heap_alloc_new w _
  have hsz : wC.heap.size = w.heap.size + 1 := by rw [← hwC]; simp
  have hmL : wL.heap[w.heap.size + 1]? = some (.cells #[.string (mkB x.kind), .int .i64 x.d, .int .i64 x.a, .int .i64 x.b, .int .i64 x.num, .string (mkB x.name)] 71 (0, 0)) := by rw [← hwL, ← hsz]; exact heap_alloc_new wC _
  have hmC2 := (hbL.block _ (Array.getElem?_eq_some_iff.1 hmC).1).trans hmC
  have HX : Hid (∀ w', Below wL.heap.size wL w' → (w'.cell? ⟨w.heap.size, 0, none⟩ = some (.string (mkB c.name)) ∧ w'.cell? ⟨w.heap.size, 1, none⟩ = some (.int .i64 c.params) ∧ w'.cell? ⟨w.heap.size, 2, none⟩ = some (.int .i64 c.slots) ∧ w'.cell? ⟨w.heap.size, 3, none⟩ = some (.slice A c.blocks.length ca)) ∧
      (w'.cell? ⟨w.heap.size + 1, 0, none⟩ = some (.string (mkB x.kind)) ∧ w'.cell? ⟨w.heap.size + 1, 1, none⟩ = some (.int .i64 x.d) ∧ w'.cell? ⟨w.heap.size + 1, 2, none⟩ = some (.int .i64 x.a) ∧ w'.cell? ⟨w.heap.size + 1, 3, none⟩ = some (.int .i64 x.b) ∧ w'.cell? ⟨w.heap.size + 1, 4, none⟩ = some (.int .i64 x.num) ∧ w'.cell? ⟨w.heap.size + 1, 5, none⟩ = some (.string (mkB x.name))) ∧ Below w.heap.size w w') := fun w' hb =>
    ⟨row4A ((hb.block _ (Array.getElem?_eq_some_iff.1 hmC2).1).trans hmC2), row6A ((hb.block _ (Array.getElem?_eq_some_iff.1 hmL).1).trans hmL), grow_trans (grow_trans hbC hbL) hb⟩
  have HWC := Lib.hid hwC
  have HWL := Lib.hid hwL
  have HSZ := Lib.hid hsz
  obtain ⟨⟨i0, i1, i2, i3⟩, ⟨l0, l1, l2, l3, l4, l5⟩, -⟩ := HX.out wL (grow_refl _)
  clear hwC hwL hbC hbL hmC hmL hmC2 hsz
  obtain ⟨F, hF⟩ : ∃ F, kHas (kindN x.kind) = F := ⟨_, rfl⟩
  obtain ⟨z, hz⟩ : ∃ z, (kindN x.kind != 0) = z := ⟨_, rfl⟩
  obtain ⟨nb, hnb⟩ : ∃ b, lowNumber c x = b := ⟨_, rfl⟩
  obtain ⟨hd, hhd⟩ : ∃ b, lowHas x 100 = b := ⟨_, rfl⟩
  obtain ⟨ha, hha⟩ : ∃ b, lowHas x 97 = b := ⟨_, rfl⟩
  obtain ⟨hb, hhb⟩ : ∃ b, lowHas x 98 = b := ⟨_, rfl⟩
  obtain ⟨rd, hrd⟩ : ∃ b, regA x.d = b := ⟨_, rfl⟩
  obtain ⟨ra, hra⟩ : ∃ b, regA x.a = b := ⟨_, rfl⟩
  obtain ⟨rb, hrb⟩ : ∃ b, regA x.b = b := ⟨_, rfl⟩
  have HEQ : Hid (lowWithin c x = (nb && (!hd || rd) && (!ha || ra) && (!hb || rb))) := show _ = _ by unfold lowWithin; rw [hnb, hhd, hha, hhb, hrd, hra, hrb]
  have hlen : F.length ≤ 1000 := by
    rw [← hF]
    have hk := kind_lt x.kind
    generalize kindN x.kind = n at hk
    have : n = 0 ∨ n = 1 ∨ n = 2 ∨ n = 3 ∨ n = 4 ∨ n = 5 ∨ n = 6 ∨ n = 7 ∨ n = 8 ∨ n = 9 ∨ n = 10 ∨ n = 11 := by omega
    rcases this with rfl | rfl | rfl | rfl | rfl | rfl | rfl | rfl | rfl | rfl | rfl | rfl <;> decide
  have HH : Hid (∀ w', Calls Tryz.prog 105 #[.string (mkB x.kind)] w' (Ret (.tuple #[.string (mkB F), .bool z]) w')) := fun w' => by
    have := has_any x.kind w'
    rwa [hF, hz] at this
  have HNU : Hid (∀ w', Calls Tryz.prog 108 #[cdV c A ca, lowV x] w' (Ret (.bool nb) w')) := fun w' => by
    have := number_any c A ca x w'
    rwa [hnb] at this
  have HWD : Hid (∀ w', Calls Tryz.prog 109 #[.string (mkB F), .int .u8 100] w' (Ret (.bool hd) w')) := fun w' => by
    have := with_any F hlen 100 w'
    rwa [show hasL F 100 = hd by rw [← hF]; exact hhd] at this
  have HWA : Hid (∀ w', Calls Tryz.prog 109 #[.string (mkB F), .int .u8 97] w' (Ret (.bool ha) w')) := fun w' => by
    have := with_any F hlen 97 w'
    rwa [show hasL F 97 = ha by rw [← hF]; exact hha] at this
  have HWB : Hid (∀ w', Calls Tryz.prog 109 #[.string (mkB F), .int .u8 98] w' (Ret (.bool hb) w')) := fun w' => by
    have := with_any F hlen 98 w'
    rwa [show hasL F 98 = hb by rw [← hF]; exact hhb] at this
  have HRD : Hid (∀ w', Calls Tryz.prog 93 #[.int .i64 x.d] w' fun e w'' => e = .returned (.bool rd) ∧ w'' = w') := fun w' => hrd ▸ aregister_any x.d w'
  have HRA : Hid (∀ w', Calls Tryz.prog 93 #[.int .i64 x.a] w' fun e w'' => e = .returned (.bool ra) ∧ w'' = w') := fun w' => hra ▸ aregister_any x.a w'
  have HRB : Hid (∀ w', Calls Tryz.prog 93 #[.int .i64 x.b] w' fun e w'' => e = .returned (.bool rb) ∧ w'' = w') := fun w' => hrb ▸ aregister_any x.b w'
  have hbw : Below wL.heap.size wL wL := grow_refl wL
  unfold cdV lowV at HNU ⊢
  clear hF hz hnb hhd hha hhb hrd hra hrb hlen
  cases nb
  · skip
    go_enter Tryz.func94, Tryz.ntmps94
    go_upto_region 1 with fail
    change Code.wp _ _ _ _ ((w.alloc (.cells #[.string (mkB c.name), .int .i64 c.params, .int .i64 c.slots, .slice A c.blocks.length ca] 32)).alloc (.cells #[.string (mkB x.kind), .int .i64 x.d, .int .i64 x.a, .int .i64 x.b, .int .i64 x.num, .string (mkB x.name)] 71))
    rw [HWC.out]
    rw [HWL.out]
    try rw [HSZ.out]
    go_wp2_with (first
      | (go_at_call 105; (with_reducible refine (HH.out _).mono ?_); rintro y w1 ⟨rfl, hb1⟩; replace hbw := grow_trans hbw hb1; clear hb1; obtain ⟨⟨i0, i1, i2, i3⟩, ⟨l0, l1, l2, l3, l4, l5⟩, -⟩ := HX.out _ hbw)
      | (go_at_call 109; (with_reducible refine (HWD.out _).mono ?_); rintro y w1 ⟨rfl, hb1⟩; replace hbw := grow_trans hbw hb1; clear hb1; obtain ⟨⟨i0, i1, i2, i3⟩, ⟨l0, l1, l2, l3, l4, l5⟩, -⟩ := HX.out _ hbw)
      | (go_at_call 109; (with_reducible refine (HWA.out _).mono ?_); rintro y w1 ⟨rfl, hb1⟩; replace hbw := grow_trans hbw hb1; clear hb1; obtain ⟨⟨i0, i1, i2, i3⟩, ⟨l0, l1, l2, l3, l4, l5⟩, -⟩ := HX.out _ hbw)
      | (go_at_call 109; (with_reducible refine (HWB.out _).mono ?_); rintro y w1 ⟨rfl, hb1⟩; replace hbw := grow_trans hbw hb1; clear hb1; obtain ⟨⟨i0, i1, i2, i3⟩, ⟨l0, l1, l2, l3, l4, l5⟩, -⟩ := HX.out _ hbw)
      | (go_at_call 93; (with_reducible refine (HRD.out _).mono ?_); rintro y w1 ⟨rfl, rfl⟩)
      | (go_at_call 93; (with_reducible refine (HRA.out _).mono ?_); rintro y w1 ⟨rfl, rfl⟩)
      | (go_at_call 93; (with_reducible refine (HRB.out _).mono ?_); rintro y w1 ⟨rfl, rfl⟩)
      | (go_at_call 108; (with_reducible refine (HNU.out _).mono ?_); rintro y w1 ⟨rfl, hb1⟩; replace hbw := grow_trans hbw hb1; clear hb1; obtain ⟨⟨i0, i1, i2, i3⟩, ⟨l0, l1, l2, l3, l4, l5⟩, -⟩ := HX.out _ hbw))
    go_ret
    exact ⟨by rw [HEQ.out]; rfl, (HX.out _ hbw).2.2⟩
  · skip
    cases hd
    · skip
      cases ha
      · skip
        cases hb
        · skip
          go_enter Tryz.func94, Tryz.ntmps94
          go_upto_region 1 with fail
          change Code.wp _ _ _ _ ((w.alloc (.cells #[.string (mkB c.name), .int .i64 c.params, .int .i64 c.slots, .slice A c.blocks.length ca] 32)).alloc (.cells #[.string (mkB x.kind), .int .i64 x.d, .int .i64 x.a, .int .i64 x.b, .int .i64 x.num, .string (mkB x.name)] 71))
          rw [HWC.out]
          rw [HWL.out]
          try rw [HSZ.out]
          go_wp2_with (first
            | (go_at_call 105; (with_reducible refine (HH.out _).mono ?_); rintro y w1 ⟨rfl, hb1⟩; replace hbw := grow_trans hbw hb1; clear hb1; obtain ⟨⟨i0, i1, i2, i3⟩, ⟨l0, l1, l2, l3, l4, l5⟩, -⟩ := HX.out _ hbw)
            | (go_at_call 109; (with_reducible refine (HWD.out _).mono ?_); rintro y w1 ⟨rfl, hb1⟩; replace hbw := grow_trans hbw hb1; clear hb1; obtain ⟨⟨i0, i1, i2, i3⟩, ⟨l0, l1, l2, l3, l4, l5⟩, -⟩ := HX.out _ hbw)
            | (go_at_call 109; (with_reducible refine (HWA.out _).mono ?_); rintro y w1 ⟨rfl, hb1⟩; replace hbw := grow_trans hbw hb1; clear hb1; obtain ⟨⟨i0, i1, i2, i3⟩, ⟨l0, l1, l2, l3, l4, l5⟩, -⟩ := HX.out _ hbw)
            | (go_at_call 109; (with_reducible refine (HWB.out _).mono ?_); rintro y w1 ⟨rfl, hb1⟩; replace hbw := grow_trans hbw hb1; clear hb1; obtain ⟨⟨i0, i1, i2, i3⟩, ⟨l0, l1, l2, l3, l4, l5⟩, -⟩ := HX.out _ hbw)
            | (go_at_call 93; (with_reducible refine (HRD.out _).mono ?_); rintro y w1 ⟨rfl, rfl⟩)
            | (go_at_call 93; (with_reducible refine (HRA.out _).mono ?_); rintro y w1 ⟨rfl, rfl⟩)
            | (go_at_call 93; (with_reducible refine (HRB.out _).mono ?_); rintro y w1 ⟨rfl, rfl⟩)
            | (go_at_call 108; (with_reducible refine (HNU.out _).mono ?_); rintro y w1 ⟨rfl, hb1⟩; replace hbw := grow_trans hbw hb1; clear hb1; obtain ⟨⟨i0, i1, i2, i3⟩, ⟨l0, l1, l2, l3, l4, l5⟩, -⟩ := HX.out _ hbw))
          go_ret
          exact ⟨by rw [HEQ.out]; rfl, (HX.out _ hbw).2.2⟩
        · cases rb
          · skip
            go_enter Tryz.func94, Tryz.ntmps94
            go_upto_region 1 with fail
            change Code.wp _ _ _ _ ((w.alloc (.cells #[.string (mkB c.name), .int .i64 c.params, .int .i64 c.slots, .slice A c.blocks.length ca] 32)).alloc (.cells #[.string (mkB x.kind), .int .i64 x.d, .int .i64 x.a, .int .i64 x.b, .int .i64 x.num, .string (mkB x.name)] 71))
            rw [HWC.out]
            rw [HWL.out]
            try rw [HSZ.out]
            go_wp2_with (first
              | (go_at_call 105; (with_reducible refine (HH.out _).mono ?_); rintro y w1 ⟨rfl, hb1⟩; replace hbw := grow_trans hbw hb1; clear hb1; obtain ⟨⟨i0, i1, i2, i3⟩, ⟨l0, l1, l2, l3, l4, l5⟩, -⟩ := HX.out _ hbw)
              | (go_at_call 109; (with_reducible refine (HWD.out _).mono ?_); rintro y w1 ⟨rfl, hb1⟩; replace hbw := grow_trans hbw hb1; clear hb1; obtain ⟨⟨i0, i1, i2, i3⟩, ⟨l0, l1, l2, l3, l4, l5⟩, -⟩ := HX.out _ hbw)
              | (go_at_call 109; (with_reducible refine (HWA.out _).mono ?_); rintro y w1 ⟨rfl, hb1⟩; replace hbw := grow_trans hbw hb1; clear hb1; obtain ⟨⟨i0, i1, i2, i3⟩, ⟨l0, l1, l2, l3, l4, l5⟩, -⟩ := HX.out _ hbw)
              | (go_at_call 109; (with_reducible refine (HWB.out _).mono ?_); rintro y w1 ⟨rfl, hb1⟩; replace hbw := grow_trans hbw hb1; clear hb1; obtain ⟨⟨i0, i1, i2, i3⟩, ⟨l0, l1, l2, l3, l4, l5⟩, -⟩ := HX.out _ hbw)
              | (go_at_call 93; (with_reducible refine (HRD.out _).mono ?_); rintro y w1 ⟨rfl, rfl⟩)
              | (go_at_call 93; (with_reducible refine (HRA.out _).mono ?_); rintro y w1 ⟨rfl, rfl⟩)
              | (go_at_call 93; (with_reducible refine (HRB.out _).mono ?_); rintro y w1 ⟨rfl, rfl⟩)
              | (go_at_call 108; (with_reducible refine (HNU.out _).mono ?_); rintro y w1 ⟨rfl, hb1⟩; replace hbw := grow_trans hbw hb1; clear hb1; obtain ⟨⟨i0, i1, i2, i3⟩, ⟨l0, l1, l2, l3, l4, l5⟩, -⟩ := HX.out _ hbw))
            go_ret
            exact ⟨by rw [HEQ.out]; rfl, (HX.out _ hbw).2.2⟩
          · skip
            go_enter Tryz.func94, Tryz.ntmps94
            go_upto_region 1 with fail
            change Code.wp _ _ _ _ ((w.alloc (.cells #[.string (mkB c.name), .int .i64 c.params, .int .i64 c.slots, .slice A c.blocks.length ca] 32)).alloc (.cells #[.string (mkB x.kind), .int .i64 x.d, .int .i64 x.a, .int .i64 x.b, .int .i64 x.num, .string (mkB x.name)] 71))
            rw [HWC.out]
            rw [HWL.out]
            try rw [HSZ.out]
            go_wp2_with (first
              | (go_at_call 105; (with_reducible refine (HH.out _).mono ?_); rintro y w1 ⟨rfl, hb1⟩; replace hbw := grow_trans hbw hb1; clear hb1; obtain ⟨⟨i0, i1, i2, i3⟩, ⟨l0, l1, l2, l3, l4, l5⟩, -⟩ := HX.out _ hbw)
              | (go_at_call 109; (with_reducible refine (HWD.out _).mono ?_); rintro y w1 ⟨rfl, hb1⟩; replace hbw := grow_trans hbw hb1; clear hb1; obtain ⟨⟨i0, i1, i2, i3⟩, ⟨l0, l1, l2, l3, l4, l5⟩, -⟩ := HX.out _ hbw)
              | (go_at_call 109; (with_reducible refine (HWA.out _).mono ?_); rintro y w1 ⟨rfl, hb1⟩; replace hbw := grow_trans hbw hb1; clear hb1; obtain ⟨⟨i0, i1, i2, i3⟩, ⟨l0, l1, l2, l3, l4, l5⟩, -⟩ := HX.out _ hbw)
              | (go_at_call 109; (with_reducible refine (HWB.out _).mono ?_); rintro y w1 ⟨rfl, hb1⟩; replace hbw := grow_trans hbw hb1; clear hb1; obtain ⟨⟨i0, i1, i2, i3⟩, ⟨l0, l1, l2, l3, l4, l5⟩, -⟩ := HX.out _ hbw)
              | (go_at_call 93; (with_reducible refine (HRD.out _).mono ?_); rintro y w1 ⟨rfl, rfl⟩)
              | (go_at_call 93; (with_reducible refine (HRA.out _).mono ?_); rintro y w1 ⟨rfl, rfl⟩)
              | (go_at_call 93; (with_reducible refine (HRB.out _).mono ?_); rintro y w1 ⟨rfl, rfl⟩)
              | (go_at_call 108; (with_reducible refine (HNU.out _).mono ?_); rintro y w1 ⟨rfl, hb1⟩; replace hbw := grow_trans hbw hb1; clear hb1; obtain ⟨⟨i0, i1, i2, i3⟩, ⟨l0, l1, l2, l3, l4, l5⟩, -⟩ := HX.out _ hbw))
            go_ret
            exact ⟨by rw [HEQ.out]; rfl, (HX.out _ hbw).2.2⟩
      · cases ra
        · skip
          go_enter Tryz.func94, Tryz.ntmps94
          go_upto_region 1 with fail
          change Code.wp _ _ _ _ ((w.alloc (.cells #[.string (mkB c.name), .int .i64 c.params, .int .i64 c.slots, .slice A c.blocks.length ca] 32)).alloc (.cells #[.string (mkB x.kind), .int .i64 x.d, .int .i64 x.a, .int .i64 x.b, .int .i64 x.num, .string (mkB x.name)] 71))
          rw [HWC.out]
          rw [HWL.out]
          try rw [HSZ.out]
          go_wp2_with (first
            | (go_at_call 105; (with_reducible refine (HH.out _).mono ?_); rintro y w1 ⟨rfl, hb1⟩; replace hbw := grow_trans hbw hb1; clear hb1; obtain ⟨⟨i0, i1, i2, i3⟩, ⟨l0, l1, l2, l3, l4, l5⟩, -⟩ := HX.out _ hbw)
            | (go_at_call 109; (with_reducible refine (HWD.out _).mono ?_); rintro y w1 ⟨rfl, hb1⟩; replace hbw := grow_trans hbw hb1; clear hb1; obtain ⟨⟨i0, i1, i2, i3⟩, ⟨l0, l1, l2, l3, l4, l5⟩, -⟩ := HX.out _ hbw)
            | (go_at_call 109; (with_reducible refine (HWA.out _).mono ?_); rintro y w1 ⟨rfl, hb1⟩; replace hbw := grow_trans hbw hb1; clear hb1; obtain ⟨⟨i0, i1, i2, i3⟩, ⟨l0, l1, l2, l3, l4, l5⟩, -⟩ := HX.out _ hbw)
            | (go_at_call 109; (with_reducible refine (HWB.out _).mono ?_); rintro y w1 ⟨rfl, hb1⟩; replace hbw := grow_trans hbw hb1; clear hb1; obtain ⟨⟨i0, i1, i2, i3⟩, ⟨l0, l1, l2, l3, l4, l5⟩, -⟩ := HX.out _ hbw)
            | (go_at_call 93; (with_reducible refine (HRD.out _).mono ?_); rintro y w1 ⟨rfl, rfl⟩)
            | (go_at_call 93; (with_reducible refine (HRA.out _).mono ?_); rintro y w1 ⟨rfl, rfl⟩)
            | (go_at_call 93; (with_reducible refine (HRB.out _).mono ?_); rintro y w1 ⟨rfl, rfl⟩)
            | (go_at_call 108; (with_reducible refine (HNU.out _).mono ?_); rintro y w1 ⟨rfl, hb1⟩; replace hbw := grow_trans hbw hb1; clear hb1; obtain ⟨⟨i0, i1, i2, i3⟩, ⟨l0, l1, l2, l3, l4, l5⟩, -⟩ := HX.out _ hbw))
          go_ret
          exact ⟨by rw [HEQ.out]; rfl, (HX.out _ hbw).2.2⟩
        · skip
          cases hb
          · skip
            go_enter Tryz.func94, Tryz.ntmps94
            go_upto_region 1 with fail
            change Code.wp _ _ _ _ ((w.alloc (.cells #[.string (mkB c.name), .int .i64 c.params, .int .i64 c.slots, .slice A c.blocks.length ca] 32)).alloc (.cells #[.string (mkB x.kind), .int .i64 x.d, .int .i64 x.a, .int .i64 x.b, .int .i64 x.num, .string (mkB x.name)] 71))
            rw [HWC.out]
            rw [HWL.out]
            try rw [HSZ.out]
            go_wp2_with (first
              | (go_at_call 105; (with_reducible refine (HH.out _).mono ?_); rintro y w1 ⟨rfl, hb1⟩; replace hbw := grow_trans hbw hb1; clear hb1; obtain ⟨⟨i0, i1, i2, i3⟩, ⟨l0, l1, l2, l3, l4, l5⟩, -⟩ := HX.out _ hbw)
              | (go_at_call 109; (with_reducible refine (HWD.out _).mono ?_); rintro y w1 ⟨rfl, hb1⟩; replace hbw := grow_trans hbw hb1; clear hb1; obtain ⟨⟨i0, i1, i2, i3⟩, ⟨l0, l1, l2, l3, l4, l5⟩, -⟩ := HX.out _ hbw)
              | (go_at_call 109; (with_reducible refine (HWA.out _).mono ?_); rintro y w1 ⟨rfl, hb1⟩; replace hbw := grow_trans hbw hb1; clear hb1; obtain ⟨⟨i0, i1, i2, i3⟩, ⟨l0, l1, l2, l3, l4, l5⟩, -⟩ := HX.out _ hbw)
              | (go_at_call 109; (with_reducible refine (HWB.out _).mono ?_); rintro y w1 ⟨rfl, hb1⟩; replace hbw := grow_trans hbw hb1; clear hb1; obtain ⟨⟨i0, i1, i2, i3⟩, ⟨l0, l1, l2, l3, l4, l5⟩, -⟩ := HX.out _ hbw)
              | (go_at_call 93; (with_reducible refine (HRD.out _).mono ?_); rintro y w1 ⟨rfl, rfl⟩)
              | (go_at_call 93; (with_reducible refine (HRA.out _).mono ?_); rintro y w1 ⟨rfl, rfl⟩)
              | (go_at_call 93; (with_reducible refine (HRB.out _).mono ?_); rintro y w1 ⟨rfl, rfl⟩)
              | (go_at_call 108; (with_reducible refine (HNU.out _).mono ?_); rintro y w1 ⟨rfl, hb1⟩; replace hbw := grow_trans hbw hb1; clear hb1; obtain ⟨⟨i0, i1, i2, i3⟩, ⟨l0, l1, l2, l3, l4, l5⟩, -⟩ := HX.out _ hbw))
            go_ret
            exact ⟨by rw [HEQ.out]; rfl, (HX.out _ hbw).2.2⟩
          · cases rb
            · skip
              go_enter Tryz.func94, Tryz.ntmps94
              go_upto_region 1 with fail
              change Code.wp _ _ _ _ ((w.alloc (.cells #[.string (mkB c.name), .int .i64 c.params, .int .i64 c.slots, .slice A c.blocks.length ca] 32)).alloc (.cells #[.string (mkB x.kind), .int .i64 x.d, .int .i64 x.a, .int .i64 x.b, .int .i64 x.num, .string (mkB x.name)] 71))
              rw [HWC.out]
              rw [HWL.out]
              try rw [HSZ.out]
              go_wp2_with (first
                | (go_at_call 105; (with_reducible refine (HH.out _).mono ?_); rintro y w1 ⟨rfl, hb1⟩; replace hbw := grow_trans hbw hb1; clear hb1; obtain ⟨⟨i0, i1, i2, i3⟩, ⟨l0, l1, l2, l3, l4, l5⟩, -⟩ := HX.out _ hbw)
                | (go_at_call 109; (with_reducible refine (HWD.out _).mono ?_); rintro y w1 ⟨rfl, hb1⟩; replace hbw := grow_trans hbw hb1; clear hb1; obtain ⟨⟨i0, i1, i2, i3⟩, ⟨l0, l1, l2, l3, l4, l5⟩, -⟩ := HX.out _ hbw)
                | (go_at_call 109; (with_reducible refine (HWA.out _).mono ?_); rintro y w1 ⟨rfl, hb1⟩; replace hbw := grow_trans hbw hb1; clear hb1; obtain ⟨⟨i0, i1, i2, i3⟩, ⟨l0, l1, l2, l3, l4, l5⟩, -⟩ := HX.out _ hbw)
                | (go_at_call 109; (with_reducible refine (HWB.out _).mono ?_); rintro y w1 ⟨rfl, hb1⟩; replace hbw := grow_trans hbw hb1; clear hb1; obtain ⟨⟨i0, i1, i2, i3⟩, ⟨l0, l1, l2, l3, l4, l5⟩, -⟩ := HX.out _ hbw)
                | (go_at_call 93; (with_reducible refine (HRD.out _).mono ?_); rintro y w1 ⟨rfl, rfl⟩)
                | (go_at_call 93; (with_reducible refine (HRA.out _).mono ?_); rintro y w1 ⟨rfl, rfl⟩)
                | (go_at_call 93; (with_reducible refine (HRB.out _).mono ?_); rintro y w1 ⟨rfl, rfl⟩)
                | (go_at_call 108; (with_reducible refine (HNU.out _).mono ?_); rintro y w1 ⟨rfl, hb1⟩; replace hbw := grow_trans hbw hb1; clear hb1; obtain ⟨⟨i0, i1, i2, i3⟩, ⟨l0, l1, l2, l3, l4, l5⟩, -⟩ := HX.out _ hbw))
              go_ret
              exact ⟨by rw [HEQ.out]; rfl, (HX.out _ hbw).2.2⟩
            · skip
              go_enter Tryz.func94, Tryz.ntmps94
              go_upto_region 1 with fail
              change Code.wp _ _ _ _ ((w.alloc (.cells #[.string (mkB c.name), .int .i64 c.params, .int .i64 c.slots, .slice A c.blocks.length ca] 32)).alloc (.cells #[.string (mkB x.kind), .int .i64 x.d, .int .i64 x.a, .int .i64 x.b, .int .i64 x.num, .string (mkB x.name)] 71))
              rw [HWC.out]
              rw [HWL.out]
              try rw [HSZ.out]
              go_wp2_with (first
                | (go_at_call 105; (with_reducible refine (HH.out _).mono ?_); rintro y w1 ⟨rfl, hb1⟩; replace hbw := grow_trans hbw hb1; clear hb1; obtain ⟨⟨i0, i1, i2, i3⟩, ⟨l0, l1, l2, l3, l4, l5⟩, -⟩ := HX.out _ hbw)
                | (go_at_call 109; (with_reducible refine (HWD.out _).mono ?_); rintro y w1 ⟨rfl, hb1⟩; replace hbw := grow_trans hbw hb1; clear hb1; obtain ⟨⟨i0, i1, i2, i3⟩, ⟨l0, l1, l2, l3, l4, l5⟩, -⟩ := HX.out _ hbw)
                | (go_at_call 109; (with_reducible refine (HWA.out _).mono ?_); rintro y w1 ⟨rfl, hb1⟩; replace hbw := grow_trans hbw hb1; clear hb1; obtain ⟨⟨i0, i1, i2, i3⟩, ⟨l0, l1, l2, l3, l4, l5⟩, -⟩ := HX.out _ hbw)
                | (go_at_call 109; (with_reducible refine (HWB.out _).mono ?_); rintro y w1 ⟨rfl, hb1⟩; replace hbw := grow_trans hbw hb1; clear hb1; obtain ⟨⟨i0, i1, i2, i3⟩, ⟨l0, l1, l2, l3, l4, l5⟩, -⟩ := HX.out _ hbw)
                | (go_at_call 93; (with_reducible refine (HRD.out _).mono ?_); rintro y w1 ⟨rfl, rfl⟩)
                | (go_at_call 93; (with_reducible refine (HRA.out _).mono ?_); rintro y w1 ⟨rfl, rfl⟩)
                | (go_at_call 93; (with_reducible refine (HRB.out _).mono ?_); rintro y w1 ⟨rfl, rfl⟩)
                | (go_at_call 108; (with_reducible refine (HNU.out _).mono ?_); rintro y w1 ⟨rfl, hb1⟩; replace hbw := grow_trans hbw hb1; clear hb1; obtain ⟨⟨i0, i1, i2, i3⟩, ⟨l0, l1, l2, l3, l4, l5⟩, -⟩ := HX.out _ hbw))
              go_ret
              exact ⟨by rw [HEQ.out]; rfl, (HX.out _ hbw).2.2⟩
    · cases rd
      · skip
        go_enter Tryz.func94, Tryz.ntmps94
        go_upto_region 1 with fail
        change Code.wp _ _ _ _ ((w.alloc (.cells #[.string (mkB c.name), .int .i64 c.params, .int .i64 c.slots, .slice A c.blocks.length ca] 32)).alloc (.cells #[.string (mkB x.kind), .int .i64 x.d, .int .i64 x.a, .int .i64 x.b, .int .i64 x.num, .string (mkB x.name)] 71))
        rw [HWC.out]
        rw [HWL.out]
        try rw [HSZ.out]
        go_wp2_with (first
          | (go_at_call 105; (with_reducible refine (HH.out _).mono ?_); rintro y w1 ⟨rfl, hb1⟩; replace hbw := grow_trans hbw hb1; clear hb1; obtain ⟨⟨i0, i1, i2, i3⟩, ⟨l0, l1, l2, l3, l4, l5⟩, -⟩ := HX.out _ hbw)
          | (go_at_call 109; (with_reducible refine (HWD.out _).mono ?_); rintro y w1 ⟨rfl, hb1⟩; replace hbw := grow_trans hbw hb1; clear hb1; obtain ⟨⟨i0, i1, i2, i3⟩, ⟨l0, l1, l2, l3, l4, l5⟩, -⟩ := HX.out _ hbw)
          | (go_at_call 109; (with_reducible refine (HWA.out _).mono ?_); rintro y w1 ⟨rfl, hb1⟩; replace hbw := grow_trans hbw hb1; clear hb1; obtain ⟨⟨i0, i1, i2, i3⟩, ⟨l0, l1, l2, l3, l4, l5⟩, -⟩ := HX.out _ hbw)
          | (go_at_call 109; (with_reducible refine (HWB.out _).mono ?_); rintro y w1 ⟨rfl, hb1⟩; replace hbw := grow_trans hbw hb1; clear hb1; obtain ⟨⟨i0, i1, i2, i3⟩, ⟨l0, l1, l2, l3, l4, l5⟩, -⟩ := HX.out _ hbw)
          | (go_at_call 93; (with_reducible refine (HRD.out _).mono ?_); rintro y w1 ⟨rfl, rfl⟩)
          | (go_at_call 93; (with_reducible refine (HRA.out _).mono ?_); rintro y w1 ⟨rfl, rfl⟩)
          | (go_at_call 93; (with_reducible refine (HRB.out _).mono ?_); rintro y w1 ⟨rfl, rfl⟩)
          | (go_at_call 108; (with_reducible refine (HNU.out _).mono ?_); rintro y w1 ⟨rfl, hb1⟩; replace hbw := grow_trans hbw hb1; clear hb1; obtain ⟨⟨i0, i1, i2, i3⟩, ⟨l0, l1, l2, l3, l4, l5⟩, -⟩ := HX.out _ hbw))
        go_ret
        exact ⟨by rw [HEQ.out]; rfl, (HX.out _ hbw).2.2⟩
      · skip
        cases ha
        · skip
          cases hb
          · skip
            go_enter Tryz.func94, Tryz.ntmps94
            go_upto_region 1 with fail
            change Code.wp _ _ _ _ ((w.alloc (.cells #[.string (mkB c.name), .int .i64 c.params, .int .i64 c.slots, .slice A c.blocks.length ca] 32)).alloc (.cells #[.string (mkB x.kind), .int .i64 x.d, .int .i64 x.a, .int .i64 x.b, .int .i64 x.num, .string (mkB x.name)] 71))
            rw [HWC.out]
            rw [HWL.out]
            try rw [HSZ.out]
            go_wp2_with (first
              | (go_at_call 105; (with_reducible refine (HH.out _).mono ?_); rintro y w1 ⟨rfl, hb1⟩; replace hbw := grow_trans hbw hb1; clear hb1; obtain ⟨⟨i0, i1, i2, i3⟩, ⟨l0, l1, l2, l3, l4, l5⟩, -⟩ := HX.out _ hbw)
              | (go_at_call 109; (with_reducible refine (HWD.out _).mono ?_); rintro y w1 ⟨rfl, hb1⟩; replace hbw := grow_trans hbw hb1; clear hb1; obtain ⟨⟨i0, i1, i2, i3⟩, ⟨l0, l1, l2, l3, l4, l5⟩, -⟩ := HX.out _ hbw)
              | (go_at_call 109; (with_reducible refine (HWA.out _).mono ?_); rintro y w1 ⟨rfl, hb1⟩; replace hbw := grow_trans hbw hb1; clear hb1; obtain ⟨⟨i0, i1, i2, i3⟩, ⟨l0, l1, l2, l3, l4, l5⟩, -⟩ := HX.out _ hbw)
              | (go_at_call 109; (with_reducible refine (HWB.out _).mono ?_); rintro y w1 ⟨rfl, hb1⟩; replace hbw := grow_trans hbw hb1; clear hb1; obtain ⟨⟨i0, i1, i2, i3⟩, ⟨l0, l1, l2, l3, l4, l5⟩, -⟩ := HX.out _ hbw)
              | (go_at_call 93; (with_reducible refine (HRD.out _).mono ?_); rintro y w1 ⟨rfl, rfl⟩)
              | (go_at_call 93; (with_reducible refine (HRA.out _).mono ?_); rintro y w1 ⟨rfl, rfl⟩)
              | (go_at_call 93; (with_reducible refine (HRB.out _).mono ?_); rintro y w1 ⟨rfl, rfl⟩)
              | (go_at_call 108; (with_reducible refine (HNU.out _).mono ?_); rintro y w1 ⟨rfl, hb1⟩; replace hbw := grow_trans hbw hb1; clear hb1; obtain ⟨⟨i0, i1, i2, i3⟩, ⟨l0, l1, l2, l3, l4, l5⟩, -⟩ := HX.out _ hbw))
            go_ret
            exact ⟨by rw [HEQ.out]; rfl, (HX.out _ hbw).2.2⟩
          · cases rb
            · skip
              go_enter Tryz.func94, Tryz.ntmps94
              go_upto_region 1 with fail
              change Code.wp _ _ _ _ ((w.alloc (.cells #[.string (mkB c.name), .int .i64 c.params, .int .i64 c.slots, .slice A c.blocks.length ca] 32)).alloc (.cells #[.string (mkB x.kind), .int .i64 x.d, .int .i64 x.a, .int .i64 x.b, .int .i64 x.num, .string (mkB x.name)] 71))
              rw [HWC.out]
              rw [HWL.out]
              try rw [HSZ.out]
              go_wp2_with (first
                | (go_at_call 105; (with_reducible refine (HH.out _).mono ?_); rintro y w1 ⟨rfl, hb1⟩; replace hbw := grow_trans hbw hb1; clear hb1; obtain ⟨⟨i0, i1, i2, i3⟩, ⟨l0, l1, l2, l3, l4, l5⟩, -⟩ := HX.out _ hbw)
                | (go_at_call 109; (with_reducible refine (HWD.out _).mono ?_); rintro y w1 ⟨rfl, hb1⟩; replace hbw := grow_trans hbw hb1; clear hb1; obtain ⟨⟨i0, i1, i2, i3⟩, ⟨l0, l1, l2, l3, l4, l5⟩, -⟩ := HX.out _ hbw)
                | (go_at_call 109; (with_reducible refine (HWA.out _).mono ?_); rintro y w1 ⟨rfl, hb1⟩; replace hbw := grow_trans hbw hb1; clear hb1; obtain ⟨⟨i0, i1, i2, i3⟩, ⟨l0, l1, l2, l3, l4, l5⟩, -⟩ := HX.out _ hbw)
                | (go_at_call 109; (with_reducible refine (HWB.out _).mono ?_); rintro y w1 ⟨rfl, hb1⟩; replace hbw := grow_trans hbw hb1; clear hb1; obtain ⟨⟨i0, i1, i2, i3⟩, ⟨l0, l1, l2, l3, l4, l5⟩, -⟩ := HX.out _ hbw)
                | (go_at_call 93; (with_reducible refine (HRD.out _).mono ?_); rintro y w1 ⟨rfl, rfl⟩)
                | (go_at_call 93; (with_reducible refine (HRA.out _).mono ?_); rintro y w1 ⟨rfl, rfl⟩)
                | (go_at_call 93; (with_reducible refine (HRB.out _).mono ?_); rintro y w1 ⟨rfl, rfl⟩)
                | (go_at_call 108; (with_reducible refine (HNU.out _).mono ?_); rintro y w1 ⟨rfl, hb1⟩; replace hbw := grow_trans hbw hb1; clear hb1; obtain ⟨⟨i0, i1, i2, i3⟩, ⟨l0, l1, l2, l3, l4, l5⟩, -⟩ := HX.out _ hbw))
              go_ret
              exact ⟨by rw [HEQ.out]; rfl, (HX.out _ hbw).2.2⟩
            · skip
              go_enter Tryz.func94, Tryz.ntmps94
              go_upto_region 1 with fail
              change Code.wp _ _ _ _ ((w.alloc (.cells #[.string (mkB c.name), .int .i64 c.params, .int .i64 c.slots, .slice A c.blocks.length ca] 32)).alloc (.cells #[.string (mkB x.kind), .int .i64 x.d, .int .i64 x.a, .int .i64 x.b, .int .i64 x.num, .string (mkB x.name)] 71))
              rw [HWC.out]
              rw [HWL.out]
              try rw [HSZ.out]
              go_wp2_with (first
                | (go_at_call 105; (with_reducible refine (HH.out _).mono ?_); rintro y w1 ⟨rfl, hb1⟩; replace hbw := grow_trans hbw hb1; clear hb1; obtain ⟨⟨i0, i1, i2, i3⟩, ⟨l0, l1, l2, l3, l4, l5⟩, -⟩ := HX.out _ hbw)
                | (go_at_call 109; (with_reducible refine (HWD.out _).mono ?_); rintro y w1 ⟨rfl, hb1⟩; replace hbw := grow_trans hbw hb1; clear hb1; obtain ⟨⟨i0, i1, i2, i3⟩, ⟨l0, l1, l2, l3, l4, l5⟩, -⟩ := HX.out _ hbw)
                | (go_at_call 109; (with_reducible refine (HWA.out _).mono ?_); rintro y w1 ⟨rfl, hb1⟩; replace hbw := grow_trans hbw hb1; clear hb1; obtain ⟨⟨i0, i1, i2, i3⟩, ⟨l0, l1, l2, l3, l4, l5⟩, -⟩ := HX.out _ hbw)
                | (go_at_call 109; (with_reducible refine (HWB.out _).mono ?_); rintro y w1 ⟨rfl, hb1⟩; replace hbw := grow_trans hbw hb1; clear hb1; obtain ⟨⟨i0, i1, i2, i3⟩, ⟨l0, l1, l2, l3, l4, l5⟩, -⟩ := HX.out _ hbw)
                | (go_at_call 93; (with_reducible refine (HRD.out _).mono ?_); rintro y w1 ⟨rfl, rfl⟩)
                | (go_at_call 93; (with_reducible refine (HRA.out _).mono ?_); rintro y w1 ⟨rfl, rfl⟩)
                | (go_at_call 93; (with_reducible refine (HRB.out _).mono ?_); rintro y w1 ⟨rfl, rfl⟩)
                | (go_at_call 108; (with_reducible refine (HNU.out _).mono ?_); rintro y w1 ⟨rfl, hb1⟩; replace hbw := grow_trans hbw hb1; clear hb1; obtain ⟨⟨i0, i1, i2, i3⟩, ⟨l0, l1, l2, l3, l4, l5⟩, -⟩ := HX.out _ hbw))
              go_ret
              exact ⟨by rw [HEQ.out]; rfl, (HX.out _ hbw).2.2⟩
        · cases ra
          · skip
            go_enter Tryz.func94, Tryz.ntmps94
            go_upto_region 1 with fail
            change Code.wp _ _ _ _ ((w.alloc (.cells #[.string (mkB c.name), .int .i64 c.params, .int .i64 c.slots, .slice A c.blocks.length ca] 32)).alloc (.cells #[.string (mkB x.kind), .int .i64 x.d, .int .i64 x.a, .int .i64 x.b, .int .i64 x.num, .string (mkB x.name)] 71))
            rw [HWC.out]
            rw [HWL.out]
            try rw [HSZ.out]
            go_wp2_with (first
              | (go_at_call 105; (with_reducible refine (HH.out _).mono ?_); rintro y w1 ⟨rfl, hb1⟩; replace hbw := grow_trans hbw hb1; clear hb1; obtain ⟨⟨i0, i1, i2, i3⟩, ⟨l0, l1, l2, l3, l4, l5⟩, -⟩ := HX.out _ hbw)
              | (go_at_call 109; (with_reducible refine (HWD.out _).mono ?_); rintro y w1 ⟨rfl, hb1⟩; replace hbw := grow_trans hbw hb1; clear hb1; obtain ⟨⟨i0, i1, i2, i3⟩, ⟨l0, l1, l2, l3, l4, l5⟩, -⟩ := HX.out _ hbw)
              | (go_at_call 109; (with_reducible refine (HWA.out _).mono ?_); rintro y w1 ⟨rfl, hb1⟩; replace hbw := grow_trans hbw hb1; clear hb1; obtain ⟨⟨i0, i1, i2, i3⟩, ⟨l0, l1, l2, l3, l4, l5⟩, -⟩ := HX.out _ hbw)
              | (go_at_call 109; (with_reducible refine (HWB.out _).mono ?_); rintro y w1 ⟨rfl, hb1⟩; replace hbw := grow_trans hbw hb1; clear hb1; obtain ⟨⟨i0, i1, i2, i3⟩, ⟨l0, l1, l2, l3, l4, l5⟩, -⟩ := HX.out _ hbw)
              | (go_at_call 93; (with_reducible refine (HRD.out _).mono ?_); rintro y w1 ⟨rfl, rfl⟩)
              | (go_at_call 93; (with_reducible refine (HRA.out _).mono ?_); rintro y w1 ⟨rfl, rfl⟩)
              | (go_at_call 93; (with_reducible refine (HRB.out _).mono ?_); rintro y w1 ⟨rfl, rfl⟩)
              | (go_at_call 108; (with_reducible refine (HNU.out _).mono ?_); rintro y w1 ⟨rfl, hb1⟩; replace hbw := grow_trans hbw hb1; clear hb1; obtain ⟨⟨i0, i1, i2, i3⟩, ⟨l0, l1, l2, l3, l4, l5⟩, -⟩ := HX.out _ hbw))
            go_ret
            exact ⟨by rw [HEQ.out]; rfl, (HX.out _ hbw).2.2⟩
          · skip
            cases hb
            · skip
              go_enter Tryz.func94, Tryz.ntmps94
              go_upto_region 1 with fail
              change Code.wp _ _ _ _ ((w.alloc (.cells #[.string (mkB c.name), .int .i64 c.params, .int .i64 c.slots, .slice A c.blocks.length ca] 32)).alloc (.cells #[.string (mkB x.kind), .int .i64 x.d, .int .i64 x.a, .int .i64 x.b, .int .i64 x.num, .string (mkB x.name)] 71))
              rw [HWC.out]
              rw [HWL.out]
              try rw [HSZ.out]
              go_wp2_with (first
                | (go_at_call 105; (with_reducible refine (HH.out _).mono ?_); rintro y w1 ⟨rfl, hb1⟩; replace hbw := grow_trans hbw hb1; clear hb1; obtain ⟨⟨i0, i1, i2, i3⟩, ⟨l0, l1, l2, l3, l4, l5⟩, -⟩ := HX.out _ hbw)
                | (go_at_call 109; (with_reducible refine (HWD.out _).mono ?_); rintro y w1 ⟨rfl, hb1⟩; replace hbw := grow_trans hbw hb1; clear hb1; obtain ⟨⟨i0, i1, i2, i3⟩, ⟨l0, l1, l2, l3, l4, l5⟩, -⟩ := HX.out _ hbw)
                | (go_at_call 109; (with_reducible refine (HWA.out _).mono ?_); rintro y w1 ⟨rfl, hb1⟩; replace hbw := grow_trans hbw hb1; clear hb1; obtain ⟨⟨i0, i1, i2, i3⟩, ⟨l0, l1, l2, l3, l4, l5⟩, -⟩ := HX.out _ hbw)
                | (go_at_call 109; (with_reducible refine (HWB.out _).mono ?_); rintro y w1 ⟨rfl, hb1⟩; replace hbw := grow_trans hbw hb1; clear hb1; obtain ⟨⟨i0, i1, i2, i3⟩, ⟨l0, l1, l2, l3, l4, l5⟩, -⟩ := HX.out _ hbw)
                | (go_at_call 93; (with_reducible refine (HRD.out _).mono ?_); rintro y w1 ⟨rfl, rfl⟩)
                | (go_at_call 93; (with_reducible refine (HRA.out _).mono ?_); rintro y w1 ⟨rfl, rfl⟩)
                | (go_at_call 93; (with_reducible refine (HRB.out _).mono ?_); rintro y w1 ⟨rfl, rfl⟩)
                | (go_at_call 108; (with_reducible refine (HNU.out _).mono ?_); rintro y w1 ⟨rfl, hb1⟩; replace hbw := grow_trans hbw hb1; clear hb1; obtain ⟨⟨i0, i1, i2, i3⟩, ⟨l0, l1, l2, l3, l4, l5⟩, -⟩ := HX.out _ hbw))
              go_ret
              exact ⟨by rw [HEQ.out]; rfl, (HX.out _ hbw).2.2⟩
            · cases rb
              · skip
                go_enter Tryz.func94, Tryz.ntmps94
                go_upto_region 1 with fail
                change Code.wp _ _ _ _ ((w.alloc (.cells #[.string (mkB c.name), .int .i64 c.params, .int .i64 c.slots, .slice A c.blocks.length ca] 32)).alloc (.cells #[.string (mkB x.kind), .int .i64 x.d, .int .i64 x.a, .int .i64 x.b, .int .i64 x.num, .string (mkB x.name)] 71))
                rw [HWC.out]
                rw [HWL.out]
                try rw [HSZ.out]
                go_wp2_with (first
                  | (go_at_call 105; (with_reducible refine (HH.out _).mono ?_); rintro y w1 ⟨rfl, hb1⟩; replace hbw := grow_trans hbw hb1; clear hb1; obtain ⟨⟨i0, i1, i2, i3⟩, ⟨l0, l1, l2, l3, l4, l5⟩, -⟩ := HX.out _ hbw)
                  | (go_at_call 109; (with_reducible refine (HWD.out _).mono ?_); rintro y w1 ⟨rfl, hb1⟩; replace hbw := grow_trans hbw hb1; clear hb1; obtain ⟨⟨i0, i1, i2, i3⟩, ⟨l0, l1, l2, l3, l4, l5⟩, -⟩ := HX.out _ hbw)
                  | (go_at_call 109; (with_reducible refine (HWA.out _).mono ?_); rintro y w1 ⟨rfl, hb1⟩; replace hbw := grow_trans hbw hb1; clear hb1; obtain ⟨⟨i0, i1, i2, i3⟩, ⟨l0, l1, l2, l3, l4, l5⟩, -⟩ := HX.out _ hbw)
                  | (go_at_call 109; (with_reducible refine (HWB.out _).mono ?_); rintro y w1 ⟨rfl, hb1⟩; replace hbw := grow_trans hbw hb1; clear hb1; obtain ⟨⟨i0, i1, i2, i3⟩, ⟨l0, l1, l2, l3, l4, l5⟩, -⟩ := HX.out _ hbw)
                  | (go_at_call 93; (with_reducible refine (HRD.out _).mono ?_); rintro y w1 ⟨rfl, rfl⟩)
                  | (go_at_call 93; (with_reducible refine (HRA.out _).mono ?_); rintro y w1 ⟨rfl, rfl⟩)
                  | (go_at_call 93; (with_reducible refine (HRB.out _).mono ?_); rintro y w1 ⟨rfl, rfl⟩)
                  | (go_at_call 108; (with_reducible refine (HNU.out _).mono ?_); rintro y w1 ⟨rfl, hb1⟩; replace hbw := grow_trans hbw hb1; clear hb1; obtain ⟨⟨i0, i1, i2, i3⟩, ⟨l0, l1, l2, l3, l4, l5⟩, -⟩ := HX.out _ hbw))
                go_ret
                exact ⟨by rw [HEQ.out]; rfl, (HX.out _ hbw).2.2⟩
              · skip
                go_enter Tryz.func94, Tryz.ntmps94
                go_upto_region 1 with fail
                change Code.wp _ _ _ _ ((w.alloc (.cells #[.string (mkB c.name), .int .i64 c.params, .int .i64 c.slots, .slice A c.blocks.length ca] 32)).alloc (.cells #[.string (mkB x.kind), .int .i64 x.d, .int .i64 x.a, .int .i64 x.b, .int .i64 x.num, .string (mkB x.name)] 71))
                rw [HWC.out]
                rw [HWL.out]
                try rw [HSZ.out]
                go_wp2_with (first
                  | (go_at_call 105; (with_reducible refine (HH.out _).mono ?_); rintro y w1 ⟨rfl, hb1⟩; replace hbw := grow_trans hbw hb1; clear hb1; obtain ⟨⟨i0, i1, i2, i3⟩, ⟨l0, l1, l2, l3, l4, l5⟩, -⟩ := HX.out _ hbw)
                  | (go_at_call 109; (with_reducible refine (HWD.out _).mono ?_); rintro y w1 ⟨rfl, hb1⟩; replace hbw := grow_trans hbw hb1; clear hb1; obtain ⟨⟨i0, i1, i2, i3⟩, ⟨l0, l1, l2, l3, l4, l5⟩, -⟩ := HX.out _ hbw)
                  | (go_at_call 109; (with_reducible refine (HWA.out _).mono ?_); rintro y w1 ⟨rfl, hb1⟩; replace hbw := grow_trans hbw hb1; clear hb1; obtain ⟨⟨i0, i1, i2, i3⟩, ⟨l0, l1, l2, l3, l4, l5⟩, -⟩ := HX.out _ hbw)
                  | (go_at_call 109; (with_reducible refine (HWB.out _).mono ?_); rintro y w1 ⟨rfl, hb1⟩; replace hbw := grow_trans hbw hb1; clear hb1; obtain ⟨⟨i0, i1, i2, i3⟩, ⟨l0, l1, l2, l3, l4, l5⟩, -⟩ := HX.out _ hbw)
                  | (go_at_call 93; (with_reducible refine (HRD.out _).mono ?_); rintro y w1 ⟨rfl, rfl⟩)
                  | (go_at_call 93; (with_reducible refine (HRA.out _).mono ?_); rintro y w1 ⟨rfl, rfl⟩)
                  | (go_at_call 93; (with_reducible refine (HRB.out _).mono ?_); rintro y w1 ⟨rfl, rfl⟩)
                  | (go_at_call 108; (with_reducible refine (HNU.out _).mono ?_); rintro y w1 ⟨rfl, hb1⟩; replace hbw := grow_trans hbw hb1; clear hb1; obtain ⟨⟨i0, i1, i2, i3⟩, ⟨l0, l1, l2, l3, l4, l5⟩, -⟩ := HX.out _ hbw))
                go_ret
                exact ⟨by rw [HEQ.out]; rfl, (HX.out _ hbw).2.2⟩
end Go.Proofs.YtonnhechjbdenaaGreatDoor
