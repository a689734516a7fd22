import Derived.Test.YtdilakpipbkokaaDoorBn15
set_option linter.unusedVariables false
set_option linter.unusedSimpArgs false
namespace Go.Proofs.YtdilakpipbkokaaDoor
open Go.RowKit

/-! shape of an Ins (printed by gen_plg.py) -/
set_option maxRecDepth 100000 in
set_option maxHeartbeats 8000000 in
theorem shape_any (x : PIn) (A : Option Addr) (ca : Nat) (w : World) : Calls Tryd.prog 60 #[inV x A ca] w (Ret (.bool (inShape x)) w) := by
  obtain ⟨q, hq⟩ : ∃ q, w.heap.size = q := ⟨_, rfl⟩
  obtain ⟨wL, hwL⟩ : ∃ wL, w.alloc (.cells #[.string (mkB x.kind), .int .i64 x.d, .slice A x.args.length ca, .int .i64 x.num, .string (mkB x.name)] 52) = wL := ⟨_, rfl⟩
  have hb : Below w.heap.size w wL := by rw [← hwL]; exact grow_alloc (grow_refl _) _
  have mL : wL.heap[q]? = some (.cells #[.string (mkB x.kind), .int .i64 x.d, .slice A x.args.length ca, .int .i64 x.num, .string (mkB x.name)] 52 (0, 0)) := by rw [← hwL, ← hq]; exact heap_alloc_new w _
  have HB := Lib.hid hb
  have HWL := Lib.hid hwL
  have HQ := Lib.hid hq
  obtain ⟨c0, c1, c2, c3, c4⟩ := row5B mL
  have hm0 := many_any x.kind wL
  have hd0 := made_any x.kind wL
  obtain ⟨l2, hl2⟩ : ∃ l, (x.d == 0) = l := ⟨_, rfl⟩
  obtain ⟨l3, hl3⟩ : ∃ l, (x.num == 0) = l := ⟨_, rfl⟩
  obtain ⟨l4, hl4⟩ : ∃ l, x.name.isEmpty = l := ⟨_, rfl⟩
  have hnm : ((mkB x.name).toList == []) = l4 := by
    rw [mkB_toList, ← hl4]
    cases x.name <;> rfl
  have HEQ : Hid (inShape x = ((decide (manyW (kindW x.kind) < 0) || ((x.args.length : Int) == manyW (kindW x.kind))) && (madeW x.kind || l2) && ((x.kind == kParam || x.kind == kConst) || l3) && ((x.kind == kOne || x.kind == kTwo || x.kind == kCall) || l4))) := show _ = _ by
    unfold inShape
    rw [hl2, hl3, hl4]
  unfold inV
  clear hb mL hwL hq hl4
  by_cases hkParam : x.kind = kParam
  · have hk : x.kind = kParam := hkParam
    have e1 : manyW (kindW x.kind) = 0 ∧ (kindW x.kind != 0) = true ∧ madeW x.kind = true ∧ (x.kind == kParam || x.kind == kConst) = true ∧ (x.kind == kOne || x.kind == kTwo || x.kind == kCall) = false := by rw [hk]; decide
    have qkParam : ((mkB x.kind).toList == [112, 97, 114, 97, 109]) = true := by rw [mkB_eq, hk]; rfl
    have qkConst : ((mkB x.kind).toList == [99, 111, 110, 115, 116]) = false := by rw [mkB_eq, hk]; rfl
    have qkOne : ((mkB x.kind).toList == [111, 110, 101]) = false := by rw [mkB_eq, hk]; rfl
    have qkTwo : ((mkB x.kind).toList == [116, 119, 111]) = false := by rw [mkB_eq, hk]; rfl
    have qkCall : ((mkB x.kind).toList == [99, 97, 108, 108]) = false := by rw [mkB_eq, hk]; rfl
    have qkTick : ((mkB x.kind).toList == [116, 105, 99, 107]) = false := by rw [mkB_eq, hk]; rfl
    have qkPrint : ((mkB x.kind).toList == [112, 114, 105, 110, 116]) = false := by rw [mkB_eq, hk]; rfl
    obtain ⟨e1, e2, e3, e4, e5⟩ := e1
    rw [e1, e2] at hm0
    rw [e3] at hd0
    rw [e1, e3, e4, e5] at HEQ
    obtain ⟨l1, hl1⟩ : ∃ l, ((x.args.length : Int) == 0) = l := ⟨_, rfl⟩
    rw [hl1] at HEQ
    have HM := Lib.hid hm0
    have HD := Lib.hid hd0
    clear hm0 hd0 e1 e2 e3 e4 e5
    clear hk hkParam
    cases l1
    · have HF : Hid (inShape x = false) := show _ = _ by rw [HEQ.out]; simp
      clear HEQ
      go_enter Tryd.func60, Tryd.ntmps60
      go_upto_region 1 with fail
      change Code.wp _ _ _ _ (w.alloc (.cells #[.string (mkB x.kind), .int .i64 x.d, .slice A x.args.length ca, .int .i64 x.num, .string (mkB x.name)] 52))
      rw [HQ.out, HWL.out]
      go_wp2_with (first | (go_at_call 51; (with_reducible refine HM.out.mono ?_); rintro y w1 ⟨rfl, rfl⟩) | (go_at_call 57; (with_reducible refine HD.out.mono ?_); rintro y w1 ⟨rfl, rfl⟩))
      go_ret
      exact ⟨by rw [HF.out]; rfl, HB.out⟩
    · cases l4
      · have HF : Hid (inShape x = false) := show _ = _ by rw [HEQ.out]; simp
        clear HEQ
        go_enter Tryd.func60, Tryd.ntmps60
        go_upto_region 1 with fail
        change Code.wp _ _ _ _ (w.alloc (.cells #[.string (mkB x.kind), .int .i64 x.d, .slice A x.args.length ca, .int .i64 x.num, .string (mkB x.name)] 52))
        rw [HQ.out, HWL.out]
        go_wp2_with (first | (go_at_call 51; (with_reducible refine HM.out.mono ?_); rintro y w1 ⟨rfl, rfl⟩) | (go_at_call 57; (with_reducible refine HD.out.mono ?_); rintro y w1 ⟨rfl, rfl⟩))
        go_ret
        exact ⟨by rw [HF.out]; rfl, HB.out⟩
      · have HF : Hid (inShape x = true) := show _ = _ by rw [HEQ.out]; simp
        clear HEQ
        go_enter Tryd.func60, Tryd.ntmps60
        go_upto_region 1 with fail
        change Code.wp _ _ _ _ (w.alloc (.cells #[.string (mkB x.kind), .int .i64 x.d, .slice A x.args.length ca, .int .i64 x.num, .string (mkB x.name)] 52))
        rw [HQ.out, HWL.out]
        go_wp2_with (first | (go_at_call 51; (with_reducible refine HM.out.mono ?_); rintro y w1 ⟨rfl, rfl⟩) | (go_at_call 57; (with_reducible refine HD.out.mono ?_); rintro y w1 ⟨rfl, rfl⟩))
        go_ret
        exact ⟨by rw [HF.out]; rfl, HB.out⟩
  by_cases hkConst : x.kind = kConst
  · have hk : x.kind = kConst := hkConst
    have e1 : manyW (kindW x.kind) = 0 ∧ (kindW x.kind != 0) = true ∧ madeW x.kind = true ∧ (x.kind == kParam || x.kind == kConst) = true ∧ (x.kind == kOne || x.kind == kTwo || x.kind == kCall) = false := by rw [hk]; decide
    have qkParam : ((mkB x.kind).toList == [112, 97, 114, 97, 109]) = false := by rw [mkB_eq, hk]; rfl
    have qkConst : ((mkB x.kind).toList == [99, 111, 110, 115, 116]) = true := by rw [mkB_eq, hk]; rfl
    have qkOne : ((mkB x.kind).toList == [111, 110, 101]) = false := by rw [mkB_eq, hk]; rfl
    have qkTwo : ((mkB x.kind).toList == [116, 119, 111]) = false := by rw [mkB_eq, hk]; rfl
    have qkCall : ((mkB x.kind).toList == [99, 97, 108, 108]) = false := by rw [mkB_eq, hk]; rfl
    have qkTick : ((mkB x.kind).toList == [116, 105, 99, 107]) = false := by rw [mkB_eq, hk]; rfl
    have qkPrint : ((mkB x.kind).toList == [112, 114, 105, 110, 116]) = false := by rw [mkB_eq, hk]; rfl
    obtain ⟨e1, e2, e3, e4, e5⟩ := e1
    rw [e1, e2] at hm0
    rw [e3] at hd0
    rw [e1, e3, e4, e5] at HEQ
    obtain ⟨l1, hl1⟩ : ∃ l, ((x.args.length : Int) == 0) = l := ⟨_, rfl⟩
    rw [hl1] at HEQ
    have HM := Lib.hid hm0
    have HD := Lib.hid hd0
    clear hm0 hd0 e1 e2 e3 e4 e5
    clear hk hkConst
    cases l1
    · have HF : Hid (inShape x = false) := show _ = _ by rw [HEQ.out]; simp
      clear HEQ
      go_enter Tryd.func60, Tryd.ntmps60
      go_upto_region 1 with fail
      change Code.wp _ _ _ _ (w.alloc (.cells #[.string (mkB x.kind), .int .i64 x.d, .slice A x.args.length ca, .int .i64 x.num, .string (mkB x.name)] 52))
      rw [HQ.out, HWL.out]
      go_wp2_with (first | (go_at_call 51; (with_reducible refine HM.out.mono ?_); rintro y w1 ⟨rfl, rfl⟩) | (go_at_call 57; (with_reducible refine HD.out.mono ?_); rintro y w1 ⟨rfl, rfl⟩))
      go_ret
      exact ⟨by rw [HF.out]; rfl, HB.out⟩
    · cases l4
      · have HF : Hid (inShape x = false) := show _ = _ by rw [HEQ.out]; simp
        clear HEQ
        go_enter Tryd.func60, Tryd.ntmps60
        go_upto_region 1 with fail
        change Code.wp _ _ _ _ (w.alloc (.cells #[.string (mkB x.kind), .int .i64 x.d, .slice A x.args.length ca, .int .i64 x.num, .string (mkB x.name)] 52))
        rw [HQ.out, HWL.out]
        go_wp2_with (first | (go_at_call 51; (with_reducible refine HM.out.mono ?_); rintro y w1 ⟨rfl, rfl⟩) | (go_at_call 57; (with_reducible refine HD.out.mono ?_); rintro y w1 ⟨rfl, rfl⟩))
        go_ret
        exact ⟨by rw [HF.out]; rfl, HB.out⟩
      · have HF : Hid (inShape x = true) := show _ = _ by rw [HEQ.out]; simp
        clear HEQ
        go_enter Tryd.func60, Tryd.ntmps60
        go_upto_region 1 with fail
        change Code.wp _ _ _ _ (w.alloc (.cells #[.string (mkB x.kind), .int .i64 x.d, .slice A x.args.length ca, .int .i64 x.num, .string (mkB x.name)] 52))
        rw [HQ.out, HWL.out]
        go_wp2_with (first | (go_at_call 51; (with_reducible refine HM.out.mono ?_); rintro y w1 ⟨rfl, rfl⟩) | (go_at_call 57; (with_reducible refine HD.out.mono ?_); rintro y w1 ⟨rfl, rfl⟩))
        go_ret
        exact ⟨by rw [HF.out]; rfl, HB.out⟩
  by_cases hkOne : x.kind = kOne
  · have hk : x.kind = kOne := hkOne
    have e1 : manyW (kindW x.kind) = 1 ∧ (kindW x.kind != 0) = true ∧ madeW x.kind = true ∧ (x.kind == kParam || x.kind == kConst) = false ∧ (x.kind == kOne || x.kind == kTwo || x.kind == kCall) = true := by rw [hk]; decide
    have qkParam : ((mkB x.kind).toList == [112, 97, 114, 97, 109]) = false := by rw [mkB_eq, hk]; rfl
    have qkConst : ((mkB x.kind).toList == [99, 111, 110, 115, 116]) = false := by rw [mkB_eq, hk]; rfl
    have qkOne : ((mkB x.kind).toList == [111, 110, 101]) = true := by rw [mkB_eq, hk]; rfl
    have qkTwo : ((mkB x.kind).toList == [116, 119, 111]) = false := by rw [mkB_eq, hk]; rfl
    have qkCall : ((mkB x.kind).toList == [99, 97, 108, 108]) = false := by rw [mkB_eq, hk]; rfl
    have qkTick : ((mkB x.kind).toList == [116, 105, 99, 107]) = false := by rw [mkB_eq, hk]; rfl
    have qkPrint : ((mkB x.kind).toList == [112, 114, 105, 110, 116]) = false := by rw [mkB_eq, hk]; rfl
    obtain ⟨e1, e2, e3, e4, e5⟩ := e1
    rw [e1, e2] at hm0
    rw [e3] at hd0
    rw [e1, e3, e4, e5] at HEQ
    obtain ⟨l1, hl1⟩ : ∃ l, ((x.args.length : Int) == 1) = l := ⟨_, rfl⟩
    rw [hl1] at HEQ
    have HM := Lib.hid hm0
    have HD := Lib.hid hd0
    clear hm0 hd0 e1 e2 e3 e4 e5
    clear hk hkOne
    cases l1
    · have HF : Hid (inShape x = false) := show _ = _ by rw [HEQ.out]; simp
      clear HEQ
      go_enter Tryd.func60, Tryd.ntmps60
      go_upto_region 1 with fail
      change Code.wp _ _ _ _ (w.alloc (.cells #[.string (mkB x.kind), .int .i64 x.d, .slice A x.args.length ca, .int .i64 x.num, .string (mkB x.name)] 52))
      rw [HQ.out, HWL.out]
      go_wp2_with (first | (go_at_call 51; (with_reducible refine HM.out.mono ?_); rintro y w1 ⟨rfl, rfl⟩) | (go_at_call 57; (with_reducible refine HD.out.mono ?_); rintro y w1 ⟨rfl, rfl⟩))
      go_ret
      exact ⟨by rw [HF.out]; rfl, HB.out⟩
    · cases l3
      · have HF : Hid (inShape x = false) := show _ = _ by rw [HEQ.out]; simp
        clear HEQ
        go_enter Tryd.func60, Tryd.ntmps60
        go_upto_region 1 with fail
        change Code.wp _ _ _ _ (w.alloc (.cells #[.string (mkB x.kind), .int .i64 x.d, .slice A x.args.length ca, .int .i64 x.num, .string (mkB x.name)] 52))
        rw [HQ.out, HWL.out]
        go_wp2_with (first | (go_at_call 51; (with_reducible refine HM.out.mono ?_); rintro y w1 ⟨rfl, rfl⟩) | (go_at_call 57; (with_reducible refine HD.out.mono ?_); rintro y w1 ⟨rfl, rfl⟩))
        go_ret
        exact ⟨by rw [HF.out]; rfl, HB.out⟩
      · have HF : Hid (inShape x = true) := show _ = _ by rw [HEQ.out]; simp
        clear HEQ
        go_enter Tryd.func60, Tryd.ntmps60
        go_upto_region 1 with fail
        change Code.wp _ _ _ _ (w.alloc (.cells #[.string (mkB x.kind), .int .i64 x.d, .slice A x.args.length ca, .int .i64 x.num, .string (mkB x.name)] 52))
        rw [HQ.out, HWL.out]
        go_wp2_with (first | (go_at_call 51; (with_reducible refine HM.out.mono ?_); rintro y w1 ⟨rfl, rfl⟩) | (go_at_call 57; (with_reducible refine HD.out.mono ?_); rintro y w1 ⟨rfl, rfl⟩))
        go_ret
        exact ⟨by rw [HF.out]; rfl, HB.out⟩
  by_cases hkTwo : x.kind = kTwo
  · have hk : x.kind = kTwo := hkTwo
    have e1 : manyW (kindW x.kind) = 2 ∧ (kindW x.kind != 0) = true ∧ madeW x.kind = true ∧ (x.kind == kParam || x.kind == kConst) = false ∧ (x.kind == kOne || x.kind == kTwo || x.kind == kCall) = true := by rw [hk]; decide
    have qkParam : ((mkB x.kind).toList == [112, 97, 114, 97, 109]) = false := by rw [mkB_eq, hk]; rfl
    have qkConst : ((mkB x.kind).toList == [99, 111, 110, 115, 116]) = false := by rw [mkB_eq, hk]; rfl
    have qkOne : ((mkB x.kind).toList == [111, 110, 101]) = false := by rw [mkB_eq, hk]; rfl
    have qkTwo : ((mkB x.kind).toList == [116, 119, 111]) = true := by rw [mkB_eq, hk]; rfl
    have qkCall : ((mkB x.kind).toList == [99, 97, 108, 108]) = false := by rw [mkB_eq, hk]; rfl
    have qkTick : ((mkB x.kind).toList == [116, 105, 99, 107]) = false := by rw [mkB_eq, hk]; rfl
    have qkPrint : ((mkB x.kind).toList == [112, 114, 105, 110, 116]) = false := by rw [mkB_eq, hk]; rfl
    obtain ⟨e1, e2, e3, e4, e5⟩ := e1
    rw [e1, e2] at hm0
    rw [e3] at hd0
    rw [e1, e3, e4, e5] at HEQ
    obtain ⟨l1, hl1⟩ : ∃ l, ((x.args.length : Int) == 2) = l := ⟨_, rfl⟩
    rw [hl1] at HEQ
    have HM := Lib.hid hm0
    have HD := Lib.hid hd0
    clear hm0 hd0 e1 e2 e3 e4 e5
    clear hk hkTwo
    cases l1
    · have HF : Hid (inShape x = false) := show _ = _ by rw [HEQ.out]; simp
      clear HEQ
      go_enter Tryd.func60, Tryd.ntmps60
      go_upto_region 1 with fail
      change Code.wp _ _ _ _ (w.alloc (.cells #[.string (mkB x.kind), .int .i64 x.d, .slice A x.args.length ca, .int .i64 x.num, .string (mkB x.name)] 52))
      rw [HQ.out, HWL.out]
      go_wp2_with (first | (go_at_call 51; (with_reducible refine HM.out.mono ?_); rintro y w1 ⟨rfl, rfl⟩) | (go_at_call 57; (with_reducible refine HD.out.mono ?_); rintro y w1 ⟨rfl, rfl⟩))
      go_ret
      exact ⟨by rw [HF.out]; rfl, HB.out⟩
    · cases l3
      · have HF : Hid (inShape x = false) := show _ = _ by rw [HEQ.out]; simp
        clear HEQ
        go_enter Tryd.func60, Tryd.ntmps60
        go_upto_region 1 with fail
        change Code.wp _ _ _ _ (w.alloc (.cells #[.string (mkB x.kind), .int .i64 x.d, .slice A x.args.length ca, .int .i64 x.num, .string (mkB x.name)] 52))
        rw [HQ.out, HWL.out]
        go_wp2_with (first | (go_at_call 51; (with_reducible refine HM.out.mono ?_); rintro y w1 ⟨rfl, rfl⟩) | (go_at_call 57; (with_reducible refine HD.out.mono ?_); rintro y w1 ⟨rfl, rfl⟩))
        go_ret
        exact ⟨by rw [HF.out]; rfl, HB.out⟩
      · have HF : Hid (inShape x = true) := show _ = _ by rw [HEQ.out]; simp
        clear HEQ
        go_enter Tryd.func60, Tryd.ntmps60
        go_upto_region 1 with fail
        change Code.wp _ _ _ _ (w.alloc (.cells #[.string (mkB x.kind), .int .i64 x.d, .slice A x.args.length ca, .int .i64 x.num, .string (mkB x.name)] 52))
        rw [HQ.out, HWL.out]
        go_wp2_with (first | (go_at_call 51; (with_reducible refine HM.out.mono ?_); rintro y w1 ⟨rfl, rfl⟩) | (go_at_call 57; (with_reducible refine HD.out.mono ?_); rintro y w1 ⟨rfl, rfl⟩))
        go_ret
        exact ⟨by rw [HF.out]; rfl, HB.out⟩
  by_cases hkCall : x.kind = kCall
  · have hk : x.kind = kCall := hkCall
    have e1 : manyW (kindW x.kind) = -1 ∧ (kindW x.kind != 0) = true ∧ madeW x.kind = true ∧ (x.kind == kParam || x.kind == kConst) = false ∧ (x.kind == kOne || x.kind == kTwo || x.kind == kCall) = true := by rw [hk]; decide
    have qkParam : ((mkB x.kind).toList == [112, 97, 114, 97, 109]) = false := by rw [mkB_eq, hk]; rfl
    have qkConst : ((mkB x.kind).toList == [99, 111, 110, 115, 116]) = false := by rw [mkB_eq, hk]; rfl
    have qkOne : ((mkB x.kind).toList == [111, 110, 101]) = false := by rw [mkB_eq, hk]; rfl
    have qkTwo : ((mkB x.kind).toList == [116, 119, 111]) = false := by rw [mkB_eq, hk]; rfl
    have qkCall : ((mkB x.kind).toList == [99, 97, 108, 108]) = true := by rw [mkB_eq, hk]; rfl
    have qkTick : ((mkB x.kind).toList == [116, 105, 99, 107]) = false := by rw [mkB_eq, hk]; rfl
    have qkPrint : ((mkB x.kind).toList == [112, 114, 105, 110, 116]) = false := by rw [mkB_eq, hk]; rfl
    obtain ⟨e1, e2, e3, e4, e5⟩ := e1
    rw [e1, e2] at hm0
    rw [e3] at hd0
    rw [e1, e3, e4, e5] at HEQ
    have HM := Lib.hid hm0
    have HD := Lib.hid hd0
    clear hm0 hd0 e1 e2 e3 e4 e5
    clear hk hkCall
    cases l3
    · have HF : Hid (inShape x = false) := show _ = _ by rw [HEQ.out]; simp
      clear HEQ
      go_enter Tryd.func60, Tryd.ntmps60
      go_upto_region 1 with fail
      change Code.wp _ _ _ _ (w.alloc (.cells #[.string (mkB x.kind), .int .i64 x.d, .slice A x.args.length ca, .int .i64 x.num, .string (mkB x.name)] 52))
      rw [HQ.out, HWL.out]
      go_wp2_with (first | (go_at_call 51; (with_reducible refine HM.out.mono ?_); rintro y w1 ⟨rfl, rfl⟩) | (go_at_call 57; (with_reducible refine HD.out.mono ?_); rintro y w1 ⟨rfl, rfl⟩))
      go_ret
      exact ⟨by rw [HF.out]; rfl, HB.out⟩
    · have HF : Hid (inShape x = true) := show _ = _ by rw [HEQ.out]; simp
      clear HEQ
      go_enter Tryd.func60, Tryd.ntmps60
      go_upto_region 1 with fail
      change Code.wp _ _ _ _ (w.alloc (.cells #[.string (mkB x.kind), .int .i64 x.d, .slice A x.args.length ca, .int .i64 x.num, .string (mkB x.name)] 52))
      rw [HQ.out, HWL.out]
      go_wp2_with (first | (go_at_call 51; (with_reducible refine HM.out.mono ?_); rintro y w1 ⟨rfl, rfl⟩) | (go_at_call 57; (with_reducible refine HD.out.mono ?_); rintro y w1 ⟨rfl, rfl⟩))
      go_ret
      exact ⟨by rw [HF.out]; rfl, HB.out⟩
  by_cases hkTick : x.kind = kTick
  · have hk : x.kind = kTick := hkTick
    have e1 : manyW (kindW x.kind) = 0 ∧ (kindW x.kind != 0) = true ∧ madeW x.kind = false ∧ (x.kind == kParam || x.kind == kConst) = false ∧ (x.kind == kOne || x.kind == kTwo || x.kind == kCall) = false := by rw [hk]; decide
    have qkParam : ((mkB x.kind).toList == [112, 97, 114, 97, 109]) = false := by rw [mkB_eq, hk]; rfl
    have qkConst : ((mkB x.kind).toList == [99, 111, 110, 115, 116]) = false := by rw [mkB_eq, hk]; rfl
    have qkOne : ((mkB x.kind).toList == [111, 110, 101]) = false := by rw [mkB_eq, hk]; rfl
    have qkTwo : ((mkB x.kind).toList == [116, 119, 111]) = false := by rw [mkB_eq, hk]; rfl
    have qkCall : ((mkB x.kind).toList == [99, 97, 108, 108]) = false := by rw [mkB_eq, hk]; rfl
    have qkTick : ((mkB x.kind).toList == [116, 105, 99, 107]) = true := by rw [mkB_eq, hk]; rfl
    have qkPrint : ((mkB x.kind).toList == [112, 114, 105, 110, 116]) = false := by rw [mkB_eq, hk]; rfl
    obtain ⟨e1, e2, e3, e4, e5⟩ := e1
    rw [e1, e2] at hm0
    rw [e3] at hd0
    rw [e1, e3, e4, e5] at HEQ
    obtain ⟨l1, hl1⟩ : ∃ l, ((x.args.length : Int) == 0) = l := ⟨_, rfl⟩
    rw [hl1] at HEQ
    have HM := Lib.hid hm0
    have HD := Lib.hid hd0
    clear hm0 hd0 e1 e2 e3 e4 e5
    clear hk hkTick
    cases l1
    · have HF : Hid (inShape x = false) := show _ = _ by rw [HEQ.out]; simp
      clear HEQ
      go_enter Tryd.func60, Tryd.ntmps60
      go_upto_region 1 with fail
      change Code.wp _ _ _ _ (w.alloc (.cells #[.string (mkB x.kind), .int .i64 x.d, .slice A x.args.length ca, .int .i64 x.num, .string (mkB x.name)] 52))
      rw [HQ.out, HWL.out]
      go_wp2_with (first | (go_at_call 51; (with_reducible refine HM.out.mono ?_); rintro y w1 ⟨rfl, rfl⟩) | (go_at_call 57; (with_reducible refine HD.out.mono ?_); rintro y w1 ⟨rfl, rfl⟩))
      go_ret
      exact ⟨by rw [HF.out]; rfl, HB.out⟩
    · cases l2
      · have HF : Hid (inShape x = false) := show _ = _ by rw [HEQ.out]; simp
        clear HEQ
        go_enter Tryd.func60, Tryd.ntmps60
        go_upto_region 1 with fail
        change Code.wp _ _ _ _ (w.alloc (.cells #[.string (mkB x.kind), .int .i64 x.d, .slice A x.args.length ca, .int .i64 x.num, .string (mkB x.name)] 52))
        rw [HQ.out, HWL.out]
        go_wp2_with (first | (go_at_call 51; (with_reducible refine HM.out.mono ?_); rintro y w1 ⟨rfl, rfl⟩) | (go_at_call 57; (with_reducible refine HD.out.mono ?_); rintro y w1 ⟨rfl, rfl⟩))
        go_ret
        exact ⟨by rw [HF.out]; rfl, HB.out⟩
      · cases l3
        · have HF : Hid (inShape x = false) := show _ = _ by rw [HEQ.out]; simp
          clear HEQ
          go_enter Tryd.func60, Tryd.ntmps60
          go_upto_region 1 with fail
          change Code.wp _ _ _ _ (w.alloc (.cells #[.string (mkB x.kind), .int .i64 x.d, .slice A x.args.length ca, .int .i64 x.num, .string (mkB x.name)] 52))
          rw [HQ.out, HWL.out]
          go_wp2_with (first | (go_at_call 51; (with_reducible refine HM.out.mono ?_); rintro y w1 ⟨rfl, rfl⟩) | (go_at_call 57; (with_reducible refine HD.out.mono ?_); rintro y w1 ⟨rfl, rfl⟩))
          go_ret
          exact ⟨by rw [HF.out]; rfl, HB.out⟩
        · cases l4
          · have HF : Hid (inShape x = false) := show _ = _ by rw [HEQ.out]; simp
            clear HEQ
            go_enter Tryd.func60, Tryd.ntmps60
            go_upto_region 1 with fail
            change Code.wp _ _ _ _ (w.alloc (.cells #[.string (mkB x.kind), .int .i64 x.d, .slice A x.args.length ca, .int .i64 x.num, .string (mkB x.name)] 52))
            rw [HQ.out, HWL.out]
            go_wp2_with (first | (go_at_call 51; (with_reducible refine HM.out.mono ?_); rintro y w1 ⟨rfl, rfl⟩) | (go_at_call 57; (with_reducible refine HD.out.mono ?_); rintro y w1 ⟨rfl, rfl⟩))
            go_ret
            exact ⟨by rw [HF.out]; rfl, HB.out⟩
          · have HF : Hid (inShape x = true) := show _ = _ by rw [HEQ.out]; simp
            clear HEQ
            go_enter Tryd.func60, Tryd.ntmps60
            go_upto_region 1 with fail
            change Code.wp _ _ _ _ (w.alloc (.cells #[.string (mkB x.kind), .int .i64 x.d, .slice A x.args.length ca, .int .i64 x.num, .string (mkB x.name)] 52))
            rw [HQ.out, HWL.out]
            go_wp2_with (first | (go_at_call 51; (with_reducible refine HM.out.mono ?_); rintro y w1 ⟨rfl, rfl⟩) | (go_at_call 57; (with_reducible refine HD.out.mono ?_); rintro y w1 ⟨rfl, rfl⟩))
            go_ret
            exact ⟨by rw [HF.out]; rfl, HB.out⟩
  by_cases hkPrint : x.kind = kPrint
  · have hk : x.kind = kPrint := hkPrint
    have e1 : manyW (kindW x.kind) = 1 ∧ (kindW x.kind != 0) = true ∧ madeW x.kind = false ∧ (x.kind == kParam || x.kind == kConst) = false ∧ (x.kind == kOne || x.kind == kTwo || x.kind == kCall) = false := by rw [hk]; decide
    have qkParam : ((mkB x.kind).toList == [112, 97, 114, 97, 109]) = false := by rw [mkB_eq, hk]; rfl
    have qkConst : ((mkB x.kind).toList == [99, 111, 110, 115, 116]) = false := by rw [mkB_eq, hk]; rfl
    have qkOne : ((mkB x.kind).toList == [111, 110, 101]) = false := by rw [mkB_eq, hk]; rfl
    have qkTwo : ((mkB x.kind).toList == [116, 119, 111]) = false := by rw [mkB_eq, hk]; rfl
    have qkCall : ((mkB x.kind).toList == [99, 97, 108, 108]) = false := by rw [mkB_eq, hk]; rfl
    have qkTick : ((mkB x.kind).toList == [116, 105, 99, 107]) = false := by rw [mkB_eq, hk]; rfl
    have qkPrint : ((mkB x.kind).toList == [112, 114, 105, 110, 116]) = true := by rw [mkB_eq, hk]; rfl
    obtain ⟨e1, e2, e3, e4, e5⟩ := e1
    rw [e1, e2] at hm0
    rw [e3] at hd0
    rw [e1, e3, e4, e5] at HEQ
    obtain ⟨l1, hl1⟩ : ∃ l, ((x.args.length : Int) == 1) = l := ⟨_, rfl⟩
    rw [hl1] at HEQ
    have HM := Lib.hid hm0
    have HD := Lib.hid hd0
    clear hm0 hd0 e1 e2 e3 e4 e5
    clear hk hkPrint
    cases l1
    · have HF : Hid (inShape x = false) := show _ = _ by rw [HEQ.out]; simp
      clear HEQ
      go_enter Tryd.func60, Tryd.ntmps60
      go_upto_region 1 with fail
      change Code.wp _ _ _ _ (w.alloc (.cells #[.string (mkB x.kind), .int .i64 x.d, .slice A x.args.length ca, .int .i64 x.num, .string (mkB x.name)] 52))
      rw [HQ.out, HWL.out]
      go_wp2_with (first | (go_at_call 51; (with_reducible refine HM.out.mono ?_); rintro y w1 ⟨rfl, rfl⟩) | (go_at_call 57; (with_reducible refine HD.out.mono ?_); rintro y w1 ⟨rfl, rfl⟩))
      go_ret
      exact ⟨by rw [HF.out]; rfl, HB.out⟩
    · cases l2
      · have HF : Hid (inShape x = false) := show _ = _ by rw [HEQ.out]; simp
        clear HEQ
        go_enter Tryd.func60, Tryd.ntmps60
        go_upto_region 1 with fail
        change Code.wp _ _ _ _ (w.alloc (.cells #[.string (mkB x.kind), .int .i64 x.d, .slice A x.args.length ca, .int .i64 x.num, .string (mkB x.name)] 52))
        rw [HQ.out, HWL.out]
        go_wp2_with (first | (go_at_call 51; (with_reducible refine HM.out.mono ?_); rintro y w1 ⟨rfl, rfl⟩) | (go_at_call 57; (with_reducible refine HD.out.mono ?_); rintro y w1 ⟨rfl, rfl⟩))
        go_ret
        exact ⟨by rw [HF.out]; rfl, HB.out⟩
      · cases l3
        · have HF : Hid (inShape x = false) := show _ = _ by rw [HEQ.out]; simp
          clear HEQ
          go_enter Tryd.func60, Tryd.ntmps60
          go_upto_region 1 with fail
          change Code.wp _ _ _ _ (w.alloc (.cells #[.string (mkB x.kind), .int .i64 x.d, .slice A x.args.length ca, .int .i64 x.num, .string (mkB x.name)] 52))
          rw [HQ.out, HWL.out]
          go_wp2_with (first | (go_at_call 51; (with_reducible refine HM.out.mono ?_); rintro y w1 ⟨rfl, rfl⟩) | (go_at_call 57; (with_reducible refine HD.out.mono ?_); rintro y w1 ⟨rfl, rfl⟩))
          go_ret
          exact ⟨by rw [HF.out]; rfl, HB.out⟩
        · cases l4
          · have HF : Hid (inShape x = false) := show _ = _ by rw [HEQ.out]; simp
            clear HEQ
            go_enter Tryd.func60, Tryd.ntmps60
            go_upto_region 1 with fail
            change Code.wp _ _ _ _ (w.alloc (.cells #[.string (mkB x.kind), .int .i64 x.d, .slice A x.args.length ca, .int .i64 x.num, .string (mkB x.name)] 52))
            rw [HQ.out, HWL.out]
            go_wp2_with (first | (go_at_call 51; (with_reducible refine HM.out.mono ?_); rintro y w1 ⟨rfl, rfl⟩) | (go_at_call 57; (with_reducible refine HD.out.mono ?_); rintro y w1 ⟨rfl, rfl⟩))
            go_ret
            exact ⟨by rw [HF.out]; rfl, HB.out⟩
          · have HF : Hid (inShape x = true) := show _ = _ by rw [HEQ.out]; simp
            clear HEQ
            go_enter Tryd.func60, Tryd.ntmps60
            go_upto_region 1 with fail
            change Code.wp _ _ _ _ (w.alloc (.cells #[.string (mkB x.kind), .int .i64 x.d, .slice A x.args.length ca, .int .i64 x.num, .string (mkB x.name)] 52))
            rw [HQ.out, HWL.out]
            go_wp2_with (first | (go_at_call 51; (with_reducible refine HM.out.mono ?_); rintro y w1 ⟨rfl, rfl⟩) | (go_at_call 57; (with_reducible refine HD.out.mono ?_); rintro y w1 ⟨rfl, rfl⟩))
            go_ret
            exact ⟨by rw [HF.out]; rfl, HB.out⟩
  have e1 : manyW (kindW x.kind) = 0 ∧ (kindW x.kind != 0) = false ∧ madeW x.kind = true ∧ (x.kind == kParam || x.kind == kConst) = false ∧ (x.kind == kOne || x.kind == kTwo || x.kind == kCall) = false := by
    rw [kindW_none hkParam hkConst hkOne hkTwo hkCall hkTick hkPrint]
    refine ⟨rfl, rfl, ?_, ?_, ?_⟩
    · unfold madeW; simp [hkTick, hkPrint]
    · simp [hkParam, hkConst]
    · simp [hkOne, hkTwo, hkCall]
  have qkParam : ((mkB x.kind).toList == [112, 97, 114, 97, 109]) = false := by rw [mkB_eq]; exact beq_eq_false_iff_ne.2 hkParam
  have qkConst : ((mkB x.kind).toList == [99, 111, 110, 115, 116]) = false := by rw [mkB_eq]; exact beq_eq_false_iff_ne.2 hkConst
  have qkOne : ((mkB x.kind).toList == [111, 110, 101]) = false := by rw [mkB_eq]; exact beq_eq_false_iff_ne.2 hkOne
  have qkTwo : ((mkB x.kind).toList == [116, 119, 111]) = false := by rw [mkB_eq]; exact beq_eq_false_iff_ne.2 hkTwo
  have qkCall : ((mkB x.kind).toList == [99, 97, 108, 108]) = false := by rw [mkB_eq]; exact beq_eq_false_iff_ne.2 hkCall
  have qkTick : ((mkB x.kind).toList == [116, 105, 99, 107]) = false := by rw [mkB_eq]; exact beq_eq_false_iff_ne.2 hkTick
  have qkPrint : ((mkB x.kind).toList == [112, 114, 105, 110, 116]) = false := by rw [mkB_eq]; exact beq_eq_false_iff_ne.2 hkPrint
  obtain ⟨e1, e2, e3, e4, e5⟩ := e1
  rw [e1, e2] at hm0
  rw [e3] at hd0
  rw [e1, e3, e4, e5] at HEQ
  obtain ⟨l1, hl1⟩ : ∃ l, ((x.args.length : Int) == 0) = l := ⟨_, rfl⟩
  rw [hl1] at HEQ
  have HM := Lib.hid hm0
  have HD := Lib.hid hd0
  clear hm0 hd0 e1 e2 e3 e4 e5
  cases l1
  · have HF : Hid (inShape x = false) := show _ = _ by rw [HEQ.out]; simp
    clear HEQ
    go_enter Tryd.func60, Tryd.ntmps60
    go_upto_region 1 with fail
    change Code.wp _ _ _ _ (w.alloc (.cells #[.string (mkB x.kind), .int .i64 x.d, .slice A x.args.length ca, .int .i64 x.num, .string (mkB x.name)] 52))
    rw [HQ.out, HWL.out]
    go_wp2_with (first | (go_at_call 51; (with_reducible refine HM.out.mono ?_); rintro y w1 ⟨rfl, rfl⟩) | (go_at_call 57; (with_reducible refine HD.out.mono ?_); rintro y w1 ⟨rfl, rfl⟩))
    go_ret
    exact ⟨by rw [HF.out]; rfl, HB.out⟩
  · cases l3
    · have HF : Hid (inShape x = false) := show _ = _ by rw [HEQ.out]; simp
      clear HEQ
      go_enter Tryd.func60, Tryd.ntmps60
      go_upto_region 1 with fail
      change Code.wp _ _ _ _ (w.alloc (.cells #[.string (mkB x.kind), .int .i64 x.d, .slice A x.args.length ca, .int .i64 x.num, .string (mkB x.name)] 52))
      rw [HQ.out, HWL.out]
      go_wp2_with (first | (go_at_call 51; (with_reducible refine HM.out.mono ?_); rintro y w1 ⟨rfl, rfl⟩) | (go_at_call 57; (with_reducible refine HD.out.mono ?_); rintro y w1 ⟨rfl, rfl⟩))
      go_ret
      exact ⟨by rw [HF.out]; rfl, HB.out⟩
    · cases l4
      · have HF : Hid (inShape x = false) := show _ = _ by rw [HEQ.out]; simp
        clear HEQ
        go_enter Tryd.func60, Tryd.ntmps60
        go_upto_region 1 with fail
        change Code.wp _ _ _ _ (w.alloc (.cells #[.string (mkB x.kind), .int .i64 x.d, .slice A x.args.length ca, .int .i64 x.num, .string (mkB x.name)] 52))
        rw [HQ.out, HWL.out]
        go_wp2_with (first | (go_at_call 51; (with_reducible refine HM.out.mono ?_); rintro y w1 ⟨rfl, rfl⟩) | (go_at_call 57; (with_reducible refine HD.out.mono ?_); rintro y w1 ⟨rfl, rfl⟩))
        go_ret
        exact ⟨by rw [HF.out]; rfl, HB.out⟩
      · have HF : Hid (inShape x = true) := show _ = _ by rw [HEQ.out]; simp
        clear HEQ
        go_enter Tryd.func60, Tryd.ntmps60
        go_upto_region 1 with fail
        change Code.wp _ _ _ _ (w.alloc (.cells #[.string (mkB x.kind), .int .i64 x.d, .slice A x.args.length ca, .int .i64 x.num, .string (mkB x.name)] 52))
        rw [HQ.out, HWL.out]
        go_wp2_with (first | (go_at_call 51; (with_reducible refine HM.out.mono ?_); rintro y w1 ⟨rfl, rfl⟩) | (go_at_call 57; (with_reducible refine HD.out.mono ?_); rintro y w1 ⟨rfl, rfl⟩))
        go_ret
        exact ⟨by rw [HF.out]; rfl, HB.out⟩
set_option maxRecDepth 100000 in
theorem shapes1_any (x : PIn) (A : Option Addr) (c : Nat) (w : World) : Calls Tryd.prog 59 #[inV x A c] w (Ret (.bool (!inShape x)) w) := by
  have hb : Below w.heap.size w (w.alloc (insO x A c)) := grow_alloc (grow_refl _) _
  have HO := Lib.hid (shape_any x A c (w.alloc (insO x A c)))
  have HB := Lib.hid hb
  unfold inV at HO ⊢
  unfold insO at HO HB
  clear hb
  obtain ⟨b2, hb2⟩ : ∃ b, inShape x = b := ⟨_, rfl⟩
  rw [hb2] at HO ⊢
  clear hb2
  go_enter Tryd.func59, Tryd.ntmps59
  go_wp2_with (go_at_call 60; (with_reducible refine HO.out.mono ?_); rintro y w2 ⟨rfl, hb2⟩)
  go_ret
  exact ⟨rfl, grow_trans HB.out hb2⟩
set_option maxRecDepth 100000 in
theorem idxSh (l : List PIn) (hl : l.length ≤ 100000) (I : Option Addr) (ic : Nat) (w : World) (hr : RdL 5 GoodI w l I) (HC : ∀ x ∈ l, ∀ A c w', Below w.heap.size w w' → Calls Tryd.prog 59 #[inV x A c] w' (Ret (.bool (!inShape x)) w')) :
    Calls Tryd.prog 69 #[.slice I l.length ic, .func (.func 59) #[] #[]] w (Ret (.int .i64 (firstBad inShape l 0)) w) := by
  have HR := Lib.hid hr
  have HH := Lib.hid HC
  clear hr HC
  go_enter Tryd.func69, Tryd.ntmps69
  go_wp2_with fail
  go_loopw [5, 8] (fun _ i wr => ∃ k : Nat, k ≤ l.length ∧ i = .int .i64 k ∧ firstBad inShape l 0 = firstBad inShape (l.drop k) k ∧ Below w.heap.size w wr) (fun _ i _ => l.length - (intOf i).toNat)
  case atStart => exact ⟨0, Nat.zero_le _, rfl, rfl, grow_refl _⟩
  case round =>
    obtain ⟨k, hk, rfl, hI, hbel⟩ := hrel
    have HI := Lib.hid hI
    clear hI
    by_cases hlt : k < l.length
    · obtain ⟨b, off, A, c, rfl, hx⟩ := ins_at (HR.out.keep (Keeps.of_below hbel) fun _ _ => GoodI.keep (Keeps.of_below hbel)) hlt
      obtain ⟨c0, c1, c2, c3, c4, -⟩ := hx
      have hlt' : (k : Int) < (l.length : Int) := by omega
      have HS := Lib.hid (firstBad_drop (P := inShape) hlt)
      have h1 := HH.out _ (List.getElem_mem hlt) A c wr hbel
      unfold inV at h1
      have HN := Lib.hid h1
      clear h1
      cases hn : inShape l[k]
      · rw [hn] at HN HS
        have HF : Hid (firstBad inShape l 0 = (k : Int)) := show _ = _ from HI.out.trans HS.out
        clear hn
        go_wp2_with (go_at_call 59; (with_reducible refine HN.out.mono ?_); rintro y w1 ⟨rfl, hb1⟩)
        go_ret
        exact ⟨by rw [HF.out]; rfl, grow_trans hbel hb1⟩
      · rw [hn] at HN HS
        have HF : Hid (firstBad inShape l 0 = firstBad inShape (l.drop (k + 1)) (k + 1)) := show _ = _ from HI.out.trans HS.out
        clear hn
        go_wp2_with (go_at_call 59; (with_reducible refine HN.out.mono ?_); rintro y w1 ⟨rfl, hb1⟩)
        go_roundw
        case rel => exact ⟨k + 1, by omega, by go_num, HF.out, grow_trans hbel hb1⟩
        case measure => simp [intOf]; omega
    · have hk' : k = l.length := by omega
      have HF : Hid (firstBad inShape l 0 = -1) := show _ = _ by rw [HI.out, hk', List.drop_length]; rfl
      subst hk'
      go_wp2_with fail
      go_ret
      exact ⟨by rw [HF.out]; rfl, hbel⟩
set_option maxRecDepth 100000 in
theorem hasSh (l : List PIn) (hl : l.length ≤ 100000) (I : Option Addr) (ic : Nat) (w : World) (hr : RdL 5 GoodI w l I) (HC : ∀ x ∈ l, ∀ A c w', Below w.heap.size w w' → Calls Tryd.prog 59 #[inV x A c] w' (Ret (.bool (!inShape x)) w')) :
    Calls Tryd.prog 49 #[.slice I l.length ic, .func (.func 59) #[] #[]] w (Ret (.bool (!l.all inShape)) w) := by
  have HI := Lib.hid (idxSh l hl I ic w hr HC)
  have HA : Hid (decide (0 ≤ firstBad inShape l 0) = !l.all inShape) := show _ = _ from firstBad_all _ l 0
  clear HC hr
  go_enter Tryd.func49, Tryd.ntmps49
  go_wp2_with (go_at_call 69; (with_reducible refine HI.out.mono ?_); rintro y w1 ⟨rfl, hb1⟩)
  go_ret
  exact ⟨by rw [← HA.out]; rfl, hb1⟩
end Go.Proofs.YtdilakpipbkokaaDoor
