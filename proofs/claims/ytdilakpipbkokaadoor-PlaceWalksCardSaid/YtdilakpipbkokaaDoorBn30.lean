import Derived.Test.YtdilakpipbkokaaDoorBn18
import Derived.Test.YtdilakpipbkokaaDoorBn29
set_option linter.unusedVariables false
set_option linter.unusedSimpArgs false
namespace Go.Proofs.YtdilakpipbkokaaDoor
open Go.RowKit

/-! the document's look at an instruction (printed by gen_plr1.py) -/
set_option maxRecDepth 100000 in
set_option maxHeartbeats 8000000 in
theorem insKind_any (x : PIn) (A : Option Addr) (ca : Nat) (w : World) : Calls Tryd.prog 27 #[inV x A ca] w (Ret (.bool (inKnown x)) w) := by
  obtain ⟨q, hq⟩ : ∃ q, w.heap.size = q := ⟨_, rfl⟩
  obtain ⟨wL, hwL⟩ : ∃ wL, w.alloc (.cells #[.string (mkB x.kind), .int .i64 x.d, .slice A x.args.length ca, .int .i64 x.num, .string (mkB x.name)] 61) = wL := ⟨_, rfl⟩
  have hb : Below w.heap.size w wL := by rw [← hwL]; exact grow_alloc (grow_refl _) _
  have mL : wL.heap[q]? = some (.cells #[.string (mkB x.kind), .int .i64 x.d, .slice A x.args.length ca, .int .i64 x.num, .string (mkB x.name)] 61 (0, 0)) := by rw [← hwL, ← hq]; exact heap_alloc_new w _
  have HB := Lib.hid hb
  have HWL := Lib.hid hwL
  have HQ := Lib.hid hq
  obtain ⟨c0, c1, c2, c3, c4⟩ := row5B mL
  have HO : Hid (∀ w', Calls Tryd.prog 41 #[.string (mkB x.name)] w' fun e w'' => e = .returned (.bool (oneV x.name 0).isSome) ∧ w'' = w') := fun w' => isOne2 x.name w'
  have HT : Hid (∀ w', Calls Tryd.prog 42 #[.string (mkB x.name)] w' (Ret (.bool (doV x.name 0 0).isSome) w')) := fun w' => isTwo2 x.name w'
  obtain ⟨b1, hb1⟩ : ∃ b, (oneV x.name 0).isSome = b := ⟨_, rfl⟩
  obtain ⟨b2, hb2⟩ : ∃ b, (doV x.name 0 0).isSome = b := ⟨_, rfl⟩
  have HEQ : Hid (inKnown x = ((kindW x.kind != 0) && (if kindW x.kind = 3 then b1 else if kindW x.kind = 4 then b2 else true))) := show _ = _ by rw [← hb1, ← hb2]; rfl
  rw [hb1] at HO
  rw [hb2] at HT
  unfold inV
  clear hb mL hwL hq hb1 hb2
  by_cases hkParam : x.kind = kParam
  · have hk : x.kind = kParam := hkParam
    have HF : Hid (inKnown x = true) := show _ = _ by rw [HEQ.out, show kindW x.kind = 1 by rw [hk]; decide]; simp
    have qkParam : ((mkB x.kind).toList == [112, 97, 114, 97, 109]) = true := by rw [mkB_eq, hk]; rfl
    have qkConst : ((mkB x.kind).toList == [99, 111, 110, 115, 116]) = false := by rw [mkB_eq, hk]; rfl
    have qkOne : ((mkB x.kind).toList == [111, 110, 101]) = false := by rw [mkB_eq, hk]; rfl
    have qkTwo : ((mkB x.kind).toList == [116, 119, 111]) = false := by rw [mkB_eq, hk]; rfl
    have qkCall : ((mkB x.kind).toList == [99, 97, 108, 108]) = false := by rw [mkB_eq, hk]; rfl
    have qkTick : ((mkB x.kind).toList == [116, 105, 99, 107]) = false := by rw [mkB_eq, hk]; rfl
    have qkPrint : ((mkB x.kind).toList == [112, 114, 105, 110, 116]) = false := by rw [mkB_eq, hk]; rfl
    clear hk hkParam HEQ
    go_enter Tryd.func27, Tryd.ntmps27
    go_upto_region 1 with fail
    change Code.wp _ _ _ _ (w.alloc (.cells #[.string (mkB x.kind), .int .i64 x.d, .slice A x.args.length ca, .int .i64 x.num, .string (mkB x.name)] 61))
    rw [HQ.out, HWL.out]
    go_wp2_with (first | (go_at_call 41; (with_reducible refine (HO.out _).mono ?_); rintro y w1 ⟨rfl, rfl⟩) | (go_at_call 42; (with_reducible refine (HT.out _).mono ?_); rintro y w1 ⟨rfl, hb1⟩))
    go_ret
    exact ⟨by rw [HF.out]; rfl, HB.out⟩
  by_cases hkConst : x.kind = kConst
  · have hk : x.kind = kConst := hkConst
    have HF : Hid (inKnown x = true) := show _ = _ by rw [HEQ.out, show kindW x.kind = 2 by rw [hk]; decide]; simp
    have qkParam : ((mkB x.kind).toList == [112, 97, 114, 97, 109]) = false := by rw [mkB_eq, hk]; rfl
    have qkConst : ((mkB x.kind).toList == [99, 111, 110, 115, 116]) = true := by rw [mkB_eq, hk]; rfl
    have qkOne : ((mkB x.kind).toList == [111, 110, 101]) = false := by rw [mkB_eq, hk]; rfl
    have qkTwo : ((mkB x.kind).toList == [116, 119, 111]) = false := by rw [mkB_eq, hk]; rfl
    have qkCall : ((mkB x.kind).toList == [99, 97, 108, 108]) = false := by rw [mkB_eq, hk]; rfl
    have qkTick : ((mkB x.kind).toList == [116, 105, 99, 107]) = false := by rw [mkB_eq, hk]; rfl
    have qkPrint : ((mkB x.kind).toList == [112, 114, 105, 110, 116]) = false := by rw [mkB_eq, hk]; rfl
    clear hk hkConst HEQ
    go_enter Tryd.func27, Tryd.ntmps27
    go_upto_region 1 with fail
    change Code.wp _ _ _ _ (w.alloc (.cells #[.string (mkB x.kind), .int .i64 x.d, .slice A x.args.length ca, .int .i64 x.num, .string (mkB x.name)] 61))
    rw [HQ.out, HWL.out]
    go_wp2_with (first | (go_at_call 41; (with_reducible refine (HO.out _).mono ?_); rintro y w1 ⟨rfl, rfl⟩) | (go_at_call 42; (with_reducible refine (HT.out _).mono ?_); rintro y w1 ⟨rfl, hb1⟩))
    go_ret
    exact ⟨by rw [HF.out]; rfl, HB.out⟩
  by_cases hkOne : x.kind = kOne
  · have hk : x.kind = kOne := hkOne
    have HF : Hid (inKnown x = b1) := show _ = _ by rw [HEQ.out, show kindW x.kind = 3 by rw [hk]; decide]; simp
    have qkParam : ((mkB x.kind).toList == [112, 97, 114, 97, 109]) = false := by rw [mkB_eq, hk]; rfl
    have qkConst : ((mkB x.kind).toList == [99, 111, 110, 115, 116]) = false := by rw [mkB_eq, hk]; rfl
    have qkOne : ((mkB x.kind).toList == [111, 110, 101]) = true := by rw [mkB_eq, hk]; rfl
    have qkTwo : ((mkB x.kind).toList == [116, 119, 111]) = false := by rw [mkB_eq, hk]; rfl
    have qkCall : ((mkB x.kind).toList == [99, 97, 108, 108]) = false := by rw [mkB_eq, hk]; rfl
    have qkTick : ((mkB x.kind).toList == [116, 105, 99, 107]) = false := by rw [mkB_eq, hk]; rfl
    have qkPrint : ((mkB x.kind).toList == [112, 114, 105, 110, 116]) = false := by rw [mkB_eq, hk]; rfl
    clear hk hkOne HEQ
    go_enter Tryd.func27, Tryd.ntmps27
    go_upto_region 1 with fail
    change Code.wp _ _ _ _ (w.alloc (.cells #[.string (mkB x.kind), .int .i64 x.d, .slice A x.args.length ca, .int .i64 x.num, .string (mkB x.name)] 61))
    rw [HQ.out, HWL.out]
    go_wp2_with (first | (go_at_call 41; (with_reducible refine (HO.out _).mono ?_); rintro y w1 ⟨rfl, rfl⟩) | (go_at_call 42; (with_reducible refine (HT.out _).mono ?_); rintro y w1 ⟨rfl, hb1⟩))
    go_ret
    exact ⟨by rw [HF.out]; rfl, HB.out⟩
  by_cases hkTwo : x.kind = kTwo
  · have hk : x.kind = kTwo := hkTwo
    have HF : Hid (inKnown x = b2) := show _ = _ by rw [HEQ.out, show kindW x.kind = 4 by rw [hk]; decide]; simp
    have qkParam : ((mkB x.kind).toList == [112, 97, 114, 97, 109]) = false := by rw [mkB_eq, hk]; rfl
    have qkConst : ((mkB x.kind).toList == [99, 111, 110, 115, 116]) = false := by rw [mkB_eq, hk]; rfl
    have qkOne : ((mkB x.kind).toList == [111, 110, 101]) = false := by rw [mkB_eq, hk]; rfl
    have qkTwo : ((mkB x.kind).toList == [116, 119, 111]) = true := by rw [mkB_eq, hk]; rfl
    have qkCall : ((mkB x.kind).toList == [99, 97, 108, 108]) = false := by rw [mkB_eq, hk]; rfl
    have qkTick : ((mkB x.kind).toList == [116, 105, 99, 107]) = false := by rw [mkB_eq, hk]; rfl
    have qkPrint : ((mkB x.kind).toList == [112, 114, 105, 110, 116]) = false := by rw [mkB_eq, hk]; rfl
    clear hk hkTwo HEQ
    go_enter Tryd.func27, Tryd.ntmps27
    go_upto_region 1 with fail
    change Code.wp _ _ _ _ (w.alloc (.cells #[.string (mkB x.kind), .int .i64 x.d, .slice A x.args.length ca, .int .i64 x.num, .string (mkB x.name)] 61))
    rw [HQ.out, HWL.out]
    go_wp2_with (first | (go_at_call 41; (with_reducible refine (HO.out _).mono ?_); rintro y w1 ⟨rfl, rfl⟩) | (go_at_call 42; (with_reducible refine (HT.out _).mono ?_); rintro y w1 ⟨rfl, hb1⟩))
    go_ret
    exact ⟨by rw [HF.out]; rfl, grow_trans HB.out hb1⟩
  by_cases hkCall : x.kind = kCall
  · have hk : x.kind = kCall := hkCall
    have HF : Hid (inKnown x = true) := show _ = _ by rw [HEQ.out, show kindW x.kind = 5 by rw [hk]; decide]; simp
    have qkParam : ((mkB x.kind).toList == [112, 97, 114, 97, 109]) = false := by rw [mkB_eq, hk]; rfl
    have qkConst : ((mkB x.kind).toList == [99, 111, 110, 115, 116]) = false := by rw [mkB_eq, hk]; rfl
    have qkOne : ((mkB x.kind).toList == [111, 110, 101]) = false := by rw [mkB_eq, hk]; rfl
    have qkTwo : ((mkB x.kind).toList == [116, 119, 111]) = false := by rw [mkB_eq, hk]; rfl
    have qkCall : ((mkB x.kind).toList == [99, 97, 108, 108]) = true := by rw [mkB_eq, hk]; rfl
    have qkTick : ((mkB x.kind).toList == [116, 105, 99, 107]) = false := by rw [mkB_eq, hk]; rfl
    have qkPrint : ((mkB x.kind).toList == [112, 114, 105, 110, 116]) = false := by rw [mkB_eq, hk]; rfl
    clear hk hkCall HEQ
    go_enter Tryd.func27, Tryd.ntmps27
    go_upto_region 1 with fail
    change Code.wp _ _ _ _ (w.alloc (.cells #[.string (mkB x.kind), .int .i64 x.d, .slice A x.args.length ca, .int .i64 x.num, .string (mkB x.name)] 61))
    rw [HQ.out, HWL.out]
    go_wp2_with (first | (go_at_call 41; (with_reducible refine (HO.out _).mono ?_); rintro y w1 ⟨rfl, rfl⟩) | (go_at_call 42; (with_reducible refine (HT.out _).mono ?_); rintro y w1 ⟨rfl, hb1⟩))
    go_ret
    exact ⟨by rw [HF.out]; rfl, HB.out⟩
  by_cases hkTick : x.kind = kTick
  · have hk : x.kind = kTick := hkTick
    have HF : Hid (inKnown x = true) := show _ = _ by rw [HEQ.out, show kindW x.kind = 6 by rw [hk]; decide]; simp
    have qkParam : ((mkB x.kind).toList == [112, 97, 114, 97, 109]) = false := by rw [mkB_eq, hk]; rfl
    have qkConst : ((mkB x.kind).toList == [99, 111, 110, 115, 116]) = false := by rw [mkB_eq, hk]; rfl
    have qkOne : ((mkB x.kind).toList == [111, 110, 101]) = false := by rw [mkB_eq, hk]; rfl
    have qkTwo : ((mkB x.kind).toList == [116, 119, 111]) = false := by rw [mkB_eq, hk]; rfl
    have qkCall : ((mkB x.kind).toList == [99, 97, 108, 108]) = false := by rw [mkB_eq, hk]; rfl
    have qkTick : ((mkB x.kind).toList == [116, 105, 99, 107]) = true := by rw [mkB_eq, hk]; rfl
    have qkPrint : ((mkB x.kind).toList == [112, 114, 105, 110, 116]) = false := by rw [mkB_eq, hk]; rfl
    clear hk hkTick HEQ
    go_enter Tryd.func27, Tryd.ntmps27
    go_upto_region 1 with fail
    change Code.wp _ _ _ _ (w.alloc (.cells #[.string (mkB x.kind), .int .i64 x.d, .slice A x.args.length ca, .int .i64 x.num, .string (mkB x.name)] 61))
    rw [HQ.out, HWL.out]
    go_wp2_with (first | (go_at_call 41; (with_reducible refine (HO.out _).mono ?_); rintro y w1 ⟨rfl, rfl⟩) | (go_at_call 42; (with_reducible refine (HT.out _).mono ?_); rintro y w1 ⟨rfl, hb1⟩))
    go_ret
    exact ⟨by rw [HF.out]; rfl, HB.out⟩
  by_cases hkPrint : x.kind = kPrint
  · have hk : x.kind = kPrint := hkPrint
    have HF : Hid (inKnown x = true) := show _ = _ by rw [HEQ.out, show kindW x.kind = 7 by rw [hk]; decide]; simp
    have qkParam : ((mkB x.kind).toList == [112, 97, 114, 97, 109]) = false := by rw [mkB_eq, hk]; rfl
    have qkConst : ((mkB x.kind).toList == [99, 111, 110, 115, 116]) = false := by rw [mkB_eq, hk]; rfl
    have qkOne : ((mkB x.kind).toList == [111, 110, 101]) = false := by rw [mkB_eq, hk]; rfl
    have qkTwo : ((mkB x.kind).toList == [116, 119, 111]) = false := by rw [mkB_eq, hk]; rfl
    have qkCall : ((mkB x.kind).toList == [99, 97, 108, 108]) = false := by rw [mkB_eq, hk]; rfl
    have qkTick : ((mkB x.kind).toList == [116, 105, 99, 107]) = false := by rw [mkB_eq, hk]; rfl
    have qkPrint : ((mkB x.kind).toList == [112, 114, 105, 110, 116]) = true := by rw [mkB_eq, hk]; rfl
    clear hk hkPrint HEQ
    go_enter Tryd.func27, Tryd.ntmps27
    go_upto_region 1 with fail
    change Code.wp _ _ _ _ (w.alloc (.cells #[.string (mkB x.kind), .int .i64 x.d, .slice A x.args.length ca, .int .i64 x.num, .string (mkB x.name)] 61))
    rw [HQ.out, HWL.out]
    go_wp2_with (first | (go_at_call 41; (with_reducible refine (HO.out _).mono ?_); rintro y w1 ⟨rfl, rfl⟩) | (go_at_call 42; (with_reducible refine (HT.out _).mono ?_); rintro y w1 ⟨rfl, hb1⟩))
    go_ret
    exact ⟨by rw [HF.out]; rfl, HB.out⟩
  have HF : Hid (inKnown x = false) := show _ = _ by rw [HEQ.out, kindW_none hkParam hkConst hkOne hkTwo hkCall hkTick hkPrint]; simp
  have qkParam : ((mkB x.kind).toList == [112, 97, 114, 97, 109]) = false := by rw [mkB_eq]; exact beq_eq_false_iff_ne.2 hkParam
  have qkConst : ((mkB x.kind).toList == [99, 111, 110, 115, 116]) = false := by rw [mkB_eq]; exact beq_eq_false_iff_ne.2 hkConst
  have qkOne : ((mkB x.kind).toList == [111, 110, 101]) = false := by rw [mkB_eq]; exact beq_eq_false_iff_ne.2 hkOne
  have qkTwo : ((mkB x.kind).toList == [116, 119, 111]) = false := by rw [mkB_eq]; exact beq_eq_false_iff_ne.2 hkTwo
  have qkCall : ((mkB x.kind).toList == [99, 97, 108, 108]) = false := by rw [mkB_eq]; exact beq_eq_false_iff_ne.2 hkCall
  have qkTick : ((mkB x.kind).toList == [116, 105, 99, 107]) = false := by rw [mkB_eq]; exact beq_eq_false_iff_ne.2 hkTick
  have qkPrint : ((mkB x.kind).toList == [112, 114, 105, 110, 116]) = false := by rw [mkB_eq]; exact beq_eq_false_iff_ne.2 hkPrint
  go_enter Tryd.func27, Tryd.ntmps27
  go_upto_region 1 with fail
  change Code.wp _ _ _ _ (w.alloc (.cells #[.string (mkB x.kind), .int .i64 x.d, .slice A x.args.length ca, .int .i64 x.num, .string (mkB x.name)] 61))
  rw [HQ.out, HWL.out]
  go_wp2_with fail
  go_ret
  exact ⟨by rw [HF.out]; rfl, HB.out⟩
set_option maxRecDepth 100000 in
set_option maxHeartbeats 8000000 in
theorem insShape_any (x : PIn) (hkn : kindW x.kind ≠ 0) (A : Option Addr) (ca : Nat) (w : World) : Calls Tryd.prog 29 #[inV x A ca] w (Ret (.bool (inShape x)) w) := by
  obtain ⟨q, hq⟩ : ∃ q, w.heap.size = q := ⟨_, rfl⟩
  obtain ⟨wL, hwL⟩ : ∃ wL, w.alloc (.cells #[.string (mkB x.kind), .int .i64 x.d, .slice A x.args.length ca, .int .i64 x.num, .string (mkB x.name)] 61) = wL := ⟨_, rfl⟩
  have hb : Below w.heap.size w wL := by rw [← hwL]; exact grow_alloc (grow_refl _) _
  have mL : wL.heap[q]? = some (.cells #[.string (mkB x.kind), .int .i64 x.d, .slice A x.args.length ca, .int .i64 x.num, .string (mkB x.name)] 61 (0, 0)) := by rw [← hwL, ← hq]; exact heap_alloc_new w _
  have HB := Lib.hid hb
  have HWL := Lib.hid hwL
  have HQ := Lib.hid hq
  obtain ⟨c0, c1, c2, c3, c4⟩ := row5B mL
  obtain ⟨l2, hl2⟩ : ∃ l, (x.d == 0) = l := ⟨_, rfl⟩
  obtain ⟨l3, hl3⟩ : ∃ l, (x.num == 0) = l := ⟨_, rfl⟩
  obtain ⟨l4, hl4⟩ : ∃ l, x.name.isEmpty = l := ⟨_, rfl⟩
  have hnm : ((mkB x.name).toList == []) = l4 := by
    rw [mkB_toList, ← hl4]
    cases x.name <;> rfl
  have HEQ : Hid (inShape x = ((decide (manyW (kindW x.kind) < 0) || ((x.args.length : Int) == manyW (kindW x.kind))) && (madeW x.kind || l2) && ((x.kind == kParam || x.kind == kConst) || l3) && ((x.kind == kOne || x.kind == kTwo || x.kind == kCall) || l4))) := show _ = _ by
    unfold inShape
    rw [hl2, hl3, hl4]
  unfold inV
  clear hb mL hwL hq hl4
  by_cases hkParam : x.kind = kParam
  · have hk : x.kind = kParam := hkParam
    have e1 : manyW (kindW x.kind) = 0 ∧ madeW x.kind = true ∧ (x.kind == kParam || x.kind == kConst) = true ∧ (x.kind == kOne || x.kind == kTwo || x.kind == kCall) = false := by rw [hk]; decide
    have qkParam : ((mkB x.kind).toList == [112, 97, 114, 97, 109]) = true := by rw [mkB_eq, hk]; rfl
    have qkConst : ((mkB x.kind).toList == [99, 111, 110, 115, 116]) = false := by rw [mkB_eq, hk]; rfl
    have qkOne : ((mkB x.kind).toList == [111, 110, 101]) = false := by rw [mkB_eq, hk]; rfl
    have qkTwo : ((mkB x.kind).toList == [116, 119, 111]) = false := by rw [mkB_eq, hk]; rfl
    have qkCall : ((mkB x.kind).toList == [99, 97, 108, 108]) = false := by rw [mkB_eq, hk]; rfl
    have qkTick : ((mkB x.kind).toList == [116, 105, 99, 107]) = false := by rw [mkB_eq, hk]; rfl
    have qkPrint : ((mkB x.kind).toList == [112, 114, 105, 110, 116]) = false := by rw [mkB_eq, hk]; rfl
    obtain ⟨e1, e3, e4, e5⟩ := e1
    rw [e1, e3, e4, e5] at HEQ
    obtain ⟨l1, hl1⟩ : ∃ l, ((x.args.length : Int) == 0) = l := ⟨_, rfl⟩
    rw [hl1] at HEQ
    clear e1 e3 e4 e5 hkn hk hkParam
    cases l1
    · have HF : Hid (inShape x = false) := show _ = _ by rw [HEQ.out]; simp
      clear HEQ
      go_enter Tryd.func29, Tryd.ntmps29
      go_upto_region 1 with fail
      change Code.wp _ _ _ _ (w.alloc (.cells #[.string (mkB x.kind), .int .i64 x.d, .slice A x.args.length ca, .int .i64 x.num, .string (mkB x.name)] 61))
      rw [HQ.out, HWL.out]
      go_wp2_with fail
      go_ret
      exact ⟨by rw [HF.out]; rfl, HB.out⟩
    · cases l4
      · have HF : Hid (inShape x = false) := show _ = _ by rw [HEQ.out]; simp
        clear HEQ
        go_enter Tryd.func29, Tryd.ntmps29
        go_upto_region 1 with fail
        change Code.wp _ _ _ _ (w.alloc (.cells #[.string (mkB x.kind), .int .i64 x.d, .slice A x.args.length ca, .int .i64 x.num, .string (mkB x.name)] 61))
        rw [HQ.out, HWL.out]
        go_wp2_with fail
        go_ret
        exact ⟨by rw [HF.out]; rfl, HB.out⟩
      · have HF : Hid (inShape x = true) := show _ = _ by rw [HEQ.out]; simp
        clear HEQ
        go_enter Tryd.func29, Tryd.ntmps29
        go_upto_region 1 with fail
        change Code.wp _ _ _ _ (w.alloc (.cells #[.string (mkB x.kind), .int .i64 x.d, .slice A x.args.length ca, .int .i64 x.num, .string (mkB x.name)] 61))
        rw [HQ.out, HWL.out]
        go_wp2_with fail
        go_ret
        exact ⟨by rw [HF.out]; rfl, HB.out⟩
  by_cases hkConst : x.kind = kConst
  · have hk : x.kind = kConst := hkConst
    have e1 : manyW (kindW x.kind) = 0 ∧ madeW x.kind = true ∧ (x.kind == kParam || x.kind == kConst) = true ∧ (x.kind == kOne || x.kind == kTwo || x.kind == kCall) = false := by rw [hk]; decide
    have qkParam : ((mkB x.kind).toList == [112, 97, 114, 97, 109]) = false := by rw [mkB_eq, hk]; rfl
    have qkConst : ((mkB x.kind).toList == [99, 111, 110, 115, 116]) = true := by rw [mkB_eq, hk]; rfl
    have qkOne : ((mkB x.kind).toList == [111, 110, 101]) = false := by rw [mkB_eq, hk]; rfl
    have qkTwo : ((mkB x.kind).toList == [116, 119, 111]) = false := by rw [mkB_eq, hk]; rfl
    have qkCall : ((mkB x.kind).toList == [99, 97, 108, 108]) = false := by rw [mkB_eq, hk]; rfl
    have qkTick : ((mkB x.kind).toList == [116, 105, 99, 107]) = false := by rw [mkB_eq, hk]; rfl
    have qkPrint : ((mkB x.kind).toList == [112, 114, 105, 110, 116]) = false := by rw [mkB_eq, hk]; rfl
    obtain ⟨e1, e3, e4, e5⟩ := e1
    rw [e1, e3, e4, e5] at HEQ
    obtain ⟨l1, hl1⟩ : ∃ l, ((x.args.length : Int) == 0) = l := ⟨_, rfl⟩
    rw [hl1] at HEQ
    clear e1 e3 e4 e5 hkn hk hkConst
    cases l1
    · have HF : Hid (inShape x = false) := show _ = _ by rw [HEQ.out]; simp
      clear HEQ
      go_enter Tryd.func29, Tryd.ntmps29
      go_upto_region 1 with fail
      change Code.wp _ _ _ _ (w.alloc (.cells #[.string (mkB x.kind), .int .i64 x.d, .slice A x.args.length ca, .int .i64 x.num, .string (mkB x.name)] 61))
      rw [HQ.out, HWL.out]
      go_wp2_with fail
      go_ret
      exact ⟨by rw [HF.out]; rfl, HB.out⟩
    · cases l4
      · have HF : Hid (inShape x = false) := show _ = _ by rw [HEQ.out]; simp
        clear HEQ
        go_enter Tryd.func29, Tryd.ntmps29
        go_upto_region 1 with fail
        change Code.wp _ _ _ _ (w.alloc (.cells #[.string (mkB x.kind), .int .i64 x.d, .slice A x.args.length ca, .int .i64 x.num, .string (mkB x.name)] 61))
        rw [HQ.out, HWL.out]
        go_wp2_with fail
        go_ret
        exact ⟨by rw [HF.out]; rfl, HB.out⟩
      · have HF : Hid (inShape x = true) := show _ = _ by rw [HEQ.out]; simp
        clear HEQ
        go_enter Tryd.func29, Tryd.ntmps29
        go_upto_region 1 with fail
        change Code.wp _ _ _ _ (w.alloc (.cells #[.string (mkB x.kind), .int .i64 x.d, .slice A x.args.length ca, .int .i64 x.num, .string (mkB x.name)] 61))
        rw [HQ.out, HWL.out]
        go_wp2_with fail
        go_ret
        exact ⟨by rw [HF.out]; rfl, HB.out⟩
  by_cases hkOne : x.kind = kOne
  · have hk : x.kind = kOne := hkOne
    have e1 : manyW (kindW x.kind) = 1 ∧ madeW x.kind = true ∧ (x.kind == kParam || x.kind == kConst) = false ∧ (x.kind == kOne || x.kind == kTwo || x.kind == kCall) = true := by rw [hk]; decide
    have qkParam : ((mkB x.kind).toList == [112, 97, 114, 97, 109]) = false := by rw [mkB_eq, hk]; rfl
    have qkConst : ((mkB x.kind).toList == [99, 111, 110, 115, 116]) = false := by rw [mkB_eq, hk]; rfl
    have qkOne : ((mkB x.kind).toList == [111, 110, 101]) = true := by rw [mkB_eq, hk]; rfl
    have qkTwo : ((mkB x.kind).toList == [116, 119, 111]) = false := by rw [mkB_eq, hk]; rfl
    have qkCall : ((mkB x.kind).toList == [99, 97, 108, 108]) = false := by rw [mkB_eq, hk]; rfl
    have qkTick : ((mkB x.kind).toList == [116, 105, 99, 107]) = false := by rw [mkB_eq, hk]; rfl
    have qkPrint : ((mkB x.kind).toList == [112, 114, 105, 110, 116]) = false := by rw [mkB_eq, hk]; rfl
    obtain ⟨e1, e3, e4, e5⟩ := e1
    rw [e1, e3, e4, e5] at HEQ
    obtain ⟨l1, hl1⟩ : ∃ l, ((x.args.length : Int) == 1) = l := ⟨_, rfl⟩
    rw [hl1] at HEQ
    clear e1 e3 e4 e5 hkn hk hkOne
    cases l1
    · have HF : Hid (inShape x = false) := show _ = _ by rw [HEQ.out]; simp
      clear HEQ
      go_enter Tryd.func29, Tryd.ntmps29
      go_upto_region 1 with fail
      change Code.wp _ _ _ _ (w.alloc (.cells #[.string (mkB x.kind), .int .i64 x.d, .slice A x.args.length ca, .int .i64 x.num, .string (mkB x.name)] 61))
      rw [HQ.out, HWL.out]
      go_wp2_with fail
      go_ret
      exact ⟨by rw [HF.out]; rfl, HB.out⟩
    · cases l3
      · have HF : Hid (inShape x = false) := show _ = _ by rw [HEQ.out]; simp
        clear HEQ
        go_enter Tryd.func29, Tryd.ntmps29
        go_upto_region 1 with fail
        change Code.wp _ _ _ _ (w.alloc (.cells #[.string (mkB x.kind), .int .i64 x.d, .slice A x.args.length ca, .int .i64 x.num, .string (mkB x.name)] 61))
        rw [HQ.out, HWL.out]
        go_wp2_with fail
        go_ret
        exact ⟨by rw [HF.out]; rfl, HB.out⟩
      · have HF : Hid (inShape x = true) := show _ = _ by rw [HEQ.out]; simp
        clear HEQ
        go_enter Tryd.func29, Tryd.ntmps29
        go_upto_region 1 with fail
        change Code.wp _ _ _ _ (w.alloc (.cells #[.string (mkB x.kind), .int .i64 x.d, .slice A x.args.length ca, .int .i64 x.num, .string (mkB x.name)] 61))
        rw [HQ.out, HWL.out]
        go_wp2_with fail
        go_ret
        exact ⟨by rw [HF.out]; rfl, HB.out⟩
  by_cases hkTwo : x.kind = kTwo
  · have hk : x.kind = kTwo := hkTwo
    have e1 : manyW (kindW x.kind) = 2 ∧ madeW x.kind = true ∧ (x.kind == kParam || x.kind == kConst) = false ∧ (x.kind == kOne || x.kind == kTwo || x.kind == kCall) = true := by rw [hk]; decide
    have qkParam : ((mkB x.kind).toList == [112, 97, 114, 97, 109]) = false := by rw [mkB_eq, hk]; rfl
    have qkConst : ((mkB x.kind).toList == [99, 111, 110, 115, 116]) = false := by rw [mkB_eq, hk]; rfl
    have qkOne : ((mkB x.kind).toList == [111, 110, 101]) = false := by rw [mkB_eq, hk]; rfl
    have qkTwo : ((mkB x.kind).toList == [116, 119, 111]) = true := by rw [mkB_eq, hk]; rfl
    have qkCall : ((mkB x.kind).toList == [99, 97, 108, 108]) = false := by rw [mkB_eq, hk]; rfl
    have qkTick : ((mkB x.kind).toList == [116, 105, 99, 107]) = false := by rw [mkB_eq, hk]; rfl
    have qkPrint : ((mkB x.kind).toList == [112, 114, 105, 110, 116]) = false := by rw [mkB_eq, hk]; rfl
    obtain ⟨e1, e3, e4, e5⟩ := e1
    rw [e1, e3, e4, e5] at HEQ
    obtain ⟨l1, hl1⟩ : ∃ l, ((x.args.length : Int) == 2) = l := ⟨_, rfl⟩
    rw [hl1] at HEQ
    clear e1 e3 e4 e5 hkn hk hkTwo
    cases l1
    · have HF : Hid (inShape x = false) := show _ = _ by rw [HEQ.out]; simp
      clear HEQ
      go_enter Tryd.func29, Tryd.ntmps29
      go_upto_region 1 with fail
      change Code.wp _ _ _ _ (w.alloc (.cells #[.string (mkB x.kind), .int .i64 x.d, .slice A x.args.length ca, .int .i64 x.num, .string (mkB x.name)] 61))
      rw [HQ.out, HWL.out]
      go_wp2_with fail
      go_ret
      exact ⟨by rw [HF.out]; rfl, HB.out⟩
    · cases l3
      · have HF : Hid (inShape x = false) := show _ = _ by rw [HEQ.out]; simp
        clear HEQ
        go_enter Tryd.func29, Tryd.ntmps29
        go_upto_region 1 with fail
        change Code.wp _ _ _ _ (w.alloc (.cells #[.string (mkB x.kind), .int .i64 x.d, .slice A x.args.length ca, .int .i64 x.num, .string (mkB x.name)] 61))
        rw [HQ.out, HWL.out]
        go_wp2_with fail
        go_ret
        exact ⟨by rw [HF.out]; rfl, HB.out⟩
      · have HF : Hid (inShape x = true) := show _ = _ by rw [HEQ.out]; simp
        clear HEQ
        go_enter Tryd.func29, Tryd.ntmps29
        go_upto_region 1 with fail
        change Code.wp _ _ _ _ (w.alloc (.cells #[.string (mkB x.kind), .int .i64 x.d, .slice A x.args.length ca, .int .i64 x.num, .string (mkB x.name)] 61))
        rw [HQ.out, HWL.out]
        go_wp2_with fail
        go_ret
        exact ⟨by rw [HF.out]; rfl, HB.out⟩
  by_cases hkCall : x.kind = kCall
  · have hk : x.kind = kCall := hkCall
    have e1 : manyW (kindW x.kind) = -1 ∧ madeW x.kind = true ∧ (x.kind == kParam || x.kind == kConst) = false ∧ (x.kind == kOne || x.kind == kTwo || x.kind == kCall) = true := by rw [hk]; decide
    have qkParam : ((mkB x.kind).toList == [112, 97, 114, 97, 109]) = false := by rw [mkB_eq, hk]; rfl
    have qkConst : ((mkB x.kind).toList == [99, 111, 110, 115, 116]) = false := by rw [mkB_eq, hk]; rfl
    have qkOne : ((mkB x.kind).toList == [111, 110, 101]) = false := by rw [mkB_eq, hk]; rfl
    have qkTwo : ((mkB x.kind).toList == [116, 119, 111]) = false := by rw [mkB_eq, hk]; rfl
    have qkCall : ((mkB x.kind).toList == [99, 97, 108, 108]) = true := by rw [mkB_eq, hk]; rfl
    have qkTick : ((mkB x.kind).toList == [116, 105, 99, 107]) = false := by rw [mkB_eq, hk]; rfl
    have qkPrint : ((mkB x.kind).toList == [112, 114, 105, 110, 116]) = false := by rw [mkB_eq, hk]; rfl
    obtain ⟨e1, e3, e4, e5⟩ := e1
    rw [e1, e3, e4, e5] at HEQ
    clear e1 e3 e4 e5 hkn hk hkCall
    cases l3
    · have HF : Hid (inShape x = false) := show _ = _ by rw [HEQ.out]; simp
      clear HEQ
      go_enter Tryd.func29, Tryd.ntmps29
      go_upto_region 1 with fail
      change Code.wp _ _ _ _ (w.alloc (.cells #[.string (mkB x.kind), .int .i64 x.d, .slice A x.args.length ca, .int .i64 x.num, .string (mkB x.name)] 61))
      rw [HQ.out, HWL.out]
      go_wp2_with fail
      go_ret
      exact ⟨by rw [HF.out]; rfl, HB.out⟩
    · have HF : Hid (inShape x = true) := show _ = _ by rw [HEQ.out]; simp
      clear HEQ
      go_enter Tryd.func29, Tryd.ntmps29
      go_upto_region 1 with fail
      change Code.wp _ _ _ _ (w.alloc (.cells #[.string (mkB x.kind), .int .i64 x.d, .slice A x.args.length ca, .int .i64 x.num, .string (mkB x.name)] 61))
      rw [HQ.out, HWL.out]
      go_wp2_with fail
      go_ret
      exact ⟨by rw [HF.out]; rfl, HB.out⟩
  by_cases hkTick : x.kind = kTick
  · have hk : x.kind = kTick := hkTick
    have e1 : manyW (kindW x.kind) = 0 ∧ madeW x.kind = false ∧ (x.kind == kParam || x.kind == kConst) = false ∧ (x.kind == kOne || x.kind == kTwo || x.kind == kCall) = false := by rw [hk]; decide
    have qkParam : ((mkB x.kind).toList == [112, 97, 114, 97, 109]) = false := by rw [mkB_eq, hk]; rfl
    have qkConst : ((mkB x.kind).toList == [99, 111, 110, 115, 116]) = false := by rw [mkB_eq, hk]; rfl
    have qkOne : ((mkB x.kind).toList == [111, 110, 101]) = false := by rw [mkB_eq, hk]; rfl
    have qkTwo : ((mkB x.kind).toList == [116, 119, 111]) = false := by rw [mkB_eq, hk]; rfl
    have qkCall : ((mkB x.kind).toList == [99, 97, 108, 108]) = false := by rw [mkB_eq, hk]; rfl
    have qkTick : ((mkB x.kind).toList == [116, 105, 99, 107]) = true := by rw [mkB_eq, hk]; rfl
    have qkPrint : ((mkB x.kind).toList == [112, 114, 105, 110, 116]) = false := by rw [mkB_eq, hk]; rfl
    obtain ⟨e1, e3, e4, e5⟩ := e1
    rw [e1, e3, e4, e5] at HEQ
    obtain ⟨l1, hl1⟩ : ∃ l, ((x.args.length : Int) == 0) = l := ⟨_, rfl⟩
    rw [hl1] at HEQ
    clear e1 e3 e4 e5 hkn hk hkTick
    cases l1
    · have HF : Hid (inShape x = false) := show _ = _ by rw [HEQ.out]; simp
      clear HEQ
      go_enter Tryd.func29, Tryd.ntmps29
      go_upto_region 1 with fail
      change Code.wp _ _ _ _ (w.alloc (.cells #[.string (mkB x.kind), .int .i64 x.d, .slice A x.args.length ca, .int .i64 x.num, .string (mkB x.name)] 61))
      rw [HQ.out, HWL.out]
      go_wp2_with fail
      go_ret
      exact ⟨by rw [HF.out]; rfl, HB.out⟩
    · cases l4
      · have HF : Hid (inShape x = false) := show _ = _ by rw [HEQ.out]; simp
        clear HEQ
        go_enter Tryd.func29, Tryd.ntmps29
        go_upto_region 1 with fail
        change Code.wp _ _ _ _ (w.alloc (.cells #[.string (mkB x.kind), .int .i64 x.d, .slice A x.args.length ca, .int .i64 x.num, .string (mkB x.name)] 61))
        rw [HQ.out, HWL.out]
        go_wp2_with fail
        go_ret
        exact ⟨by rw [HF.out]; rfl, HB.out⟩
      · cases l3
        · have HF : Hid (inShape x = false) := show _ = _ by rw [HEQ.out]; simp
          clear HEQ
          go_enter Tryd.func29, Tryd.ntmps29
          go_upto_region 1 with fail
          change Code.wp _ _ _ _ (w.alloc (.cells #[.string (mkB x.kind), .int .i64 x.d, .slice A x.args.length ca, .int .i64 x.num, .string (mkB x.name)] 61))
          rw [HQ.out, HWL.out]
          go_wp2_with fail
          go_ret
          exact ⟨by rw [HF.out]; rfl, HB.out⟩
        · cases l2
          · have HF : Hid (inShape x = false) := show _ = _ by rw [HEQ.out]; simp
            clear HEQ
            go_enter Tryd.func29, Tryd.ntmps29
            go_upto_region 1 with fail
            change Code.wp _ _ _ _ (w.alloc (.cells #[.string (mkB x.kind), .int .i64 x.d, .slice A x.args.length ca, .int .i64 x.num, .string (mkB x.name)] 61))
            rw [HQ.out, HWL.out]
            go_wp2_with fail
            go_ret
            exact ⟨by rw [HF.out]; rfl, HB.out⟩
          · have HF : Hid (inShape x = true) := show _ = _ by rw [HEQ.out]; simp
            clear HEQ
            go_enter Tryd.func29, Tryd.ntmps29
            go_upto_region 1 with fail
            change Code.wp _ _ _ _ (w.alloc (.cells #[.string (mkB x.kind), .int .i64 x.d, .slice A x.args.length ca, .int .i64 x.num, .string (mkB x.name)] 61))
            rw [HQ.out, HWL.out]
            go_wp2_with fail
            go_ret
            exact ⟨by rw [HF.out]; rfl, HB.out⟩
  by_cases hkPrint : x.kind = kPrint
  · have hk : x.kind = kPrint := hkPrint
    have e1 : manyW (kindW x.kind) = 1 ∧ madeW x.kind = false ∧ (x.kind == kParam || x.kind == kConst) = false ∧ (x.kind == kOne || x.kind == kTwo || x.kind == kCall) = false := by rw [hk]; decide
    have qkParam : ((mkB x.kind).toList == [112, 97, 114, 97, 109]) = false := by rw [mkB_eq, hk]; rfl
    have qkConst : ((mkB x.kind).toList == [99, 111, 110, 115, 116]) = false := by rw [mkB_eq, hk]; rfl
    have qkOne : ((mkB x.kind).toList == [111, 110, 101]) = false := by rw [mkB_eq, hk]; rfl
    have qkTwo : ((mkB x.kind).toList == [116, 119, 111]) = false := by rw [mkB_eq, hk]; rfl
    have qkCall : ((mkB x.kind).toList == [99, 97, 108, 108]) = false := by rw [mkB_eq, hk]; rfl
    have qkTick : ((mkB x.kind).toList == [116, 105, 99, 107]) = false := by rw [mkB_eq, hk]; rfl
    have qkPrint : ((mkB x.kind).toList == [112, 114, 105, 110, 116]) = true := by rw [mkB_eq, hk]; rfl
    obtain ⟨e1, e3, e4, e5⟩ := e1
    rw [e1, e3, e4, e5] at HEQ
    obtain ⟨l1, hl1⟩ : ∃ l, ((x.args.length : Int) == 1) = l := ⟨_, rfl⟩
    rw [hl1] at HEQ
    clear e1 e3 e4 e5 hkn hk hkPrint
    cases l1
    · have HF : Hid (inShape x = false) := show _ = _ by rw [HEQ.out]; simp
      clear HEQ
      go_enter Tryd.func29, Tryd.ntmps29
      go_upto_region 1 with fail
      change Code.wp _ _ _ _ (w.alloc (.cells #[.string (mkB x.kind), .int .i64 x.d, .slice A x.args.length ca, .int .i64 x.num, .string (mkB x.name)] 61))
      rw [HQ.out, HWL.out]
      go_wp2_with fail
      go_ret
      exact ⟨by rw [HF.out]; rfl, HB.out⟩
    · cases l4
      · have HF : Hid (inShape x = false) := show _ = _ by rw [HEQ.out]; simp
        clear HEQ
        go_enter Tryd.func29, Tryd.ntmps29
        go_upto_region 1 with fail
        change Code.wp _ _ _ _ (w.alloc (.cells #[.string (mkB x.kind), .int .i64 x.d, .slice A x.args.length ca, .int .i64 x.num, .string (mkB x.name)] 61))
        rw [HQ.out, HWL.out]
        go_wp2_with fail
        go_ret
        exact ⟨by rw [HF.out]; rfl, HB.out⟩
      · cases l3
        · have HF : Hid (inShape x = false) := show _ = _ by rw [HEQ.out]; simp
          clear HEQ
          go_enter Tryd.func29, Tryd.ntmps29
          go_upto_region 1 with fail
          change Code.wp _ _ _ _ (w.alloc (.cells #[.string (mkB x.kind), .int .i64 x.d, .slice A x.args.length ca, .int .i64 x.num, .string (mkB x.name)] 61))
          rw [HQ.out, HWL.out]
          go_wp2_with fail
          go_ret
          exact ⟨by rw [HF.out]; rfl, HB.out⟩
        · cases l2
          · have HF : Hid (inShape x = false) := show _ = _ by rw [HEQ.out]; simp
            clear HEQ
            go_enter Tryd.func29, Tryd.ntmps29
            go_upto_region 1 with fail
            change Code.wp _ _ _ _ (w.alloc (.cells #[.string (mkB x.kind), .int .i64 x.d, .slice A x.args.length ca, .int .i64 x.num, .string (mkB x.name)] 61))
            rw [HQ.out, HWL.out]
            go_wp2_with fail
            go_ret
            exact ⟨by rw [HF.out]; rfl, HB.out⟩
          · have HF : Hid (inShape x = true) := show _ = _ by rw [HEQ.out]; simp
            clear HEQ
            go_enter Tryd.func29, Tryd.ntmps29
            go_upto_region 1 with fail
            change Code.wp _ _ _ _ (w.alloc (.cells #[.string (mkB x.kind), .int .i64 x.d, .slice A x.args.length ca, .int .i64 x.num, .string (mkB x.name)] 61))
            rw [HQ.out, HWL.out]
            go_wp2_with fail
            go_ret
            exact ⟨by rw [HF.out]; rfl, HB.out⟩
  exact absurd (kindW_none hkParam hkConst hkOne hkTwo hkCall hkTick hkPrint) hkn
set_option maxRecDepth 100000 in
theorem makesV_any (k : List UInt8) (w : World) : Calls Tryd.prog 18 #[.string (mkB k)] w fun e w' => e = .returned (.bool (madeW k)) ∧ w' = w := by
  by_cases h6 : k = kTick
  · have hK : madeW k = false := by rw [h6]; decide
    have q1 : ((mkB k).toList == [116, 105, 99, 107]) = true := by rw [mkB_eq, h6]; rfl
    have q1' : ((mkB k).toList != [116, 105, 99, 107]) = false := by rw [bne, q1]; rfl
    rw [hK]
    clear hK h6
    go_enter Tryd.func18, Tryd.ntmps18
    go_wp2_with fail
    go_ret
    exact ⟨rfl, rfl⟩
  · have q1 : ((mkB k).toList == [116, 105, 99, 107]) = false := by rw [mkB_eq]; exact beq_eq_false_iff_ne.2 h6
    have q1' : ((mkB k).toList != [116, 105, 99, 107]) = true := by rw [bne, q1]; rfl
    by_cases h7 : k = kPrint
    · have hK : madeW k = false := by rw [h7]; decide
      have q2 : ((mkB k).toList == [112, 114, 105, 110, 116]) = true := by rw [mkB_eq, h7]; rfl
      have q2' : ((mkB k).toList != [112, 114, 105, 110, 116]) = false := by rw [bne, q2]; rfl
      rw [hK]
      clear hK h7 h6
      go_enter Tryd.func18, Tryd.ntmps18
      go_wp2_with fail
      go_ret
      exact ⟨rfl, rfl⟩
    · have hK : madeW k = true := by unfold madeW; simp [h6, h7]
      have q2 : ((mkB k).toList == [112, 114, 105, 110, 116]) = false := by rw [mkB_eq]; exact beq_eq_false_iff_ne.2 h7
      have q2' : ((mkB k).toList != [112, 114, 105, 110, 116]) = true := by rw [bne, q2]; rfl
      rw [hK]
      clear hK h7 h6
      go_enter Tryd.func18, Tryd.ntmps18
      go_wp2_with fail
      go_ret
      exact ⟨rfl, rfl⟩
def inR (most : Int) (l : List Int) : Bool := l.all fun v => decide (0 ≤ v) && decide (v < most)
theorem inR_okVs (c : PCo) (l : List Int) : inR c.values l = okVs c l := rfl
theorem inR_far (n : Nat) (l : List Int) : inR n l = !farTo n l := by
  unfold inR farTo
  rw [List.not_any_eq_all_not]
  congr 1
  funext v
  by_cases h1 : 0 ≤ v <;> by_cases h2 : v < (n : Int) <;> simp [h1, h2] <;> omega
set_option maxRecDepth 100000 in
theorem allIn_any (l : List Int) (hl : l.length ≤ 100000) (A : Option Addr) (ca : Nat) (most : Int) (w : World) (hr : Row w A (intVs l)) : Calls Tryd.prog 28 #[.slice A l.length ca, .int .i64 most] w (Sm (.bool (inR most l)) w) := by
  have HR := Lib.hid hr
  clear hr
  go_enter Tryd.func28, Tryd.ntmps28
  go_wp2_with fail
  go_loopw [5] (fun i wr => ∃ k : Nat, k ≤ l.length ∧ i = .int .i64 k ∧ inR most l = inR most (l.drop k) ∧ wr = w) (fun i _ => l.length - (intOf i).toNat)
  case atStart => exact ⟨0, Nat.zero_le _, rfl, rfl, rfl⟩
  case round =>
    obtain ⟨k, hk, rfl, hI, rfl⟩ := hrel
    have HI := Lib.hid hI
    clear hI
    by_cases hlt : k < l.length
    · obtain ⟨b, off, rfl, c0⟩ := HR.out k _ (intVs_get hlt)
      have hlt' : (k : Int) < (l.length : Int) := by omega
      have hk0 : (0 : Int) ≤ (k : Int) := by omega
      have HS : Hid (inR most (l.drop k) = ((decide (0 ≤ l[k]) && decide (l[k] < most)) && inR most (l.drop (k + 1)))) := show _ = _ from all_dropP hlt
      obtain ⟨v, hv⟩ : ∃ v, l[k] = v := ⟨_, rfl⟩
      rw [hv] at c0 HS
      clear hv
      rcases Classical.em (v < 0) with f1 | f1
      · have HF : Hid (inR most l = false) := show _ = _ by rw [HI.out, HS.out]; simp; omega
        go_wp2_with fail
        go_ret
        exact ⟨by rw [HF.out]; rfl, rfl⟩
      · rcases Classical.em (most ≤ v) with f2 | f2
        · have HF : Hid (inR most l = false) := show _ = _ by rw [HI.out, HS.out]; simp; omega
          go_wp2_with fail
          go_ret
          exact ⟨by rw [HF.out]; rfl, rfl⟩
        · have HF : Hid (inR most l = inR most (l.drop (k + 1))) := show _ = _ by rw [HI.out, HS.out, show decide (0 ≤ v) = true by simp; omega, show decide (v < most) = true by simp; omega]; rfl
          go_wp2_with fail
          go_roundw
          case rel => exact ⟨k + 1, by omega, by go_num, HF.out, by trivial⟩
          case measure => simp [intOf]; omega
    · have hk' : k = l.length := by omega
      have HF : Hid (inR most l = true) := show _ = _ by rw [HI.out, hk', List.drop_length]; rfl
      subst hk'
      go_wp2_with fail
      go_ret
      exact ⟨by rw [HF.out]; rfl, rfl⟩
end Go.Proofs.YtdilakpipbkokaaDoor
