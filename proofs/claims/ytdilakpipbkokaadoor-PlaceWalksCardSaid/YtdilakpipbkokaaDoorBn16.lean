import Derived.Deep.DeepCutAuto
import Derived.Test.YtdilakpipbkokaaDoorBn12
import Derived.Test.YtdilakpipbkokaaDoorBn15
import Derived.Test.YtdilakpipbkokaaDoorBn5
set_option linter.unusedVariables false
set_option linter.unusedSimpArgs false
namespace Go.Proofs.YtdilakpipbkokaaDoor
open Go.RowKit

/-! the walker: pure instructions (printed by gen_plwp.py) -/
theorem drewN_all (w : World) : w.drewN 0 = w := rfl
section
variable {c : PCo} {A : Option Addr} {ca : Nat} {X : Option Addr} {args : List Int} {xc : Nat} {Y : Option Addr} {ans : List Int} {yc : Nat} {T : Int} {w0 : World} {mb gb hb n : Nat} {F : Nat → Array Value → Prop} {s : WSt} {h : List UInt8} {v : Int} {vO vC : Value} {ts : List CC} {w w' : World}
set_option maxHeartbeats 4000000 in
set_option maxRecDepth 100000 in
theorem pu_param (H : PwAt c A ca X args xc Y ans yc T w0 mb gb hb n F s h v vO vC ts w) (x : PIn) (A5 : Option Addr) (c5 : Nat) (l : List Int) (L : Option Addr) (lc : Nat) (hrow : Row w L (intVs l)) (hk : x.kind = kParam) (k : Nat) (hkn : x.num = (k : Int)) (hkl : k < args.length) (hX : Row w0 X (intVs args)) :
    Calls Tryd.prog 63 #[.pointer (some ⟨mb, 0, none⟩), inV x A5 c5, .slice L l.length lc] w (Ret (.int .i64 (args.getD k 0)) w) := by
  obtain ⟨q, hq⟩ : ∃ q, w.heap.size = q := ⟨_, rfl⟩
  obtain ⟨bx, hbx⟩ : ∃ bx, w.alloc (.cells #[.string (mkB x.kind), .int .i64 x.d, .slice A5 x.args.length c5, .int .i64 x.num, .string (mkB x.name)] 52) = bx := ⟨_, rfl⟩
  have hbb : Below w.heap.size w bx := by rw [← hbx]; exact grow_alloc (grow_refl _) _
  have hn : bx.heap[q]? = some (.cells #[.string (mkB x.kind), .int .i64 x.d, .slice A5 x.args.length c5, .int .i64 x.num, .string (mkB x.name)] 52 (0, 0)) := by rw [← hbx, ← hq]; exact heap_alloc_new w _
  have h2 := H.below hbb
  obtain ⟨e0, e1, e2, e3, e4⟩ := row5B hn
  have HBX := Lib.hid hbx
  have HQ := Lib.hid hq
  have HB := Lib.hid hbb
  have HRL := Lib.hid (hrow.keep (Keeps.of_below hbb))
  have qparam : ((mkB x.kind).toList == [112, 97, 114, 97, 109]) = true := by rw [mkB_eq, hk]; rfl
  have qone : ((mkB x.kind).toList == [111, 110, 101]) = false := by rw [mkB_eq, hk]; rfl
  have qtwo : ((mkB x.kind).toList == [116, 119, 111]) = false := by rw [mkB_eq, hk]; rfl
  rw [hkn] at e3
  obtain ⟨vv, hvv⟩ : ∃ z, args.getD k 0 = z := ⟨_, rfl⟩
  rw [hvv]
  have hn0 : (0 : Int) ≤ (k : Nat) := by omega
  have hn1 : ((k : Nat) : Int) < (args.length : Int) := by omega
  have r2 : bx.cell? ⟨mb, 4, none⟩ = some (.slice X args.length xc) := h2.cellM rfl
  obtain ⟨xb, xo, rfl, r3⟩ := (hX.keep (Keeps.of_below h2.bel)) k _ (intVs_get hkl)
  have hv : args.getD k 0 = args[k] := by rw [List.getD_eq_getElem?_getD, List.getElem?_eq_getElem hkl]; rfl
  rw [← hv, hvv] at r3
  clear hv hvv hk hkn hX
  unfold inV
  clear H h2 hbb hbx hn hq hrow
  go_enter Tryd.func63, Tryd.ntmps63
  go_upto_region 1 with fail
  change Code.wp _ _ _ _ (w.alloc (.cells #[.string (mkB x.kind), .int .i64 x.d, .slice A5 x.args.length c5, .int .i64 x.num, .string (mkB x.name)] 52))
  rw [HQ.out, HBX.out]
  go_wp2_with fail
  go_quiet (fail)
  go_wp2_with fail
  go_ret
  exact ⟨rfl, by first | exact HB.out | exact grow_drew HB.out _⟩
set_option maxHeartbeats 4000000 in
set_option maxRecDepth 100000 in
theorem pu_one (H : PwAt c A ca X args xc Y ans yc T w0 mb gb hb n F s h v vO vC ts w) (x : PIn) (A5 : Option Addr) (c5 : Nat) (l : List Int) (L : Option Addr) (lc : Nat) (hrow : Row w L (intVs l)) (hk : x.kind = kOne) (hl1 : l.length = 1) (K : Value) (hK : ∀ w', Below w0.heap.size w0 w' → w'.cell? ⟨5, 0, none⟩ = some K) :
    Calls Tryd.prog 63 #[.pointer (some ⟨mb, 0, none⟩), inV x A5 c5, .slice L l.length lc] w (Ret (.int .i64 (valOf (oneV x.name (l.getD 0 0)))) w) := by
  obtain ⟨q, hq⟩ : ∃ q, w.heap.size = q := ⟨_, rfl⟩
  obtain ⟨bx, hbx⟩ : ∃ bx, w.alloc (.cells #[.string (mkB x.kind), .int .i64 x.d, .slice A5 x.args.length c5, .int .i64 x.num, .string (mkB x.name)] 52) = bx := ⟨_, rfl⟩
  have hbb : Below w.heap.size w bx := by rw [← hbx]; exact grow_alloc (grow_refl _) _
  have hn : bx.heap[q]? = some (.cells #[.string (mkB x.kind), .int .i64 x.d, .slice A5 x.args.length c5, .int .i64 x.num, .string (mkB x.name)] 52 (0, 0)) := by rw [← hbx, ← hq]; exact heap_alloc_new w _
  have h2 := H.below hbb
  obtain ⟨e0, e1, e2, e3, e4⟩ := row5B hn
  have HBX := Lib.hid hbx
  have HQ := Lib.hid hq
  have HB := Lib.hid hbb
  have HRL := Lib.hid (hrow.keep (Keeps.of_below hbb))
  have qparam : ((mkB x.kind).toList == [112, 97, 114, 97, 109]) = false := by rw [mkB_eq, hk]; rfl
  have qone : ((mkB x.kind).toList == [111, 110, 101]) = true := by rw [mkB_eq, hk]; rfl
  have qtwo : ((mkB x.kind).toList == [116, 119, 111]) = false := by rw [mkB_eq, hk]; rfl
  have hl0 : 0 < l.length := by omega
  obtain ⟨lb, lo, rfl, r0⟩ := HRL.out 0 _ (intVs_get hl0)
  rw [Nat.add_zero] at r0
  have hl0' : (0 : Int) < (l.length : Int) := by omega
  have hv0 : l.getD 0 0 = l[0] := by rw [List.getD_eq_getElem?_getD, List.getElem?_eq_getElem hl0]; rfl
  rw [← hv0] at r0
  obtain ⟨vv, hvv⟩ : ∃ z, valOf (oneV x.name (l.getD 0 0)) = z := ⟨_, rfl⟩
  rw [hvv]
  have HC : Hid (∀ j9, Calls Tryd.prog 70 #[.string (mkB x.name), .int .i64 (l.getD 0 0)] (bx.drewN j9) (Quiet (.tuple #[.int .i64 vv, errOf (oneV x.name (l.getD 0 0)) K]) (bx.drewN j9))) := fun j9 => by
    have := One_any (mkB x.name) (l.getD 0 0) K (bx.drewN j9) (hK _ (h2.drewN j9).bel)
    rwa [mkB_toList, hvv] at this
  obtain ⟨rv, hrv⟩ : ∃ z, l.getD 0 0 = z := ⟨_, rfl⟩
  rw [hrv] at r0 HC
  clear hv0 hvv hrv hk hl1 hK
  unfold inV
  clear H h2 hbb hbx hn hq hrow
  go_enter Tryd.func63, Tryd.ntmps63
  go_upto_region 1 with fail
  change Code.wp _ _ _ _ (w.alloc (.cells #[.string (mkB x.kind), .int .i64 x.d, .slice A5 x.args.length c5, .int .i64 x.num, .string (mkB x.name)] 52))
  rw [HQ.out, HBX.out]
  go_wp2_with fail
  go_quiet ((go_at_call 70; exact Calls.quiet_of (HC.out _)))
  go_wp2_with fail
  go_ret
  exact ⟨rfl, by first | exact HB.out | exact grow_drew HB.out _⟩
set_option maxHeartbeats 4000000 in
set_option maxRecDepth 100000 in
theorem pu_two (H : PwAt c A ca X args xc Y ans yc T w0 mb gb hb n F s h v vO vC ts w) (x : PIn) (A5 : Option Addr) (c5 : Nat) (l : List Int) (L : Option Addr) (lc : Nat) (hrow : Row w L (intVs l)) (hk : x.kind = kTwo) (hl1 : l.length = 2) (K : Value) (hK : ∀ w', Below w0.heap.size w0 w' → w'.cell? ⟨5, 0, none⟩ = some K) :
    Calls Tryd.prog 63 #[.pointer (some ⟨mb, 0, none⟩), inV x A5 c5, .slice L l.length lc] w (Ret (.int .i64 (valOf (doV x.name (l.getD 0 0) (l.getD 1 0)))) w) := by
  obtain ⟨q, hq⟩ : ∃ q, w.heap.size = q := ⟨_, rfl⟩
  obtain ⟨bx, hbx⟩ : ∃ bx, w.alloc (.cells #[.string (mkB x.kind), .int .i64 x.d, .slice A5 x.args.length c5, .int .i64 x.num, .string (mkB x.name)] 52) = bx := ⟨_, rfl⟩
  have hbb : Below w.heap.size w bx := by rw [← hbx]; exact grow_alloc (grow_refl _) _
  have hn : bx.heap[q]? = some (.cells #[.string (mkB x.kind), .int .i64 x.d, .slice A5 x.args.length c5, .int .i64 x.num, .string (mkB x.name)] 52 (0, 0)) := by rw [← hbx, ← hq]; exact heap_alloc_new w _
  have h2 := H.below hbb
  obtain ⟨e0, e1, e2, e3, e4⟩ := row5B hn
  have HBX := Lib.hid hbx
  have HQ := Lib.hid hq
  have HB := Lib.hid hbb
  have HRL := Lib.hid (hrow.keep (Keeps.of_below hbb))
  have qparam : ((mkB x.kind).toList == [112, 97, 114, 97, 109]) = false := by rw [mkB_eq, hk]; rfl
  have qone : ((mkB x.kind).toList == [111, 110, 101]) = false := by rw [mkB_eq, hk]; rfl
  have qtwo : ((mkB x.kind).toList == [116, 119, 111]) = true := by rw [mkB_eq, hk]; rfl
  have hl0 : 0 < l.length := by omega
  obtain ⟨lb, lo, rfl, r0⟩ := HRL.out 0 _ (intVs_get hl0)
  rw [Nat.add_zero] at r0
  have hl0' : (0 : Int) < (l.length : Int) := by omega
  have hl9 : 1 < l.length := by omega
  have hl9' : (1 : Int) < (l.length : Int) := by omega
  obtain ⟨lb2, lo2, e9, r1⟩ := HRL.out 1 _ (intVs_get hl9)
  injection e9 with e9
  injection e9 with e9 e8 _
  subst e9
  subst e8
  have hv0 : l.getD 0 0 = l[0] := by rw [List.getD_eq_getElem?_getD, List.getElem?_eq_getElem hl0]; rfl
  have hv1 : l.getD 1 0 = l[1] := by rw [List.getD_eq_getElem?_getD, List.getElem?_eq_getElem hl9]; rfl
  rw [← hv0] at r0
  rw [← hv1] at r1
  obtain ⟨vv, hvv⟩ : ∃ z, valOf (doV x.name (l.getD 0 0) (l.getD 1 0)) = z := ⟨_, rfl⟩
  rw [hvv]
  have HC : Hid (∀ j9, Calls Tryd.prog 71 #[.string (mkB x.name), .int .i64 (l.getD 0 0), .int .i64 (l.getD 1 0)] (bx.drewN j9) (Quiet (.tuple #[.int .i64 vv, errOf (doV x.name (l.getD 0 0) (l.getD 1 0)) K]) (bx.drewN j9))) := fun j9 => by
    have := Do_any (mkB x.name) (l.getD 0 0) (l.getD 1 0) K (bx.drewN j9) (hK _ (h2.drewN j9).bel)
    rwa [mkB_toList, hvv] at this
  obtain ⟨rv, hrv⟩ : ∃ z, l.getD 0 0 = z := ⟨_, rfl⟩
  obtain ⟨rv1, hrv1⟩ : ∃ z, l.getD 1 0 = z := ⟨_, rfl⟩
  rw [hrv, hrv1] at HC
  rw [hrv] at r0
  rw [hrv1] at r1
  clear hv0 hv1 hvv hrv hrv1 hk hl1 hK
  unfold inV
  clear H h2 hbb hbx hn hq hrow
  go_enter Tryd.func63, Tryd.ntmps63
  go_upto_region 1 with fail
  change Code.wp _ _ _ _ (w.alloc (.cells #[.string (mkB x.kind), .int .i64 x.d, .slice A5 x.args.length c5, .int .i64 x.num, .string (mkB x.name)] 52))
  rw [HQ.out, HBX.out]
  go_wp2_with fail
  go_quiet ((go_at_call 71; exact Calls.quiet_of (HC.out _)))
  go_wp2_with fail
  go_ret
  exact ⟨rfl, by first | exact HB.out | exact grow_drew HB.out _⟩
set_option maxHeartbeats 4000000 in
set_option maxRecDepth 100000 in
theorem pu_num (H : PwAt c A ca X args xc Y ans yc T w0 mb gb hb n F s h v vO vC ts w) (x : PIn) (A5 : Option Addr) (c5 : Nat) (l : List Int) (L : Option Addr) (lc : Nat) (hrow : Row w L (intVs l)) (h1 : x.kind ≠ kParam) (h3 : x.kind ≠ kOne) (h4 : x.kind ≠ kTwo) :
    Calls Tryd.prog 63 #[.pointer (some ⟨mb, 0, none⟩), inV x A5 c5, .slice L l.length lc] w (Ret (.int .i64 (x.num)) w) := by
  obtain ⟨q, hq⟩ : ∃ q, w.heap.size = q := ⟨_, rfl⟩
  obtain ⟨bx, hbx⟩ : ∃ bx, w.alloc (.cells #[.string (mkB x.kind), .int .i64 x.d, .slice A5 x.args.length c5, .int .i64 x.num, .string (mkB x.name)] 52) = bx := ⟨_, rfl⟩
  have hbb : Below w.heap.size w bx := by rw [← hbx]; exact grow_alloc (grow_refl _) _
  have hn : bx.heap[q]? = some (.cells #[.string (mkB x.kind), .int .i64 x.d, .slice A5 x.args.length c5, .int .i64 x.num, .string (mkB x.name)] 52 (0, 0)) := by rw [← hbx, ← hq]; exact heap_alloc_new w _
  have h2 := H.below hbb
  obtain ⟨e0, e1, e2, e3, e4⟩ := row5B hn
  have HBX := Lib.hid hbx
  have HQ := Lib.hid hq
  have HB := Lib.hid hbb
  have HRL := Lib.hid (hrow.keep (Keeps.of_below hbb))
  have qparam : ((mkB x.kind).toList == [112, 97, 114, 97, 109]) = false := by rw [mkB_eq]; exact beq_eq_false_iff_ne.2 h1
  have qone : ((mkB x.kind).toList == [111, 110, 101]) = false := by rw [mkB_eq]; exact beq_eq_false_iff_ne.2 h3
  have qtwo : ((mkB x.kind).toList == [116, 119, 111]) = false := by rw [mkB_eq]; exact beq_eq_false_iff_ne.2 h4
  unfold inV
  clear H h2 hbb hbx hn hq hrow
  go_enter Tryd.func63, Tryd.ntmps63
  go_upto_region 1 with fail
  change Code.wp _ _ _ _ (w.alloc (.cells #[.string (mkB x.kind), .int .i64 x.d, .slice A5 x.args.length c5, .int .i64 x.num, .string (mkB x.name)] 52))
  rw [HQ.out, HBX.out]
  go_wp2_with fail
  go_ret
  exact ⟨rfl, by first | exact HB.out | exact grow_drew HB.out _⟩
theorem pureW_else (args : List Int) (x : PIn) (l : List Int) (h1 : x.kind ≠ kParam) (h3 : x.kind ≠ kOne) (h4 : x.kind ≠ kTwo) : pureW args x l = x.num := by
  unfold pureW kindW
  simp only [beq_iff_eq, h1, h3, h4, if_false]
  by_cases h2 : x.kind = kConst
  · rw [if_pos h2]; rfl
  · rw [if_neg h2]
    by_cases h5 : x.kind = kCall
    · rw [if_pos h5]; rfl
    · rw [if_neg h5]
      by_cases h6 : x.kind = kTick
      · rw [if_pos h6]; rfl
      · rw [if_neg h6]
        by_cases h7 : x.kind = kPrint
        · rw [if_pos h7]; rfl
        · rw [if_neg h7]; rfl
theorem pure_any (H : PwAt c A ca X args xc Y ans yc T w0 mb gb hb n F s h v vO vC ts w) (x : PIn) (hf : InF c x) (hp : (args.length : Int) = c.params) (A5 : Option Addr) (c5 : Nat) (l : List Int) (hl : l.length = x.args.length) (L : Option Addr) (lc : Nat) (hrow : Row w L (intVs l)) (K : Value) (hK : ∀ w', Below w0.heap.size w0 w' → w'.cell? ⟨5, 0, none⟩ = some K) (hX : Row w0 X (intVs args)) :
    Calls Tryd.prog 63 #[.pointer (some ⟨mb, 0, none⟩), inV x A5 c5, .slice L l.length lc] w (Ret (.int .i64 (pureW args x l)) w) := by
  by_cases h1 : x.kind = kParam
  · have hk : kindW x.kind = 1 := by rw [h1]; decide
    have hm := hf.param hk
    have e : pureW args x l = args.getD x.num.toNat 0 := by unfold pureW; rw [hk]; rfl
    rw [e]
    exact pu_param H x A5 c5 l L lc hrow h1 x.num.toNat (Int.toNat_of_nonneg hm.1).symm (by omega) hX
  · by_cases h3 : x.kind = kOne
    · have hk : kindW x.kind = 3 := by rw [h3]; decide
      have e : pureW args x l = valOf (oneV x.name (l.getD 0 0)) := by unfold pureW; rw [hk]; rfl
      rw [e]
      exact pu_one H x A5 c5 l L lc hrow h3 (by rw [hl]; exact (hf.one hk).1) K hK
    · by_cases h4 : x.kind = kTwo
      · have hk : kindW x.kind = 4 := by rw [h4]; decide
        have e : pureW args x l = valOf (doV x.name (l.getD 0 0) (l.getD 1 0)) := by unfold pureW; rw [hk]; rfl
        rw [e]
        exact pu_two H x A5 c5 l L lc hrow h4 (by rw [hl]; exact (hf.two hk).1) K hK
      · rw [pureW_else args x l h1 h3 h4]
        exact pu_num H x A5 c5 l L lc hrow h1 h3 h4
end
end Go.Proofs.YtdilakpipbkokaaDoor
