import Derived.Test.YtdilakpipbkokaaDoorBn16
set_option linter.unusedVariables false
set_option linter.unusedSimpArgs false
namespace Go.Proofs.YtdilakpipbkokaaDoor
open Go.RowKit

/-! the walker: any instruction (printed by gen_plwi.py) -/
theorem cell_othW {w : World} {b c i j : Nat} {u z : Value} (h : w.cell? ⟨b, i, none⟩ = some u) (hn : b ≠ c) : (w.setCell ⟨c, j, none⟩ z).cell? ⟨b, i, none⟩ = some u :=
  (World.cell?_of_block (show (w.setCell ⟨c, j, none⟩ z).heap[b]? = w.heap[b]? from Below.heap_setCell _ _ _ _ hn)).trans h
theorem drewB {n : Nat} {a w : World} (h : Below n a w) : Below n a w.drew := below_drewN h 1
section
variable {c : PCo} {A : Option Addr} {ca : Nat} {X : Option Addr} {args : List Int} {xc : Nat} {Y : Option Addr} {ans : List Int} {yc : Nat} {T : Int} {w0 : World} {mb gb hb n : Nat} {F : Nat → Array Value → Prop} {s : WSt} {h : List UInt8} {v : Int} {vO vC : Value} {ts : List CC} {w w' : World}
set_option maxHeartbeats 8000000 in
set_option maxRecDepth 100000 in
theorem ins_stuck (H : PwAt c A ca X args xc Y ans yc T w0 mb gb hb n F s h v vO vC ts w) (hok : s.got.length = n ∧ s.has.length = n) (x : PIn) (A5 : Option Addr) (c5 : Nat) (hrow : Row w A5 (intVs x.args)) (h8 : x.args.length ≤ 8) (hin : ∀ v ∈ x.args, 0 ≤ v ∧ v < (n : Int)) (hpk : pickW s x.args = none)  :
    Calls Tryd.prog 39 #[.pointer (some ⟨mb, 0, none⟩), inV x A5 c5] w (fun e w' => e = .returned (.string ⟨#[115, 116, 117, 99, 107]⟩) ∧ PwAt c A ca X args xc Y ans yc T w0 mb gb hb n F s h v vO vC ts w') := by
  obtain ⟨q, hq⟩ : ∃ q, w.heap.size = q := ⟨_, rfl⟩
  obtain ⟨bx, hbx⟩ : ∃ bx, w.alloc (.cells #[.string (mkB x.kind), .int .i64 x.d, .slice A5 x.args.length c5, .int .i64 x.num, .string (mkB x.name)] 52) = bx := ⟨_, rfl⟩
  have hbb : Below w.heap.size w bx := by rw [← hbx]; exact grow_alloc (grow_refl _) _
  have hn : bx.heap[q]? = some (.cells #[.string (mkB x.kind), .int .i64 x.d, .slice A5 x.args.length c5, .int .i64 x.num, .string (mkB x.name)] 52 (0, 0)) := by rw [← hbx, ← hq]; exact heap_alloc_new w _
  have h2 := H.below hbb
  obtain ⟨e0, e1, e2, e3, e4⟩ := row5B hn
  have HBX := Lib.hid hbx
  have HQ := Lib.hid hq
  have HH := Lib.hid h2
  have HROW := Lib.hid hn
  have HV := Lib.hid (values_any h2 hok.1 hok.2 x.args (by omega) hin A5 c5 (hrow.keep (Keeps.of_below hbb)))
  have HPK := Lib.hid hpk
  have HOK := Lib.hid hok
  unfold inV
  clear H h2 hbb hbx hn hq hrow hin hpk hok
  go_enter Tryd.func39, Tryd.ntmps39
  go_upto_region 1 with fail
  change Code.wp _ _ _ _ (w.alloc (.cells #[.string (mkB x.kind), .int .i64 x.d, .slice A5 x.args.length c5, .int .i64 x.num, .string (mkB x.name)] 52))
  rw [HQ.out, HBX.out]
  go_wp2_with (go_at_call 62; (with_reducible refine HV.out.mono ?_); rintro y w1 ⟨hb1, (⟨hno, rfl⟩ | ⟨r, A6, c6, hr, rfl, ho⟩)⟩; rotate_left; (exact absurd (HPK.out.symm.trans hr) (by simp)))
  go_ret
  exact ⟨rfl, HH.out.below hb1⟩
set_option maxHeartbeats 8000000 in
set_option maxRecDepth 100000 in
theorem ins_tick_no (H : PwAt c A ca X args xc Y ans yc T w0 mb gb hb n F s h v vO vC ts w) (hok : s.got.length = n ∧ s.has.length = n) (x : PIn) (A5 : Option Addr) (c5 : Nat) (hrow : Row w A5 (intVs x.args)) (h8 : x.args.length ≤ 8) (hin : ∀ v ∈ x.args, 0 ≤ v ∧ v < (n : Int)) {r : List Int} (hpk : pickW s x.args = some r) (hk : x.kind = kTick) (hT : T ≤ s.ticks) :
    Calls Tryd.prog 39 #[.pointer (some ⟨mb, 0, none⟩), inV x A5 c5] w (fun e w' => e = .returned (.string ⟨#[111, 118, 101, 114]⟩) ∧ PwAt c A ca X args xc Y ans yc T w0 mb gb hb n F s h v vO vC ts w') := by
  obtain ⟨q, hq⟩ : ∃ q, w.heap.size = q := ⟨_, rfl⟩
  obtain ⟨bx, hbx⟩ : ∃ bx, w.alloc (.cells #[.string (mkB x.kind), .int .i64 x.d, .slice A5 x.args.length c5, .int .i64 x.num, .string (mkB x.name)] 52) = bx := ⟨_, rfl⟩
  have hbb : Below w.heap.size w bx := by rw [← hbx]; exact grow_alloc (grow_refl _) _
  have hn : bx.heap[q]? = some (.cells #[.string (mkB x.kind), .int .i64 x.d, .slice A5 x.args.length c5, .int .i64 x.num, .string (mkB x.name)] 52 (0, 0)) := by rw [← hbx, ← hq]; exact heap_alloc_new w _
  have h2 := H.below hbb
  obtain ⟨e0, e1, e2, e3, e4⟩ := row5B hn
  have HBX := Lib.hid hbx
  have HQ := Lib.hid hq
  have HH := Lib.hid h2
  have HROW := Lib.hid hn
  have HV := Lib.hid (values_any h2 hok.1 hok.2 x.args (by omega) hin A5 c5 (hrow.keep (Keeps.of_below hbb)))
  have HPK := Lib.hid hpk
  have HOK := Lib.hid hok
  have qtick : ((mkB x.kind).toList == [116, 105, 99, 107]) = true := by rw [mkB_eq, hk]; rfl
  have qprint : ((mkB x.kind).toList == [112, 114, 105, 110, 116]) = false := by rw [mkB_eq, hk]; rfl
  have qcall : ((mkB x.kind).toList == [99, 97, 108, 108]) = false := by rw [mkB_eq, hk]; rfl
  clear hk
  unfold inV
  clear H h2 hbb hbx hn hq hrow hin hpk hok
  go_enter Tryd.func39, Tryd.ntmps39
  go_upto_region 1 with fail
  change Code.wp _ _ _ _ (w.alloc (.cells #[.string (mkB x.kind), .int .i64 x.d, .slice A5 x.args.length c5, .int .i64 x.num, .string (mkB x.name)] 52))
  rw [HQ.out, HBX.out]
  go_upto_region 2 with (go_at_call 62; (with_reducible refine HV.out.mono ?_); rintro y w1 ⟨hb1, (⟨hno, -⟩ | ⟨r, A6, c6, hr, rfl, ho⟩)⟩; (exact absurd (hno.symm.trans HPK.out) (by simp)); obtain rfl := Option.some.inj (hr.symm.trans HPK.out))
  have hk1 := (hb1.block q (Array.getElem?_eq_some_iff.1 HROW.out).1).trans HROW.out
  have H1 := HH.out.below hb1
  clear e0 e1 e2 e3 e4
  obtain ⟨e0, e1, e2, e3, e4⟩ := row5B hk1
  have t1 : w1.cell? ⟨mb, 9, none⟩ = some (.int .i64 s.ticks) := H1.cellM rfl
  have t2 : w1.cell? ⟨mb, 6, none⟩ = some (.int .i64 T) := H1.cellM rfl
  have z1 := H1.frozM 9
  have T1 := Lib.hid t1
  have Z1 := Lib.hid z1
  have HN := Lib.hid (fun j9 => H1.drewN j9)
  clear hk1 H1 ho
  go_wp2_with fail
  go_quiet (fail)
  go_wp2_with fail
  go_ret
  exact ⟨rfl, HN.out _⟩
set_option maxHeartbeats 8000000 in
set_option maxRecDepth 100000 in
theorem ins_tick_go (H : PwAt c A ca X args xc Y ans yc T w0 mb gb hb n F s h v vO vC ts w) (hok : s.got.length = n ∧ s.has.length = n) (x : PIn) (A5 : Option Addr) (c5 : Nat) (hrow : Row w A5 (intVs x.args)) (h8 : x.args.length ≤ 8) (hin : ∀ v ∈ x.args, 0 ≤ v ∧ v < (n : Int)) {r : List Int} (hpk : pickW s x.args = some r) (hk : x.kind = kTick) (hT : s.ticks < T) (hT0 : 0 ≤ s.ticks) (hT6 : T ≤ 60) :
    Calls Tryd.prog 39 #[.pointer (some ⟨mb, 0, none⟩), inV x A5 c5] w (fun e w' => e = .returned (.string ⟨#[]⟩) ∧ PwAt c A ca X args xc Y ans yc T w0 mb gb hb n F { s with ticks := s.ticks + 1 } h v vO vC ts w') := by
  obtain ⟨q, hq⟩ : ∃ q, w.heap.size = q := ⟨_, rfl⟩
  obtain ⟨bx, hbx⟩ : ∃ bx, w.alloc (.cells #[.string (mkB x.kind), .int .i64 x.d, .slice A5 x.args.length c5, .int .i64 x.num, .string (mkB x.name)] 52) = bx := ⟨_, rfl⟩
  have hbb : Below w.heap.size w bx := by rw [← hbx]; exact grow_alloc (grow_refl _) _
  have hn : bx.heap[q]? = some (.cells #[.string (mkB x.kind), .int .i64 x.d, .slice A5 x.args.length c5, .int .i64 x.num, .string (mkB x.name)] 52 (0, 0)) := by rw [← hbx, ← hq]; exact heap_alloc_new w _
  have h2 := H.below hbb
  obtain ⟨e0, e1, e2, e3, e4⟩ := row5B hn
  have HBX := Lib.hid hbx
  have HQ := Lib.hid hq
  have HH := Lib.hid h2
  have HROW := Lib.hid hn
  have HV := Lib.hid (values_any h2 hok.1 hok.2 x.args (by omega) hin A5 c5 (hrow.keep (Keeps.of_below hbb)))
  have HPK := Lib.hid hpk
  have HOK := Lib.hid hok
  have qtick : ((mkB x.kind).toList == [116, 105, 99, 107]) = true := by rw [mkB_eq, hk]; rfl
  have qprint : ((mkB x.kind).toList == [112, 114, 105, 110, 116]) = false := by rw [mkB_eq, hk]; rfl
  have qcall : ((mkB x.kind).toList == [99, 97, 108, 108]) = false := by rw [mkB_eq, hk]; rfl
  clear hk
  have hw : IntKind.i64.wrap (s.ticks + 1) = s.ticks + 1 := IntWalk.i64_in _ (by omega)
  unfold inV
  clear H h2 hbb hbx hn hq hrow hin hpk hok
  go_enter Tryd.func39, Tryd.ntmps39
  go_upto_region 1 with fail
  change Code.wp _ _ _ _ (w.alloc (.cells #[.string (mkB x.kind), .int .i64 x.d, .slice A5 x.args.length c5, .int .i64 x.num, .string (mkB x.name)] 52))
  rw [HQ.out, HBX.out]
  go_upto_region 2 with (go_at_call 62; (with_reducible refine HV.out.mono ?_); rintro y w1 ⟨hb1, (⟨hno, -⟩ | ⟨r, A6, c6, hr, rfl, ho⟩)⟩; (exact absurd (hno.symm.trans HPK.out) (by simp)); obtain rfl := Option.some.inj (hr.symm.trans HPK.out))
  have hk1 := (hb1.block q (Array.getElem?_eq_some_iff.1 HROW.out).1).trans HROW.out
  have H1 := HH.out.below hb1
  clear e0 e1 e2 e3 e4
  obtain ⟨e0, e1, e2, e3, e4⟩ := row5B hk1
  have t1 : w1.cell? ⟨mb, 9, none⟩ = some (.int .i64 s.ticks) := H1.cellM rfl
  have t2 : w1.cell? ⟨mb, 6, none⟩ = some (.int .i64 T) := H1.cellM rfl
  have z1 := H1.frozM 9
  have T1 := Lib.hid t1
  have Z1 := Lib.hid z1
  have HN := Lib.hid (fun j9 => (H1.drewN j9).set (t' := s.ticks + 1) (h' := h) (v' := v) (j := 9) (.int .i64 (s.ticks + 1)) rfl)
  clear hk1 H1 ho
  go_wp2_with fail
  go_quiet (fail)
  have t1 := T1.out
  have z1 := Z1.out
  go_wp2_with fail
  go_ret
  exact ⟨rfl, HN.out _⟩
set_option maxHeartbeats 8000000 in
set_option maxRecDepth 100000 in
theorem ins_print_no (H : PwAt c A ca X args xc Y ans yc T w0 mb gb hb n F s h v vO vC ts w) (hok : s.got.length = n ∧ s.has.length = n) (x : PIn) (A5 : Option Addr) (c5 : Nat) (hrow : Row w A5 (intVs x.args)) (h8 : x.args.length ≤ 8) (hin : ∀ v ∈ x.args, 0 ≤ v ∧ v < (n : Int)) {r : List Int} (hpk : pickW s x.args = some r) (hk : x.kind = kPrint) (hO : (1000 : Int) ≤ (s.out.length : Int)) :
    Calls Tryd.prog 39 #[.pointer (some ⟨mb, 0, none⟩), inV x A5 c5] w (fun e w' => e = .returned (.string ⟨#[111, 118, 101, 114]⟩) ∧ PwAt c A ca X args xc Y ans yc T w0 mb gb hb n F s h v vO vC ts w') := by
  obtain ⟨q, hq⟩ : ∃ q, w.heap.size = q := ⟨_, rfl⟩
  obtain ⟨bx, hbx⟩ : ∃ bx, w.alloc (.cells #[.string (mkB x.kind), .int .i64 x.d, .slice A5 x.args.length c5, .int .i64 x.num, .string (mkB x.name)] 52) = bx := ⟨_, rfl⟩
  have hbb : Below w.heap.size w bx := by rw [← hbx]; exact grow_alloc (grow_refl _) _
  have hn : bx.heap[q]? = some (.cells #[.string (mkB x.kind), .int .i64 x.d, .slice A5 x.args.length c5, .int .i64 x.num, .string (mkB x.name)] 52 (0, 0)) := by rw [← hbx, ← hq]; exact heap_alloc_new w _
  have h2 := H.below hbb
  obtain ⟨e0, e1, e2, e3, e4⟩ := row5B hn
  have HBX := Lib.hid hbx
  have HQ := Lib.hid hq
  have HH := Lib.hid h2
  have HROW := Lib.hid hn
  have HV := Lib.hid (values_any h2 hok.1 hok.2 x.args (by omega) hin A5 c5 (hrow.keep (Keeps.of_below hbb)))
  have HPK := Lib.hid hpk
  have HOK := Lib.hid hok
  have qtick : ((mkB x.kind).toList == [116, 105, 99, 107]) = false := by rw [mkB_eq, hk]; rfl
  have qprint : ((mkB x.kind).toList == [112, 114, 105, 110, 116]) = true := by rw [mkB_eq, hk]; rfl
  have qcall : ((mkB x.kind).toList == [99, 97, 108, 108]) = false := by rw [mkB_eq, hk]; rfl
  clear hk
  unfold inV
  clear H h2 hbb hbx hn hq hrow hin hpk hok
  go_enter Tryd.func39, Tryd.ntmps39
  go_upto_region 1 with fail
  change Code.wp _ _ _ _ (w.alloc (.cells #[.string (mkB x.kind), .int .i64 x.d, .slice A5 x.args.length c5, .int .i64 x.num, .string (mkB x.name)] 52))
  rw [HQ.out, HBX.out]
  go_upto_region 2 with (go_at_call 62; (with_reducible refine HV.out.mono ?_); rintro y w1 ⟨hb1, (⟨hno, -⟩ | ⟨r, A6, c6, hr, rfl, ho⟩)⟩; (exact absurd (hno.symm.trans HPK.out) (by simp)); obtain rfl := Option.some.inj (hr.symm.trans HPK.out))
  have hk1 := (hb1.block q (Array.getElem?_eq_some_iff.1 HROW.out).1).trans HROW.out
  have H1 := HH.out.below hb1
  clear e0 e1 e2 e3 e4
  obtain ⟨e0, e1, e2, e3, e4⟩ := row5B hk1
  obtain ⟨AO, cO, hvO⟩ := own_slice H1.out
  have o1 : w1.cell? ⟨mb, 10, none⟩ = some vO := H1.cellM rfl
  rw [hvO] at o1
  have HN := Lib.hid H1
  clear hk1 H1 ho
  go_wp2_with fail
  go_ret
  exact ⟨rfl, HN.out⟩
set_option maxHeartbeats 8000000 in
set_option maxRecDepth 100000 in
theorem ins_print_go (H : PwAt c A ca X args xc Y ans yc T w0 mb gb hb n F s h v vO vC ts w) (hok : s.got.length = n ∧ s.has.length = n) (x : PIn) (A5 : Option Addr) (c5 : Nat) (hrow : Row w A5 (intVs x.args)) (h8 : x.args.length ≤ 8) (hin : ∀ v ∈ x.args, 0 ≤ v ∧ v < (n : Int)) {r : List Int} (hpk : pickW s x.args = some r) (hk : x.kind = kPrint) (hl1 : x.args.length = 1) (hO : (s.out.length : Int) < 1000) :
    Calls Tryd.prog 39 #[.pointer (some ⟨mb, 0, none⟩), inV x A5 c5] w (fun e w' => e = .returned (.string ⟨#[]⟩) ∧ ∃ vO', PwAt c A ca X args xc Y ans yc T w0 mb gb hb n F { s with out := s.out ++ [r.getD 0 0] } h v vO' vC ts w') := by
  obtain ⟨q, hq⟩ : ∃ q, w.heap.size = q := ⟨_, rfl⟩
  obtain ⟨bx, hbx⟩ : ∃ bx, w.alloc (.cells #[.string (mkB x.kind), .int .i64 x.d, .slice A5 x.args.length c5, .int .i64 x.num, .string (mkB x.name)] 52) = bx := ⟨_, rfl⟩
  have hbb : Below w.heap.size w bx := by rw [← hbx]; exact grow_alloc (grow_refl _) _
  have hn : bx.heap[q]? = some (.cells #[.string (mkB x.kind), .int .i64 x.d, .slice A5 x.args.length c5, .int .i64 x.num, .string (mkB x.name)] 52 (0, 0)) := by rw [← hbx, ← hq]; exact heap_alloc_new w _
  have h2 := H.below hbb
  obtain ⟨e0, e1, e2, e3, e4⟩ := row5B hn
  have HBX := Lib.hid hbx
  have HQ := Lib.hid hq
  have HH := Lib.hid h2
  have HROW := Lib.hid hn
  have HV := Lib.hid (values_any h2 hok.1 hok.2 x.args (by omega) hin A5 c5 (hrow.keep (Keeps.of_below hbb)))
  have HPK := Lib.hid hpk
  have HOK := Lib.hid hok
  have qtick : ((mkB x.kind).toList == [116, 105, 99, 107]) = false := by rw [mkB_eq, hk]; rfl
  have qprint : ((mkB x.kind).toList == [112, 114, 105, 110, 116]) = true := by rw [mkB_eq, hk]; rfl
  have qcall : ((mkB x.kind).toList == [99, 97, 108, 108]) = false := by rw [mkB_eq, hk]; rfl
  have HRL : Hid (r.length = 1) := (pickW_len HPK.out).trans hl1
  clear hk hl1
  obtain ⟨vv, hvv⟩ : ∃ z, r.getD 0 0 = z := ⟨_, rfl⟩
  rw [hvv]
  have HVV := Lib.hid hvv
  clear hvv
  unfold inV
  clear H h2 hbb hbx hn hq hrow hin hpk hok
  go_enter Tryd.func39, Tryd.ntmps39
  go_upto_region 1 with fail
  change Code.wp _ _ _ _ (w.alloc (.cells #[.string (mkB x.kind), .int .i64 x.d, .slice A5 x.args.length c5, .int .i64 x.num, .string (mkB x.name)] 52))
  rw [HQ.out, HBX.out]
  go_upto_region 2 with (go_at_call 62; (with_reducible refine HV.out.mono ?_); rintro y w1 ⟨hb1, (⟨hno, -⟩ | ⟨r, A6, c6, hr, rfl, ho⟩)⟩; (exact absurd (hno.symm.trans HPK.out) (by simp)); obtain rfl := Option.some.inj (hr.symm.trans HPK.out))
  have hk1 := (hb1.block q (Array.getElem?_eq_some_iff.1 HROW.out).1).trans HROW.out
  have H1 := HH.out.below hb1
  clear e0 e1 e2 e3 e4
  obtain ⟨e0, e1, e2, e3, e4⟩ := row5B hk1
  obtain ⟨AO, cO, hvO⟩ := own_slice H1.out
  have o1 : w1.cell? ⟨mb, 10, none⟩ = some vO := H1.cellM rfl
  obtain ⟨A6', c6', e6, -, hr6⟩ := owns_rowA ho
  injection e6 with e6 _ e7
  subst e6
  subst e7
  have hl0 : 0 < r.length := by have := HRL.out; omega
  obtain ⟨b6, o6, hA6, r0⟩ := hr6 0 _ (intVs_get hl0)
  subst hA6
  rw [Nat.add_zero] at r0
  have hl0' : (0 : Int) < (r.length : Int) := by omega
  have hv0 : r.getD 0 0 = r[0] := by rw [List.getD_eq_getElem?_getD, List.getElem?_eq_getElem hl0]; rfl
  rw [← hv0, HVV.out] at r0
  obtain ⟨i0, hi, hz0, hz1, hz2⟩ := info_parts intInfo
  have HO : Hid (w1.ownsRow w0.heap.size 3 1 (.slice AO s.out.length cO) s.out.length (intVs s.out)) := hvO ▸ H1.out
  have hw0 : w0.heap.size ≤ w1.heap.size := H1.bel.size
  have HN := Lib.hid H1
  rw [hvO] at o1
  have hnO := World.new_ne w1 _ o1
  have hnR := World.new_ne w1 _ r0
  have q1 : (w1.alloc (.cells #[.int .i64 vv] 3)).cell? ⟨mb, 10, none⟩ = some (.slice AO s.out.length cO) := Keeps.alloc _ _ _ _ o1
  have q2 : (w1.alloc (.cells #[.int .i64 vv] 3)).cell? ⟨b6, o6, none⟩ = some (.int .i64 vv) := Keeps.alloc _ _ _ _ r0
  clear hv0 hr6
  clear hk1 H1 ho
  subst hvO
  go_upto_region 13 with fail
  go_region_law (first
    | (refine step_append_lies _ rfl _ _ 25 rfl w0.heap.size 3 i0 _ 1 8 Tryd.underlying25 hi hz0 hz1 hz2 rfl (by decide) _ s.out.length (intVs s.out) rfl (by first | exact (World.ownsRow.alloc HO.out _).drewN 1 | exact (HO.out.drewN 1).alloc _ | exact World.ownsRow.alloc HO.out _) ⟨w1.heap.size, 0, none⟩ 1 1 [.int .i64 vv] rfl rfl (by first | exact World.news_of_block (heap_alloc_new w1 _) | exact World.news_of_block (heap_alloc_new w1.drew _) | exact World.news_of_block (w := (w1.alloc (.cells #[.int .i64 vv] 3)).drew) (heap_alloc_new w1 _)) (fun u hu => by simp at hu; subst hu; rfl) (by decide) (by unfold maxLen; omega) (by omega) (by first | (show w0.heap.size ≤ (w1.alloc _).heap.size; simp; omega) | (simp; omega)) _ rfl ?_; intro g cap w9 hown hgrow hat hlt9; obtain ⟨j1, j2⟩ := HN.out.putO (jO := 10) (o := .cells #[.int .i64 vv] 3) (fun _ => rfl) hown ⟨hgrow.os, hgrow.tape, hgrow.output, hgrow.size, hgrow.block⟩ (hat.imp id fun e => e.trans (by first | (show (w1.alloc _).heap.size = _; simp) | simp)); have o1 : w9.cell? ⟨mb, 10, none⟩ = some (.slice AO s.out.length cO) := (World.cell?_of_block j1).trans (HN.out.cellM rfl); have z1 := row_frozen (j1.trans HN.out.blk) 10; have H9 := Lib.hid j2; clear j1 j2 hown hgrow hat))
  all_goals go_wp2_with fail
  all_goals go_ret
  all_goals exact ⟨rfl, _, H9.out⟩
set_option maxHeartbeats 8000000 in
set_option maxRecDepth 100000 in
theorem ins_call_no (H : PwAt c A ca X args xc Y ans yc T w0 mb gb hb n F s h v vO vC ts w) (hok : s.got.length = n ∧ s.has.length = n) (x : PIn) (A5 : Option Addr) (c5 : Nat) (hrow : Row w A5 (intVs x.args)) (h8 : x.args.length ≤ 8) (hin : ∀ v ∈ x.args, 0 ≤ v ∧ v < (n : Int)) {r : List Int} (hpk : pickW s x.args = some r) (hk : x.kind = kCall) (hC : (ans.length : Int) ≤ (s.calls.length : Int)) :
    Calls Tryd.prog 39 #[.pointer (some ⟨mb, 0, none⟩), inV x A5 c5] w (fun e w' => e = .returned (.string ⟨#[111, 118, 101, 114]⟩) ∧ PwAt c A ca X args xc Y ans yc T w0 mb gb hb n F s h v vO vC ts w') := by
  obtain ⟨q, hq⟩ : ∃ q, w.heap.size = q := ⟨_, rfl⟩
  obtain ⟨bx, hbx⟩ : ∃ bx, w.alloc (.cells #[.string (mkB x.kind), .int .i64 x.d, .slice A5 x.args.length c5, .int .i64 x.num, .string (mkB x.name)] 52) = bx := ⟨_, rfl⟩
  have hbb : Below w.heap.size w bx := by rw [← hbx]; exact grow_alloc (grow_refl _) _
  have hn : bx.heap[q]? = some (.cells #[.string (mkB x.kind), .int .i64 x.d, .slice A5 x.args.length c5, .int .i64 x.num, .string (mkB x.name)] 52 (0, 0)) := by rw [← hbx, ← hq]; exact heap_alloc_new w _
  have h2 := H.below hbb
  obtain ⟨e0, e1, e2, e3, e4⟩ := row5B hn
  have HBX := Lib.hid hbx
  have HQ := Lib.hid hq
  have HH := Lib.hid h2
  have HROW := Lib.hid hn
  have HV := Lib.hid (values_any h2 hok.1 hok.2 x.args (by omega) hin A5 c5 (hrow.keep (Keeps.of_below hbb)))
  have HPK := Lib.hid hpk
  have HOK := Lib.hid hok
  have qtick : ((mkB x.kind).toList == [116, 105, 99, 107]) = false := by rw [mkB_eq, hk]; rfl
  have qprint : ((mkB x.kind).toList == [112, 114, 105, 110, 116]) = false := by rw [mkB_eq, hk]; rfl
  have qcall : ((mkB x.kind).toList == [99, 97, 108, 108]) = true := by rw [mkB_eq, hk]; rfl
  clear hk
  unfold inV
  clear H h2 hbb hbx hn hq hrow hin hpk hok
  go_enter Tryd.func39, Tryd.ntmps39
  go_upto_region 1 with fail
  change Code.wp _ _ _ _ (w.alloc (.cells #[.string (mkB x.kind), .int .i64 x.d, .slice A5 x.args.length c5, .int .i64 x.num, .string (mkB x.name)] 52))
  rw [HQ.out, HBX.out]
  go_upto_region 2 with (go_at_call 62; (with_reducible refine HV.out.mono ?_); rintro y w1 ⟨hb1, (⟨hno, -⟩ | ⟨r, A6, c6, hr, rfl, ho⟩)⟩; (exact absurd (hno.symm.trans HPK.out) (by simp)); obtain rfl := Option.some.inj (hr.symm.trans HPK.out))
  have hk1 := (hb1.block q (Array.getElem?_eq_some_iff.1 HROW.out).1).trans HROW.out
  have H1 := HH.out.below hb1
  clear e0 e1 e2 e3 e4
  obtain ⟨e0, e1, e2, e3, e4⟩ := row5B hk1
  obtain ⟨AC, cC, hvC⟩ := own_slice H1.calls
  have o1 : w1.cell? ⟨mb, 11, none⟩ = some vC := H1.cellM rfl
  have y1 : w1.cell? ⟨mb, 5, none⟩ = some (.slice Y ans.length yc) := H1.cellM rfl
  rw [hvC] at o1
  have HN := Lib.hid H1
  clear hk1 H1 ho
  go_wp2_with fail
  go_ret
  exact ⟨rfl, HN.out⟩
set_option maxHeartbeats 8000000 in
set_option maxRecDepth 100000 in
theorem ins_call_go (H : PwAt c A ca X args xc Y ans yc T w0 mb gb hb n F s h v vO vC ts w) (hok : s.got.length = n ∧ s.has.length = n) (x : PIn) (A5 : Option Addr) (c5 : Nat) (hrow : Row w A5 (intVs x.args)) (h8 : x.args.length ≤ 8) (hin : ∀ v ∈ x.args, 0 ≤ v ∧ v < (n : Int)) {r : List Int} (hpk : pickW s x.args = some r) (hk : x.kind = kCall) (dn : Nat) (hd : x.d = (dn : Int)) (hdn : dn < n) (hY : Row w0 Y (intVs ans)) (hC : s.calls.length < ans.length) (hCm : s.calls.length ≤ 1000) :
    Calls Tryd.prog 39 #[.pointer (some ⟨mb, 0, none⟩), inV x A5 c5] w (fun e w' => e = .returned (.string ⟨#[]⟩) ∧ ∃ vC' ts', PwAt c A ca X args xc Y ans yc T w0 mb gb hb n F (putW { s with calls := s.calls ++ [(x.name, r)] } dn (ans.getD s.calls.length 0)) h v vO vC' ts' w') := by
  obtain ⟨q, hq⟩ : ∃ q, w.heap.size = q := ⟨_, rfl⟩
  obtain ⟨bx, hbx⟩ : ∃ bx, w.alloc (.cells #[.string (mkB x.kind), .int .i64 x.d, .slice A5 x.args.length c5, .int .i64 x.num, .string (mkB x.name)] 52) = bx := ⟨_, rfl⟩
  have hbb : Below w.heap.size w bx := by rw [← hbx]; exact grow_alloc (grow_refl _) _
  have hn : bx.heap[q]? = some (.cells #[.string (mkB x.kind), .int .i64 x.d, .slice A5 x.args.length c5, .int .i64 x.num, .string (mkB x.name)] 52 (0, 0)) := by rw [← hbx, ← hq]; exact heap_alloc_new w _
  have h2 := H.below hbb
  obtain ⟨e0, e1, e2, e3, e4⟩ := row5B hn
  have HBX := Lib.hid hbx
  have HQ := Lib.hid hq
  have HH := Lib.hid h2
  have HROW := Lib.hid hn
  have HV := Lib.hid (values_any h2 hok.1 hok.2 x.args (by omega) hin A5 c5 (hrow.keep (Keeps.of_below hbb)))
  have HPK := Lib.hid hpk
  have HOK := Lib.hid hok
  have qtick : ((mkB x.kind).toList == [116, 105, 99, 107]) = false := by rw [mkB_eq, hk]; rfl
  have qprint : ((mkB x.kind).toList == [112, 114, 105, 110, 116]) = false := by rw [mkB_eq, hk]; rfl
  have qcall : ((mkB x.kind).toList == [99, 97, 108, 108]) = true := by rw [mkB_eq, hk]; rfl
  clear hk
  have hd0 : (0 : Int) ≤ dn := by omega
  have hd1 : (dn : Int) < (n : Int) := by omega
  rw [hd] at HROW
  have HD := Lib.hid hd
  have hC1 : ¬ (ans.length : Int) ≤ (s.calls.length : Int) := by omega
  have hC2 : (s.calls.length : Int) < (ans.length : Int) := by omega
  have hC0 : (0 : Int) ≤ (s.calls.length : Int) := by omega
  obtain ⟨vv, hvv⟩ : ∃ z, ans.getD s.calls.length 0 = z := ⟨_, rfl⟩
  rw [hvv]
  have HVV := Lib.hid hvv
  clear hvv hd
  unfold inV
  clear H h2 hbb hbx hn hq hrow hin hpk hok
  go_enter Tryd.func39, Tryd.ntmps39
  go_upto_region 1 with fail
  change Code.wp _ _ _ _ (w.alloc (.cells #[.string (mkB x.kind), .int .i64 x.d, .slice A5 x.args.length c5, .int .i64 x.num, .string (mkB x.name)] 52))
  rw [HQ.out, HBX.out]
  go_upto_region 2 with (go_at_call 62; (with_reducible refine HV.out.mono ?_); rintro y w1 ⟨hb1, (⟨hno, -⟩ | ⟨r, A6, c6, hr, rfl, ho⟩)⟩; (exact absurd (hno.symm.trans HPK.out) (by simp)); obtain rfl := Option.some.inj (hr.symm.trans HPK.out))
  have hk1 := (hb1.block q (Array.getElem?_eq_some_iff.1 HROW.out).1).trans HROW.out
  have H1 := HH.out.below hb1
  clear e0 e1 e2 e3 e4
  obtain ⟨e0, e1, e2, e3, e4⟩ := row5B hk1
  obtain ⟨AC, cC, hvC⟩ := own_slice H1.calls
  have o1 : w1.cell? ⟨mb, 11, none⟩ = some vC := H1.cellM rfl
  have y1 : w1.cell? ⟨mb, 5, none⟩ = some (.slice Y ans.length yc) := H1.cellM rfl
  rw [hvC] at o1
  have HO : Hid (w1.ownsRow w0.heap.size 81 2 (.slice AC s.calls.length cC) s.calls.length (ts.flatMap CC.cells)) := hvC ▸ H1.calls
  have hw0 : w0.heap.size ≤ w1.heap.size := H1.bel.size
  have HR6 : Hid (Row w1 A6 (intVs r)) := by
    obtain ⟨A6', c6', e6, -, hr6⟩ := owns_rowA ho
    injection e6 with e6 _ _
    subst e6
    exact hr6
  subst hvC
  have HF6 : Hid (FarW ⟨(x.name, r), A6, c6⟩ w0.heap.size mb gb hb vO (.slice AC s.calls.length cC)) := by
    have h0 := HH.out.fresh (t := ⟨(x.name, r), A6, c6⟩) (fun _ a ha => (own_lt ho (k := a.block) (by show Value.ownBlock (.slice A6 r.length c6) = _; rw [show A6 = some a from ha]; rfl)).1)
    exact h0
  have HN := Lib.hid H1
  have hql : q < w1.heap.size := (Array.getElem?_eq_some_iff.1 hk1).1
  have hkn : (Value.slice AC s.calls.length cC).ownBlock ≠ some q := own_apart H1.calls hk1 (by decide)
  have HBK : Hid (∀ w9, (w1.alloc (.cells #[.string (mkB x.name), .slice A6 r.length c6] 81)).grownBy w9 (Value.slice AC s.calls.length cC).ownBlock → (w9.heap[q]? = some (.cells #[.string (mkB x.kind), .int .i64 (dn : Int), .slice A5 x.args.length c5, .int .i64 x.num, .string (mkB x.name)] 52 (0, 0)) ∧ q ≠ mb)) := fun w9 hg9 => ⟨by rw [hg9.block q (by simp; omega) (fun e => hkn e.symm)]; exact (old_block _ _ hql).trans hk1, ty_ne hk1 H1.blk (by decide)⟩
  have hnO := World.new_ne w1 _ o1
  have hnN := World.new_ne w1 _ e4
  have q1 : (w1.alloc (.cells #[.string (mkB x.name), .slice A6 r.length c6] 81)).cell? ⟨mb, 11, none⟩ = some (.slice AC s.calls.length cC) := Keeps.alloc _ _ _ _ o1
  have q2 : (w1.alloc (.cells #[.string (mkB x.name), .slice A6 r.length c6] 81)).cell? ⟨q, 4, none⟩ = some (.string (mkB x.name)) := Keeps.alloc _ _ _ _ e4
  clear hk1 H1 ho
  clear hql hkn
  go_upto_region 19 with fail
  go_cut [] from 77 to 92 (fun wx => ∃ vC' ts', PwAt c A ca X args xc Y ans yc T w0 mb gb hb n F { s with calls := s.calls ++ [(x.name, r)] } h v vO vC' ts' wx ∧ wx.heap[q]? = some (.cells #[.string (mkB x.kind), .int .i64 (dn : Int), .slice A5 x.args.length c5, .int .i64 x.num, .string (mkB x.name)] 52 (0, 0)))
  case first =>
    obtain ⟨i0, hi, hz0, hz1, hz2⟩ := info_parts callInfo
    go_region_law (first
      | (refine step_append_lies _ rfl _ _ 46 rfl w0.heap.size 81 i0 _ 2 40 Tryd.underlying46 hi hz0 hz1 hz2 rfl (by decide) _ s.calls.length (ts.flatMap CC.cells) rfl (by first | exact (World.ownsRow.alloc HO.out _).drewN 1 | exact (HO.out.drewN 1).alloc _ | exact World.ownsRow.alloc HO.out _) ⟨w1.heap.size, 0, none⟩ 1 1 [.string (mkB x.name), .slice A6 r.length c6] rfl rfl (by first | exact World.news_of_block (heap_alloc_new w1 _) | exact World.news_of_block (heap_alloc_new w1.drew _) | exact World.news_of_block (w := (w1.alloc (.cells #[.string (mkB x.name), .slice A6 r.length c6] 81)).drew) (heap_alloc_new w1 _)) (fun u hu => by simp at hu; rcases hu with rfl | rfl <;> rfl) (by decide) (by unfold maxLen; omega) (by omega) (by first | (show w0.heap.size ≤ (w1.alloc _).heap.size; simp; omega) | (simp; omega)) _ rfl ?_; intro g cap w9 hown hgrow hat hlt9; obtain ⟨j1, j2⟩ := HN.out.putC (jC := 11) (o := (.cells #[.string (mkB x.name), .slice A6 r.length c6] 81)) (t := ⟨(x.name, r), A6, c6⟩) (fun _ => rfl) (by rw [CC.cells]; exact hown) ⟨hgrow.os, hgrow.tape, hgrow.output, hgrow.size, hgrow.block⟩ (hat.imp id fun e => e.trans (by first | (show (w1.alloc _).heap.size = _; simp) | simp)) HR6.out HF6.out; have jb := HBK.out w9 ⟨hgrow.os, hgrow.tape, hgrow.output, hgrow.size, hgrow.block⟩; have o1 : w9.cell? ⟨mb, 11, none⟩ = some (.slice AC s.calls.length cC) := (World.cell?_of_block j1).trans (HN.out.cellM rfl); have z1 := row_frozen (j1.trans HN.out.blk) 11; have H9 := Lib.hid j2; have HK9 := Lib.hid jb; clear j1 j2 jb hown hgrow hat))
    all_goals (
      go_wp2_with fail
      go_meet
      exact ⟨_, _, H9.out, (Below.heap_setCell _ _ _ _ HK9.out.2).trans HK9.out.1⟩)
  case rest =>
    obtain ⟨vC', ts', H9, hk9⟩ := hcut
    clear e0 e1 e2 e3 e4 o1 y1 q1 q2 hnO hnN
    obtain ⟨e0, e1, e2, e3, e4⟩ := row5B hk9
    have c12 : wc.cell? ⟨mb, 12, none⟩ = some (.slice (some ⟨gb, 0, none⟩) n n) := H9.cellM rfl
    have c13 : wc.cell? ⟨mb, 13, none⟩ = some (.slice (some ⟨hb, 0, none⟩) n n) := H9.cellM rfl
    have cg := H9.cellG (j := dn) (by rw [HOK.out.1]; omega)
    have ch := H9.cellH (j := dn) (by rw [HOK.out.2]; omega)
    have zg := H9.frozG dn
    have zh := H9.frozH dn
    have hne1 : ¬ gb = hb := H9.neGH
    have hne2 : ¬ hb = gb := Ne.symm H9.neGH
    obtain ⟨ug, hug⟩ : ∃ z, s.got.getD dn 0 = z := ⟨_, rfl⟩
    obtain ⟨uh, huh⟩ : ∃ z, s.has.getD dn false = z := ⟨_, rfl⟩
    rw [show ({ s with calls := s.calls ++ [(x.name, r)] } : WSt).got.getD dn 0 = ug from hug] at cg
    rw [show ({ s with calls := s.calls ++ [(x.name, r)] } : WSt).has.getD dn false = uh from huh] at ch
    have y1 : wc.cell? ⟨mb, 5, none⟩ = some (.slice Y ans.length yc) := H9.cellM rfl
    obtain ⟨yb, yo, rfl, y2⟩ := (hY.keep (Keeps.of_below H9.bel)) s.calls.length _ (intVs_get hC)
    have hv : ans.getD s.calls.length 0 = ans[s.calls.length] := by rw [List.getD_eq_getElem?_getD, List.getElem?_eq_getElem hC]; rfl
    rw [← hv, HVV.out] at y2
    have HST := Lib.hid (fun j9 => (H9.drewN j9).put (d := dn) vv)
    have HST' := Lib.hid (fun j9 => (H9.drewN j9).put' (d := dn) vv)
    have hm1 : mb ≠ gb := H9.neMG
    have hm2 : mb ≠ hb := H9.neMH
    have hq1 : q ≠ gb := ty_ne hk9 H9.got (by decide)
    have hq2 : q ≠ hb := ty_ne hk9 H9.has (by decide)
    have hyl : yb < w0.heap.size := by
      obtain ⟨b', o', e', hc'⟩ := hY s.calls.length _ (intVs_get hC)
      injection e' with e'
      injection e' with e1' e2' _
      subst e1'; subst e2'
      exact World.block_lt_of_cell? w0 _ hc'
    have hy1 : yb ≠ gb := by have := H9.lowG; omega
    have hy2 : yb ≠ hb := by have := H9.lowH; omega
    have HS : Hid (wc.cell? ⟨mb, 12, none⟩ = some (.slice (some ⟨gb, 0, none⟩) n n) ∧ wc.cell? ⟨mb, 13, none⟩ = some (.slice (some ⟨hb, 0, none⟩) n n) ∧ wc.cell? ⟨mb, 5, none⟩ = some (.slice (some ⟨yb, yo, none⟩) ans.length yc) ∧ wc.cell? ⟨q, 1, none⟩ = some (.int .i64 (dn : Int)) ∧ wc.cell? ⟨yb, yo + s.calls.length, none⟩ = some (.int .i64 vv)) := ⟨c12, c13, y1, e1, y2⟩
    clear hv H9 hk9 hY hug huh hyl
    go_upto_region 20 with fail
    go_region_held3 (fun w' => w'.cell? ⟨mb, 12, none⟩ = some (.slice (some ⟨gb, 0, none⟩) n n) ∧ w'.cell? ⟨mb, 13, none⟩ = some (.slice (some ⟨hb, 0, none⟩) n n) ∧ w'.cell? ⟨mb, 5, none⟩ = some (.slice (some ⟨yb, yo, none⟩) ans.length yc) ∧ w'.cell? ⟨q, 1, none⟩ = some (.int .i64 (dn : Int)) ∧ w'.cell? ⟨yb, yo + s.calls.length, none⟩ = some (.int .i64 vv))
      (first
        | exact HS.out
        | (go_split_ands
           refine ⟨?_, ?_, ?_, ?_, ?_⟩
           all_goals (first | assumption | exact cell_othW (by assumption) hm1 | exact cell_othW (by assumption) hm2 | exact cell_othW (by assumption) hq1 | exact cell_othW (by assumption) hq2 | exact cell_othW (by assumption) hy1 | exact cell_othW (by assumption) hy2)))
      (fail)
    all_goals go_wp2_with fail
    all_goals go_ret
    all_goals first
      | exact ⟨rfl, _, _, HST.out _⟩
      | exact ⟨rfl, _, _, HST'.out _⟩
      | exact ⟨rfl, _, _, (HST.out 0).drewN 1⟩
      | exact ⟨rfl, _, _, (HST'.out 0).drewN 1⟩
set_option maxHeartbeats 8000000 in
set_option maxRecDepth 100000 in
theorem ins_pure (H : PwAt c A ca X args xc Y ans yc T w0 mb gb hb n F s h v vO vC ts w) (hok : s.got.length = n ∧ s.has.length = n) (x : PIn) (A5 : Option Addr) (c5 : Nat) (hrow : Row w A5 (intVs x.args)) (h8 : x.args.length ≤ 8) (hin : ∀ v ∈ x.args, 0 ≤ v ∧ v < (n : Int)) {r : List Int} (hpk : pickW s x.args = some r) (h6 : x.kind ≠ kTick) (h7 : x.kind ≠ kPrint) (h5 : x.kind ≠ kCall) (dn : Nat) (hd : x.d = (dn : Int)) (hdn : dn < n) (hf : InF c x) (hp : (args.length : Int) = c.params) (hX : Row w0 X (intVs args)) (K : Value) (hK : ∀ w', Below w0.heap.size w0 w' → w'.cell? ⟨5, 0, none⟩ = some K) :
    Calls Tryd.prog 39 #[.pointer (some ⟨mb, 0, none⟩), inV x A5 c5] w (fun e w' => e = .returned (.string ⟨#[]⟩) ∧ PwAt c A ca X args xc Y ans yc T w0 mb gb hb n F (putW s dn (pureW args x r)) h v vO vC ts w') := by
  obtain ⟨q, hq⟩ : ∃ q, w.heap.size = q := ⟨_, rfl⟩
  obtain ⟨bx, hbx⟩ : ∃ bx, w.alloc (.cells #[.string (mkB x.kind), .int .i64 x.d, .slice A5 x.args.length c5, .int .i64 x.num, .string (mkB x.name)] 52) = bx := ⟨_, rfl⟩
  have hbb : Below w.heap.size w bx := by rw [← hbx]; exact grow_alloc (grow_refl _) _
  have hn : bx.heap[q]? = some (.cells #[.string (mkB x.kind), .int .i64 x.d, .slice A5 x.args.length c5, .int .i64 x.num, .string (mkB x.name)] 52 (0, 0)) := by rw [← hbx, ← hq]; exact heap_alloc_new w _
  have h2 := H.below hbb
  obtain ⟨e0, e1, e2, e3, e4⟩ := row5B hn
  have HBX := Lib.hid hbx
  have HQ := Lib.hid hq
  have HH := Lib.hid h2
  have HROW := Lib.hid hn
  have HV := Lib.hid (values_any h2 hok.1 hok.2 x.args (by omega) hin A5 c5 (hrow.keep (Keeps.of_below hbb)))
  have HPK := Lib.hid hpk
  have HOK := Lib.hid hok
  have qtick : ((mkB x.kind).toList == [116, 105, 99, 107]) = false := by rw [mkB_eq]; exact beq_eq_false_iff_ne.2 h6
  have qprint : ((mkB x.kind).toList == [112, 114, 105, 110, 116]) = false := by rw [mkB_eq]; exact beq_eq_false_iff_ne.2 h7
  have qcall : ((mkB x.kind).toList == [99, 97, 108, 108]) = false := by rw [mkB_eq]; exact beq_eq_false_iff_ne.2 h5
  clear h5 h6 h7
  have hd0 : (0 : Int) ≤ dn := by omega
  have hd1 : (dn : Int) < (n : Int) := by omega
  rw [hd] at HROW
  have HD := Lib.hid hd
  have HXX := Lib.hid hX
  obtain ⟨vv, hvv⟩ : ∃ z, pureW args x r = z := ⟨_, rfl⟩
  have HFF := Lib.hid hf
  have HKK := Lib.hid hK
  have HVV := Lib.hid hvv
  rw [hvv]
  clear hvv hd hX hf hK
  unfold inV
  clear H h2 hbb hbx hn hq hrow hin hpk hok
  go_enter Tryd.func39, Tryd.ntmps39
  go_upto_region 1 with fail
  change Code.wp _ _ _ _ (w.alloc (.cells #[.string (mkB x.kind), .int .i64 x.d, .slice A5 x.args.length c5, .int .i64 x.num, .string (mkB x.name)] 52))
  rw [HQ.out, HBX.out]
  go_upto_region 2 with (go_at_call 62; (with_reducible refine HV.out.mono ?_); rintro y w1 ⟨hb1, (⟨hno, -⟩ | ⟨r, A6, c6, hr, rfl, ho⟩)⟩; (exact absurd (hno.symm.trans HPK.out) (by simp)); obtain rfl := Option.some.inj (hr.symm.trans HPK.out))
  have hk1 := (hb1.block q (Array.getElem?_eq_some_iff.1 HROW.out).1).trans HROW.out
  have H1 := HH.out.below hb1
  clear e0 e1 e2 e3 e4
  obtain ⟨e0, e1, e2, e3, e4⟩ := row5B hk1
  obtain ⟨A6', c6', e6, -, hr6⟩ := owns_rowA ho
  injection e6 with e6 _ e7
  subst e6
  subst e7
  have HPU : Hid (∀ W, Below w1.heap.size w1 W → Calls Tryd.prog 63 #[.pointer (some ⟨mb, 0, none⟩), .agg #[.string (mkB x.kind), .int .i64 (dn : Int), .slice A5 x.args.length c5, .int .i64 x.num, .string (mkB x.name)], .slice A6 r.length c6] W (Ret (.int .i64 vv) W)) := fun W hW => by
    have h9 := pure_any (H1.below hW) x HFF.out hp A5 c5 r (pickW_len HPK.out) A6 c6 (hr6.keep (Keeps.of_below hW)) K HKK.out HXX.out
    unfold inV at h9
    rwa [HD.out, HVV.out] at h9
  have HN := Lib.hid H1
  have HLAY : Hid (∀ W, Below w1.heap.size w1 W → (W.cell? ⟨mb, 12, none⟩ = some (.slice (some ⟨gb, 0, none⟩) n n) ∧ W.cell? ⟨mb, 13, none⟩ = some (.slice (some ⟨hb, 0, none⟩) n n)) ∧ (W.cell? ⟨q, 0, none⟩ = some (.string (mkB x.kind)) ∧ W.cell? ⟨q, 1, none⟩ = some (.int .i64 (dn : Int)) ∧ W.cell? ⟨q, 2, none⟩ = some (.slice A5 x.args.length c5) ∧ W.cell? ⟨q, 3, none⟩ = some (.int .i64 x.num) ∧ W.cell? ⟨q, 4, none⟩ = some (.string (mkB x.name)))) := fun W hW =>
    ⟨⟨(H1.below hW).cellM rfl, (H1.below hW).cellM rfl⟩, row5B ((hW.block q (Array.getElem?_eq_some_iff.1 hk1).1).trans hk1)⟩
  have HCG : Hid (∀ W, Below w1.heap.size w1 W → (∃ u, W.cell? ⟨gb, dn, none⟩ = some u) ∧ (∃ u, W.cell? ⟨hb, dn, none⟩ = some u) ∧ W.frozen? ⟨gb, dn, none⟩ = false ∧ W.frozen? ⟨hb, dn, none⟩ = false) := fun W hW =>
    ⟨⟨_, (H1.below hW).cellG (by rw [HOK.out.1]; omega)⟩, ⟨_, (H1.below hW).cellH (by rw [HOK.out.2]; omega)⟩, (H1.below hW).frozG dn, (H1.below hW).frozH dn⟩
  have hne1 : ¬ mb = gb := H1.neMG
  have hne2 : ¬ mb = hb := H1.neMH
  have hne3 : ¬ gb = hb := H1.neGH
  have hne6 : ¬ hb = gb := Ne.symm H1.neGH
  have hne4 : ¬ q = gb := ty_ne hk1 H1.got (by decide)
  have hne5 : ¬ q = hb := ty_ne hk1 H1.has (by decide)
  obtain ⟨⟨c12, c13⟩, -⟩ := HLAY.out w1 (grow_refl _)
  clear hr6
  clear hk1 H1 ho
  go_upto_region 22 with fail
  go_region_held3 (fun w' => (w'.cell? ⟨mb, 12, none⟩ = some (.slice (some ⟨gb, 0, none⟩) n n) ∧ w'.cell? ⟨mb, 13, none⟩ = some (.slice (some ⟨hb, 0, none⟩) n n)) ∧ (w'.cell? ⟨q, 0, none⟩ = some (.string (mkB x.kind)) ∧ w'.cell? ⟨q, 1, none⟩ = some (.int .i64 (dn : Int)) ∧ w'.cell? ⟨q, 2, none⟩ = some (.slice A5 x.args.length c5) ∧ w'.cell? ⟨q, 3, none⟩ = some (.int .i64 x.num) ∧ w'.cell? ⟨q, 4, none⟩ = some (.string (mkB x.name))))
    (first
      | with_reducible exact HLAY.out _ (grow_refl _)
      | with_reducible exact HLAY.out _ (drewB (grow_refl _))
      | with_reducible exact HLAY.out _ (by with_reducible assumption)
      | (go_split_ands
         refine ⟨⟨?_, ?_⟩, ?_, ?_, ?_, ?_, ?_⟩
         all_goals (first | assumption | exact cell_othW (by assumption) hne1 | exact cell_othW (by assumption) hne2 | exact cell_othW (by assumption) hne4 | exact cell_othW (by assumption) hne5)))
    (first
    | (go_at_call 63; (with_reducible refine (HPU.out _ (by first | with_reducible exact grow_refl _ | with_reducible exact drewB (grow_refl _))).mono ?_); rintro y9 w2 ⟨rfl, hb2⟩; have hb3 : Below w1.heap.size w1 w2 := (by first | with_reducible exact hb2 | with_reducible exact grow_trans (drewB (grow_refl _)) hb2); obtain ⟨⟨c12, c13⟩, ⟨e0, e1, e2, e3, e4⟩⟩ := HLAY.out w2 hb3; obtain ⟨⟨ug, cg⟩, ⟨uh, ch⟩, zg, zh⟩ := HCG.out w2 hb3; have HST := Lib.hid (fun j9 => ((HN.out.below hb3).drewN j9).put (d := dn) vv); have HST' := Lib.hid (fun j9 => ((HN.out.below hb3).drewN j9).put' (d := dn) vv); clear hb2))
  all_goals go_wp2_with fail
  all_goals go_ret
  all_goals first
    | exact ⟨rfl, HST.out 0⟩
    | exact ⟨rfl, HST'.out 0⟩
    | exact ⟨rfl, HST.out 1⟩
    | exact ⟨rfl, HST'.out 1⟩
    | exact ⟨rfl, (HST.out 0).drewN 1⟩
    | exact ⟨rfl, (HST'.out 0).drewN 1⟩
end
end Go.Proofs.YtdilakpipbkokaaDoor
