import Derived.Test.YtgmkdoiehobfeaaDoorCoded3
import Derived.Test.YtgmkdoiehobfeaaDoorMWord
import Derived.Test.YtgmkdoiehobfeaaDoorMText
import Derived.Test.YtgmkdoiehobfeaaDoorCodeLaid
namespace Go.Proofs.YtgmkdoiehobfeaaDoor
open Go.RowKit

theorem words_large (i : PIns) (v : Int) (KB KS KK : Addr) (w : World) (hL : CodeLaid KB KS KK w) (h : 20 < i.op.length) :
    Calls Tryd.prog 4 #[insV i, .int .u64 v] w (Ret (.bool true) w) := by
  have hb : Below w.heap.size w (w.alloc (.cells #[.string (mkB i.op), .int .i64 i.d, .int .i64 i.a, .int .i64 i.b, .int .i64 i.imm] 24)) := grow_alloc (grow_refl _) _
  have HC := Lib.hid (coding_any KB KS KK _ (hL.below hb))
  have HW := Lib.hid (heap_alloc_new w (.cells #[.string (mkB i.op), .int .i64 i.d, .int .i64 i.a, .int .i64 i.b, .int .i64 i.imm] 24))
  have hl : (20 : Int) < (mkB i.op).size := by rw [mkB_size]; omega
  obtain ⟨op, d, a, b, imm⟩ := i
  clear h hb
  unfold insV
  simp only at HC HW hl
  go_enter Tryd.func4, Tryd.ntmps4
  go_wp2_with (go_at_call 5; (with_reducible refine HC.out.mono ?_); rintro x w1 ⟨rfl, hb1⟩; have r0 := cell_of_row w1 _ 0 _ _ _ ((hb1.block w.heap.size (by simp)).trans HW.out))
  go_ret
  exact ⟨rfl, grow_trans (grow_alloc (grow_refl _) _) hb1⟩
theorem dec_form (KB KS KK : Addr) (v : Int) : ∃ (ys : ByteArray) (yd ya yb ym : Int) (er : Value), decV KB KS KK v = .tuple #[.agg #[.string ys, .int .i64 yd, .int .i64 ya, .int .i64 yb, .int .i64 ym], er] ∧ er = errV KB KS KK (errW v) ∧ insR v = .tuple #[.agg #[.string ys, .int .i64 yd, .int .i64 ya, .int .i64 yb, .int .i64 ym], .int .i64 (errW v)] := by
  unfold decV insR
  by_cases h : errW v = 0
  · rw [if_pos h]; exact ⟨_, _, _, _, _, _, rfl, rfl, rfl⟩
  · rw [if_neg h]; exact ⟨_, _, _, _, _, _, rfl, rfl, rfl⟩
theorem coded_say (E : Nat → Addr) (n : Nat) (h : n = 0 ∨ n = 2 ∨ n = 3 ∨ n = 4) (w : World) (hE : Laid E w) : Calls Tryd.prog 10 #[errV (E 1) (E 2) (E 3) n, .int .i64 n] w (Ret (.bool true) w) := by
  have := coded3_any E w hE _ n (-1) n (errV_is n h)
  rwa [show (((n : Int) == n) && ((-1 : Int) == -1)) = true by simp] at this
set_option maxHeartbeats 16000000 in
set_option maxRecDepth 100000 in
theorem words_bad (i : PIns) (v : Int) (h0 : 0 ≤ v) (h1 : v < 18446744073709551616) (E : Nat → Addr) (w : World) (hE : Laid E w) (hL : CodeLaid (E 1) (E 2) (E 3) w) (hl : i.op.length ≤ 20) (hi : errI i ≠ 0) :
    Calls Tryd.prog 4 #[insV i, .int .u64 v] w (Ret (.bool true) w) := by
  have HC := Lib.hid (fun w' (hb : Below w.heap.size w w') => coding_any _ _ _ w' (hL.below hb))
  have l1 : ¬ (20 : Int) < (mkB i.op).size := by rw [mkB_size]; omega
  obtain ⟨ys, yd, ya, yb, ym, er2, hdec, her2, hins⟩ := dec_form (E 1) (E 2) (E 3) v
  have hd := fun w' (hb : Below w.heap.size w w') => Decode_any v h0 h1 (E 1) (E 2) (E 3) w' (hL.below hb).b (hL.below hb).s (hL.below hb).k
  rw [hdec] at hd
  have HD := Lib.hid hd
  have hr := fun w' => InsOf_any v h0 h1 w'
  rw [hins] at hr
  have hc2 := fun w' (hb : Below w.heap.size w w') => coded_say E (errW v) (errW_cases v) w' (hE.keep hb)
  rw [← her2] at hc2
  obtain ⟨n2, hn2⟩ : ∃ n : Int, (errW v : Int) = n := ⟨_, rfl⟩
  rw [hn2] at hr hc2
  have HR := Lib.hid hr
  have HC2 := Lib.hid hc2
  have HTX := Lib.hid (fun w' (hb : Below w.heap.size w w') => Text_any i (E 1) (E 2) (E 3) w' (hL.below hb).b (hL.below hb).s (hL.below hb).k (hL.tab w' hb))
  have hc1 := fun w' (hb : Below w.heap.size w w') => coded_say E (errI i) (errI_cases i) w' (hE.keep hb)
  have he1 := fun w' => InsError_any i w'
  have hen := fun w' (hb : Below w.heap.size w w') => Encode_any i (E 1) (E 2) (E 3) w' (hL.below hb).b (hL.below hb).s (hL.below hb).k
  unfold encV at hen
  rw [if_neg hi] at hen
  obtain ⟨er1, her1⟩ : ∃ e, errV (E 1) (E 2) (E 3) (errI i) = e := ⟨_, rfl⟩
  obtain ⟨n1, hn1⟩ : ∃ n : Int, (errI i : Int) = n := ⟨_, rfl⟩
  have hn0 : 0 < n1 := by omega
  rw [her1] at hc1 hen
  rw [hn1] at hc1 he1
  have HC1 := Lib.hid hc1
  have HE1 := Lib.hid he1
  have HEN := Lib.hid hen
  have htn : textI i = [] := by unfold textI; rw [if_neg hi]
  unfold textV at HTX
  rw [htn, show mkB [] = (⟨#[]⟩ : ByteArray) from rfl] at HTX
  clear her1 hn1 htn
  clear hd hdec hins hr hn2 her2 hc1 he1 hen hi hl h0 h1 hE hL hc2
  obtain ⟨op, d, a, b, imm⟩ := i
  unfold insV at HTX HE1 HEN  ⊢
  simp only at l1
  have hb1 : Below w.heap.size w (w.alloc (.cells #[.string (mkB op), .int .i64 d, .int .i64 a, .int .i64 b, .int .i64 imm] 24)) := grow_alloc (grow_refl _) _
  have HB1 := Lib.hid hb1
  have HW1 := Lib.hid (heap_alloc_new w (.cells #[.string (mkB op), .int .i64 d, .int .i64 a, .int .i64 b, .int .i64 imm] 24))
  clear hb1
  go_enter Tryd.func4, Tryd.ntmps4
  go_upto_region 4 with (go_at_call 5; (with_reducible refine (HC.out _ HB1.out).mono ?_); rintro x w3 ⟨rfl, hb3⟩; have hx3 := (hb3.block w.heap.size (by simp)).trans HW1.out; have HX3 := Lib.hid hx3; have HB3 := Lib.hid (grow_trans HB1.out hb3); have r0 := cell_of_row w3 _ 0 _ _ _ hx3; have r1 := cell_of_row w3 _ 1 _ _ _ hx3; have r2 := cell_of_row w3 _ 2 _ _ _ hx3; have r3 := cell_of_row w3 _ 3 _ _ _ hx3; have r4 := cell_of_row w3 _ 4 _ _ _ hx3; clear hx3 hb3)
  obtain ⟨w4, hw4⟩ : ∃ w4, w4 = w3.alloc (.cells #[.string (mkB op), .int .i64 d, .int .i64 a, .int .i64 b, .int .i64 imm] 26) := ⟨_, rfl⟩
  have hx4 : w4.heap[w.heap.size]? = some (.cells #[.string (mkB op), .int .i64 d, .int .i64 a, .int .i64 b, .int .i64 imm] 24) := by rw [hw4]; exact ((grow_alloc (grow_refl w3) (.cells #[.string (mkB op), .int .i64 d, .int .i64 a, .int .i64 b, .int .i64 imm] 26)).block _ (Array.getElem?_eq_some_iff.1 HX3.out).1).trans HX3.out
  have hy4 : w4.heap[w3.heap.size]? = some (.cells #[.string (mkB op), .int .i64 d, .int .i64 a, .int .i64 b, .int .i64 imm] 26) := by rw [hw4]; exact heap_alloc_new w3 _
  have HB4 := Lib.hid (show Below w.heap.size w w4 by rw [hw4]; exact grow_alloc HB3.out _)
  have HX4 := Lib.hid hx4
  have HY4 := Lib.hid hy4
  have HW4 := Lib.hid hw4
  have s0 := cell_of_row w4 _ 0 _ _ _ hx4
  have s1 := cell_of_row w4 _ 1 _ _ _ hx4
  have s2 := cell_of_row w4 _ 2 _ _ _ hx4
  have s3 := cell_of_row w4 _ 3 _ _ _ hx4
  have s4 := cell_of_row w4 _ 4 _ _ _ hx4
  have t0 := cell_of_row w4 _ 0 _ _ _ hy4
  have t1 := cell_of_row w4 _ 1 _ _ _ hy4
  have t2 := cell_of_row w4 _ 2 _ _ _ hy4
  have t3 := cell_of_row w4 _ 3 _ _ _ hy4
  have t4 := cell_of_row w4 _ 4 _ _ _ hy4
  clear hw4 hx4 hy4
  go_upto_region 5 with fail
  rw [← HW4.out]
  clear r0 r1 r2 r3 r4
  go_upto_region 14 with (first
    | (go_at_call 7; (with_reducible refine (HEN.out _ HB4.out).mono ?_); rintro x w5 ⟨rfl, hb5⟩; have hx5 := (hb5.block _ (Array.getElem?_eq_some_iff.1 HX4.out).1).trans HX4.out; have u0 := cell_of_row w5 _ 0 _ _ _ hx5; have u1 := cell_of_row w5 _ 1 _ _ _ hx5; have u2 := cell_of_row w5 _ 2 _ _ _ hx5; have u3 := cell_of_row w5 _ 3 _ _ _ hx5; have u4 := cell_of_row w5 _ 4 _ _ _ hx5; clear hx5)
    | (go_at_call 9; (with_reducible refine (HE1.out _).mono ?_); rintro x w6 ⟨rfl, hb6⟩)
    | (go_at_call 10; (with_reducible refine (HC1.out _ (grow_trans (grow_trans HB4.out hb5) hb6)).mono ?_); rintro x w7 ⟨rfl, hb7⟩; have h47 := grow_trans (grow_trans hb5 hb6) hb7; have hx7 := (h47.block _ (Array.getElem?_eq_some_iff.1 HX4.out).1).trans HX4.out; have hy7 := (h47.block _ (Array.getElem?_eq_some_iff.1 HY4.out).1).trans HY4.out; have p0 := cell_of_row w7 _ 0 _ _ _ hx7; have q0 := cell_of_row w7 _ 0 _ _ _ hy7; have p1 := cell_of_row w7 _ 1 _ _ _ hx7; have q1 := cell_of_row w7 _ 1 _ _ _ hy7; have p2 := cell_of_row w7 _ 2 _ _ _ hx7; have q2 := cell_of_row w7 _ 2 _ _ _ hy7; have p3 := cell_of_row w7 _ 3 _ _ _ hx7; have q3 := cell_of_row w7 _ 3 _ _ _ hy7; have p4 := cell_of_row w7 _ 4 _ _ _ hx7; have q4 := cell_of_row w7 _ 4 _ _ _ hy7; have HB7 := Lib.hid (grow_trans HB4.out h47); clear hx7 hy7 h47)
    | (go_at_call 8; (with_reducible refine (HTX.out _ HB7.out).mono ?_); rintro x w8 ⟨rfl, hb8⟩))
  have HBN := Lib.hid (grow_trans HB7.out hb8)
  clear hb5 hb6 hb7 hb8 s0 s1 s2 s3 s4 t0 t1 t2 t3 t4 u0 u1 u2 u3 u4 p0 p1 p2 p3 p4 q0 q1 q2 q3 q4
  have yy : (ys.toList == ys.toList) = true := by simp
  go_wp2_with (first
    | (go_at_call 6; (with_reducible refine (HD.out _ HBN.out).mono ?_); rintro x w14 ⟨rfl, hb14⟩)
    | (go_at_call 13; (with_reducible refine (HR.out _).mono ?_); rintro x w15 ⟨rfl, hb15⟩)
    | (go_at_call 10; (with_reducible refine (HC2.out _ (grow_alloc (grow_trans (grow_alloc (grow_trans HBN.out hb14) _) hb15) _)).mono ?_); rintro x w16 ⟨rfl, hb16⟩; have hA := (hb15.block w14.heap.size (by simp)).trans (heap_alloc_new w14 (.cells #[.string ys, .int .i64 yd, .int .i64 ya, .int .i64 yb, .int .i64 ym] 26)); have hB := ((grow_alloc (grow_refl w15) (.cells #[.string ys, .int .i64 yd, .int .i64 ya, .int .i64 yb, .int .i64 ym] 24)).block w14.heap.size (Array.getElem?_eq_some_iff.1 hA).1).trans hA; have hC := (hb16.block w14.heap.size (Array.getElem?_eq_some_iff.1 hB).1).trans hB; have hD := (hb16.block w15.heap.size (by simp)).trans (heap_alloc_new w15 (.cells #[.string ys, .int .i64 yd, .int .i64 ya, .int .i64 yb, .int .i64 ym] 24)); have c0 := cell_of_row w16 _ 0 _ _ _ hC; have d0 := cell_of_row w16 _ 0 _ _ _ hD; have c1 := cell_of_row w16 _ 1 _ _ _ hC; have d1 := cell_of_row w16 _ 1 _ _ _ hD; have c2 := cell_of_row w16 _ 2 _ _ _ hC; have d2 := cell_of_row w16 _ 2 _ _ _ hD; have c3 := cell_of_row w16 _ 3 _ _ _ hC; have d3 := cell_of_row w16 _ 3 _ _ _ hD; have c4 := cell_of_row w16 _ 4 _ _ _ hC; have d4 := cell_of_row w16 _ 4 _ _ _ hD; clear hA hB hC hD))
  go_ret
  exact ⟨rfl, grow_trans (grow_alloc (grow_trans (grow_alloc (grow_trans HBN.out hb14) _) hb15) _) hb16⟩
set_option maxHeartbeats 16000000 in
set_option maxRecDepth 100000 in
theorem words_ok (i : PIns) (v : Int) (h0 : 0 ≤ v) (h1 : v < 18446744073709551616) (E : Nat → Addr) (w : World) (hE : Laid E w) (hL : CodeLaid (E 1) (E 2) (E 3) w) (hl : i.op.length ≤ 20) (hi : errI i = 0) :
    Calls Tryd.prog 4 #[insV i, .int .u64 v] w (Ret (.bool true) w) := by
  have HC := Lib.hid (fun w' (hb : Below w.heap.size w w') => coding_any _ _ _ w' (hL.below hb))
  have l1 : ¬ (20 : Int) < (mkB i.op).size := by rw [mkB_size]; omega
  obtain ⟨ys, yd, ya, yb, ym, er2, hdec, her2, hins⟩ := dec_form (E 1) (E 2) (E 3) v
  have hd := fun w' (hb : Below w.heap.size w w') => Decode_any v h0 h1 (E 1) (E 2) (E 3) w' (hL.below hb).b (hL.below hb).s (hL.below hb).k
  rw [hdec] at hd
  have HD := Lib.hid hd
  have hr := fun w' => InsOf_any v h0 h1 w'
  rw [hins] at hr
  have hc2 := fun w' (hb : Below w.heap.size w w') => coded_say E (errW v) (errW_cases v) w' (hE.keep hb)
  rw [← her2] at hc2
  obtain ⟨n2, hn2⟩ : ∃ n : Int, (errW v : Int) = n := ⟨_, rfl⟩
  rw [hn2] at hr hc2
  have HR := Lib.hid hr
  have HC2 := Lib.hid hc2
  have HTX := Lib.hid (fun w' (hb : Below w.heap.size w w') => Text_any i (E 1) (E 2) (E 3) w' (hL.below hb).b (hL.below hb).s (hL.below hb).k (hL.tab w' hb))
  have hc1 := fun w' (hb : Below w.heap.size w w') => coded_say E (errI i) (errI_cases i) w' (hE.keep hb)
  have he1 := fun w' => InsError_any i w'
  have hen := fun w' (hb : Below w.heap.size w w') => Encode_any i (E 1) (E 2) (E 3) w' (hL.below hb).b (hL.below hb).s (hL.below hb).k
  unfold encV at hen
  rw [hi] at hc1 he1 hen
  have HC1 : Hid (∀ w', Below w.heap.size w w' → Calls Tryd.prog 10 #[.nilIface, .int .i64 0] w' (Ret (.bool true) w')) := hc1
  have HE1 : Hid (∀ w', Calls Tryd.prog 9 #[insV i] w' (Ret (.int .i64 0) w')) := he1
  have HEN : Hid (∀ w', Below w.heap.size w w' → Calls Tryd.prog 7 #[insV i] w' (Ret (.tuple #[.int .u64 (wordP i), .nilIface]) w')) := hen
  have HWO := Lib.hid (fun w' => WordOf_any i w' hi)
  have HTO := Lib.hid (fun w' => TextOf_any i w' hi)
  obtain ⟨TX, htx⟩ : ∃ t, mkB (textI i) = t := ⟨_, rfl⟩
  unfold textV at HTX HTO
  rw [htx] at HTX HTO
  have tt : (TX.toList == TX.toList) = true := by simp
  have ww : ((wordP i : Int) != wordP i) = false := by simp
  clear htx
  clear hd hdec hins hr hn2 her2 hc1 he1 hen hi hl h0 h1 hE hL hc2
  obtain ⟨op, d, a, b, imm⟩ := i
  unfold insV at HTX HE1 HEN HWO HTO ⊢
  simp only at l1
  have hb1 : Below w.heap.size w (w.alloc (.cells #[.string (mkB op), .int .i64 d, .int .i64 a, .int .i64 b, .int .i64 imm] 24)) := grow_alloc (grow_refl _) _
  have HB1 := Lib.hid hb1
  have HW1 := Lib.hid (heap_alloc_new w (.cells #[.string (mkB op), .int .i64 d, .int .i64 a, .int .i64 b, .int .i64 imm] 24))
  clear hb1
  go_enter Tryd.func4, Tryd.ntmps4
  go_upto_region 4 with (go_at_call 5; (with_reducible refine (HC.out _ HB1.out).mono ?_); rintro x w3 ⟨rfl, hb3⟩; have hx3 := (hb3.block w.heap.size (by simp)).trans HW1.out; have HX3 := Lib.hid hx3; have HB3 := Lib.hid (grow_trans HB1.out hb3); have r0 := cell_of_row w3 _ 0 _ _ _ hx3; have r1 := cell_of_row w3 _ 1 _ _ _ hx3; have r2 := cell_of_row w3 _ 2 _ _ _ hx3; have r3 := cell_of_row w3 _ 3 _ _ _ hx3; have r4 := cell_of_row w3 _ 4 _ _ _ hx3; clear hx3 hb3)
  obtain ⟨w4, hw4⟩ : ∃ w4, w4 = w3.alloc (.cells #[.string (mkB op), .int .i64 d, .int .i64 a, .int .i64 b, .int .i64 imm] 26) := ⟨_, rfl⟩
  have hx4 : w4.heap[w.heap.size]? = some (.cells #[.string (mkB op), .int .i64 d, .int .i64 a, .int .i64 b, .int .i64 imm] 24) := by rw [hw4]; exact ((grow_alloc (grow_refl w3) (.cells #[.string (mkB op), .int .i64 d, .int .i64 a, .int .i64 b, .int .i64 imm] 26)).block _ (Array.getElem?_eq_some_iff.1 HX3.out).1).trans HX3.out
  have hy4 : w4.heap[w3.heap.size]? = some (.cells #[.string (mkB op), .int .i64 d, .int .i64 a, .int .i64 b, .int .i64 imm] 26) := by rw [hw4]; exact heap_alloc_new w3 _
  have HB4 := Lib.hid (show Below w.heap.size w w4 by rw [hw4]; exact grow_alloc HB3.out _)
  have HX4 := Lib.hid hx4
  have HY4 := Lib.hid hy4
  have HW4 := Lib.hid hw4
  have s0 := cell_of_row w4 _ 0 _ _ _ hx4
  have s1 := cell_of_row w4 _ 1 _ _ _ hx4
  have s2 := cell_of_row w4 _ 2 _ _ _ hx4
  have s3 := cell_of_row w4 _ 3 _ _ _ hx4
  have s4 := cell_of_row w4 _ 4 _ _ _ hx4
  have t0 := cell_of_row w4 _ 0 _ _ _ hy4
  have t1 := cell_of_row w4 _ 1 _ _ _ hy4
  have t2 := cell_of_row w4 _ 2 _ _ _ hy4
  have t3 := cell_of_row w4 _ 3 _ _ _ hy4
  have t4 := cell_of_row w4 _ 4 _ _ _ hy4
  clear hw4 hx4 hy4
  go_upto_region 5 with fail
  rw [← HW4.out]
  clear r0 r1 r2 r3 r4
  go_upto_region 12 with (first
    | (go_at_call 7; (with_reducible refine (HEN.out _ HB4.out).mono ?_); rintro x w5 ⟨rfl, hb5⟩; have hx5 := (hb5.block _ (Array.getElem?_eq_some_iff.1 HX4.out).1).trans HX4.out; have u0 := cell_of_row w5 _ 0 _ _ _ hx5; have u1 := cell_of_row w5 _ 1 _ _ _ hx5; have u2 := cell_of_row w5 _ 2 _ _ _ hx5; have u3 := cell_of_row w5 _ 3 _ _ _ hx5; have u4 := cell_of_row w5 _ 4 _ _ _ hx5; clear hx5)
    | (go_at_call 9; (with_reducible refine (HE1.out _).mono ?_); rintro x w6 ⟨rfl, hb6⟩)
    | (go_at_call 10; (with_reducible refine (HC1.out _ (grow_trans (grow_trans HB4.out hb5) hb6)).mono ?_); rintro x w7 ⟨rfl, hb7⟩; have h47 := grow_trans (grow_trans hb5 hb6) hb7; have hx7 := (h47.block _ (Array.getElem?_eq_some_iff.1 HX4.out).1).trans HX4.out; have hy7 := (h47.block _ (Array.getElem?_eq_some_iff.1 HY4.out).1).trans HY4.out; have p0 := cell_of_row w7 _ 0 _ _ _ hx7; have q0 := cell_of_row w7 _ 0 _ _ _ hy7; have p1 := cell_of_row w7 _ 1 _ _ _ hx7; have q1 := cell_of_row w7 _ 1 _ _ _ hy7; have p2 := cell_of_row w7 _ 2 _ _ _ hx7; have q2 := cell_of_row w7 _ 2 _ _ _ hy7; have p3 := cell_of_row w7 _ 3 _ _ _ hx7; have q3 := cell_of_row w7 _ 3 _ _ _ hy7; have p4 := cell_of_row w7 _ 4 _ _ _ hx7; have q4 := cell_of_row w7 _ 4 _ _ _ hy7; have HB7 := Lib.hid (grow_trans HB4.out h47); clear hx7 hy7 h47))
  clear s0 s1 s2 s3 s4 t0 t1 t2 t3 t4 u0 u1 u2 u3 u4 hb5 hb6 hb7
  have HBS : Below w.heap.size w w7.drew := HB7.out.drew
  go_cut [4, 7, 8, 9, 63] (fun v4 v7 v8 v9 v63 wx => v4 = .bool false ∧ v63 = .bool false ∧ Below w.heap.size w wx)
  case first =>
    go_region_held3 (fun w' => Below w.heap.size w w' ∧ w'.cell? ⟨w.heap.size, 0, none⟩ = some (.string (mkB op)) ∧ w'.cell? ⟨w.heap.size, 1, none⟩ = some (.int .i64 d) ∧ w'.cell? ⟨w.heap.size, 2, none⟩ = some (.int .i64 a) ∧ w'.cell? ⟨w.heap.size, 3, none⟩ = some (.int .i64 b) ∧ w'.cell? ⟨w.heap.size, 4, none⟩ = some (.int .i64 imm) ∧ w'.cell? ⟨w3.heap.size, 0, none⟩ = some (.string (mkB op)) ∧ w'.cell? ⟨w3.heap.size, 1, none⟩ = some (.int .i64 d) ∧ w'.cell? ⟨w3.heap.size, 2, none⟩ = some (.int .i64 a) ∧ w'.cell? ⟨w3.heap.size, 3, none⟩ = some (.int .i64 b) ∧ w'.cell? ⟨w3.heap.size, 4, none⟩ = some (.int .i64 imm))
      (first
        | go_keep
        | (go_split_ands
           refine ⟨?_, ?_, ?_, ?_, ?_, ?_, ?_, ?_, ?_, ?_, ?_⟩
           all_goals (first | assumption | exact Keeps.of_below hbT _ _ (by assumption) | exact grow_trans (by assumption) hbT)))
      (first
        | (go_at_call 11; (with_reducible refine (HWO.out _).mono ?_); rintro x w12 ⟨rfl, hbT⟩)
        | (go_at_call 8; (with_reducible refine (HTX.out _ (by first | assumption | exact grow_trans HBS hbT)).mono ?_); rintro x w12 ⟨rfl, hbT⟩)
        | (go_at_call 12; (with_reducible refine (HTO.out _).mono ?_); rintro x w12 ⟨rfl, hbT⟩))
    all_goals go_wp2_with fail
    all_goals go_meet
    all_goals refine ⟨rfl, rfl, ?_⟩
    all_goals go_split_ands
    all_goals assumption
  case rest =>
    obtain ⟨rfl, rfl, hbn⟩ := hcut
    have HBN := Lib.hid hbn
    clear hbn HBS p0 p1 p2 p3 p4 q0 q1 q2 q3 q4
    have yy : (ys.toList == ys.toList) = true := by simp
    go_wp2_with (first
      | (go_at_call 6; (with_reducible refine (HD.out _ HBN.out).mono ?_); rintro x w14 ⟨rfl, hb14⟩)
      | (go_at_call 13; (with_reducible refine (HR.out _).mono ?_); rintro x w15 ⟨rfl, hb15⟩)
      | (go_at_call 10; (with_reducible refine (HC2.out _ (grow_alloc (grow_trans (grow_alloc (grow_trans HBN.out hb14) _) hb15) _)).mono ?_); rintro x w16 ⟨rfl, hb16⟩; have hA := (hb15.block w14.heap.size (by simp)).trans (heap_alloc_new w14 (.cells #[.string ys, .int .i64 yd, .int .i64 ya, .int .i64 yb, .int .i64 ym] 26)); have hB := ((grow_alloc (grow_refl w15) (.cells #[.string ys, .int .i64 yd, .int .i64 ya, .int .i64 yb, .int .i64 ym] 24)).block w14.heap.size (Array.getElem?_eq_some_iff.1 hA).1).trans hA; have hC := (hb16.block w14.heap.size (Array.getElem?_eq_some_iff.1 hB).1).trans hB; have hD := (hb16.block w15.heap.size (by simp)).trans (heap_alloc_new w15 (.cells #[.string ys, .int .i64 yd, .int .i64 ya, .int .i64 yb, .int .i64 ym] 24)); have c0 := cell_of_row w16 _ 0 _ _ _ hC; have d0 := cell_of_row w16 _ 0 _ _ _ hD; have c1 := cell_of_row w16 _ 1 _ _ _ hC; have d1 := cell_of_row w16 _ 1 _ _ _ hD; have c2 := cell_of_row w16 _ 2 _ _ _ hC; have d2 := cell_of_row w16 _ 2 _ _ _ hD; have c3 := cell_of_row w16 _ 3 _ _ _ hC; have d3 := cell_of_row w16 _ 3 _ _ _ hD; have c4 := cell_of_row w16 _ 4 _ _ _ hC; have d4 := cell_of_row w16 _ 4 _ _ _ hD; clear hA hB hC hD))
    go_ret
    exact ⟨rfl, grow_trans (grow_alloc (grow_trans (grow_alloc (grow_trans HBN.out hb14) _) hb15) _) hb16⟩
theorem CodeWords_walk (i : PIns) (v : Int) (h0 : 0 ≤ v) (h1 : v < 18446744073709551616) (E : Nat → Addr) (w : World) (hE : Laid E w) (hL : CodeLaid (E 1) (E 2) (E 3) w) :
    Calls Tryd.prog 4 #[insV i, .int .u64 v] w (Ret (.bool true) w) := by
  by_cases h : 20 < i.op.length
  · exact words_large i v _ _ _ w hL h
  · by_cases hi : errI i = 0
    · exact words_ok i v h0 h1 E w hE hL (by omega) hi
    · exact words_bad i v h0 h1 E w hE hL (by omega) hi
end Go.Proofs.YtgmkdoiehobfeaaDoor
