import Derived.Test.YtgmkdoiehobfeaaDoorCodeC
namespace Go.Proofs.YtgmkdoiehobfeaaDoor
open Go.RowKit

set_option maxHeartbeats 16000000 in
set_option maxRecDepth 100000 in
theorem back_head (v : Int) (h0 : 0 ≤ v) (h1 : v < 18446744073709551616) (x y : PIns) (KB KS KK : Addr) (w : World) (hL : CodeLaid KB KS KK w) (hx : x.op.length ≤ 20) (hy : y.op.length ≤ 20) :
    Calls Tryd.prog 3 #[.int .u64 v, insV x, insV y] w (Ret (.bool true) w) := by
  have HX : Hid (errI x = 0 ∨ errI x ≠ 0) := Decidable.em _
  have HC := Lib.hid (fun w' (hb : Below w.heap.size w w') => coding_any KB KS KK w' (hL.below hb))
  have HD1 := Lib.hid (fun w' (hb : Below w.heap.size w w') (h : errW v = 0) => decode_ok h0 h1 h (hL.below hb))
  have HD2 : Hid (errW v ≠ 0 → ∃ K, ∀ w', Below w.heap.size w w' → Calls Tryd.prog 6 #[.int .u64 v] w' (Ret (.tuple #[noIns, .iface 118 (.pointer (some K))]) w')) := fun h => by
    obtain ⟨K, hK⟩ := errV_bad KB KS KK (errW v) h
    refine ⟨K, fun w' hb => ?_⟩
    have := Decode_any v h0 h1 KB KS KK w' (hL.below hb).b (hL.below hb).s (hL.below hb).k
    unfold decV at this
    rwa [if_neg h, hK] at this
  have EN : ∀ i : PIns, errI i ≠ 0 → ∃ K, ∀ w', Below w.heap.size w w' → Calls Tryd.prog 7 #[insV i] w' (Ret (.tuple #[.int .u64 0, .iface 118 (.pointer (some K))]) w') := fun i h => by
    obtain ⟨K, hK⟩ := errV_bad KB KS KK (errI i) h
    refine ⟨K, fun w' hb => ?_⟩
    have := Encode_any i KB KS KK w' (hL.below hb).b (hL.below hb).s (hL.below hb).k
    unfold encV at this
    rwa [if_neg h, hK] at this
  have EX := fun (h : errI x = 0) (w' : World) (hb : Below w.heap.size w w') => encode_ok h (hL.below hb)
  have EY := fun (h : errI y = 0) (w' : World) (hb : Below w.heap.size w w') => encode_ok h (hL.below hb)
  have FX := EN x
  have FY := EN y
  have GY : ∀ w', Below w.heap.size w w' → Calls Tryd.prog 7 #[insV y] w' fun e w'' => ∃ V E, e = .returned (.tuple #[.int .u64 V, E]) ∧ Below w'.heap.size w' w'' := fun w' hb =>
    (Encode_any y KB KS KK w' (hL.below hb).b (hL.below hb).s (hL.below hb).k).mono fun e w'' ⟨he, hq⟩ => ⟨_, _, he, hq⟩
  have DX : errI x = 0 → ∀ w', Below w.heap.size w w' → Calls Tryd.prog 6 #[.int .u64 (wordP x)] w' (Ret (.tuple #[insV x, .nilIface]) w') := fun h w' hb => by
    obtain ⟨q1, q2, q3, q4⟩ := ins_word x h
    have := decode_ok q3 q4 q2 (hL.below hb)
    rwa [q1] at this
  have TX := fun (w' : World) (hb : Below w.heap.size w w') => Text_any x KB KS KK w' (hL.below hb).b (hL.below hb).s (hL.below hb).k (hL.tab w' hb)
  have TY := fun (w' : World) (hb : Below w.heap.size w w') => Text_any y KB KS KK w' (hL.below hb).b (hL.below hb).s (hL.below hb).k (hL.tab w' hb)
  obtain ⟨TXS, htx⟩ : ∃ t, mkB (textI x) = t := ⟨_, rfl⟩
  obtain ⟨TYS, hty⟩ : ∃ t, mkB (textI y) = t := ⟨_, rfl⟩
  unfold textV at TX TY
  rw [htx] at TX
  rw [hty] at TY
  have HEQ : Hid (x = y → (TXS.toList == TYS.toList) = true) := fun h => by rw [← htx, ← hty, h]; simp
  have HNE : Hid (errI x = 0 → errI y = 0 → x ≠ y → (TXS.toList == TYS.toList) = false ∧ ((wordP x : Int) == wordP y) = false) := fun h1 h2 h => by
    rw [← htx, ← hty, mkB_toList, mkB_toList]
    refine ⟨beq_eq_false_iff_ne.2 fun e => h (textI_inj x y h1 h2 e), beq_eq_false_iff_ne.2 fun e => h ?_⟩
    rw [← (ins_word x h1).1, ← (ins_word y h2).1, e]
  clear EN htx hty
  obtain ⟨i0, hi0⟩ : ∃ i, insP v = i := ⟨_, rfl⟩
  have HE0 : Hid (errW v = 0 → ∀ w', Below w.heap.size w w' → Calls Tryd.prog 7 #[insV i0] w' (Ret (.tuple #[.int .u64 v, .nilIface]) w')) := fun h w' hb => by
    obtain ⟨q1, q2⟩ := word_ins v h
    have := encode_ok q1 (hL.below hb)
    rw [q2, hi0] at this
    exact this
  rw [hi0] at HD1
  clear hi0 h0
  have l1 : ¬ (20 : Int) < (mkB x.op).size := by rw [mkB_size]; omega
  have l2 : ¬ (20 : Int) < (mkB y.op).size := by rw [mkB_size]; omega
  clear hx hy
  obtain ⟨xo, xd, xa, xb, xi⟩ := x
  obtain ⟨yo, yd, ya, yb, yi⟩ := y
  obtain ⟨io, idd, ia, ib, ii⟩ := i0
  unfold insV at HD1 HE0 EX EY FX FY GY DX TX TY ⊢
  have EX := Lib.hid EX
  have EY := Lib.hid EY
  have FX := Lib.hid FX
  have FY := Lib.hid FY
  have GY := Lib.hid GY
  have DX := Lib.hid DX
  have TX := Lib.hid TX
  have TY := Lib.hid TY
  simp only at l1 l2
  obtain ⟨w2, hw2⟩ : ∃ w2, w2 = (w.alloc (.cells #[.string (mkB xo), .int .i64 xd, .int .i64 xa, .int .i64 xb, .int .i64 xi] 24)).alloc (.cells #[.string (mkB yo), .int .i64 yd, .int .i64 ya, .int .i64 yb, .int .i64 yi] 24) := ⟨_, rfl⟩
  have hb2 : Below w.heap.size w w2 := by rw [hw2]; exact grow_alloc (grow_alloc (grow_refl _) _) _
  have hxx : w2.heap[w.heap.size]? = some (.cells #[.string (mkB xo), .int .i64 xd, .int .i64 xa, .int .i64 xb, .int .i64 xi] 24) := by rw [hw2]; exact ((grow_alloc (grow_refl (w.alloc (.cells #[.string (mkB xo), .int .i64 xd, .int .i64 xa, .int .i64 xb, .int .i64 xi] 24))) (.cells #[.string (mkB yo), .int .i64 yd, .int .i64 ya, .int .i64 yb, .int .i64 yi] 24)).block w.heap.size (by simp)).trans (heap_alloc_new w _)
  have hyy : w2.heap[w.heap.size + 1]? = some (.cells #[.string (mkB yo), .int .i64 yd, .int .i64 ya, .int .i64 yb, .int .i64 yi] 24) := by
    have := heap_alloc_new (w.alloc (.cells #[.string (mkB xo), .int .i64 xd, .int .i64 xa, .int .i64 xb, .int .i64 xi] 24)) (.cells #[.string (mkB yo), .int .i64 yd, .int .i64 ya, .int .i64 yb, .int .i64 yi] 24)
    rw [hw2]
    rwa [show (w.alloc (.cells #[.string (mkB xo), .int .i64 xd, .int .i64 xa, .int .i64 xb, .int .i64 xi] 24)).heap.size = w.heap.size + 1 by simp] at this
  have HXX := Lib.hid hxx
  have HYY := Lib.hid hyy
  have HW2 := Lib.hid hw2
  have HB2 := Lib.hid hb2
  have x0 := cell_of_row w2 _ 0 _ _ _ hxx
  have y0 := cell_of_row w2 _ 0 _ _ _ hyy
  clear hw2 hb2 hxx hyy
  go_enter Tryd.func3, Tryd.ntmps3
  go_upto_region 1 with fail
  rw [← HW2.out]
  go_upto_region 4 with (go_at_call 5; (with_reducible refine (HC.out _ HB2.out).mono ?_); rintro x w3 ⟨rfl, hb3⟩; have x3 := Keeps.of_below hb3 _ _ x0; have y3 := Keeps.of_below hb3 _ _ y0)
  have HB23 := Lib.hid hb3
  have HB3 := Lib.hid (grow_trans HB2.out hb3)
  clear hb3 x0 y0 x3 y3
  have hmid : ∀ w5, Below w2.heap.size w2 w5 → w5.heap[w.heap.size]? = some (.cells #[.string (mkB xo), .int .i64 xd, .int .i64 xa, .int .i64 xb, .int .i64 xi] 24) ∧ w5.heap[w.heap.size + 1]? = some (.cells #[.string (mkB yo), .int .i64 yd, .int .i64 ya, .int .i64 yb, .int .i64 yi] 24) := fun w5 hb =>
    ⟨(hb.block _ (Array.getElem?_eq_some_iff.1 HXX.out).1).trans HXX.out, (hb.block _ (Array.getElem?_eq_some_iff.1 HYY.out).1).trans HYY.out⟩
  have HMID := Lib.hid hmid
  clear hmid
  by_cases hv : errW v = 0
  · have HD := Lib.hid (HD1.out _ HB3.out hv)
    have HE := Lib.hid (HE0.out hv)
    have vv : ((v : Int) != v) = false := by simp
    clear hv
    go_upto_region 9 with (first
      | (go_at_call 6; (with_reducible refine HD.out.mono ?_); rintro x w4 ⟨rfl, hb4⟩)
      | (go_at_call 7; (with_reducible refine (HE.out _ (grow_alloc (grow_trans HB3.out hb4) _)).mono ?_); rintro x w5 ⟨rfl, hb5⟩))
    have HB25 := Lib.hid (grow_trans (grow_alloc (grow_trans HB23.out hb4) _) hb5)
    obtain ⟨hx5, hy5⟩ := HMID.out w5 HB25.out
    have HB5 := Lib.hid (grow_trans HB2.out HB25.out)
    have x0 := cell_of_row w5 _ 0 _ _ _ hx5
    have x1 := cell_of_row w5 _ 1 _ _ _ hx5
    have x2 := cell_of_row w5 _ 2 _ _ _ hx5
    have x3 := cell_of_row w5 _ 3 _ _ _ hx5
    have x4 := cell_of_row w5 _ 4 _ _ _ hx5
    have y0 := fun o => Keeps.alloc w5 o _ _ (cell_of_row w5 _ 0 _ _ _ hy5)
    have y1 := fun o => Keeps.alloc w5 o _ _ (cell_of_row w5 _ 1 _ _ _ hy5)
    have y2 := fun o => Keeps.alloc w5 o _ _ (cell_of_row w5 _ 2 _ _ _ hy5)
    have y3 := fun o => Keeps.alloc w5 o _ _ (cell_of_row w5 _ 3 _ _ _ hy5)
    have y4 := fun o => Keeps.alloc w5 o _ _ (cell_of_row w5 _ 4 _ _ _ hy5)
    obtain ⟨w7, hw7⟩ : ∃ w7, w7 = (w5.alloc (.cells #[.string (mkB xo), .int .i64 xd, .int .i64 xa, .int .i64 xb, .int .i64 xi] 26)).alloc (.cells #[.string (mkB yo), .int .i64 yd, .int .i64 ya, .int .i64 yb, .int .i64 yi] 26) := ⟨_, rfl⟩
    have hx7 : w7.heap[w5.heap.size]? = some (.cells #[.string (mkB xo), .int .i64 xd, .int .i64 xa, .int .i64 xb, .int .i64 xi] 26) := by rw [hw7]; exact ((grow_alloc (grow_refl (w5.alloc (.cells #[.string (mkB xo), .int .i64 xd, .int .i64 xa, .int .i64 xb, .int .i64 xi] 26))) (.cells #[.string (mkB yo), .int .i64 yd, .int .i64 ya, .int .i64 yb, .int .i64 yi] 26)).block w5.heap.size (by simp)).trans (heap_alloc_new w5 _)
    have hy7 : w7.heap[w5.heap.size + 1]? = some (.cells #[.string (mkB yo), .int .i64 yd, .int .i64 ya, .int .i64 yb, .int .i64 yi] 26) := by
      have := heap_alloc_new (w5.alloc (.cells #[.string (mkB xo), .int .i64 xd, .int .i64 xa, .int .i64 xb, .int .i64 xi] 26)) (.cells #[.string (mkB yo), .int .i64 yd, .int .i64 ya, .int .i64 yb, .int .i64 yi] 26)
      rw [hw7]
      rwa [show (w5.alloc (.cells #[.string (mkB xo), .int .i64 xd, .int .i64 xa, .int .i64 xb, .int .i64 xi] 26)).heap.size = w5.heap.size + 1 by simp] at this
    have hb7 : Below w.heap.size w w7 := by rw [hw7]; exact grow_alloc (grow_alloc HB5.out _) _
    have HB7 := Lib.hid hb7
    have HX7 := Lib.hid hx7
    have HY7 := Lib.hid hy7
    have HW7 := Lib.hid hw7
    have p0 := cell_of_row w7 _ 0 _ _ _ hx7
    have p1 := cell_of_row w7 _ 1 _ _ _ hx7
    have p2 := cell_of_row w7 _ 2 _ _ _ hx7
    have p3 := cell_of_row w7 _ 3 _ _ _ hx7
    have p4 := cell_of_row w7 _ 4 _ _ _ hx7
    clear hw7 hx5 hy5 hx7 hy7 hb7
    go_upto_region 11 with fail
    rw [← HW7.out]
    clear x0 x1 x2 x3 x4 y0 y1 y2 y3 y4
    by_cases hx : errI ⟨xo, xd, xa, xb, xi⟩ = 0
    · have HX := Lib.hid (EX.out hx)
      by_cases hy : errI ⟨yo, yd, ya, yb, yi⟩ = 0
      · have HY := Lib.hid (EY.out hy)
        have HDX := Lib.hid (DX.out hx)
        have HQX := Lib.hid hx
        have HQY := Lib.hid hy
        clear hx hy
        go_upto_region 16 with (first
          | (first
            | (go_at_call 7; (with_reducible refine (HX.out _ HB7.out).mono ?_); rintro x w8 ⟨rfl, hb8⟩; have hy8 := (hb8.block _ (Array.getElem?_eq_some_iff.1 HY7.out).1).trans HY7.out; have q0 := cell_of_row w8 _ 0 _ _ _ hy8; have q1 := cell_of_row w8 _ 1 _ _ _ hy8; have q2 := cell_of_row w8 _ 2 _ _ _ hy8; have q3 := cell_of_row w8 _ 3 _ _ _ hy8; have q4 := cell_of_row w8 _ 4 _ _ _ hy8; clear hy8)
            | (go_at_call 7; (with_reducible refine (HY.out _ (grow_trans HB7.out hb8)).mono ?_); rintro x w9 ⟨rfl, hb9⟩))
          | (go_at_call 6; (with_reducible refine (HDX.out _ (grow_trans (grow_trans HB7.out hb8) hb9)).mono ?_); rintro x w10 ⟨rfl, hb10⟩))
        have hb5_7 : Below w7.heap.size w7 w10 := grow_trans (grow_trans hb8 hb9) hb10
        obtain ⟨w11, hw11⟩ : ∃ w11, w11 = w10.alloc (.cells #[.string (mkB xo), .int .i64 xd, .int .i64 xa, .int .i64 xb, .int .i64 xi] 26) := ⟨_, rfl⟩
        rw [← hw11]
        have hz11 : w11.heap[w10.heap.size]? = some (.cells #[.string (mkB xo), .int .i64 xd, .int .i64 xa, .int .i64 xb, .int .i64 xi] 26) := by rw [hw11]; exact heap_alloc_new w10 _
        have hb7_11 : Below w7.heap.size w7 w11 := by rw [hw11]; exact grow_alloc hb5_7 _
        have hx11 := (hb7_11.block _ (Array.getElem?_eq_some_iff.1 HX7.out).1).trans HX7.out
        have hy11 := (hb7_11.block _ (Array.getElem?_eq_some_iff.1 HY7.out).1).trans HY7.out
        have HB11 := Lib.hid (grow_trans HB7.out hb7_11)
        have HX11 := Lib.hid hx11
        have HY11 := Lib.hid hy11
        have HTX := Lib.hid (TX.out _ HB11.out.drew)
        have HBW := Lib.hid (show Below w11.heap.size w11 w11.drew from (Below.refl _ _).drew)
        have a0 := cell_of_row w11 _ 0 _ _ _ hz11
        have b0 := cell_of_row w11 _ 0 _ _ _ hx11
        have c0 := cell_of_row w11 _ 0 _ _ _ hy11
        have a1 := cell_of_row w11 _ 1 _ _ _ hz11
        have b1 := cell_of_row w11 _ 1 _ _ _ hx11
        have c1 := cell_of_row w11 _ 1 _ _ _ hy11
        have a2 := cell_of_row w11 _ 2 _ _ _ hz11
        have b2 := cell_of_row w11 _ 2 _ _ _ hx11
        have c2 := cell_of_row w11 _ 2 _ _ _ hy11
        have a3 := cell_of_row w11 _ 3 _ _ _ hz11
        have b3 := cell_of_row w11 _ 3 _ _ _ hx11
        have c3 := cell_of_row w11 _ 3 _ _ _ hy11
        have a4 := cell_of_row w11 _ 4 _ _ _ hz11
        have b4 := cell_of_row w11 _ 4 _ _ _ hx11
        have c4 := cell_of_row w11 _ 4 _ _ _ hy11
        clear hw11 hz11 hx11 hy11 hb7_11 hb5_7 hb8 hb9 hb10 p0 p1 p2 p3 p4 q0 q1 q2 q3 q4
        have s0 : ((mkB xo).toList == (mkB xo).toList) = true := by simp
        by_cases hxy : (⟨xo, xd, xa, xb, xi⟩ : PIns) = ⟨yo, yd, ya, yb, yi⟩
        · have t0 := HEQ.out hxy
          simp only [PIns.mk.injEq] at hxy
          obtain ⟨rfl, rfl, rfl, rfl, rfl⟩ := hxy
          have HBS : Below w.heap.size w w11.drew := HB11.out.drew
          go_region_held3 (fun w' => Below w.heap.size w w' ∧ w'.cell? ⟨w10.heap.size, 0, none⟩ = some (.string (mkB xo)) ∧ w'.cell? ⟨w10.heap.size, 1, none⟩ = some (.int .i64 xd) ∧ w'.cell? ⟨w10.heap.size, 2, none⟩ = some (.int .i64 xa) ∧ w'.cell? ⟨w10.heap.size, 3, none⟩ = some (.int .i64 xb) ∧ w'.cell? ⟨w10.heap.size, 4, none⟩ = some (.int .i64 xi) ∧ w'.cell? ⟨w5.heap.size, 0, none⟩ = some (.string (mkB xo)) ∧ w'.cell? ⟨w5.heap.size, 1, none⟩ = some (.int .i64 xd) ∧ w'.cell? ⟨w5.heap.size, 2, none⟩ = some (.int .i64 xa) ∧ w'.cell? ⟨w5.heap.size, 3, none⟩ = some (.int .i64 xb) ∧ w'.cell? ⟨w5.heap.size, 4, none⟩ = some (.int .i64 xi) ∧ w'.cell? ⟨w5.heap.size + 1, 0, none⟩ = some (.string (mkB xo)) ∧ w'.cell? ⟨w5.heap.size + 1, 1, none⟩ = some (.int .i64 xd) ∧ w'.cell? ⟨w5.heap.size + 1, 2, none⟩ = some (.int .i64 xa) ∧ w'.cell? ⟨w5.heap.size + 1, 3, none⟩ = some (.int .i64 xb) ∧ w'.cell? ⟨w5.heap.size + 1, 4, none⟩ = some (.int .i64 xi))
            (first
              | go_keep
              | (go_split_ands
                 refine ⟨?_, ?_, ?_, ?_, ?_, ?_, ?_, ?_, ?_, ?_, ?_, ?_, ?_, ?_, ?_, ?_⟩
                 all_goals (first | assumption | exact Keeps.of_below hbT _ _ (by assumption) | exact grow_trans (by assumption) hbT)))
            (first
              | (go_at_call 8; (with_reducible refine (TX.out _ (by first | assumption | exact grow_trans HBS hbT)).mono ?_); rintro x w12 ⟨rfl, hbT⟩)
              | (go_at_call 8; (with_reducible refine (TY.out _ (by first | assumption | exact grow_trans HBS hbT)).mono ?_); rintro x w12 ⟨rfl, hbT⟩))
          all_goals go_wp2_with fail
          all_goals go_ret
          all_goals exact ⟨rfl, grow_trans (grow_trans HBS (by assumption)) hbT⟩
        · obtain ⟨t0, w0⟩ := HNE.out HQX.out HQY.out hxy
          have HXY := Lib.hid hxy
          clear hxy
          by_cases n0 : xo = yo
          · subst n0
            by_cases n1 : xd = yd
            · subst n1
              by_cases n2 : xa = ya
              · subst n2
                by_cases n3 : xb = yb
                · subst n3
                  by_cases n4 : xi = yi
                  · subst n4
                    exact absurd rfl HXY.out
                  · have k4 : ((xi : Int) == yi) = false := beq_eq_false_iff_ne.2 n4
                    clear n4
                    have HBS : Below w.heap.size w w11.drew := HB11.out.drew
                    go_region_held3 (fun w' => Below w.heap.size w w' ∧ w'.cell? ⟨w10.heap.size, 0, none⟩ = some (.string (mkB xo)) ∧ w'.cell? ⟨w10.heap.size, 1, none⟩ = some (.int .i64 xd) ∧ w'.cell? ⟨w10.heap.size, 2, none⟩ = some (.int .i64 xa) ∧ w'.cell? ⟨w10.heap.size, 3, none⟩ = some (.int .i64 xb) ∧ w'.cell? ⟨w10.heap.size, 4, none⟩ = some (.int .i64 xi) ∧ w'.cell? ⟨w5.heap.size, 0, none⟩ = some (.string (mkB xo)) ∧ w'.cell? ⟨w5.heap.size, 1, none⟩ = some (.int .i64 xd) ∧ w'.cell? ⟨w5.heap.size, 2, none⟩ = some (.int .i64 xa) ∧ w'.cell? ⟨w5.heap.size, 3, none⟩ = some (.int .i64 xb) ∧ w'.cell? ⟨w5.heap.size, 4, none⟩ = some (.int .i64 xi) ∧ w'.cell? ⟨w5.heap.size + 1, 0, none⟩ = some (.string (mkB xo)) ∧ w'.cell? ⟨w5.heap.size + 1, 1, none⟩ = some (.int .i64 xd) ∧ w'.cell? ⟨w5.heap.size + 1, 2, none⟩ = some (.int .i64 xa) ∧ w'.cell? ⟨w5.heap.size + 1, 3, none⟩ = some (.int .i64 xb) ∧ w'.cell? ⟨w5.heap.size + 1, 4, none⟩ = some (.int .i64 yi))
                      (first
                        | go_keep
                        | (go_split_ands
                           refine ⟨?_, ?_, ?_, ?_, ?_, ?_, ?_, ?_, ?_, ?_, ?_, ?_, ?_, ?_, ?_, ?_⟩
                           all_goals (first | assumption | exact Keeps.of_below hbT _ _ (by assumption) | exact grow_trans (by assumption) hbT)))
                      (first
                        | (go_at_call 8; (with_reducible refine (TX.out _ (by first | assumption | exact grow_trans HBS hbT)).mono ?_); rintro x w12 ⟨rfl, hbT⟩)
                        | (go_at_call 8; (with_reducible refine (TY.out _ (by first | assumption | exact grow_trans HBS hbT)).mono ?_); rintro x w12 ⟨rfl, hbT⟩))
                    all_goals go_wp2_with fail
                    all_goals go_ret
                    all_goals exact ⟨rfl, grow_trans (grow_trans HBS (by assumption)) hbT⟩
                · have k3 : ((xb : Int) == yb) = false := beq_eq_false_iff_ne.2 n3
                  clear n3
                  have HBS : Below w.heap.size w w11.drew := HB11.out.drew
                  go_region_held3 (fun w' => Below w.heap.size w w' ∧ w'.cell? ⟨w10.heap.size, 0, none⟩ = some (.string (mkB xo)) ∧ w'.cell? ⟨w10.heap.size, 1, none⟩ = some (.int .i64 xd) ∧ w'.cell? ⟨w10.heap.size, 2, none⟩ = some (.int .i64 xa) ∧ w'.cell? ⟨w10.heap.size, 3, none⟩ = some (.int .i64 xb) ∧ w'.cell? ⟨w10.heap.size, 4, none⟩ = some (.int .i64 xi) ∧ w'.cell? ⟨w5.heap.size, 0, none⟩ = some (.string (mkB xo)) ∧ w'.cell? ⟨w5.heap.size, 1, none⟩ = some (.int .i64 xd) ∧ w'.cell? ⟨w5.heap.size, 2, none⟩ = some (.int .i64 xa) ∧ w'.cell? ⟨w5.heap.size, 3, none⟩ = some (.int .i64 xb) ∧ w'.cell? ⟨w5.heap.size, 4, none⟩ = some (.int .i64 xi) ∧ w'.cell? ⟨w5.heap.size + 1, 0, none⟩ = some (.string (mkB xo)) ∧ w'.cell? ⟨w5.heap.size + 1, 1, none⟩ = some (.int .i64 xd) ∧ w'.cell? ⟨w5.heap.size + 1, 2, none⟩ = some (.int .i64 xa) ∧ w'.cell? ⟨w5.heap.size + 1, 3, none⟩ = some (.int .i64 yb) ∧ w'.cell? ⟨w5.heap.size + 1, 4, none⟩ = some (.int .i64 yi))
                    (first
                      | go_keep
                      | (go_split_ands
                         refine ⟨?_, ?_, ?_, ?_, ?_, ?_, ?_, ?_, ?_, ?_, ?_, ?_, ?_, ?_, ?_, ?_⟩
                         all_goals (first | assumption | exact Keeps.of_below hbT _ _ (by assumption) | exact grow_trans (by assumption) hbT)))
                    (first
                      | (go_at_call 8; (with_reducible refine (TX.out _ (by first | assumption | exact grow_trans HBS hbT)).mono ?_); rintro x w12 ⟨rfl, hbT⟩)
                      | (go_at_call 8; (with_reducible refine (TY.out _ (by first | assumption | exact grow_trans HBS hbT)).mono ?_); rintro x w12 ⟨rfl, hbT⟩))
                  all_goals go_wp2_with fail
                  all_goals go_ret
                  all_goals exact ⟨rfl, grow_trans (grow_trans HBS (by assumption)) hbT⟩
              · have k2 : ((xa : Int) == ya) = false := beq_eq_false_iff_ne.2 n2
                clear n2
                have HBS : Below w.heap.size w w11.drew := HB11.out.drew
                go_region_held3 (fun w' => Below w.heap.size w w' ∧ w'.cell? ⟨w10.heap.size, 0, none⟩ = some (.string (mkB xo)) ∧ w'.cell? ⟨w10.heap.size, 1, none⟩ = some (.int .i64 xd) ∧ w'.cell? ⟨w10.heap.size, 2, none⟩ = some (.int .i64 xa) ∧ w'.cell? ⟨w10.heap.size, 3, none⟩ = some (.int .i64 xb) ∧ w'.cell? ⟨w10.heap.size, 4, none⟩ = some (.int .i64 xi) ∧ w'.cell? ⟨w5.heap.size, 0, none⟩ = some (.string (mkB xo)) ∧ w'.cell? ⟨w5.heap.size, 1, none⟩ = some (.int .i64 xd) ∧ w'.cell? ⟨w5.heap.size, 2, none⟩ = some (.int .i64 xa) ∧ w'.cell? ⟨w5.heap.size, 3, none⟩ = some (.int .i64 xb) ∧ w'.cell? ⟨w5.heap.size, 4, none⟩ = some (.int .i64 xi) ∧ w'.cell? ⟨w5.heap.size + 1, 0, none⟩ = some (.string (mkB xo)) ∧ w'.cell? ⟨w5.heap.size + 1, 1, none⟩ = some (.int .i64 xd) ∧ w'.cell? ⟨w5.heap.size + 1, 2, none⟩ = some (.int .i64 ya) ∧ w'.cell? ⟨w5.heap.size + 1, 3, none⟩ = some (.int .i64 yb) ∧ w'.cell? ⟨w5.heap.size + 1, 4, none⟩ = some (.int .i64 yi))
                  (first
                    | go_keep
                    | (go_split_ands
                       refine ⟨?_, ?_, ?_, ?_, ?_, ?_, ?_, ?_, ?_, ?_, ?_, ?_, ?_, ?_, ?_, ?_⟩
                       all_goals (first | assumption | exact Keeps.of_below hbT _ _ (by assumption) | exact grow_trans (by assumption) hbT)))
                  (first
                    | (go_at_call 8; (with_reducible refine (TX.out _ (by first | assumption | exact grow_trans HBS hbT)).mono ?_); rintro x w12 ⟨rfl, hbT⟩)
                    | (go_at_call 8; (with_reducible refine (TY.out _ (by first | assumption | exact grow_trans HBS hbT)).mono ?_); rintro x w12 ⟨rfl, hbT⟩))
                all_goals go_wp2_with fail
                all_goals go_ret
                all_goals exact ⟨rfl, grow_trans (grow_trans HBS (by assumption)) hbT⟩
            · have k1 : ((xd : Int) == yd) = false := beq_eq_false_iff_ne.2 n1
              clear n1
              have HBS : Below w.heap.size w w11.drew := HB11.out.drew
              go_region_held3 (fun w' => Below w.heap.size w w' ∧ w'.cell? ⟨w10.heap.size, 0, none⟩ = some (.string (mkB xo)) ∧ w'.cell? ⟨w10.heap.size, 1, none⟩ = some (.int .i64 xd) ∧ w'.cell? ⟨w10.heap.size, 2, none⟩ = some (.int .i64 xa) ∧ w'.cell? ⟨w10.heap.size, 3, none⟩ = some (.int .i64 xb) ∧ w'.cell? ⟨w10.heap.size, 4, none⟩ = some (.int .i64 xi) ∧ w'.cell? ⟨w5.heap.size, 0, none⟩ = some (.string (mkB xo)) ∧ w'.cell? ⟨w5.heap.size, 1, none⟩ = some (.int .i64 xd) ∧ w'.cell? ⟨w5.heap.size, 2, none⟩ = some (.int .i64 xa) ∧ w'.cell? ⟨w5.heap.size, 3, none⟩ = some (.int .i64 xb) ∧ w'.cell? ⟨w5.heap.size, 4, none⟩ = some (.int .i64 xi) ∧ w'.cell? ⟨w5.heap.size + 1, 0, none⟩ = some (.string (mkB xo)) ∧ w'.cell? ⟨w5.heap.size + 1, 1, none⟩ = some (.int .i64 yd) ∧ w'.cell? ⟨w5.heap.size + 1, 2, none⟩ = some (.int .i64 ya) ∧ w'.cell? ⟨w5.heap.size + 1, 3, none⟩ = some (.int .i64 yb) ∧ w'.cell? ⟨w5.heap.size + 1, 4, none⟩ = some (.int .i64 yi))
                (first
                  | go_keep
                  | (go_split_ands
                     refine ⟨?_, ?_, ?_, ?_, ?_, ?_, ?_, ?_, ?_, ?_, ?_, ?_, ?_, ?_, ?_, ?_⟩
                     all_goals (first | assumption | exact Keeps.of_below hbT _ _ (by assumption) | exact grow_trans (by assumption) hbT)))
                (first
                  | (go_at_call 8; (with_reducible refine (TX.out _ (by first | assumption | exact grow_trans HBS hbT)).mono ?_); rintro x w12 ⟨rfl, hbT⟩)
                  | (go_at_call 8; (with_reducible refine (TY.out _ (by first | assumption | exact grow_trans HBS hbT)).mono ?_); rintro x w12 ⟨rfl, hbT⟩))
              all_goals go_wp2_with fail
              all_goals go_ret
              all_goals exact ⟨rfl, grow_trans (grow_trans HBS (by assumption)) hbT⟩
          · have k0 : ((mkB xo).toList == (mkB yo).toList) = false := by rw [mkB_toList, mkB_toList]; exact beq_eq_false_iff_ne.2 n0
            clear n0
            have HBS : Below w.heap.size w w11.drew := HB11.out.drew
            go_region_held3 (fun w' => Below w.heap.size w w' ∧ w'.cell? ⟨w10.heap.size, 0, none⟩ = some (.string (mkB xo)) ∧ w'.cell? ⟨w10.heap.size, 1, none⟩ = some (.int .i64 xd) ∧ w'.cell? ⟨w10.heap.size, 2, none⟩ = some (.int .i64 xa) ∧ w'.cell? ⟨w10.heap.size, 3, none⟩ = some (.int .i64 xb) ∧ w'.cell? ⟨w10.heap.size, 4, none⟩ = some (.int .i64 xi) ∧ w'.cell? ⟨w5.heap.size, 0, none⟩ = some (.string (mkB xo)) ∧ w'.cell? ⟨w5.heap.size, 1, none⟩ = some (.int .i64 xd) ∧ w'.cell? ⟨w5.heap.size, 2, none⟩ = some (.int .i64 xa) ∧ w'.cell? ⟨w5.heap.size, 3, none⟩ = some (.int .i64 xb) ∧ w'.cell? ⟨w5.heap.size, 4, none⟩ = some (.int .i64 xi) ∧ w'.cell? ⟨w5.heap.size + 1, 0, none⟩ = some (.string (mkB yo)) ∧ w'.cell? ⟨w5.heap.size + 1, 1, none⟩ = some (.int .i64 yd) ∧ w'.cell? ⟨w5.heap.size + 1, 2, none⟩ = some (.int .i64 ya) ∧ w'.cell? ⟨w5.heap.size + 1, 3, none⟩ = some (.int .i64 yb) ∧ w'.cell? ⟨w5.heap.size + 1, 4, none⟩ = some (.int .i64 yi))
              (first
                | go_keep
                | (go_split_ands
                   refine ⟨?_, ?_, ?_, ?_, ?_, ?_, ?_, ?_, ?_, ?_, ?_, ?_, ?_, ?_, ?_, ?_⟩
                   all_goals (first | assumption | exact Keeps.of_below hbT _ _ (by assumption) | exact grow_trans (by assumption) hbT)))
              (first
                | (go_at_call 8; (with_reducible refine (TX.out _ (by first | assumption | exact grow_trans HBS hbT)).mono ?_); rintro x w12 ⟨rfl, hbT⟩)
                | (go_at_call 8; (with_reducible refine (TY.out _ (by first | assumption | exact grow_trans HBS hbT)).mono ?_); rintro x w12 ⟨rfl, hbT⟩))
            all_goals go_wp2_with fail
            all_goals go_ret
            all_goals exact ⟨rfl, grow_trans (grow_trans HBS (by assumption)) hbT⟩
      · obtain ⟨K2, EY2⟩ := FY.out hy
        have HY := Lib.hid EY2
        clear hx hy EY2
        go_wp2_with (first
            | (go_at_call 7; (with_reducible refine (HX.out _ HB7.out).mono ?_); rintro x w8 ⟨rfl, hb8⟩; have hy8 := (hb8.block _ (Array.getElem?_eq_some_iff.1 HY7.out).1).trans HY7.out; have q0 := cell_of_row w8 _ 0 _ _ _ hy8; have q1 := cell_of_row w8 _ 1 _ _ _ hy8; have q2 := cell_of_row w8 _ 2 _ _ _ hy8; have q3 := cell_of_row w8 _ 3 _ _ _ hy8; have q4 := cell_of_row w8 _ 4 _ _ _ hy8; clear hy8)
            | (go_at_call 7; (with_reducible refine (HY.out _ (grow_trans HB7.out hb8)).mono ?_); rintro x w9 ⟨rfl, hb9⟩))
        go_ret
        exact ⟨rfl, grow_trans (grow_trans HB7.out hb8) hb9⟩
    · obtain ⟨K1, EX1⟩ := FX.out hx
      have HX := Lib.hid EX1
      have HY := GY
      clear hx EX1
      go_wp2_with (first
          | (go_at_call 7; (with_reducible refine (HX.out _ HB7.out).mono ?_); rintro x w8 ⟨rfl, hb8⟩; have hy8 := (hb8.block _ (Array.getElem?_eq_some_iff.1 HY7.out).1).trans HY7.out; have q0 := cell_of_row w8 _ 0 _ _ _ hy8; have q1 := cell_of_row w8 _ 1 _ _ _ hy8; have q2 := cell_of_row w8 _ 2 _ _ _ hy8; have q3 := cell_of_row w8 _ 3 _ _ _ hy8; have q4 := cell_of_row w8 _ 4 _ _ _ hy8; clear hy8)
          | (go_at_call 7; (with_reducible refine (HY.out _ (grow_trans HB7.out hb8)).mono ?_); rintro x w9 ⟨V, E9, rfl, hb9⟩))
      go_ret
      exact ⟨rfl, grow_trans (grow_trans HB7.out hb8) hb9⟩
  · obtain ⟨K, hd⟩ := HD2.out hv
    have HD := Lib.hid (hd _ HB3.out)
    unfold noIns at HD
    clear hv hd
    go_upto_region 9 with (go_at_call 6; (with_reducible refine HD.out.mono ?_); rintro x w4 ⟨rfl, hb4⟩)
    obtain ⟨w5, hw5⟩ : ∃ w5, w5 = w4.alloc (.cells #[.string ⟨#[]⟩, .int .i64 0, .int .i64 0, .int .i64 0, .int .i64 0] 26) := ⟨_, rfl⟩
    rw [← hw5]
    have HB25 := Lib.hid (show Below w2.heap.size w2 w5 by rw [hw5]; exact grow_alloc (grow_trans HB23.out hb4) _)
    clear hw5 hb4
    obtain ⟨hx5, hy5⟩ := HMID.out w5 HB25.out
    have HB5 := Lib.hid (grow_trans HB2.out HB25.out)
    have x0 := cell_of_row w5 _ 0 _ _ _ hx5
    have x1 := cell_of_row w5 _ 1 _ _ _ hx5
    have x2 := cell_of_row w5 _ 2 _ _ _ hx5
    have x3 := cell_of_row w5 _ 3 _ _ _ hx5
    have x4 := cell_of_row w5 _ 4 _ _ _ hx5
    have y0 := fun o => Keeps.alloc w5 o _ _ (cell_of_row w5 _ 0 _ _ _ hy5)
    have y1 := fun o => Keeps.alloc w5 o _ _ (cell_of_row w5 _ 1 _ _ _ hy5)
    have y2 := fun o => Keeps.alloc w5 o _ _ (cell_of_row w5 _ 2 _ _ _ hy5)
    have y3 := fun o => Keeps.alloc w5 o _ _ (cell_of_row w5 _ 3 _ _ _ hy5)
    have y4 := fun o => Keeps.alloc w5 o _ _ (cell_of_row w5 _ 4 _ _ _ hy5)
    obtain ⟨w7, hw7⟩ : ∃ w7, w7 = (w5.alloc (.cells #[.string (mkB xo), .int .i64 xd, .int .i64 xa, .int .i64 xb, .int .i64 xi] 26)).alloc (.cells #[.string (mkB yo), .int .i64 yd, .int .i64 ya, .int .i64 yb, .int .i64 yi] 26) := ⟨_, rfl⟩
    have hx7 : w7.heap[w5.heap.size]? = some (.cells #[.string (mkB xo), .int .i64 xd, .int .i64 xa, .int .i64 xb, .int .i64 xi] 26) := by rw [hw7]; exact ((grow_alloc (grow_refl (w5.alloc (.cells #[.string (mkB xo), .int .i64 xd, .int .i64 xa, .int .i64 xb, .int .i64 xi] 26))) (.cells #[.string (mkB yo), .int .i64 yd, .int .i64 ya, .int .i64 yb, .int .i64 yi] 26)).block w5.heap.size (by simp)).trans (heap_alloc_new w5 _)
    have hy7 : w7.heap[w5.heap.size + 1]? = some (.cells #[.string (mkB yo), .int .i64 yd, .int .i64 ya, .int .i64 yb, .int .i64 yi] 26) := by
      have := heap_alloc_new (w5.alloc (.cells #[.string (mkB xo), .int .i64 xd, .int .i64 xa, .int .i64 xb, .int .i64 xi] 26)) (.cells #[.string (mkB yo), .int .i64 yd, .int .i64 ya, .int .i64 yb, .int .i64 yi] 26)
      rw [hw7]
      rwa [show (w5.alloc (.cells #[.string (mkB xo), .int .i64 xd, .int .i64 xa, .int .i64 xb, .int .i64 xi] 26)).heap.size = w5.heap.size + 1 by simp] at this
    have hb7 : Below w.heap.size w w7 := by rw [hw7]; exact grow_alloc (grow_alloc HB5.out _) _
    have HB7 := Lib.hid hb7
    have HX7 := Lib.hid hx7
    have HY7 := Lib.hid hy7
    have HW7 := Lib.hid hw7
    have p0 := cell_of_row w7 _ 0 _ _ _ hx7
    have p1 := cell_of_row w7 _ 1 _ _ _ hx7
    have p2 := cell_of_row w7 _ 2 _ _ _ hx7
    have p3 := cell_of_row w7 _ 3 _ _ _ hx7
    have p4 := cell_of_row w7 _ 4 _ _ _ hx7
    clear hw7 hx5 hy5 hx7 hy7 hb7
    go_upto_region 11 with fail
    rw [← HW7.out]
    clear x0 x1 x2 x3 x4 y0 y1 y2 y3 y4
    by_cases hx : errI ⟨xo, xd, xa, xb, xi⟩ = 0
    · have HX := Lib.hid (EX.out hx)
      by_cases hy : errI ⟨yo, yd, ya, yb, yi⟩ = 0
      · have HY := Lib.hid (EY.out hy)
        have HDX := Lib.hid (DX.out hx)
        have HQX := Lib.hid hx
        have HQY := Lib.hid hy
        clear hx hy
        go_upto_region 16 with (first
          | (first
            | (go_at_call 7; (with_reducible refine (HX.out _ HB7.out).mono ?_); rintro x w8 ⟨rfl, hb8⟩; have hy8 := (hb8.block _ (Array.getElem?_eq_some_iff.1 HY7.out).1).trans HY7.out; have q0 := cell_of_row w8 _ 0 _ _ _ hy8; have q1 := cell_of_row w8 _ 1 _ _ _ hy8; have q2 := cell_of_row w8 _ 2 _ _ _ hy8; have q3 := cell_of_row w8 _ 3 _ _ _ hy8; have q4 := cell_of_row w8 _ 4 _ _ _ hy8; clear hy8)
            | (go_at_call 7; (with_reducible refine (HY.out _ (grow_trans HB7.out hb8)).mono ?_); rintro x w9 ⟨rfl, hb9⟩))
          | (go_at_call 6; (with_reducible refine (HDX.out _ (grow_trans (grow_trans HB7.out hb8) hb9)).mono ?_); rintro x w10 ⟨rfl, hb10⟩))
        have hb5_7 : Below w7.heap.size w7 w10 := grow_trans (grow_trans hb8 hb9) hb10
        obtain ⟨w11, hw11⟩ : ∃ w11, w11 = w10.alloc (.cells #[.string (mkB xo), .int .i64 xd, .int .i64 xa, .int .i64 xb, .int .i64 xi] 26) := ⟨_, rfl⟩
        rw [← hw11]
        have hz11 : w11.heap[w10.heap.size]? = some (.cells #[.string (mkB xo), .int .i64 xd, .int .i64 xa, .int .i64 xb, .int .i64 xi] 26) := by rw [hw11]; exact heap_alloc_new w10 _
        have hb7_11 : Below w7.heap.size w7 w11 := by rw [hw11]; exact grow_alloc hb5_7 _
        have hx11 := (hb7_11.block _ (Array.getElem?_eq_some_iff.1 HX7.out).1).trans HX7.out
        have hy11 := (hb7_11.block _ (Array.getElem?_eq_some_iff.1 HY7.out).1).trans HY7.out
        have HB11 := Lib.hid (grow_trans HB7.out hb7_11)
        have HX11 := Lib.hid hx11
        have HY11 := Lib.hid hy11
        have HTX := Lib.hid (TX.out _ HB11.out.drew)
        have HBW := Lib.hid (show Below w11.heap.size w11 w11.drew from (Below.refl _ _).drew)
        have a0 := cell_of_row w11 _ 0 _ _ _ hz11
        have b0 := cell_of_row w11 _ 0 _ _ _ hx11
        have c0 := cell_of_row w11 _ 0 _ _ _ hy11
        have a1 := cell_of_row w11 _ 1 _ _ _ hz11
        have b1 := cell_of_row w11 _ 1 _ _ _ hx11
        have c1 := cell_of_row w11 _ 1 _ _ _ hy11
        have a2 := cell_of_row w11 _ 2 _ _ _ hz11
        have b2 := cell_of_row w11 _ 2 _ _ _ hx11
        have c2 := cell_of_row w11 _ 2 _ _ _ hy11
        have a3 := cell_of_row w11 _ 3 _ _ _ hz11
        have b3 := cell_of_row w11 _ 3 _ _ _ hx11
        have c3 := cell_of_row w11 _ 3 _ _ _ hy11
        have a4 := cell_of_row w11 _ 4 _ _ _ hz11
        have b4 := cell_of_row w11 _ 4 _ _ _ hx11
        have c4 := cell_of_row w11 _ 4 _ _ _ hy11
        clear hw11 hz11 hx11 hy11 hb7_11 hb5_7 hb8 hb9 hb10 p0 p1 p2 p3 p4 q0 q1 q2 q3 q4
        have s0 : ((mkB xo).toList == (mkB xo).toList) = true := by simp
        by_cases hxy : (⟨xo, xd, xa, xb, xi⟩ : PIns) = ⟨yo, yd, ya, yb, yi⟩
        · have t0 := HEQ.out hxy
          simp only [PIns.mk.injEq] at hxy
          obtain ⟨rfl, rfl, rfl, rfl, rfl⟩ := hxy
          have HBS : Below w.heap.size w w11.drew := HB11.out.drew
          go_region_held3 (fun w' => Below w.heap.size w w' ∧ w'.cell? ⟨w10.heap.size, 0, none⟩ = some (.string (mkB xo)) ∧ w'.cell? ⟨w10.heap.size, 1, none⟩ = some (.int .i64 xd) ∧ w'.cell? ⟨w10.heap.size, 2, none⟩ = some (.int .i64 xa) ∧ w'.cell? ⟨w10.heap.size, 3, none⟩ = some (.int .i64 xb) ∧ w'.cell? ⟨w10.heap.size, 4, none⟩ = some (.int .i64 xi) ∧ w'.cell? ⟨w5.heap.size, 0, none⟩ = some (.string (mkB xo)) ∧ w'.cell? ⟨w5.heap.size, 1, none⟩ = some (.int .i64 xd) ∧ w'.cell? ⟨w5.heap.size, 2, none⟩ = some (.int .i64 xa) ∧ w'.cell? ⟨w5.heap.size, 3, none⟩ = some (.int .i64 xb) ∧ w'.cell? ⟨w5.heap.size, 4, none⟩ = some (.int .i64 xi) ∧ w'.cell? ⟨w5.heap.size + 1, 0, none⟩ = some (.string (mkB xo)) ∧ w'.cell? ⟨w5.heap.size + 1, 1, none⟩ = some (.int .i64 xd) ∧ w'.cell? ⟨w5.heap.size + 1, 2, none⟩ = some (.int .i64 xa) ∧ w'.cell? ⟨w5.heap.size + 1, 3, none⟩ = some (.int .i64 xb) ∧ w'.cell? ⟨w5.heap.size + 1, 4, none⟩ = some (.int .i64 xi))
            (first
              | go_keep
              | (go_split_ands
                 refine ⟨?_, ?_, ?_, ?_, ?_, ?_, ?_, ?_, ?_, ?_, ?_, ?_, ?_, ?_, ?_, ?_⟩
                 all_goals (first | assumption | exact Keeps.of_below hbT _ _ (by assumption) | exact grow_trans (by assumption) hbT)))
            (first
              | (go_at_call 8; (with_reducible refine (TX.out _ (by first | assumption | exact grow_trans HBS hbT)).mono ?_); rintro x w12 ⟨rfl, hbT⟩)
              | (go_at_call 8; (with_reducible refine (TY.out _ (by first | assumption | exact grow_trans HBS hbT)).mono ?_); rintro x w12 ⟨rfl, hbT⟩))
          all_goals go_wp2_with fail
          all_goals go_ret
          all_goals exact ⟨rfl, grow_trans (grow_trans HBS (by assumption)) hbT⟩
        · obtain ⟨t0, w0⟩ := HNE.out HQX.out HQY.out hxy
          have HXY := Lib.hid hxy
          clear hxy
          by_cases n0 : xo = yo
          · subst n0
            by_cases n1 : xd = yd
            · subst n1
              by_cases n2 : xa = ya
              · subst n2
                by_cases n3 : xb = yb
                · subst n3
                  by_cases n4 : xi = yi
                  · subst n4
                    exact absurd rfl HXY.out
                  · have k4 : ((xi : Int) == yi) = false := beq_eq_false_iff_ne.2 n4
                    clear n4
                    have HBS : Below w.heap.size w w11.drew := HB11.out.drew
                    go_region_held3 (fun w' => Below w.heap.size w w' ∧ w'.cell? ⟨w10.heap.size, 0, none⟩ = some (.string (mkB xo)) ∧ w'.cell? ⟨w10.heap.size, 1, none⟩ = some (.int .i64 xd) ∧ w'.cell? ⟨w10.heap.size, 2, none⟩ = some (.int .i64 xa) ∧ w'.cell? ⟨w10.heap.size, 3, none⟩ = some (.int .i64 xb) ∧ w'.cell? ⟨w10.heap.size, 4, none⟩ = some (.int .i64 xi) ∧ w'.cell? ⟨w5.heap.size, 0, none⟩ = some (.string (mkB xo)) ∧ w'.cell? ⟨w5.heap.size, 1, none⟩ = some (.int .i64 xd) ∧ w'.cell? ⟨w5.heap.size, 2, none⟩ = some (.int .i64 xa) ∧ w'.cell? ⟨w5.heap.size, 3, none⟩ = some (.int .i64 xb) ∧ w'.cell? ⟨w5.heap.size, 4, none⟩ = some (.int .i64 xi) ∧ w'.cell? ⟨w5.heap.size + 1, 0, none⟩ = some (.string (mkB xo)) ∧ w'.cell? ⟨w5.heap.size + 1, 1, none⟩ = some (.int .i64 xd) ∧ w'.cell? ⟨w5.heap.size + 1, 2, none⟩ = some (.int .i64 xa) ∧ w'.cell? ⟨w5.heap.size + 1, 3, none⟩ = some (.int .i64 xb) ∧ w'.cell? ⟨w5.heap.size + 1, 4, none⟩ = some (.int .i64 yi))
                      (first
                        | go_keep
                        | (go_split_ands
                           refine ⟨?_, ?_, ?_, ?_, ?_, ?_, ?_, ?_, ?_, ?_, ?_, ?_, ?_, ?_, ?_, ?_⟩
                           all_goals (first | assumption | exact Keeps.of_below hbT _ _ (by assumption) | exact grow_trans (by assumption) hbT)))
                      (first
                        | (go_at_call 8; (with_reducible refine (TX.out _ (by first | assumption | exact grow_trans HBS hbT)).mono ?_); rintro x w12 ⟨rfl, hbT⟩)
                        | (go_at_call 8; (with_reducible refine (TY.out _ (by first | assumption | exact grow_trans HBS hbT)).mono ?_); rintro x w12 ⟨rfl, hbT⟩))
                    all_goals go_wp2_with fail
                    all_goals go_ret
                    all_goals exact ⟨rfl, grow_trans (grow_trans HBS (by assumption)) hbT⟩
                · have k3 : ((xb : Int) == yb) = false := beq_eq_false_iff_ne.2 n3
                  clear n3
                  have HBS : Below w.heap.size w w11.drew := HB11.out.drew
                  go_region_held3 (fun w' => Below w.heap.size w w' ∧ w'.cell? ⟨w10.heap.size, 0, none⟩ = some (.string (mkB xo)) ∧ w'.cell? ⟨w10.heap.size, 1, none⟩ = some (.int .i64 xd) ∧ w'.cell? ⟨w10.heap.size, 2, none⟩ = some (.int .i64 xa) ∧ w'.cell? ⟨w10.heap.size, 3, none⟩ = some (.int .i64 xb) ∧ w'.cell? ⟨w10.heap.size, 4, none⟩ = some (.int .i64 xi) ∧ w'.cell? ⟨w5.heap.size, 0, none⟩ = some (.string (mkB xo)) ∧ w'.cell? ⟨w5.heap.size, 1, none⟩ = some (.int .i64 xd) ∧ w'.cell? ⟨w5.heap.size, 2, none⟩ = some (.int .i64 xa) ∧ w'.cell? ⟨w5.heap.size, 3, none⟩ = some (.int .i64 xb) ∧ w'.cell? ⟨w5.heap.size, 4, none⟩ = some (.int .i64 xi) ∧ w'.cell? ⟨w5.heap.size + 1, 0, none⟩ = some (.string (mkB xo)) ∧ w'.cell? ⟨w5.heap.size + 1, 1, none⟩ = some (.int .i64 xd) ∧ w'.cell? ⟨w5.heap.size + 1, 2, none⟩ = some (.int .i64 xa) ∧ w'.cell? ⟨w5.heap.size + 1, 3, none⟩ = some (.int .i64 yb) ∧ w'.cell? ⟨w5.heap.size + 1, 4, none⟩ = some (.int .i64 yi))
                    (first
                      | go_keep
                      | (go_split_ands
                         refine ⟨?_, ?_, ?_, ?_, ?_, ?_, ?_, ?_, ?_, ?_, ?_, ?_, ?_, ?_, ?_, ?_⟩
                         all_goals (first | assumption | exact Keeps.of_below hbT _ _ (by assumption) | exact grow_trans (by assumption) hbT)))
                    (first
                      | (go_at_call 8; (with_reducible refine (TX.out _ (by first | assumption | exact grow_trans HBS hbT)).mono ?_); rintro x w12 ⟨rfl, hbT⟩)
                      | (go_at_call 8; (with_reducible refine (TY.out _ (by first | assumption | exact grow_trans HBS hbT)).mono ?_); rintro x w12 ⟨rfl, hbT⟩))
                  all_goals go_wp2_with fail
                  all_goals go_ret
                  all_goals exact ⟨rfl, grow_trans (grow_trans HBS (by assumption)) hbT⟩
              · have k2 : ((xa : Int) == ya) = false := beq_eq_false_iff_ne.2 n2
                clear n2
                have HBS : Below w.heap.size w w11.drew := HB11.out.drew
                go_region_held3 (fun w' => Below w.heap.size w w' ∧ w'.cell? ⟨w10.heap.size, 0, none⟩ = some (.string (mkB xo)) ∧ w'.cell? ⟨w10.heap.size, 1, none⟩ = some (.int .i64 xd) ∧ w'.cell? ⟨w10.heap.size, 2, none⟩ = some (.int .i64 xa) ∧ w'.cell? ⟨w10.heap.size, 3, none⟩ = some (.int .i64 xb) ∧ w'.cell? ⟨w10.heap.size, 4, none⟩ = some (.int .i64 xi) ∧ w'.cell? ⟨w5.heap.size, 0, none⟩ = some (.string (mkB xo)) ∧ w'.cell? ⟨w5.heap.size, 1, none⟩ = some (.int .i64 xd) ∧ w'.cell? ⟨w5.heap.size, 2, none⟩ = some (.int .i64 xa) ∧ w'.cell? ⟨w5.heap.size, 3, none⟩ = some (.int .i64 xb) ∧ w'.cell? ⟨w5.heap.size, 4, none⟩ = some (.int .i64 xi) ∧ w'.cell? ⟨w5.heap.size + 1, 0, none⟩ = some (.string (mkB xo)) ∧ w'.cell? ⟨w5.heap.size + 1, 1, none⟩ = some (.int .i64 xd) ∧ w'.cell? ⟨w5.heap.size + 1, 2, none⟩ = some (.int .i64 ya) ∧ w'.cell? ⟨w5.heap.size + 1, 3, none⟩ = some (.int .i64 yb) ∧ w'.cell? ⟨w5.heap.size + 1, 4, none⟩ = some (.int .i64 yi))
                  (first
                    | go_keep
                    | (go_split_ands
                       refine ⟨?_, ?_, ?_, ?_, ?_, ?_, ?_, ?_, ?_, ?_, ?_, ?_, ?_, ?_, ?_, ?_⟩
                       all_goals (first | assumption | exact Keeps.of_below hbT _ _ (by assumption) | exact grow_trans (by assumption) hbT)))
                  (first
                    | (go_at_call 8; (with_reducible refine (TX.out _ (by first | assumption | exact grow_trans HBS hbT)).mono ?_); rintro x w12 ⟨rfl, hbT⟩)
                    | (go_at_call 8; (with_reducible refine (TY.out _ (by first | assumption | exact grow_trans HBS hbT)).mono ?_); rintro x w12 ⟨rfl, hbT⟩))
                all_goals go_wp2_with fail
                all_goals go_ret
                all_goals exact ⟨rfl, grow_trans (grow_trans HBS (by assumption)) hbT⟩
            · have k1 : ((xd : Int) == yd) = false := beq_eq_false_iff_ne.2 n1
              clear n1
              have HBS : Below w.heap.size w w11.drew := HB11.out.drew
              go_region_held3 (fun w' => Below w.heap.size w w' ∧ w'.cell? ⟨w10.heap.size, 0, none⟩ = some (.string (mkB xo)) ∧ w'.cell? ⟨w10.heap.size, 1, none⟩ = some (.int .i64 xd) ∧ w'.cell? ⟨w10.heap.size, 2, none⟩ = some (.int .i64 xa) ∧ w'.cell? ⟨w10.heap.size, 3, none⟩ = some (.int .i64 xb) ∧ w'.cell? ⟨w10.heap.size, 4, none⟩ = some (.int .i64 xi) ∧ w'.cell? ⟨w5.heap.size, 0, none⟩ = some (.string (mkB xo)) ∧ w'.cell? ⟨w5.heap.size, 1, none⟩ = some (.int .i64 xd) ∧ w'.cell? ⟨w5.heap.size, 2, none⟩ = some (.int .i64 xa) ∧ w'.cell? ⟨w5.heap.size, 3, none⟩ = some (.int .i64 xb) ∧ w'.cell? ⟨w5.heap.size, 4, none⟩ = some (.int .i64 xi) ∧ w'.cell? ⟨w5.heap.size + 1, 0, none⟩ = some (.string (mkB xo)) ∧ w'.cell? ⟨w5.heap.size + 1, 1, none⟩ = some (.int .i64 yd) ∧ w'.cell? ⟨w5.heap.size + 1, 2, none⟩ = some (.int .i64 ya) ∧ w'.cell? ⟨w5.heap.size + 1, 3, none⟩ = some (.int .i64 yb) ∧ w'.cell? ⟨w5.heap.size + 1, 4, none⟩ = some (.int .i64 yi))
                (first
                  | go_keep
                  | (go_split_ands
                     refine ⟨?_, ?_, ?_, ?_, ?_, ?_, ?_, ?_, ?_, ?_, ?_, ?_, ?_, ?_, ?_, ?_⟩
                     all_goals (first | assumption | exact Keeps.of_below hbT _ _ (by assumption) | exact grow_trans (by assumption) hbT)))
                (first
                  | (go_at_call 8; (with_reducible refine (TX.out _ (by first | assumption | exact grow_trans HBS hbT)).mono ?_); rintro x w12 ⟨rfl, hbT⟩)
                  | (go_at_call 8; (with_reducible refine (TY.out _ (by first | assumption | exact grow_trans HBS hbT)).mono ?_); rintro x w12 ⟨rfl, hbT⟩))
              all_goals go_wp2_with fail
              all_goals go_ret
              all_goals exact ⟨rfl, grow_trans (grow_trans HBS (by assumption)) hbT⟩
          · have k0 : ((mkB xo).toList == (mkB yo).toList) = false := by rw [mkB_toList, mkB_toList]; exact beq_eq_false_iff_ne.2 n0
            clear n0
            have HBS : Below w.heap.size w w11.drew := HB11.out.drew
            go_region_held3 (fun w' => Below w.heap.size w w' ∧ w'.cell? ⟨w10.heap.size, 0, none⟩ = some (.string (mkB xo)) ∧ w'.cell? ⟨w10.heap.size, 1, none⟩ = some (.int .i64 xd) ∧ w'.cell? ⟨w10.heap.size, 2, none⟩ = some (.int .i64 xa) ∧ w'.cell? ⟨w10.heap.size, 3, none⟩ = some (.int .i64 xb) ∧ w'.cell? ⟨w10.heap.size, 4, none⟩ = some (.int .i64 xi) ∧ w'.cell? ⟨w5.heap.size, 0, none⟩ = some (.string (mkB xo)) ∧ w'.cell? ⟨w5.heap.size, 1, none⟩ = some (.int .i64 xd) ∧ w'.cell? ⟨w5.heap.size, 2, none⟩ = some (.int .i64 xa) ∧ w'.cell? ⟨w5.heap.size, 3, none⟩ = some (.int .i64 xb) ∧ w'.cell? ⟨w5.heap.size, 4, none⟩ = some (.int .i64 xi) ∧ w'.cell? ⟨w5.heap.size + 1, 0, none⟩ = some (.string (mkB yo)) ∧ w'.cell? ⟨w5.heap.size + 1, 1, none⟩ = some (.int .i64 yd) ∧ w'.cell? ⟨w5.heap.size + 1, 2, none⟩ = some (.int .i64 ya) ∧ w'.cell? ⟨w5.heap.size + 1, 3, none⟩ = some (.int .i64 yb) ∧ w'.cell? ⟨w5.heap.size + 1, 4, none⟩ = some (.int .i64 yi))
              (first
                | go_keep
                | (go_split_ands
                   refine ⟨?_, ?_, ?_, ?_, ?_, ?_, ?_, ?_, ?_, ?_, ?_, ?_, ?_, ?_, ?_, ?_⟩
                   all_goals (first | assumption | exact Keeps.of_below hbT _ _ (by assumption) | exact grow_trans (by assumption) hbT)))
              (first
                | (go_at_call 8; (with_reducible refine (TX.out _ (by first | assumption | exact grow_trans HBS hbT)).mono ?_); rintro x w12 ⟨rfl, hbT⟩)
                | (go_at_call 8; (with_reducible refine (TY.out _ (by first | assumption | exact grow_trans HBS hbT)).mono ?_); rintro x w12 ⟨rfl, hbT⟩))
            all_goals go_wp2_with fail
            all_goals go_ret
            all_goals exact ⟨rfl, grow_trans (grow_trans HBS (by assumption)) hbT⟩
      · obtain ⟨K2, EY2⟩ := FY.out hy
        have HY := Lib.hid EY2
        clear hx hy EY2
        go_wp2_with (first
            | (go_at_call 7; (with_reducible refine (HX.out _ HB7.out).mono ?_); rintro x w8 ⟨rfl, hb8⟩; have hy8 := (hb8.block _ (Array.getElem?_eq_some_iff.1 HY7.out).1).trans HY7.out; have q0 := cell_of_row w8 _ 0 _ _ _ hy8; have q1 := cell_of_row w8 _ 1 _ _ _ hy8; have q2 := cell_of_row w8 _ 2 _ _ _ hy8; have q3 := cell_of_row w8 _ 3 _ _ _ hy8; have q4 := cell_of_row w8 _ 4 _ _ _ hy8; clear hy8)
            | (go_at_call 7; (with_reducible refine (HY.out _ (grow_trans HB7.out hb8)).mono ?_); rintro x w9 ⟨rfl, hb9⟩))
        go_ret
        exact ⟨rfl, grow_trans (grow_trans HB7.out hb8) hb9⟩
    · obtain ⟨K1, EX1⟩ := FX.out hx
      have HX := Lib.hid EX1
      have HY := GY
      clear hx EX1
      go_wp2_with (first
          | (go_at_call 7; (with_reducible refine (HX.out _ HB7.out).mono ?_); rintro x w8 ⟨rfl, hb8⟩; have hy8 := (hb8.block _ (Array.getElem?_eq_some_iff.1 HY7.out).1).trans HY7.out; have q0 := cell_of_row w8 _ 0 _ _ _ hy8; have q1 := cell_of_row w8 _ 1 _ _ _ hy8; have q2 := cell_of_row w8 _ 2 _ _ _ hy8; have q3 := cell_of_row w8 _ 3 _ _ _ hy8; have q4 := cell_of_row w8 _ 4 _ _ _ hy8; clear hy8)
          | (go_at_call 7; (with_reducible refine (HY.out _ (grow_trans HB7.out hb8)).mono ?_); rintro x w9 ⟨V, E9, rfl, hb9⟩))
      go_ret
      exact ⟨rfl, grow_trans (grow_trans HB7.out hb8) hb9⟩
end Go.Proofs.YtgmkdoiehobfeaaDoor
