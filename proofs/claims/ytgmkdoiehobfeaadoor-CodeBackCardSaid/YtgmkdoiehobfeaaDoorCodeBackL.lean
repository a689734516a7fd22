import Derived.Test.YtgmkdoiehobfeaaDoorCodeC
namespace Go.Proofs.YtgmkdoiehobfeaaDoor
open Go.RowKit

set_option maxRecDepth 100000 in
theorem back_large (v : Int) (x y : PIns) (KB KS KK : Addr) (w : World) (hL : CodeLaid KB KS KK w) (h : 20 < x.op.length ∨ 20 < y.op.length) :
    Calls Tryd.prog 3 #[.int .u64 v, insV x, insV y] w (Ret (.bool true) w) := by
  have HC := Lib.hid (fun w' (hb : Below w.heap.size w w') => coding_any KB KS KK w' (hL.below hb))
  have hl : (20 : Int) < (mkB x.op).size ∨ (¬ (20 : Int) < (mkB x.op).size ∧ (20 : Int) < (mkB y.op).size) := by rw [mkB_size, mkB_size]; omega
  clear h
  obtain ⟨xo, xd, xa, xb, xi⟩ := x
  obtain ⟨yo, yd, ya, yb, yi⟩ := y
  unfold insV
  simp only at hl ⊢
  obtain ⟨w2, hw2⟩ : ∃ w2, w2 = (w.alloc (.cells #[.string (mkB xo), .int .i64 xd, .int .i64 xa, .int .i64 xb, .int .i64 xi] 24)).alloc (.cells #[.string (mkB yo), .int .i64 yd, .int .i64 ya, .int .i64 yb, .int .i64 yi] 24) := ⟨_, rfl⟩
  have hb2 : Below w.heap.size w w2 := by rw [hw2]; exact grow_alloc (grow_alloc (grow_refl _) _) _
  have hxx : w2.heap[w.heap.size]? = some (.cells #[.string (mkB xo), .int .i64 xd, .int .i64 xa, .int .i64 xb, .int .i64 xi] 24) := by rw [hw2]; exact ((grow_alloc (grow_refl (w.alloc (.cells #[.string (mkB xo), .int .i64 xd, .int .i64 xa, .int .i64 xb, .int .i64 xi] 24))) (.cells #[.string (mkB yo), .int .i64 yd, .int .i64 ya, .int .i64 yb, .int .i64 yi] 24)).block w.heap.size (by simp)).trans (heap_alloc_new w _)
  have hyy : w2.heap[w.heap.size + 1]? = some (.cells #[.string (mkB yo), .int .i64 yd, .int .i64 ya, .int .i64 yb, .int .i64 yi] 24) := by
    have := heap_alloc_new (w.alloc (.cells #[.string (mkB xo), .int .i64 xd, .int .i64 xa, .int .i64 xb, .int .i64 xi] 24)) (.cells #[.string (mkB yo), .int .i64 yd, .int .i64 ya, .int .i64 yb, .int .i64 yi] 24)
    rw [hw2]
    rwa [show (w.alloc (.cells #[.string (mkB xo), .int .i64 xd, .int .i64 xa, .int .i64 xb, .int .i64 xi] 24)).heap.size = w.heap.size + 1 by simp] at this
  have HW2 := Lib.hid hw2
  have HB2 := Lib.hid hb2
  have x0 := cell_of_row w2 _ 0 _ _ _ hxx
  have y0 := cell_of_row w2 _ 0 _ _ _ hyy
  clear hw2 hb2 hxx hyy
  rcases hl with l1 | ⟨l1, l2⟩
  all_goals
    go_enter Tryd.func3, Tryd.ntmps3
    go_upto_region 1 with fail
    rw [← HW2.out]
    go_wp2_with (go_at_call 5; (with_reducible refine (HC.out _ HB2.out).mono ?_); rintro x w3 ⟨rfl, hb3⟩; have x3 := Keeps.of_below hb3 _ _ x0; have y3 := Keeps.of_below hb3 _ _ y0)
    go_ret
    exact ⟨rfl, grow_trans HB2.out hb3⟩
end Go.Proofs.YtgmkdoiehobfeaaDoor
