import Derived.Test.YtdilakpipbkokaaDoorPlX
import Derived.Test.YtdilakpipbkokaaDoorBn27
import Derived.Test.YtdilakpipbkokaaDoorBn29
import Derived.Test.YtdilakpipbkokaaDoorBn32
import Derived.Test.YtdilakpipbkokaaDoorBn34
import Derived.Test.YtdilakpipbkokaaDoorBn36
import Derived.Test.YtdilakpipbkokaaDoorBn37
import Derived.Deep.RegionHeld3
set_option linter.unusedVariables false
set_option linter.unusedSimpArgs false
namespace Go.Proofs.YtdilakpipbkokaaDoor
open Go.RowKit

/-! PlaceWalks -/
theorem dn_low {w w' : World} {D : DTup} {AO AC : Option Addr} {ts : List CC} (h : DnAt w D AO AC ts) (hb : Below w.heap.size w w') : DnAt w' D AO AC ts := h.keep (Keeps.of_below hb)
theorem stuck_dn (w : World) : DnAt w stuckD none none [] := ⟨Row.nil _ _, Row.nil _ _, rfl, fun t ht => (by cases ht)⟩
theorem stuck_sm : DSm stuckD := ⟨by decide, by decide, fun p hp => (by cases hp)⟩
theorem row2A {w : World} {q : Nat} {v0 v1 : Value} {T : TypeId} {fz : Nat × Nat} (hrow : w.heap[q]? = some (.cells #[v0, v1] T fz)) : w.cell? ⟨q, 0, none⟩ = some v0 ∧ w.cell? ⟨q, 1, none⟩ = some v1 := ⟨cell_of_row _ _ 0 _ _ _ hrow, cell_of_row _ _ 1 _ _ _ hrow⟩
def faultV2 (c a : Int) : Value := .agg #[.int .i64 c, .int .i64 a]
theorem faulted2_same (E : Nat → Addr) (w : World) (h : Laid E w) (v : Value) (c a : Int) (hv : ErrIs E w v c a) :
    Calls Tryd.prog 9 #[v, faultV2 c a] w (Ret (.bool true) w) := by
  have := faulted2_any E w h v c a c a hv
  simpa [faultV2] using this
theorem many_no {n m : Nat} {t : Int} (h : manyN n m t = false) : n ≤ 8 ∧ m ≤ 30 ∧ 0 ≤ t ∧ t ≤ 60 := by
  unfold manyN at h
  simp at h
  omega
/-- What is told of both. -/
theorem ends_same {c : PCo} {T : Int} {args ans : List Int} {D D2 : DTup} (hc : (coC c).1 = 0) (hp : (args.length : Int) = c.params) (h : match runW c T args ans 3000 0 (WSt0 c) with | some z => D = tupW z | none => D.1 = hLong) (hl : D.1 ≠ hLong) (h2 : ∀ z, doneW c T args ans 100000 = some z → z = D2) : D2 = D := by
  cases hr : runW c T args ans 3000 0 (WSt0 c) with
  | none => rw [hr] at h; exact absurd h hl
  | some z =>
    rw [hr] at h
    simp only at h
    rw [h]
    refine (h2 (tupW z) ?_).symm
    unfold doneW
    rw [if_pos ⟨hp, hc⟩, runW_more (by decide) hr]
    rfl
theorem ends_stuck {c : PCo} {T : Int} {args ans : List Int} {D2 : DTup} (h : ¬ ((coC c).1 = 0 ∧ (args.length : Int) = c.params)) (h2 : ∀ z, doneW c T args ans 100000 = some z → z = D2) : D2 = stuckD := by
  refine (h2 stuckD ?_).symm
  unfold doneW
  rw [if_neg (fun e => h ⟨e.2, e.1⟩)]
set_option maxHeartbeats 16000000 in
set_option maxRecDepth 100000 in
theorem PlaceWalks_walk (E : Nat → Addr) (c : PCo) (A : Option Addr) (ca : Nat) (hn : c.blocks.length ≤ maxLen) (hbn : ∀ b ∈ c.blocks, BkN b) (args : List Int) (X : Option Addr) (xc : Nat) (ha6 : ∀ n ∈ args, I64 n) (ans : List Int) (Y : Option Addr) (yc : Nat) (hn6 : ∀ n ∈ ans, I64 n) (T : Int) (W : World) (hE : Laid E W) (hr : RdP W c.blocks A) (hX : Row W X (intVs args)) (hY : Row W Y (intVs ans)) :
    Calls Tryd.prog 3 #[.agg #[.string (mkB c.name), .int .i64 c.params, .int .i64 c.values, .slice A c.blocks.length ca], .slice X args.length xc, .slice Y ans.length yc, .int .i64 T] W (Ret (.bool true) W) := by
  obtain ⟨b0, hb0⟩ : ∃ b0, W.heap.size = b0 := ⟨_, rfl⟩
  obtain ⟨wA, hwA⟩ : ∃ wA, W.alloc (.cells #[.string (mkB c.name), .int .i64 c.params, .int .i64 c.values, .slice A c.blocks.length ca] 24) = wA := ⟨_, rfl⟩
  have hbA : Below W.heap.size W wA := by rw [← hwA]; exact grow_alloc (grow_refl _) _
  have hmA : wA.heap[b0]? = some (.cells #[.string (mkB c.name), .int .i64 c.params, .int .i64 c.values, .slice A c.blocks.length ca] 24 (0, 0)) := by rw [← hwA, ← hb0]; exact heap_alloc_new W _
  have HX : Hid (∀ w', Below wA.heap.size wA w' → (w'.cell? ⟨b0, 0, none⟩ = some (.string (mkB c.name)) ∧ w'.cell? ⟨b0, 1, none⟩ = some (.int .i64 c.params) ∧ w'.cell? ⟨b0, 2, none⟩ = some (.int .i64 c.values) ∧ w'.cell? ⟨b0, 3, none⟩ = some (.slice A c.blocks.length ca)) ∧ Below W.heap.size W w') := fun w' hb => ⟨row4B ((hb.block _ (Array.getElem?_eq_some_iff.1 hmA).1).trans hmA), grow_trans hbA hb⟩
  have HIN : Hid (∀ w', Below wA.heap.size wA w' → RdP w' c.blocks A ∧ Row w' X (intVs args) ∧ Row w' Y (intVs ans) ∧ Laid E w') := fun w' hb => have k := Keeps.of_below (grow_trans hbA hb); ⟨hr.keep k, hX.keep k, hY.keep k, hE.keep (grow_trans hbA hb)⟩
  have HSH : Hid (∀ w', Below wA.heap.size wA w' → Calls Tryd.prog 4 #[] w' (Ret (.bool true) w')) := fun w' hb => placed_any E w' (hE.keep (grow_trans hbA hb))
  have HLG : Hid (∀ w', Below wA.heap.size wA w' → Calls Tryd.prog 5 #[.agg #[.string (mkB c.name), .int .i64 c.params, .int .i64 c.values, .slice A c.blocks.length ca]] w' (LgP c w')) := fun w' hb => LargeCode_any c hn A ca w' (hr.keep (Keeps.of_below (grow_trans hbA hb)))
  have HMN : Hid (∀ w', Calls Tryd.prog 6 #[.slice X args.length xc, .slice Y ans.length yc, .int .i64 T] w' (Ret (.int .i64 (bit01 (manyN args.length ans.length T))) w')) := fun w' => Many_any args.length ans.length xc yc T X Y w'
  have HWA := Lib.hid (And.intro hwA hb0)
  have HB6 := Lib.hid (And.intro hbn (And.intro ha6 hn6))
  obtain ⟨i0, i1, i2, i3⟩ := (HX.out wA (grow_refl _)).1
  clear hbA hmA hwA hb0 hE hr hX hY hbn ha6 hn6 hn
  cases hM : manyN args.length ans.length T with
  | true =>
    rw [hM] at HMN
    have HMN1 : Hid (∀ w', Calls Tryd.prog 6 #[.slice X args.length xc, .slice Y ans.length yc, .int .i64 T] w' (Ret (.int .i64 1) w')) := HMN
    clear HMN hM
    go_enter Tryd.func3, Tryd.ntmps3
    go_upto_region 1 with fail
    change Code.wp _ _ _ _ (W.alloc (.cells #[.string (mkB c.name), .int .i64 c.params, .int .i64 c.values, .slice A c.blocks.length ca] 24))
    rw [HWA.out.1, HWA.out.2]
    go_wp2_with (first
    | (go_at_call 4; (with_reducible refine (HSH.out _ (grow_refl _)).mono ?_); rintro y w1 ⟨rfl, hb1⟩; obtain ⟨i0, i1, i2, i3⟩ := (HX.out w1 hb1).1)
    | (go_at_call 5; (with_reducible refine (HLG.out _ hb1).mono ?_); rintro y w2 ⟨bl, rfl, hsm, hb2⟩; have HB2 := Lib.hid (grow_trans hb1 hb2); have HSMM := Lib.hid hsm; clear hsm; cases bl; (rw [show bit01 false = 0 from rfl]); rotate_left; (rw [show bit01 true = 1 from rfl]))
    | (go_at_call 6; (with_reducible refine (HMN1.out _).mono ?_); rintro y w3 ⟨rfl, hb3⟩; have HB3 := Lib.hid (grow_trans HB2.out hb3)))
    all_goals go_ret
    all_goals first
      | exact ⟨rfl, (HX.out _ HB3.out).2⟩
      | exact ⟨rfl, (HX.out _ HB2.out).2⟩
  | false =>
    rw [hM] at HMN
    have HMN0 : Hid (∀ w', Calls Tryd.prog 6 #[.slice X args.length xc, .slice Y ans.length yc, .int .i64 T] w' (Ret (.int .i64 0) w')) := HMN
    obtain ⟨hn8, hm30, hT, hT6⟩ := many_no hM
    have HNT0 := Lib.hid (And.intro hn8 (And.intro hm30 (And.intro hT hT6)))
    clear HMN hM hn8 hm30 hT hT6
    go_enter Tryd.func3, Tryd.ntmps3
    go_upto_region 1 with fail
    change Code.wp _ _ _ _ (W.alloc (.cells #[.string (mkB c.name), .int .i64 c.params, .int .i64 c.values, .slice A c.blocks.length ca] 24))
    rw [HWA.out.1, HWA.out.2]
    go_upto_region 4 with (first
    | (go_at_call 4; (with_reducible refine (HSH.out _ (grow_refl _)).mono ?_); rintro y w1 ⟨rfl, hb1⟩; obtain ⟨i0, i1, i2, i3⟩ := (HX.out w1 hb1).1)
    | (go_at_call 5; (with_reducible refine (HLG.out _ hb1).mono ?_); rintro y w2 ⟨bl, rfl, hsm, hb2⟩; have HB2 := Lib.hid (grow_trans hb1 hb2); have HSMM := Lib.hid hsm; clear hsm; cases bl; (rw [show bit01 false = 0 from rfl]); rotate_left; (rw [show bit01 true = 1 from rfl]))
    | (go_at_call 6; (with_reducible refine (HMN0.out _).mono ?_); rintro y w3 ⟨rfl, hb3⟩; have HB3 := Lib.hid (grow_trans HB2.out hb3)))
    all_goals first
      | (go_ret; exact ⟨rfl, (HX.out _ HB2.out).2⟩)
      | skip
    · obtain ⟨hsm, hl9⟩ := HSMM.out (by trivial)
      have hl5 : c.blocks.length ≤ 100000 := by omega
      obtain ⟨hn8, hm30, hT, hT6⟩ := HNT0.out
      obtain ⟨i0, i1, i2, i3⟩ := (HX.out w3 HB3.out).1
      clear hb1 hb2 hb3
      have HAS : Hid (∀ w', Below wA.heap.size wA w' → Calls Tryd.prog 7 #[.agg #[.string (mkB c.name), .int .i64 c.params, .int .i64 c.values, .slice A c.blocks.length ca]] w' (AsCPost c w')) := fun w' hb => AsCode_any c A ca hl5 hsm w' (HIN.out w' hb).1
      have HLF : Hid (∀ w', Below wA.heap.size wA w' → Calls Tryd.prog 8 #[.agg #[.string (mkB c.name), .int .i64 c.params, .int .i64 c.values, .slice A c.blocks.length ca]] w' (PFlt c w')) := fun w' hb => CodeFault_any c A ca hsm w' (HIN.out w' hb).1
      have HSM := Lib.hid hsm
      have HNT := Lib.hid (And.intro hl5 (And.intro hn8 (And.intro hm30 (And.intro hT hT6))))
      obtain ⟨zc, hzc⟩ : ∃ z, ((coC c).1 : Int) = z := ⟨_, rfl⟩
      obtain ⟨za, hza⟩ : ∃ z, (coC c).2 = z := ⟨_, rfl⟩
      have HZ := Lib.hid (And.intro hzc hza)
      clear hsm hl5 hT hT6 hzc hza
      go_upto_region 5 with (first
        | (go_at_call 7; (with_reducible refine (HAS.out _ HB3.out).mono ?_); rintro y w4 ⟨A4, ca4, rfl, -, hr4, hb4⟩; rw [show coV c A4 ca4 = .agg #[.string (mkB c.name), .int .i64 c.params, .int .i64 c.values, .slice A4 c.blocks.length ca4] from rfl]; have HR4 := Lib.hid hr4; have HB4 := Lib.hid (grow_trans HB3.out hb4); clear hr4 hb4))
      obtain ⟨xb, hxb⟩ : ∃ xb, w4.heap.size = xb := ⟨_, rfl⟩
      obtain ⟨w5, hw5⟩ : ∃ w5, w4.alloc (.cells #[.string (mkB c.name), .int .i64 c.params, .int .i64 c.values, .slice A4 c.blocks.length ca4] 31) = w5 := ⟨_, rfl⟩
      have hb5 : Below wA.heap.size wA w5 := by rw [← hw5]; exact grow_alloc HB4.out _
      have hx5 : w5.heap[xb]? = some (.cells #[.string (mkB c.name), .int .i64 c.params, .int .i64 c.values, .slice A4 c.blocks.length ca4] 31 (0, 0)) := by rw [← hw5, ← hxb]; exact heap_alloc_new w4 _
      have hr5 : RdP w5 c.blocks A4 := HR4.out.keep (Keeps.of_below (by rw [← hw5]; exact grow_alloc (grow_refl _) _))
      rw [hxb, hw5]
      have HX5 := Lib.hid (And.intro hx5 hr5)
      have HB5 := Lib.hid hb5
      obtain ⟨i0, i1, i2, i3⟩ := (HX.out w5 hb5).1
      clear hw5 hxb hx5 hb5 hr5
      go_upto_region 6 with (go_at_call 8; (with_reducible refine (HLF.out _ HB5.out).mono ?_); rintro y w6 ⟨rfl, hb6⟩; have HB6' := Lib.hid hb6; clear hb6; rw [HZ.out.1, HZ.out.2])
      obtain ⟨fb, hfb⟩ : ∃ fb, w6.heap.size = fb := ⟨_, rfl⟩
      obtain ⟨w7, hw7⟩ : ∃ w7, w6.alloc (.cells #[.int .i64 zc, .int .i64 za] 34) = w7 := ⟨_, rfl⟩
      have hb57 : Below w5.heap.size w5 w7 := by rw [← hw7]; exact grow_alloc HB6'.out _
      have hb7 := grow_trans HB5.out hb57
      have hx7 := (hb57.block _ (Array.getElem?_eq_some_iff.1 HX5.out.1).1).trans HX5.out.1
      have hf7 : w7.heap[fb]? = some (.cells #[.int .i64 zc, .int .i64 za] 34 (0, 0)) := by rw [← hw7, ← hfb]; exact heap_alloc_new w6 _
      rw [hfb, hw7]
      have HF7 : Hid (∀ w', Below w7.heap.size w7 w' → (w'.cell? ⟨xb, 0, none⟩ = some (.string (mkB c.name)) ∧ w'.cell? ⟨xb, 1, none⟩ = some (.int .i64 c.params) ∧ w'.cell? ⟨xb, 2, none⟩ = some (.int .i64 c.values) ∧ w'.cell? ⟨xb, 3, none⟩ = some (.slice A4 c.blocks.length ca4)) ∧ (w'.cell? ⟨fb, 0, none⟩ = some (.int .i64 zc) ∧ w'.cell? ⟨fb, 1, none⟩ = some (.int .i64 za)) ∧ RdP w' c.blocks A4 ∧ Below wA.heap.size wA w') := fun w' hb =>
        ⟨row4B ((hb.block _ (Array.getElem?_eq_some_iff.1 hx7).1).trans hx7), row2A ((hb.block _ (Array.getElem?_eq_some_iff.1 hf7).1).trans hf7), HX5.out.2.keep (Keeps.of_below (grow_trans hb57 hb)), grow_trans hb7 hb⟩
      have HCK : Hid (∀ w', Below w7.heap.size w7 w' → Calls Tryd.prog 10 #[.agg #[.string (mkB c.name), .int .i64 c.params, .int .i64 c.values, .slice A4 c.blocks.length ca4]] w' (PChk E c w')) := fun w' hb => pcheck_any E c A4 ca4 HSM.out HB6.out.1 w' (HIN.out w' (HF7.out w' hb).2.2.2).2.2.2 (HF7.out w' hb).2.2.1
      have HFA : Hid (∀ w' v, Below w7.heap.size w7 w' → ErrIs E w' v ((coC c).1 : Nat) (coC c).2 → Calls Tryd.prog 9 #[v, .agg #[.int .i64 zc, .int .i64 za]] w' (Ret (.bool true) w')) := fun w' v hb hv => by
        have := faulted2_same E w' (HIN.out w' (HF7.out w' hb).2.2.2).2.2.2 v _ _ hv
        unfold faultV2 at this
        rwa [HZ.out.1, HZ.out.2] at this
      obtain ⟨⟨x0, x1, x2, x3⟩, ⟨f0, f1⟩, -, -⟩ := HF7.out w7 (grow_refl _)
      clear hb57 hb7 hx7 hf7 hfb hw7 i0 i1 i2 i3
      go_region_held3 (fun w' => w'.cell? ⟨xb, 0, none⟩ = some (.string (mkB c.name)) ∧ w'.cell? ⟨xb, 1, none⟩ = some (.int .i64 c.params) ∧ w'.cell? ⟨xb, 2, none⟩ = some (.int .i64 c.values) ∧ w'.cell? ⟨xb, 3, none⟩ = some (.slice A4 c.blocks.length ca4) ∧ w'.cell? ⟨fb, 0, none⟩ = some (.int .i64 zc) ∧ w'.cell? ⟨fb, 1, none⟩ = some (.int .i64 za))
        (first
          | exact ⟨x0, x1, x2, x3, f0, f1⟩
          | exact HJ8.out
          | exact HJ9.out)
        (first
          | (go_at_call 10; go_loud ((with_reducible refine (HCK.out _ (drewB (grow_refl w7))).mono ?_); rintro z w8 ⟨v8, rfl, hv8, hb8, -⟩; have hb78 := grow_trans (drewB (grow_refl w7)) hb8; have HV8 := Lib.hid hv8; have HB8 := Lib.hid hb78; have HJ8 := (fun h => Lib.hid (And.intro h.1.1 (And.intro h.1.2.1 (And.intro h.1.2.2.1 (And.intro h.1.2.2.2 (And.intro h.2.1.1 h.2.1.2)))))) (HF7.out w8 hb78); clear hv8 hb8 hb78; try dsimp only))
          | (go_at_call 9; (with_reducible refine (HFA.out _ _ HB8.out HV8.out).mono ?_); rintro z w9 ⟨rfl, hb9⟩; have hb79 := grow_trans HB8.out hb9; have HB9 := Lib.hid hb79; have HJ9 := (fun h => Lib.hid (And.intro h.1.1 (And.intro h.1.2.1 (And.intro h.1.2.2.1 (And.intro h.1.2.2.2 (And.intro h.2.1.1 h.2.1.2)))))) (HF7.out w9 hb79); clear hb9 hb79; try dsimp only))
      obtain ⟨wb, hwb⟩ : ∃ wb, w9.heap.size = wb := ⟨_, rfl⟩
      obtain ⟨w10, hw10⟩ : ∃ w10, w9.alloc (.cells #[.string ⟨#[115, 116, 117, 99, 107]⟩, .int .i64 0, .slice none 0 0, .int .i64 0, .slice none 0 0] 42) = w10 := ⟨_, rfl⟩
      have hb910 : Below w9.heap.size w9 w10 := by rw [← hw10]; exact grow_alloc (grow_refl _) _
      have hb10 := grow_trans HB9.out hb910
      have hs10 : w10.heap[wb]? = some (.cells #[.string ⟨#[115, 116, 117, 99, 107]⟩, .int .i64 0, .slice none 0 0, .int .i64 0, .slice none 0 0] 42 (0, 0)) := by rw [← hw10, ← hwb]; exact heap_alloc_new w9 _
      have hwl : wb < w10.heap.size := (Array.getElem?_eq_some_iff.1 hs10).1
      obtain ⟨f0, f1⟩ := (HF7.out w10 hb10).2.1
      obtain ⟨i0, i1, i2, i3⟩ := (HX.out w10 (HF7.out w10 hb10).2.2.2).1
      have HW10 := Lib.hid (And.intro hw10 hwb)
      have HB10 := Lib.hid (And.intro hb910 hb10)
      have HS10 := Lib.hid hs10
      clear hw10 hwb hb910 hb10 x0 x1 x2 x3
      by_cases hc : (coC c).1 = 0
      · have hz0 : zc = 0 := by rw [← HZ.out.1, hc]; rfl
        rw [hz0] at f0
        by_cases hp : (args.length : Int) = c.params
        · have hpb : ((args.length : Int) == c.params) = true := by rw [hp]; simp
          have HCP := Lib.hid (And.intro hc hp)
          have HRO : Hid (∀ w', Below wA.heap.size wA w' → Calls Tryd.prog 11 #[.agg #[.string (mkB c.name), .int .i64 c.params, .int .i64 c.values, .slice A c.blocks.length ca], .slice X args.length xc, .slice Y ans.length yc, .int .i64 T, .int .i64 3000] w' (RoP c T args ans 3000 w')) := fun w' hb =>
            RunOf_any c A ca (coC_good hc).1 HSM.out HB6.out.1 args ans X xc Y yc T HNT.out.2.2.2.1 HNT.out.2.2.2.2 hp (by have := HNT.out.2.2.1; omega) HB6.out.2.1 HB6.out.2.2 3000 (by decide) w' (HIN.out w' hb).1 (HIN.out w' hb).2.1 (HIN.out w' hb).2.2.1
          clear hc hp
          go_upto_region 9 with fail
          rw [HW10.out.1, HW10.out.2]
          go_upto_region 11 with (go_at_call 11; (with_reducible refine (HRO.out _ (HF7.out _ HB10.out.2).2.2.2).mono ?_); rintro z w11 ⟨D, AO, cO, AC, cC, ts, rfl, hdn, hb11, hsmD, hup, hD⟩; rw [show doneV D AO cO AC cC = .agg #[.string (mkB D.1), .int .i64 D.2.1, .slice AO D.2.2.2.1.length cO, .int .i64 D.2.2.1, .slice AC D.2.2.2.2.length cC] from rfl]; have HDN := Lib.hid hdn; have HB11 := Lib.hid hb11; have HD := Lib.hid (And.intro hsmD (And.intro hup hD)); have hs11 := (hb11.block _ hwl).trans HS10.out; obtain ⟨z0, z1, z2, z3, z4⟩ := row5A hs11; have y0 := row_frozen hs11 0; have y1 := row_frozen hs11 1; have y2 := row_frozen hs11 2; have y3 := row_frozen hs11 3; have y4 := row_frozen hs11 4; have HS11 := Lib.hid hs11; clear hdn hb11 hsmD hup hD hs11)
          obtain ⟨w12, hw12⟩ : ∃ w12, ((((w11.setCell ⟨wb, 0, none⟩ (.string (mkB D.1))).setCell ⟨wb, 1, none⟩ (.int .i64 D.2.1)).setCell ⟨wb, 2, none⟩ (.slice AO D.2.2.2.1.length cO)).setCell ⟨wb, 3, none⟩ (.int .i64 D.2.2.1)).setCell ⟨wb, 4, none⟩ (.slice AC D.2.2.2.2.length cC) = w12 := ⟨_, rfl⟩
          have hwb12 : w12.heap[wb]? = some (.cells #[.string (mkB D.1), .int .i64 D.2.1, .slice AO D.2.2.2.1.length cO, .int .i64 D.2.2.1, .slice AC D.2.2.2.2.length cC] 42 (0, 0)) := by rw [← hw12]; exact set5A HS11.out
          have hb12 : Below w7.heap.size w7 w12 := by
            rw [← hw12]
            exact grow_trans HB9.out (below5A (grow_trans HB10.out.1 HB11.out) (by have := HW10.out.2; omega))
          have hdn12 : DnAt w12 D AO AC ts := by rw [← hw12]; exact HDN.out.up HD.out.2.1 (fun k hk => far5A k (by omega))
          rw [hw12]
          have HTL := Lib.hid (And.intro hwb12 (And.intro hb12 (And.intro hdn12 HD.out.1)))
          clear z0 z1 z2 z3 z4 y0 y1 y2 y3 y4 hw12 hb12 hdn12 f0 f1 i0 i1 i2 i3
          obtain ⟨z0, z1, z2, z3, z4⟩ := row5A hwb12
          clear hwb12
          by_cases hl : D.1 = hLong
          · have hlb : ((mkB D.1).toList == [108, 111, 110, 103]) = true := by rw [hl, mkB_toList]; decide
            clear hl
            go_wp2_with fail
            go_ret
            exact ⟨rfl, (HX.out _ (HF7.out _ HTL.out.2.1).2.2.2).2⟩
          · have hlb : ((mkB D.1).toList == [108, 111, 110, 103]) = false := by rw [mkB_toList]; exact beq_eq_false_iff_ne.2 hl
            have HL := Lib.hid hl
            clear hl
            obtain ⟨hwbZ, hbZ, hdnZ, hsmZ⟩ := HTL.out
            have HCZ : Hid (∀ w', Below w12.heap.size w12 w' → (w'.cell? ⟨xb, 0, none⟩ = some (.string (mkB c.name)) ∧ w'.cell? ⟨xb, 1, none⟩ = some (.int .i64 c.params) ∧ w'.cell? ⟨xb, 2, none⟩ = some (.int .i64 c.values) ∧ w'.cell? ⟨xb, 3, none⟩ = some (.slice A4 c.blocks.length ca4) ∧ w'.cell? ⟨wb, 0, none⟩ = some (.string (mkB D.1)) ∧ w'.cell? ⟨wb, 1, none⟩ = some (.int .i64 D.2.1) ∧ w'.cell? ⟨wb, 2, none⟩ = some (.slice AO D.2.2.2.1.length cO) ∧ w'.cell? ⟨wb, 3, none⟩ = some (.int .i64 D.2.2.1) ∧ w'.cell? ⟨wb, 4, none⟩ = some (.slice AC D.2.2.2.2.length cC))) := fun w' hb => by
              obtain ⟨k0, k1, k2, k3⟩ := (HF7.out w' (grow_trans hbZ hb)).1
              obtain ⟨l0, l1, l2, l3, l4⟩ := row5A ((hb.block _ (Array.getElem?_eq_some_iff.1 hwbZ).1).trans hwbZ)
              exact ⟨k0, k1, k2, k3, l0, l1, l2, l3, l4⟩
            have HIZ : Hid (∀ w', Below w12.heap.size w12 w' → RdP w' c.blocks A4 ∧ Row w' X (intVs args) ∧ Row w' Y (intVs ans) ∧ Laid E w' ∧ DnAt w' D AO AC ts ∧ Below W.heap.size W w') := fun w' hb =>
              have h7 := HF7.out w' (grow_trans hbZ hb)
              have hi := HIN.out w' h7.2.2.2
              ⟨h7.2.2.1, hi.2.1, hi.2.2.1, hi.2.2.2, dn_low hdnZ hb, (HX.out w' h7.2.2.2).2⟩
            have HWK : Hid (∀ w' A1 c1 A2 c2, Below w12.heap.size w12 w' → Row w' A1 (intVs args) → Row w' A2 (intVs ans) → Calls Tryd.prog 14 #[.agg #[.string (mkB c.name), .int .i64 c.params, .int .i64 c.values, .slice A4 c.blocks.length ca4], .slice A1 args.length c1, .slice A2 ans.length c2, .int .i64 T] w' (PWlP c T args ans w')) := fun w' A1 c1 A2 c2 hb h1 h2 =>
              PWalk_any E c A4 ca4 HSM.out HB6.out.1 args ans A1 c1 A2 c2 T HNT.out.2.2.2.1 HNT.out.2.2.2.2 (by have := HNT.out.2.1; omega) (by have := HNT.out.2.2.1; omega) HB6.out.2.1 HB6.out.2.2 w' (HIZ.out w' hb).2.2.2.1 (HIZ.out w' hb).1 h1 h2
            have HOF : Hid (∀ w' AO' cO' AC' cC' ts', DnAt w' D AO' AC' ts' → Calls Tryd.prog 13 #[adV D AO' cO' AC' cC'] w' (OfPost D AO' cO' ts' w')) := fun w' AO' cO' AC' cC' ts' hd => OfDone_any D AO' cO' AC' cC' ts' hsmZ w' hd
            have HSD : Hid (∀ w' AO' cO' AC' cC' ts', Below w12.heap.size w12 w' → DnAt w' D AO' AC' ts' → Calls Tryd.prog 12 #[doneV D AO' cO' AC' cC', .agg #[.string (mkB D.1), .int .i64 D.2.1, .slice AO D.2.2.2.1.length cO, .int .i64 D.2.2.1, .slice AC D.2.2.2.2.length cC]] w' (Ret (.bool true) w')) := fun w' AO' cO' AC' cC' ts' hb hd => SameDone_eq D AO' cO' AC' cC' ts' AO cO AC cC ts hsmZ w' hd (HIZ.out w' hb).2.2.2.2.1
            have HEN : Hid (∀ D2, (∀ z, doneW c T args ans 100000 = some z → z = D2) → D2 = D) := fun D2 h => ends_same HCP.out.1 HCP.out.2 HD.out.2.2 HL.out h
            have hn9 : args.length ≤ 100000 := by have := HNT.out.2.1; omega
            have hm9 : ans.length ≤ 100000 := by have := HNT.out.2.2.1; omega
            have HCZ0 := HCZ.out w12 (grow_refl _)
            obtain ⟨x0, x1, x2, x3, d0, d1, d2, d3, d4⟩ := HCZ0
            clear hwbZ hbZ hdnZ hsmZ
            go_upto_region 15 with fail
            go_region_held3 (fun w' => w'.cell? ⟨xb, 0, none⟩ = some (.string (mkB c.name)) ∧ w'.cell? ⟨xb, 1, none⟩ = some (.int .i64 c.params) ∧ w'.cell? ⟨xb, 2, none⟩ = some (.int .i64 c.values) ∧ w'.cell? ⟨xb, 3, none⟩ = some (.slice A4 c.blocks.length ca4) ∧ w'.cell? ⟨wb, 0, none⟩ = some (.string (mkB D.1)) ∧ w'.cell? ⟨wb, 1, none⟩ = some (.int .i64 D.2.1) ∧ w'.cell? ⟨wb, 2, none⟩ = some (.slice AO D.2.2.2.1.length cO) ∧ w'.cell? ⟨wb, 3, none⟩ = some (.int .i64 D.2.2.1) ∧ w'.cell? ⟨wb, 4, none⟩ = some (.slice AC D.2.2.2.2.length cC))
              (first
                | with_reducible exact HCZ.out _ (grow_refl _)
                | with_reducible exact HCZ.out _ (drewB (grow_refl _))
                | with_reducible exact HCZ.out _ (by with_reducible assumption))
              (first
                | (refine step_append_intsO rfl _ _ rfl args rfl X xc rfl (by first | with_reducible exact (HIZ.out _ (drewB (grow_refl _))).2.1 | with_reducible exact (HIZ.out _ hbz14).2.1) hn9 ?_; intro A13 c13 w13 ho13 hr13 hb13; have hbz13 : Below w12.heap.size w12 w13 := grow_trans (by first | with_reducible exact drewB (grow_refl _) | with_reducible exact hbz14) hb13; have HR13 := Lib.hid hr13; have HB13 := Lib.hid hb13; clear ho13 hr13 hb13)
                | (refine step_append_intsO rfl _ _ rfl ans rfl Y yc rfl (by first | with_reducible exact (HIZ.out _ (drewB (grow_refl _))).2.2.1 | with_reducible exact (HIZ.out _ hbz13).2.2.1) hm9 ?_; intro A14 c14 w14 ho14 hr14 hb14; have hbz14 : Below w12.heap.size w12 w14 := grow_trans (by first | with_reducible exact drewB (grow_refl _) | with_reducible exact hbz13) hb14; have HR14 := Lib.hid hr14; have HB14 := Lib.hid hb14; clear ho14 hr14 hb14)
                | (go_at_call 14; first
                    | ((with_reducible refine (HWK.out _ _ _ _ _ hbz13 HR13.out (HR14.out.keep (Keeps.of_below HB13.out))).mono ?_); rintro z w15 ⟨D2, AO2, cO2, AC2, cC2, ts2, rfl, hdn2, hb15, -, hD2⟩; have e := (HEN.out D2 hD2).symm; subst e; have hbz15 := grow_trans hbz13 hb15; have HDN2 := Lib.hid hdn2; clear hdn2 hb15 hD2; try dsimp only)
                    | ((with_reducible refine (HWK.out _ _ _ _ _ hbz14 (HR13.out.keep (Keeps.of_below HB14.out)) HR14.out).mono ?_); rintro z w15 ⟨D2, AO2, cO2, AC2, cC2, ts2, rfl, hdn2, hb15, -, hD2⟩; have e := (HEN.out D2 hD2).symm; subst e; have hbz15 := grow_trans hbz14 hb15; have HDN2 := Lib.hid hdn2; clear hdn2 hb15 hD2; try dsimp only))
                | (go_at_call 13; (with_reducible refine (HOF.out _ _ _ _ _ _ HDN2.out).mono ?_); rintro z w16 ⟨AC3, cC3, rfl, hdn3, hb16⟩; have hbz16 := grow_trans hbz15 hb16; have HDN3 := Lib.hid hdn3; clear hdn3 hb16; try dsimp only)
                | (go_at_call 12; (with_reducible refine (HSD.out _ _ _ _ _ _ hbz16 HDN3.out).mono ?_); rintro z w17 ⟨rfl, hb17⟩; have hbz17 := grow_trans hbz16 hb17; clear hb17; try dsimp only))
            all_goals go_wp2_with fail
            all_goals go_ret
            all_goals exact ⟨rfl, (HIZ.out _ hbz17).2.2.2.2.2⟩
        · have HNG : Hid (¬ ((coC c).1 = 0 ∧ (args.length : Int) = c.params)) := fun e => hp e.2
          have hpb : ((args.length : Int) == c.params) = false := beq_eq_false_iff_ne.2 hp
          clear hp hc
          go_upto_region 9 with fail
          rw [HW10.out.1, HW10.out.2]
          have HTL : Hid (w10.heap[wb]? = some (.cells #[.string (mkB stuckD.1), .int .i64 stuckD.2.1, .slice none stuckD.2.2.2.1.length 0, .int .i64 stuckD.2.2.1, .slice none stuckD.2.2.2.2.length 0] 42 (0, 0)) ∧ Below w7.heap.size w7 w10 ∧ DnAt w10 stuckD none none [] ∧ DSm stuckD) := ⟨HS10.out, HB10.out.2, stuck_dn w10, stuck_sm⟩
          obtain ⟨z0, z1, z2, z3, z4⟩ := row5A HTL.out.1
          have hlb : ((mkB stuckD.1).toList == [108, 111, 110, 103]) = false := by rw [mkB_toList]; decide
          obtain ⟨hwbZ, hbZ, hdnZ, hsmZ⟩ := HTL.out
          have HCZ : Hid (∀ w', Below w10.heap.size w10 w' → (w'.cell? ⟨xb, 0, none⟩ = some (.string (mkB c.name)) ∧ w'.cell? ⟨xb, 1, none⟩ = some (.int .i64 c.params) ∧ w'.cell? ⟨xb, 2, none⟩ = some (.int .i64 c.values) ∧ w'.cell? ⟨xb, 3, none⟩ = some (.slice A4 c.blocks.length ca4) ∧ w'.cell? ⟨wb, 0, none⟩ = some (.string (mkB stuckD.1)) ∧ w'.cell? ⟨wb, 1, none⟩ = some (.int .i64 stuckD.2.1) ∧ w'.cell? ⟨wb, 2, none⟩ = some (.slice none stuckD.2.2.2.1.length 0) ∧ w'.cell? ⟨wb, 3, none⟩ = some (.int .i64 stuckD.2.2.1) ∧ w'.cell? ⟨wb, 4, none⟩ = some (.slice none stuckD.2.2.2.2.length 0))) := fun w' hb => by
            obtain ⟨k0, k1, k2, k3⟩ := (HF7.out w' (grow_trans hbZ hb)).1
            obtain ⟨l0, l1, l2, l3, l4⟩ := row5A ((hb.block _ (Array.getElem?_eq_some_iff.1 hwbZ).1).trans hwbZ)
            exact ⟨k0, k1, k2, k3, l0, l1, l2, l3, l4⟩
          have HIZ : Hid (∀ w', Below w10.heap.size w10 w' → RdP w' c.blocks A4 ∧ Row w' X (intVs args) ∧ Row w' Y (intVs ans) ∧ Laid E w' ∧ DnAt w' stuckD none none [] ∧ Below W.heap.size W w') := fun w' hb =>
            have h7 := HF7.out w' (grow_trans hbZ hb)
            have hi := HIN.out w' h7.2.2.2
            ⟨h7.2.2.1, hi.2.1, hi.2.2.1, hi.2.2.2, dn_low hdnZ hb, (HX.out w' h7.2.2.2).2⟩
          have HWK : Hid (∀ w' A1 c1 A2 c2, Below w10.heap.size w10 w' → Row w' A1 (intVs args) → Row w' A2 (intVs ans) → Calls Tryd.prog 14 #[.agg #[.string (mkB c.name), .int .i64 c.params, .int .i64 c.values, .slice A4 c.blocks.length ca4], .slice A1 args.length c1, .slice A2 ans.length c2, .int .i64 T] w' (PWlP c T args ans w')) := fun w' A1 c1 A2 c2 hb h1 h2 =>
            PWalk_any E c A4 ca4 HSM.out HB6.out.1 args ans A1 c1 A2 c2 T HNT.out.2.2.2.1 HNT.out.2.2.2.2 (by have := HNT.out.2.1; omega) (by have := HNT.out.2.2.1; omega) HB6.out.2.1 HB6.out.2.2 w' (HIZ.out w' hb).2.2.2.1 (HIZ.out w' hb).1 h1 h2
          have HOF : Hid (∀ w' AO' cO' AC' cC' ts', DnAt w' stuckD AO' AC' ts' → Calls Tryd.prog 13 #[adV stuckD AO' cO' AC' cC'] w' (OfPost stuckD AO' cO' ts' w')) := fun w' AO' cO' AC' cC' ts' hd => OfDone_any stuckD AO' cO' AC' cC' ts' hsmZ w' hd
          have HSD : Hid (∀ w' AO' cO' AC' cC' ts', Below w10.heap.size w10 w' → DnAt w' stuckD AO' AC' ts' → Calls Tryd.prog 12 #[doneV stuckD AO' cO' AC' cC', .agg #[.string (mkB stuckD.1), .int .i64 stuckD.2.1, .slice none stuckD.2.2.2.1.length 0, .int .i64 stuckD.2.2.1, .slice none stuckD.2.2.2.2.length 0]] w' (Ret (.bool true) w')) := fun w' AO' cO' AC' cC' ts' hb hd => SameDone_eq stuckD AO' cO' AC' cC' ts' none 0 none 0 [] hsmZ w' hd (HIZ.out w' hb).2.2.2.2.1
          have HEN : Hid (∀ D2, (∀ z, doneW c T args ans 100000 = some z → z = D2) → D2 = stuckD) := fun D2 h => ends_stuck HNG.out h
          have hn9 : args.length ≤ 100000 := by have := HNT.out.2.1; omega
          have hm9 : ans.length ≤ 100000 := by have := HNT.out.2.2.1; omega
          have HCZ0 := HCZ.out w10 (grow_refl _)
          obtain ⟨x0, x1, x2, x3, d0, d1, d2, d3, d4⟩ := HCZ0
          clear hwbZ hbZ hdnZ hsmZ
          go_upto_region 15 with fail
          go_region_held3 (fun w' => w'.cell? ⟨xb, 0, none⟩ = some (.string (mkB c.name)) ∧ w'.cell? ⟨xb, 1, none⟩ = some (.int .i64 c.params) ∧ w'.cell? ⟨xb, 2, none⟩ = some (.int .i64 c.values) ∧ w'.cell? ⟨xb, 3, none⟩ = some (.slice A4 c.blocks.length ca4) ∧ w'.cell? ⟨wb, 0, none⟩ = some (.string (mkB stuckD.1)) ∧ w'.cell? ⟨wb, 1, none⟩ = some (.int .i64 stuckD.2.1) ∧ w'.cell? ⟨wb, 2, none⟩ = some (.slice none stuckD.2.2.2.1.length 0) ∧ w'.cell? ⟨wb, 3, none⟩ = some (.int .i64 stuckD.2.2.1) ∧ w'.cell? ⟨wb, 4, none⟩ = some (.slice none stuckD.2.2.2.2.length 0))
            (first
              | with_reducible exact HCZ.out _ (grow_refl _)
              | with_reducible exact HCZ.out _ (drewB (grow_refl _))
              | with_reducible exact HCZ.out _ (by with_reducible assumption))
            (first
              | (refine step_append_intsO rfl _ _ rfl args rfl X xc rfl (by first | with_reducible exact (HIZ.out _ (drewB (grow_refl _))).2.1 | with_reducible exact (HIZ.out _ hbz14).2.1) hn9 ?_; intro A13 c13 w13 ho13 hr13 hb13; have hbz13 : Below w10.heap.size w10 w13 := grow_trans (by first | with_reducible exact drewB (grow_refl _) | with_reducible exact hbz14) hb13; have HR13 := Lib.hid hr13; have HB13 := Lib.hid hb13; clear ho13 hr13 hb13)
              | (refine step_append_intsO rfl _ _ rfl ans rfl Y yc rfl (by first | with_reducible exact (HIZ.out _ (drewB (grow_refl _))).2.2.1 | with_reducible exact (HIZ.out _ hbz13).2.2.1) hm9 ?_; intro A14 c14 w14 ho14 hr14 hb14; have hbz14 : Below w10.heap.size w10 w14 := grow_trans (by first | with_reducible exact drewB (grow_refl _) | with_reducible exact hbz13) hb14; have HR14 := Lib.hid hr14; have HB14 := Lib.hid hb14; clear ho14 hr14 hb14)
              | (go_at_call 14; first
                  | ((with_reducible refine (HWK.out _ _ _ _ _ hbz13 HR13.out (HR14.out.keep (Keeps.of_below HB13.out))).mono ?_); rintro z w15 ⟨D2, AO2, cO2, AC2, cC2, ts2, rfl, hdn2, hb15, -, hD2⟩; have e := (HEN.out D2 hD2).symm; subst e; have hbz15 := grow_trans hbz13 hb15; have HDN2 := Lib.hid hdn2; clear hdn2 hb15 hD2; try dsimp only)
                  | ((with_reducible refine (HWK.out _ _ _ _ _ hbz14 (HR13.out.keep (Keeps.of_below HB14.out)) HR14.out).mono ?_); rintro z w15 ⟨D2, AO2, cO2, AC2, cC2, ts2, rfl, hdn2, hb15, -, hD2⟩; have e := (HEN.out D2 hD2).symm; subst e; have hbz15 := grow_trans hbz14 hb15; have HDN2 := Lib.hid hdn2; clear hdn2 hb15 hD2; try dsimp only))
              | (go_at_call 13; (with_reducible refine (HOF.out _ _ _ _ _ _ HDN2.out).mono ?_); rintro z w16 ⟨AC3, cC3, rfl, hdn3, hb16⟩; have hbz16 := grow_trans hbz15 hb16; have HDN3 := Lib.hid hdn3; clear hdn3 hb16; try dsimp only)
              | (go_at_call 12; (with_reducible refine (HSD.out _ _ _ _ _ _ hbz16 HDN3.out).mono ?_); rintro z w17 ⟨rfl, hb17⟩; have hbz17 := grow_trans hbz16 hb17; clear hb17; try dsimp only))
          all_goals go_wp2_with fail
          all_goals go_ret
          all_goals exact ⟨rfl, (HIZ.out _ hbz17).2.2.2.2.2⟩
      · have HNG : Hid (¬ ((coC c).1 = 0 ∧ (args.length : Int) = c.params)) := fun e => hc e.1
        have hzb : (zc == 0) = false := by have h1 := HZ.out.1; rw [beq_eq_false_iff_ne]; intro e; apply hc; omega
        clear hc
        go_upto_region 9 with fail
        rw [HW10.out.1, HW10.out.2]
        have HTL : Hid (w10.heap[wb]? = some (.cells #[.string (mkB stuckD.1), .int .i64 stuckD.2.1, .slice none stuckD.2.2.2.1.length 0, .int .i64 stuckD.2.2.1, .slice none stuckD.2.2.2.2.length 0] 42 (0, 0)) ∧ Below w7.heap.size w7 w10 ∧ DnAt w10 stuckD none none [] ∧ DSm stuckD) := ⟨HS10.out, HB10.out.2, stuck_dn w10, stuck_sm⟩
        obtain ⟨z0, z1, z2, z3, z4⟩ := row5A HTL.out.1
        have hlb : ((mkB stuckD.1).toList == [108, 111, 110, 103]) = false := by rw [mkB_toList]; decide
        obtain ⟨hwbZ, hbZ, hdnZ, hsmZ⟩ := HTL.out
        have HCZ : Hid (∀ w', Below w10.heap.size w10 w' → (w'.cell? ⟨xb, 0, none⟩ = some (.string (mkB c.name)) ∧ w'.cell? ⟨xb, 1, none⟩ = some (.int .i64 c.params) ∧ w'.cell? ⟨xb, 2, none⟩ = some (.int .i64 c.values) ∧ w'.cell? ⟨xb, 3, none⟩ = some (.slice A4 c.blocks.length ca4) ∧ w'.cell? ⟨wb, 0, none⟩ = some (.string (mkB stuckD.1)) ∧ w'.cell? ⟨wb, 1, none⟩ = some (.int .i64 stuckD.2.1) ∧ w'.cell? ⟨wb, 2, none⟩ = some (.slice none stuckD.2.2.2.1.length 0) ∧ w'.cell? ⟨wb, 3, none⟩ = some (.int .i64 stuckD.2.2.1) ∧ w'.cell? ⟨wb, 4, none⟩ = some (.slice none stuckD.2.2.2.2.length 0))) := fun w' hb => by
          obtain ⟨k0, k1, k2, k3⟩ := (HF7.out w' (grow_trans hbZ hb)).1
          obtain ⟨l0, l1, l2, l3, l4⟩ := row5A ((hb.block _ (Array.getElem?_eq_some_iff.1 hwbZ).1).trans hwbZ)
          exact ⟨k0, k1, k2, k3, l0, l1, l2, l3, l4⟩
        have HIZ : Hid (∀ w', Below w10.heap.size w10 w' → RdP w' c.blocks A4 ∧ Row w' X (intVs args) ∧ Row w' Y (intVs ans) ∧ Laid E w' ∧ DnAt w' stuckD none none [] ∧ Below W.heap.size W w') := fun w' hb =>
          have h7 := HF7.out w' (grow_trans hbZ hb)
          have hi := HIN.out w' h7.2.2.2
          ⟨h7.2.2.1, hi.2.1, hi.2.2.1, hi.2.2.2, dn_low hdnZ hb, (HX.out w' h7.2.2.2).2⟩
        have HWK : Hid (∀ w' A1 c1 A2 c2, Below w10.heap.size w10 w' → Row w' A1 (intVs args) → Row w' A2 (intVs ans) → Calls Tryd.prog 14 #[.agg #[.string (mkB c.name), .int .i64 c.params, .int .i64 c.values, .slice A4 c.blocks.length ca4], .slice A1 args.length c1, .slice A2 ans.length c2, .int .i64 T] w' (PWlP c T args ans w')) := fun w' A1 c1 A2 c2 hb h1 h2 =>
          PWalk_any E c A4 ca4 HSM.out HB6.out.1 args ans A1 c1 A2 c2 T HNT.out.2.2.2.1 HNT.out.2.2.2.2 (by have := HNT.out.2.1; omega) (by have := HNT.out.2.2.1; omega) HB6.out.2.1 HB6.out.2.2 w' (HIZ.out w' hb).2.2.2.1 (HIZ.out w' hb).1 h1 h2
        have HOF : Hid (∀ w' AO' cO' AC' cC' ts', DnAt w' stuckD AO' AC' ts' → Calls Tryd.prog 13 #[adV stuckD AO' cO' AC' cC'] w' (OfPost stuckD AO' cO' ts' w')) := fun w' AO' cO' AC' cC' ts' hd => OfDone_any stuckD AO' cO' AC' cC' ts' hsmZ w' hd
        have HSD : Hid (∀ w' AO' cO' AC' cC' ts', Below w10.heap.size w10 w' → DnAt w' stuckD AO' AC' ts' → Calls Tryd.prog 12 #[doneV stuckD AO' cO' AC' cC', .agg #[.string (mkB stuckD.1), .int .i64 stuckD.2.1, .slice none stuckD.2.2.2.1.length 0, .int .i64 stuckD.2.2.1, .slice none stuckD.2.2.2.2.length 0]] w' (Ret (.bool true) w')) := fun w' AO' cO' AC' cC' ts' hb hd => SameDone_eq stuckD AO' cO' AC' cC' ts' none 0 none 0 [] hsmZ w' hd (HIZ.out w' hb).2.2.2.2.1
        have HEN : Hid (∀ D2, (∀ z, doneW c T args ans 100000 = some z → z = D2) → D2 = stuckD) := fun D2 h => ends_stuck HNG.out h
        have hn9 : args.length ≤ 100000 := by have := HNT.out.2.1; omega
        have hm9 : ans.length ≤ 100000 := by have := HNT.out.2.2.1; omega
        have HCZ0 := HCZ.out w10 (grow_refl _)
        obtain ⟨x0, x1, x2, x3, d0, d1, d2, d3, d4⟩ := HCZ0
        clear hwbZ hbZ hdnZ hsmZ
        go_upto_region 15 with fail
        go_region_held3 (fun w' => w'.cell? ⟨xb, 0, none⟩ = some (.string (mkB c.name)) ∧ w'.cell? ⟨xb, 1, none⟩ = some (.int .i64 c.params) ∧ w'.cell? ⟨xb, 2, none⟩ = some (.int .i64 c.values) ∧ w'.cell? ⟨xb, 3, none⟩ = some (.slice A4 c.blocks.length ca4) ∧ w'.cell? ⟨wb, 0, none⟩ = some (.string (mkB stuckD.1)) ∧ w'.cell? ⟨wb, 1, none⟩ = some (.int .i64 stuckD.2.1) ∧ w'.cell? ⟨wb, 2, none⟩ = some (.slice none stuckD.2.2.2.1.length 0) ∧ w'.cell? ⟨wb, 3, none⟩ = some (.int .i64 stuckD.2.2.1) ∧ w'.cell? ⟨wb, 4, none⟩ = some (.slice none stuckD.2.2.2.2.length 0))
          (first
            | with_reducible exact HCZ.out _ (grow_refl _)
            | with_reducible exact HCZ.out _ (drewB (grow_refl _))
            | with_reducible exact HCZ.out _ (by with_reducible assumption))
          (first
            | (refine step_append_intsO rfl _ _ rfl args rfl X xc rfl (by first | with_reducible exact (HIZ.out _ (drewB (grow_refl _))).2.1 | with_reducible exact (HIZ.out _ hbz14).2.1) hn9 ?_; intro A13 c13 w13 ho13 hr13 hb13; have hbz13 : Below w10.heap.size w10 w13 := grow_trans (by first | with_reducible exact drewB (grow_refl _) | with_reducible exact hbz14) hb13; have HR13 := Lib.hid hr13; have HB13 := Lib.hid hb13; clear ho13 hr13 hb13)
            | (refine step_append_intsO rfl _ _ rfl ans rfl Y yc rfl (by first | with_reducible exact (HIZ.out _ (drewB (grow_refl _))).2.2.1 | with_reducible exact (HIZ.out _ hbz13).2.2.1) hm9 ?_; intro A14 c14 w14 ho14 hr14 hb14; have hbz14 : Below w10.heap.size w10 w14 := grow_trans (by first | with_reducible exact drewB (grow_refl _) | with_reducible exact hbz13) hb14; have HR14 := Lib.hid hr14; have HB14 := Lib.hid hb14; clear ho14 hr14 hb14)
            | (go_at_call 14; first
                | ((with_reducible refine (HWK.out _ _ _ _ _ hbz13 HR13.out (HR14.out.keep (Keeps.of_below HB13.out))).mono ?_); rintro z w15 ⟨D2, AO2, cO2, AC2, cC2, ts2, rfl, hdn2, hb15, -, hD2⟩; have e := (HEN.out D2 hD2).symm; subst e; have hbz15 := grow_trans hbz13 hb15; have HDN2 := Lib.hid hdn2; clear hdn2 hb15 hD2; try dsimp only)
                | ((with_reducible refine (HWK.out _ _ _ _ _ hbz14 (HR13.out.keep (Keeps.of_below HB14.out)) HR14.out).mono ?_); rintro z w15 ⟨D2, AO2, cO2, AC2, cC2, ts2, rfl, hdn2, hb15, -, hD2⟩; have e := (HEN.out D2 hD2).symm; subst e; have hbz15 := grow_trans hbz14 hb15; have HDN2 := Lib.hid hdn2; clear hdn2 hb15 hD2; try dsimp only))
            | (go_at_call 13; (with_reducible refine (HOF.out _ _ _ _ _ _ HDN2.out).mono ?_); rintro z w16 ⟨AC3, cC3, rfl, hdn3, hb16⟩; have hbz16 := grow_trans hbz15 hb16; have HDN3 := Lib.hid hdn3; clear hdn3 hb16; try dsimp only)
            | (go_at_call 12; (with_reducible refine (HSD.out _ _ _ _ _ _ hbz16 HDN3.out).mono ?_); rintro z w17 ⟨rfl, hb17⟩; have hbz17 := grow_trans hbz16 hb17; clear hb17; try dsimp only))
        all_goals go_wp2_with fail
        all_goals go_ret
        all_goals exact ⟨rfl, (HIZ.out _ hbz17).2.2.2.2.2⟩
end Go.Proofs.YtdilakpipbkokaaDoor
