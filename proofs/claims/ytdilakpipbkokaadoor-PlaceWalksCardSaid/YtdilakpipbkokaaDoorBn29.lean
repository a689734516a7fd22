import Derived.Test.YtdilakpipbkokaaDoorBn26
import Derived.Test.YtdilakpipbkokaaDoorBn25
import Derived.Test.YtdilakpipbkokaaDoorBn28
import Derived.Test.YtdilakpipbkokaaDoorBn6
import Derived.Test.YtdilakpipbkokaaDoorBn5
import Derived.Test.YtdilakpipbkokaaDoorBn4
set_option linter.unusedVariables false
set_option linter.unusedSimpArgs false
namespace Go.Proofs.YtdilakpipbkokaaDoor
open Go.RowKit

/-! placed: a block that answers -/
def cd1 : PCo := ⟨[], 0, 1, [⟨[], [⟨kConst, 0, [], 7, []⟩], eReturn, 0, [], []⟩]⟩
def D1 : DTup := (hDone, 7, 0, [], [])
theorem cd1_low : coC cd1 = (0, -1) := by decide
theorem cd1_run : doneW cd1 5 [] [] 100000 = some D1 := by rfl
theorem adV_D1 (AO : Option Addr) (cO : Nat) (AC : Option Addr) (cC : Nat) : adV D1 AO cO AC cC = .agg #[.string ⟨#[100, 111, 110, 101]⟩, .int .i64 7, .int .i64 0, .slice AO 0 cO, .slice AC 0 cC] := rfl
set_option maxHeartbeats 4000000 in
set_option maxRecDepth 100000 in
theorem placed_any (E : Nat → Addr) (w : World) (hE : Laid E w) : Calls Tryd.prog 4 #[] w (Ret (.bool true) w) := by
  obtain ⟨q, hq⟩ : ∃ q, w.heap.size = q := ⟨_, rfl⟩
  obtain ⟨wC, hwC⟩ : ∃ wC, (((w.alloc (.cells #[.string ⟨#[99, 111, 110, 115, 116]⟩, .int .i64 0, .slice none 0 0, .int .i64 7, .string ⟨#[]⟩] 52)).alloc (.cells #[.slice none 0 0, .slice (some ⟨q, 0, none⟩) 1 1, .string ⟨#[114, 101, 116, 117, 114, 110]⟩, .int .i64 0, .slice none 0 0, .slice none 0 0] 56)).alloc (.cells #[.string ⟨#[]⟩, .int .i64 0, .int .i64 1, .slice (some ⟨q + 1, 0, none⟩) 1 1] 31)) = wC := ⟨_, rfl⟩
  have hbC : Below w.heap.size w wC := by rw [← hwC]; exact grow_alloc (grow_alloc (grow_alloc (grow_refl _) _) _) _
  have h0 : wC.heap[q]? = some (.cells #[.string ⟨#[99, 111, 110, 115, 116]⟩, .int .i64 0, .slice none 0 0, .int .i64 7, .string ⟨#[]⟩] 52 (0, 0)) := by rw [← hwC, ← hq]; exact (old_block _ _ (by simp; omega)).trans ((old_block _ _ (by simp)).trans (heap_alloc_new w _))
  have h1 : wC.heap[q + 1]? = some (.cells #[.slice none 0 0, .slice (some ⟨q, 0, none⟩) 1 1, .string ⟨#[114, 101, 116, 117, 114, 110]⟩, .int .i64 0, .slice none 0 0, .slice none 0 0] 56 (0, 0)) := by rw [← hwC, ← hq]; exact (old_block _ _ (by simp)).trans (new_block _ _ (by simp))
  have h2 : wC.heap[q + 1 + 1]? = some (.cells #[.string ⟨#[]⟩, .int .i64 0, .int .i64 1, .slice (some ⟨q + 1, 0, none⟩) 1 1] 31 (0, 0)) := by rw [← hwC, ← hq]; exact new_block _ _ (by simp)
  have hin : RdL 5 GoodI wC [⟨kConst, 0, [], 7, []⟩] (some ⟨q, 0, none⟩) := fun k hk => by
    have hk0 : k = 0 := by simp at hk; exact hk
    subst hk0
    refine ⟨q, 0, inL ⟨kConst, 0, [], 7, []⟩ none 0, rfl, ⟨none, 0, rfl, Row.nil _ _⟩, fun j u hj => ?_⟩
    rw [show 0 + 0 * 5 + j = j by omega, cell_of_row _ _ j _ _ _ h0, ← hj]
    exact List.getElem?_toArray
  have hrd : RdP wC cd1.blocks (some ⟨q + 1, 0, none⟩) := fun k hk => by
    have hk0 : k = 0 := by have : cd1.blocks.length = 1 := rfl; omega
    subst hk0
    refine ⟨q + 1, 0, bkL ⟨[], [⟨kConst, 0, [], 7, []⟩], eReturn, 0, [], []⟩ none 0 (some ⟨q, 0, none⟩) 1 none 0 none 0, rfl, ⟨none, 0, _, 1, none, 0, none, 0, rfl, Row.nil _ _, hin, Row.nil _ _, fun k hk => (by simp [cd1] at hk)⟩, fun j u hj => ?_⟩
    rw [show 0 + 0 * 6 + j = j by omega, cell_of_row _ _ j _ _ _ h1, ← hj]
    exact List.getElem?_toArray
  have hsm : ∀ b ∈ cd1.blocks, PSm b := by
    intro b hb; simp [cd1] at hb; subst hb; constructor <;> simp [kConst, eReturn]
  have hbn : ∀ b ∈ cd1.blocks, BkN b := by
    intro b hb; simp [cd1] at hb; subst hb
    refine ⟨by simp, fun x hx => ?_, ⟨by decide, by decide⟩, by simp, by simp⟩
    simp at hx; subst hx
    exact ⟨⟨by decide, by decide⟩, ⟨by decide, by decide⟩, by simp⟩
  have HWL : Hid (Calls Tryd.prog 14 #[.agg #[.string ⟨#[]⟩, .int .i64 0, .int .i64 1, .slice (some ⟨q + 1, 0, none⟩) 1 1], .slice none 0 0, .slice none 0 0, .int .i64 5] wC (PWlP cd1 5 [] [] wC)) :=
    PWalk_any E cd1 (some ⟨q + 1, 0, none⟩) 1 hsm hbn [] [] none 0 none 0 5 (by decide) (by decide) (by decide) (by decide) (by simp) (by simp) wC (hE.keep hbC) hrd (Row.nil _ _) (Row.nil _ _)
  have HCK : Hid (∀ w', Below wC.heap.size wC w' → Calls Tryd.prog 10 #[.agg #[.string ⟨#[]⟩, .int .i64 0, .int .i64 1, .slice (some ⟨q + 1, 0, none⟩) 1 1]] w' (PChk E cd1 w')) := fun w' hb =>
    pcheck_any E cd1 (some ⟨q + 1, 0, none⟩) 1 hsm hbn w' (hE.keep (grow_trans hbC hb)) (hrd.keep (Keeps.of_below hb))
  have HCO : Hid (∀ w' v, Below wC.heap.size wC w' → ErrIs E w' v 0 (-1) → Calls Tryd.prog 15 #[v, .int .i64 0] w' (Ret (.bool true) w')) := fun w' v hb hv => coded2_any E w' (hE.keep (grow_trans hbC hb)) v 0 (-1) 0 hv
  obtain ⟨c0, c1, c2, c3⟩ := row4B h2
  have HX : Hid (∀ w', Below wC.heap.size wC w' → (w'.cell? ⟨q + 1 + 1, 0, none⟩ = some (.string ⟨#[]⟩) ∧ w'.cell? ⟨q + 1 + 1, 1, none⟩ = some (.int .i64 0) ∧ w'.cell? ⟨q + 1 + 1, 2, none⟩ = some (.int .i64 1) ∧ w'.cell? ⟨q + 1 + 1, 3, none⟩ = some (.slice (some ⟨q + 1, 0, none⟩) 1 1)) ∧ Below w.heap.size w w') := fun w' hb => ⟨row4B ((hb.block _ (Array.getElem?_eq_some_iff.1 h2).1).trans h2), grow_trans hbC hb⟩
  have HWC := Lib.hid hwC
  have HQ := Lib.hid hq
  clear hwC hbC h0 h1 h2 hrd hq hE hin hsm hbn
  go_enter Tryd.func4, Tryd.ntmps4
  go_upto_region 2 with fail
  rw [HQ.out]
  rw [HWC.out]
  go_upto_region 3 with (go_at_call 14; (with_reducible refine HWL.out.mono ?_); rintro y w1 ⟨D, AO, cO, AC, cC, ts, rfl, hdn, hb1, -, hD⟩; obtain rfl := hD _ cd1_run; rw [adV_D1]; have HB1 := Lib.hid hb1; clear hdn hb1 hD)
  obtain ⟨w2, hw2⟩ : ∃ w2, w1.alloc (.cells #[.string ⟨#[100, 111, 110, 101]⟩, .int .i64 7, .int .i64 0, .slice AO 0 cO, .slice AC 0 cC] 48) = w2 := ⟨_, rfl⟩
  have hb2 : Below wC.heap.size wC w2 := by rw [← hw2]; exact grow_alloc HB1.out _
  have hm2 : w2.heap[w1.heap.size]? = some (.cells #[.string ⟨#[100, 111, 110, 101]⟩, .int .i64 7, .int .i64 0, .slice AO 0 cO, .slice AC 0 cC] 48 (0, 0)) := by rw [← hw2]; exact heap_alloc_new w1 _
  have hl2 : w1.heap.size < w2.heap.size := (Array.getElem?_eq_some_iff.1 hm2).1
  rw [hw2]
  obtain ⟨⟨c0, c1, c2, c3⟩, -⟩ := HX.out w2 hb2
  have HM2 : Hid (∀ w', Below w2.heap.size w2 w' → w'.cell? ⟨w1.heap.size, 0, none⟩ = some (.string ⟨#[100, 111, 110, 101]⟩) ∧ w'.cell? ⟨w1.heap.size, 1, none⟩ = some (.int .i64 7)) := fun w' hb => by
    have h := (hb.block _ hl2).trans hm2
    exact ⟨cell_of_row _ _ 0 _ _ _ h, cell_of_row _ _ 1 _ _ _ h⟩
  have HB2 := Lib.hid hb2
  clear hw2 hb2 hm2 hl2
  go_wp2_with (first
    | (go_at_call 10; (with_reducible refine (HCK.out _ HB2.out).mono ?_); rintro y w3 ⟨v, rfl, hv, hb3, -⟩; rw [cd1_low] at hv; have HV := Lib.hid hv; have HB3 := Lib.hid hb3; clear hv hb3)
    | (go_at_call 15; (with_reducible refine (HCO.out _ _ (grow_trans HB2.out HB3.out) HV.out).mono ?_); rintro y w4 ⟨rfl, hb4⟩; obtain ⟨d0, d1⟩ := HM2.out _ (grow_trans HB3.out hb4); have HB4 := Lib.hid hb4; clear hb4))
  go_ret
  exact ⟨rfl, (HX.out _ (grow_trans HB2.out (grow_trans HB3.out HB4.out))).2⟩
end Go.Proofs.YtdilakpipbkokaaDoor

namespace Go.Proofs.YtdilakpipbkokaaDoor
open Go.RowKit

/-! the document's ops: is a text one? -/
theorem isIn_ops2 (s : ByteArray) (a b : Int) : isIn s opsL = (doV s.toList a b).isSome := by
  rw [doV_ops, opsL, isIn_mkB]
theorem ROps2 (w : World) : Calls Tryd.prog 66 #[] w fun e w' => e = .returned (.slice (some ⟨w.heap.size, 0, none⟩) 14 14) ∧ w' = w.alloc opsO := by
  go_enter Tryd.func66, Tryd.ntmps66
  go_wp2_with fail
  go_ret
  exact ⟨rfl, rfl⟩
theorem isTwo2 (n : List UInt8) (w : World) : Calls Tryd.prog 42 #[.string (mkB n)] w (Ret (.bool (doV n 0 0).isSome) w) := by
  have HE : Hid (isIn (mkB n) opsL = (doV n 0 0).isSome) := show _ = _ by rw [isIn_ops2 (mkB n) 0 0, mkB_toList]
  go_enter Tryd.func42, Tryd.ntmps42
  go_wp2_with (first
    | (go_at_call 66; (with_reducible refine (ROps2 _).mono ?_); rintro y w1 ⟨rfl, rfl⟩)
    | (go_at_call 65; refine (IsIn_any _ _ opsL _ _ (opsO_row w) (by decide)).mono ?_; rintro y w2 ⟨rfl, rfl⟩))
  go_ret
  exact ⟨by rw [← HE.out]; rfl, grow_alloc (grow_refl w) _⟩
theorem isOne2 (n : List UInt8) (w : World) : Calls Tryd.prog 41 #[.string (mkB n)] w fun e w' => e = .returned (.bool (oneV n 0).isSome) ∧ w' = w := by
  have HE : Hid ((oneV n 0).isSome = ((n == [45]) || (n == [33]))) := show _ = _ by
    unfold oneV
    cases (n == [45]) <;> cases (n == [33]) <;> rfl
  have e1 : ((mkB n).toList == [45]) = (n == [45]) := by rw [mkB_toList]
  have e2 : ((mkB n).toList == [33]) = (n == [33]) := by rw [mkB_toList]
  cases h1 : (n == [45]) <;> cases h2 : (n == [33])
  all_goals
    rw [h1] at e1 HE
    rw [h2] at e2 HE
    clear h1 h2
    go_enter Tryd.func41, Tryd.ntmps41
    go_wp2_with fail
    go_ret
    exact ⟨by rw [HE.out]; rfl, rfl⟩
end Go.Proofs.YtdilakpipbkokaaDoor
