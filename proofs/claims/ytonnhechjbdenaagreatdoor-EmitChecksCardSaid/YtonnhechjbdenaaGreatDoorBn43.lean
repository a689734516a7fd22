import Derived.Test.YtonnhechjbdenaaGreatDoorBn25
import Derived.Test.YtonnhechjbdenaaGreatDoorBn23
import Derived.Test.YtonnhechjbdenaaGreatDoorBn27
import Derived.Test.YtonnhechjbdenaaGreatDoorBn42
import Derived.Test.YtonnhechjbdenaaGreatDoorBn18
set_option linter.unusedVariables false
set_option linter.unusedSimpArgs false
namespace Go.Proofs.YtonnhechjbdenaaGreatDoor
open Go.RowKit

/-! emitted: a function that answers -/
theorem owns_rowE {w : World} {base size : Nat} {e : TypeId} {v : Value} {n : Nat} {xs : List Value} (h : w.ownsRow base e size v n xs) : ∃ A c, v = .slice A n c ∧ n ≤ c ∧ Row w A xs := by
  rcases h.2 with ⟨q, h0⟩ | ⟨g, cap, cur, q1, q2, q3, q4, q5, q6, q7⟩
  · have hx : xs = [] := List.eq_nil_of_length_eq_zero (by rw [h.1, h0]; simp)
    subst hx; subst h0
    exact ⟨none, 0, q, Nat.le_refl _, Row.nil _ _⟩
  · refine ⟨_, cap, q1, q4, fun j z hj => ⟨g, 0, rfl, ?_⟩⟩
    rw [← q7, List.getElem?_take] at hj
    split at hj
    · rw [Nat.zero_add, cell_of_row _ _ j _ _ _ q3, ← Array.getElem?_toList]; exact hj
    · cases hj
def cdF : PCd := ⟨[102], 0, 0, [⟨[⟨kConst, 0, 0, 0, 7, []⟩], eReturn, 0, []⟩]⟩
def imF : PImg := ⟨[⟨[102], 0, 0, 0⟩], [72057594037927943, 936748722493063168]⟩
def ocF : Oc4 := ([100, 111, 110, 101], 7, [], 1)
theorem cdF_c : emitC [cdF] = (0, -1) := by decide
theorem cdF_j : emitJ [cdF] = imF := by rfl
theorem imF_c : imgC imF = (0, -1) := by decide
theorem imF_run {o : Oc4} (h : match machP imF 0 [] 5 100 with | some s => o = endO s | none => o.1 = longT) : o = ocF := h
theorem imF_64 : ∀ n ∈ imF.words, 0 ≤ n ∧ n < 18446744073709551616 := by
  intro n hn; simp [imF] at hn; omega
set_option maxHeartbeats 4000000 in
set_option maxRecDepth 100000 in
theorem emitted_any (E : Nat → Addr) (w : World) (hE : Laid E w) (hCL : CodeLaid (E 1) (E 2) (E 3) w) : Calls Tryz.prog 5 #[] w (Ret (.bool true) w) := by
  obtain ⟨q, hq⟩ : ∃ q, w.heap.size = q := ⟨_, rfl⟩
  obtain ⟨wC, hwC⟩ : ∃ wC, (((w.alloc (.cells #[.string ⟨#[99, 111, 110, 115, 116]⟩, .int .i64 0, .int .i64 0, .int .i64 0, .int .i64 7, .string ⟨#[]⟩] 71)).alloc (.cells #[.slice (some ⟨q, 0, none⟩) 1 1, .string ⟨#[114, 101, 116, 117, 114, 110]⟩, .int .i64 0, .slice none 0 0] 74)).alloc (.cells #[.string ⟨#[102]⟩, .int .i64 0, .int .i64 0, .slice (some ⟨q + 1, 0, none⟩) 1 1] 32)) = wC := ⟨_, rfl⟩
  have hbC : Below w.heap.size w wC := by rw [← hwC]; exact grow_alloc (grow_alloc (grow_alloc (grow_refl _) _) _) _
  have h0 : wC.heap[q]? = some (.cells #[.string ⟨#[99, 111, 110, 115, 116]⟩, .int .i64 0, .int .i64 0, .int .i64 0, .int .i64 7, .string ⟨#[]⟩] 71 (0, 0)) := by rw [← hwC, ← hq]; exact (old_block _ _ (by simp; omega)).trans ((old_block _ _ (by simp)).trans (heap_alloc_new w _))
  have h1 : wC.heap[q + 1]? = some (.cells #[.slice (some ⟨q, 0, none⟩) 1 1, .string ⟨#[114, 101, 116, 117, 114, 110]⟩, .int .i64 0, .slice none 0 0] 74 (0, 0)) := by rw [← hwC, ← hq]; exact (old_block _ _ (by simp)).trans (new_block _ _ (by simp))
  have h2 : wC.heap[q + 1 + 1]? = some (.cells #[.string ⟨#[102]⟩, .int .i64 0, .int .i64 0, .slice (some ⟨q + 1, 0, none⟩) 1 1] 32 (0, 0)) := by rw [← hwC, ← hq]; exact new_block _ _ (by simp)
  have hrd : RdC wC (some ⟨q + 1, 0, none⟩) cdF.blocks := fun k hk => by
    have hk0 : k = 0 := by have : cdF.blocks.length = 1 := rfl; omega
    subst hk0
    refine ⟨q + 1, 0, some ⟨q, 0, none⟩, 1, none, 0, rfl, cell_of_row _ _ 0 _ _ _ h1, cell_of_row _ _ 1 _ _ _ h1, cell_of_row _ _ 2 _ _ _ h1, cell_of_row _ _ 3 _ _ _ h1, ?_, Row.nil _ _⟩
    intro j u hj
    refine ⟨q, 0, rfl, ?_⟩
    rw [Nat.zero_add, cell_of_row _ _ j _ _ _ h0, ← hj]
    exact List.getElem?_toArray
  have hrl : RdL wC (some ⟨q + 1 + 1, 0, none⟩) [cdF] := fun k hk => by
    have hk0 : k = 0 := by have : [cdF].length = 1 := rfl; omega
    subst hk0
    exact ⟨q + 1 + 1, 0, some ⟨q + 1, 0, none⟩, 1, rfl, cell_of_row _ _ 0 _ _ _ h2, cell_of_row _ _ 1 _ _ _ h2, cell_of_row _ _ 2 _ _ _ h2, cell_of_row _ _ 3 _ _ _ h2, hrd⟩
  have HEM : Hid (Calls Tryz.prog 8 #[.slice (some ⟨q + 1 + 1, 0, none⟩) 1 1] wC (EmitPost E [cdF] wC)) :=
    Emit_any E [cdF] (by decide) (by intro c hc; simp at hc; subst hc; refine ⟨by decide, fun b hb => ?_⟩; simp [cdF] at hb; subst hb; constructor <;> simp [kConst, eReturn]) (by intro c hc b hb x hx; simp at hc; subst hc; simp [cdF] at hb; subst hb; simp at hx; subst hx; exact ⟨by decide, by decide⟩) (by decide) _ 1 (by decide) wC (hE.keep hbC) (hCL.below hbC) hrl
  have HIN : Hid (∀ w', Below wC.heap.size wC w' → Laid E w' ∧ Below w.heap.size w w') := fun w' hb => ⟨hE.keep (grow_trans hbC hb), grow_trans hbC hb⟩
  have HWC := Lib.hid hwC
  have HQ := Lib.hid hq
  clear hwC hbC h0 h1 h2 hrd hrl hq hE hCL
  go_enter Tryz.func5, Tryz.ntmps5
  go_upto_region 2 with (go_at_call 8; rw [HQ.out, HWC.out]; (with_reducible refine HEM.out.mono ?_); rintro y w1 ⟨vF, vC, v, rfl, -, hn, hF, hC, hb1⟩; rw [cdF_c] at hn; obtain rfl := hn.2 rfl; rw [cdF_j] at hF hC; obtain ⟨AF, cF, rfl, hcF, hrF⟩ := owns_rowE (n := 1) hF; obtain ⟨AC, cC, rfl, -, hrC⟩ := owns_rowE (n := 2) hC; have HR := Lib.hid (And.intro hcF (And.intro hrF (And.intro hrC hb1))); clear hn hF hC hcF hrF hrC hb1)
  obtain ⟨xb, hxb⟩ : ∃ xb, w1.heap.size = xb := ⟨_, rfl⟩
  obtain ⟨w2, hw2⟩ : ∃ w2, w1.alloc (.cells #[.slice AF 1 cF, .slice AC 2 cC] 37) = w2 := ⟨_, rfl⟩
  have hb12 : Below w1.heap.size w1 w2 := by rw [← hw2]; exact grow_alloc (grow_refl _) _
  have hm2 : w2.heap[xb]? = some (.cells #[.slice AF 1 cF, .slice AC 2 cC] 37 (0, 0)) := by rw [← hw2, ← hxb]; exact heap_alloc_new w1 _
  have hb2 : Below wC.heap.size wC w2 := grow_trans HR.out.2.2.2 hb12
  have HF : Hid (∀ w', Below w2.heap.size w2 w' → (w'.cell? ⟨xb, 0, none⟩ = some (.slice AF 1 cF) ∧ w'.cell? ⟨xb, 1, none⟩ = some (.slice AC 2 cC)) ∧ Row w' AF (imF.funs.flatMap fnL) ∧ Row w' AC (u64Vs imF.words) ∧ Laid E w' ∧ Below w.heap.size w w') := fun w' hb =>
    have k := Keeps.of_below (grow_trans hb12 hb)
    ⟨row2m ((hb.block _ (Array.getElem?_eq_some_iff.1 hm2).1).trans hm2), HR.out.2.1.keep k, HR.out.2.2.1.keep k, HIN.out w' (grow_trans hb2 hb)⟩
  have HCK : Hid (Calls Tryz.prog 18 #[.agg #[.slice AF 1 cF, .slice AC 2 cC]] w2 (ImgPost E imF w2)) := echeck_any E imF (by decide) (by decide) AF AC cF cC HR.out.1 imF_64 w2 (HF.out w2 (grow_refl _)).2.2.2.1.seven (HF.out w2 (grow_refl _)).2.1 (HF.out w2 (grow_refl _)).2.2.1
  have HCO : Hid (∀ w' v, Below w2.heap.size w2 w' → ErrIs E w' v 0 (-1) → Calls Tryz.prog 22 #[v, .int .i64 0] w' (Ret (.bool true) w')) := fun w' v hb hv => coded3_any E w' (HF.out w' hb).2.2.2.1 v 0 (-1) 0 hv
  have HOF : Hid (∀ w', Below w2.heap.size w2 w' → Calls Tryz.prog 11 #[.agg #[.slice AF 1 cF, .slice AC 2 cC]] w' (OsPost imF w')) := fun w' hb => OfImage_any imF (by decide) (by decide) AF AC cF cC w' (HF.out w' hb).2.1 (HF.out w' hb).2.2.1
  have HMO : Hid (∀ w' A B cf cw, Row w' A (imF.funs.flatMap fnL) → Row w' B (u64Vs imF.words) → Calls Tryz.prog 15 #[.agg #[.slice A 1 cf, .slice B 2 cw], .int .i64 0, .slice none 0 0, .int .i64 5, .int .i64 100] w' (RfPost imF 0 [] 5 100 w')) := fun w' A B cf cw hA hB => MachOf_any imF (imgC_good.1 (by rw [imF_c])) A B cf cw imF_64 0 (by decide) [] (by decide) (by simp) none 0 5 100 (by decide) (by decide) w' hA hB (Row.nil _ _)
  have HSO : Hid (∀ w' A c, Row w' A (intVs []) → Calls Tryz.prog 14 #[.agg #[.string ⟨#[100, 111, 110, 101]⟩, .int .i64 7, .slice A 0 c, .int .i64 1], .agg #[.string ⟨#[100, 111, 110, 101]⟩, .int .i64 7, .slice none 0 0, .int .i64 1]] w' (Ret (.bool true) w')) := fun w' A c hA => SameOutcome_eqM ocF A none c 0 w' hA (Row.nil _ _) (by decide)
  obtain ⟨x0, x1⟩ := (HF.out w2 (grow_refl _)).1
  rw [hxb, hw2]
  clear hxb hw2 hb12 hm2 hb2
  go_wp2_with (first
    | (go_at_call 18; (with_reducible refine HCK.out.mono ?_); rintro y w3 ⟨v3, rfl, hv, hb3, -⟩; rw [imF_c] at hv; have HV := Lib.hid hv; have HB3 := Lib.hid hb3; clear hv hb3)
    | (go_at_call 22; (with_reducible refine (HCO.out _ _ HB3.out HV.out).mono ?_); rintro y w4 ⟨rfl, hb4⟩; have HB4 := Lib.hid (grow_trans HB3.out hb4); obtain ⟨x0, x1⟩ := (HF.out w4 HB4.out).1; clear hb4)
    | (go_at_call 11; (with_reducible refine (HOF.out _ HB4.out).mono ?_); rintro y w5 ⟨vG, vD, rfl, hG, hD, hb5⟩; obtain ⟨AG, cG, rfl, -, hrG⟩ := owns_rowE (n := 1) hG; obtain ⟨AD, cD, rfl, -, hrD⟩ := owns_rowE (n := 2) hD; have HRG := Lib.hid (And.intro hrG hrD); have HB5 := Lib.hid (grow_trans HB4.out hb5); clear hG hD hrG hrD hb5)
    | (go_at_call 15; (with_reducible refine (HMO.out _ _ _ _ _ HRG.out.1 HRG.out.2).mono ?_); rintro y w6 ⟨A6, c6, o6, rfl, ho, hr6, -, hb6⟩; obtain rfl := imF_run ho; have HR6 := Lib.hid hr6; have HB6 := Lib.hid (grow_trans HB5.out hb6); clear ho hr6 hb6; rw [show ocM ocF A6 c6 = .agg #[.string ⟨#[100, 111, 110, 101]⟩, .int .i64 7, .slice A6 0 c6, .int .i64 1] from rfl])
    | (go_at_call 14; (with_reducible refine (HSO.out _ _ _ HR6.out).mono ?_); rintro y w7 ⟨rfl, hb7⟩; have HB7 := Lib.hid (grow_trans HB6.out hb7); clear hb7))
  go_ret
  exact ⟨rfl, (HF.out _ HB7.out).2.2.2.2⟩
end Go.Proofs.YtonnhechjbdenaaGreatDoor
