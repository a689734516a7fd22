import Derived.Test.YtdilakpipbkokaaDoorShelf
import Derived.Test.YtdilakpipbkokaaDoorBn8
set_option linter.unusedVariables false
set_option linter.unusedSimpArgs false
namespace Go.Proofs.YtdilakpipbkokaaDoor
open Go.RowKit

/-! one number put behind a row of one's own; slices.Clone -/
theorem push_parts : ∃ i0 : TypeInfo, Tryd.prog.info? 3 = some i0 ∧ i0.zero = some (.int .i64 0) ∧ i0.size = 1 ∧ i0.bytes = 8 := info_parts intInfo
theorem wpList_push_int {W : World} {ops : Array Oper} {rest : List Oper} {o : Oper} {a : Act} {Q : Exit → Act → World → Prop} (hgd : o.guard = none) (s x : Operand)
    (ho : o.op = .call { callee := .builtin .append, args := #[s, x], argTypes := #[25, 25] }) (base : Nat) (v : Value) (l : List Int) (hs : a.eval s = v) (hown : W.ownsRow base 3 1 v l.length (intVs l)) (z : Int)
    (hx : a.eval x = .slice (some ⟨W.heap.size, 0, none⟩) 1 1) (hl : l.length < 100000) (hb : base ≤ W.heap.size)
    (h : ∀ A' c' w', w'.ownsRow base 3 1 (.slice A' (l.length + 1) c') (l ++ [z]).length (intVs (l ++ [z])) → (∀ b0 w0, b0 ≤ base → Below b0 w0 W → Below b0 w0 w') → wpList Tryd.prog ops Q rest (a.put o.dst (.slice A' (l.length + 1) c')) w') :
    wpList Tryd.prog ops Q (o :: rest) a (W.alloc (.cells #[.int .i64 z] 3)) := by
  obtain ⟨i0, hi, hz0, hz1, hz2⟩ := push_parts
  refine wpList_append_lies _ hgd s x 25 ho base 3 i0 _ 1 8 Tryd.underlying25 hi hz0 hz1 hz2 rfl (by decide) v l.length (intVs l) hs (World.ownsRow.alloc hown _) ⟨W.heap.size, 0, none⟩ 1 1 [.int .i64 z] hx rfl (World.news_of_block (heap_alloc_new W _)) (fun u hu => by simp at hu; subst hu; rfl) (by decide) (by unfold maxLen; omega) (by omega) (by simp; omega) _ rfl ?_
  intro g cap w9 h2 hgrow _ _
  refine h _ cap w9 ?_ fun b0 w0 hb0 hB => Below.grown (hB.alloc (Nat.le_trans hb0 hb) _) hgrow (by simp; omega) fun j hj => ?_
  · have e : intVs (l ++ [z]) = intVs l ++ [.int .i64 z] := intVs_snoc _ _
    rw [e, List.length_append, List.length_singleton]
    exact h2
  · exact Nat.le_trans hb0 (own_lt hown hj).1
/-- slices.Clone of numbers. -/
theorem cloneI_any (ys : List Int) (hl : ys.length ≤ 100000) (A : Option Addr) (c : Nat) (w : World) (hr : Row w A (intVs ys)) :
    Calls Tryd.prog 61 #[.slice A ys.length c] w (fun e w' => ∃ A' c', e = .returned (.slice A' ys.length c') ∧ w'.ownsRow w.heap.size 3 1 (.slice A' ys.length c') ys.length (intVs ys) ∧ Below w.heap.size w w') := by
  cases A with
  | none =>
    have h0 : ys = [] := by
      cases ys with
      | nil => rfl
      | cons y ys => obtain ⟨b, off, e, -⟩ := hr 0 _ rfl; cases e
    subst h0
    refine (Tryd.slices_Clone_int_nil 0 c w).mono ?_
    rintro e w' ⟨rfl, rfl⟩
    exact ⟨none, 0, rfl, World.ownsRow_nil _ _ _ _, Below.refl _ _⟩
  | some a =>
    cases ys with
    | nil =>
      refine (Tryd.slices_Clone_int_zero a c w).mono ?_
      rintro e w' ⟨v', rfl, h1, -, h2⟩
      obtain ⟨A', c', rfl⟩ := own_slice h1
      exact ⟨A', c', rfl, h1, h2⟩
    | cons y ys =>
      obtain ⟨b, off, e, -⟩ := hr 0 _ rfl
      injection e with e
      subst e
      refine (Tryd.slices_Clone_int b off (y :: ys).length c (y :: ys) w (Nat.le_refl _) (by omega) (fun j hj => ?_)).mono ?_
      · obtain ⟨b', off', e, hc⟩ := hr j _ (intVs_get hj)
        injection e with e
        injection e with e1 e2 _
        subst e1; subst e2
        rw [hc, List.getD_eq_getElem?_getD, List.getElem?_eq_getElem hj]
        rfl
      · rintro e w' ⟨v', rfl, h1, -, h2⟩
        rw [List.take_length] at h1
        obtain ⟨A', c', rfl⟩ := own_slice h1
        exact ⟨A', c', rfl, h1, h2⟩
end Go.Proofs.YtdilakpipbkokaaDoor
