import Derived.Test.YtpfgimohginbdaaDoorBn15
import Derived.Test.YtpfgimohginbdaaDoorBn16
set_option linter.unusedVariables false
set_option linter.unusedSimpArgs false
namespace Go.Proofs.YtpfgimohginbdaaDoor
open Go.RowKit

theorem joinC_mem_len : ∀ (xs : List (List UInt8)) (x : List UInt8), x ∈ xs → x.length ≤ (joinC xs).length := by
  intro xs
  induction xs with
  | nil => intro x h; cases h
  | cons y ys ih =>
    intro x h
    cases ys with
    | nil => simp only [List.mem_singleton] at h; subst h; exact Nat.le_refl _
    | cons z zs =>
      simp only [joinC, List.length_append]
      rcases List.mem_cons.1 h with rfl | h
      · omega
      · have := ih x h; omega
theorem joinC_count : ∀ (xs : List (List UInt8)), xs.length ≤ (joinC xs).length + 1 := by
  intro xs
  induction xs with
  | nil => simp
  | cons x xs ih =>
    cases xs with
    | nil => simp
    | cons y ys =>
      simp only [joinC, List.length_append, List.length_cons] at ih ⊢
      omega
theorem wrapT_len (k : PExpr) (n : Int) (t : List UInt8) : t.length ≤ (wrapT k n t).length := by
  unfold wrapT; split
  · simp only [List.length_append]; omega
  · exact Nat.le_refl _
/-- A text that kids' texts are part of. -/
theorem kid_len {e k : PExpr} (h : (textE e).length ≤ 1000000) (hk : k ∈ e.kids) (hs : e.kind = xCall ∨ e.kind = xOne ∧ e.kids.length = 1 ∨ e.kind = xTwo ∧ e.kids.length = 2) : (textE k).length ≤ 1000000 := by
  rcases hs with hc | ⟨hc, hl⟩ | ⟨hc, hl⟩
  · rw [textE_call hc] at h
    have := joinC_mem_len (e.kids.map textE) (textE k) (List.mem_map_of_mem hk)
    simp only [List.length_append] at h
    omega
  · match hh : e.kids, hl with
    | [a], _ =>
      rw [hh] at hk
      simp only [List.mem_singleton] at hk
      subst hk
      rw [textE_one hc hh] at h
      have := wrapT_len k 8 (textE k)
      simp only [List.length_append] at h
      omega
  · match hh : e.kids, hl with
    | [a, b], _ =>
      rw [hh] at hk
      rw [textE_two hc hh] at h
      have h1 := wrapT_len a (levelP e.name) (textE a)
      have h2 := wrapT_len b (levelP e.name + 1) (textE b)
      simp only [List.length_append] at h
      simp only [List.mem_cons, List.not_mem_nil, or_false] at hk
      rcases hk with rfl | rfl <;> omega
end Go.Proofs.YtpfgimohginbdaaDoor

namespace Go.Proofs.YtpfgimohginbdaaDoor
open Go.RowKit

theorem one_seen {wr w' : World} (hb : Below wr.heap.size wr w') {q : Nat} {v0 v1 v2 v3 : Value} {T : TypeId} {fz : Nat × Nat} (hrow : wr.heap[q]? = some (.cells #[v0, v1, v2, v3] T fz)) {b o : Nat} {k : PExpr} {B : Option Addr} {c : Nat} (h1 : CellsAt wr b o (exprL k B c)) :
    Below wr.heap.size wr w' ∧ w'.cell? ⟨q, 0, none⟩ = some v0 ∧ w'.cell? ⟨q, 1, none⟩ = some v1 ∧ w'.cell? ⟨q, 2, none⟩ = some v2 ∧ w'.cell? ⟨q, 3, none⟩ = some v3 ∧
      w'.cell? ⟨b, o, none⟩ = some (.string (mkB k.kind)) ∧ w'.cell? ⟨b, o + 1, none⟩ = some (.int .i64 k.num) ∧ w'.cell? ⟨b, o + 2, none⟩ = some (.string (mkB k.name)) ∧ w'.cell? ⟨b, o + 3, none⟩ = some (.slice B k.kids.length c) :=
  have hk := Keeps.of_below hb
  ⟨hb, hk _ _ (cell_of_row _ _ 0 _ _ _ hrow), hk _ _ (cell_of_row _ _ 1 _ _ _ hrow), hk _ _ (cell_of_row _ _ 2 _ _ _ hrow), hk _ _ (cell_of_row _ _ 3 _ _ _ hrow), cells_expr (h1.keep fun a v _ hv => hk a v hv)⟩
theorem two_seen {wr w' : World} (hb : Below wr.heap.size wr w') {q : Nat} {v0 v1 v2 v3 : Value} {T : TypeId} {fz : Nat × Nat} (hrow : wr.heap[q]? = some (.cells #[v0, v1, v2, v3] T fz)) {b o : Nat} {k : PExpr} {B : Option Addr} {c : Nat} (h1 : CellsAt wr b o (exprL k B c)) {k2 : PExpr} {B2 : Option Addr} {c2 : Nat} (h2 : CellsAt wr b (o + 4) (exprL k2 B2 c2)) :
    Below wr.heap.size wr w' ∧ w'.cell? ⟨q, 0, none⟩ = some v0 ∧ w'.cell? ⟨q, 1, none⟩ = some v1 ∧ w'.cell? ⟨q, 2, none⟩ = some v2 ∧ w'.cell? ⟨q, 3, none⟩ = some v3 ∧
      w'.cell? ⟨b, o, none⟩ = some (.string (mkB k.kind)) ∧ w'.cell? ⟨b, o + 1, none⟩ = some (.int .i64 k.num) ∧ w'.cell? ⟨b, o + 2, none⟩ = some (.string (mkB k.name)) ∧ w'.cell? ⟨b, o + 3, none⟩ = some (.slice B k.kids.length c) ∧
      w'.cell? ⟨b, o + 4, none⟩ = some (.string (mkB k2.kind)) ∧ w'.cell? ⟨b, o + 4 + 1, none⟩ = some (.int .i64 k2.num) ∧ w'.cell? ⟨b, o + 4 + 2, none⟩ = some (.string (mkB k2.name)) ∧ w'.cell? ⟨b, o + 4 + 3, none⟩ = some (.slice B2 k2.kids.length c2) :=
  have hk := Keeps.of_below hb
  have h := one_seen hb hrow h1
  ⟨h.1, h.2.1, h.2.2.1, h.2.2.2.1, h.2.2.2.2.1, h.2.2.2.2.2.1, h.2.2.2.2.2.2.1, h.2.2.2.2.2.2.2.1, h.2.2.2.2.2.2.2.2, cells_expr (h2.keep fun a v _ hv => hk a v hv)⟩
end Go.Proofs.YtpfgimohginbdaaDoor
