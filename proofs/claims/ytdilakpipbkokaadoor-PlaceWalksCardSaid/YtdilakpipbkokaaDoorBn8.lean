import Derived.OwnWalk
import Derived.Deep.AppendLies
import Derived.Deep.RegionHeld3
import Derived.Deep.RegionLaw
import Derived.Laws.OwnMore
import Derived.Maps.AppendAt
import Derived.Test.YtdilakpipbkokaaDoorBn6
import Derived.Test.YtdilakpipbkokaaDoorBn7
set_option linter.unusedVariables false
set_option linter.unusedSimpArgs false
namespace Go.Proofs.YtdilakpipbkokaaDoor
open Go.RowKit

/-! appends to rows of one's own -/
theorem own_slice {w : World} {base : Nat} {e : TypeId} {size : Nat} {v : Value} {n : Nat} {xs : List Value} (h : w.ownsRow base e size v n xs) : ∃ A c, v = .slice A n c := by
  rcases h.2 with ⟨rfl, rfl⟩ | ⟨g, cap, cur, rfl, _⟩
  · exact ⟨none, 0, rfl⟩
  · exact ⟨_, _, rfl⟩
theorem owns_rowA {w : World} {base : Nat} {e : TypeId} {v : Value} {n : Nat} {xs : List Value} (h : w.ownsRow base e 1 v n xs) : ∃ A c, v = .slice A n c ∧ n ≤ c ∧ Row w A xs := by
  rcases h.2 with ⟨q, h0⟩ | ⟨g, cap, cur, q1, q2, q3, q4, q5, q6, q7⟩
  · have hx : xs = [] := List.eq_nil_of_length_eq_zero (by rw [h.1, h0])
    subst hx; subst h0
    exact ⟨none, 0, q, Nat.le_refl _, Row.nil _ _⟩
  · refine ⟨_, cap, q1, q4, fun j z hj => ⟨g, 0, rfl, ?_⟩⟩
    rw [← q7, List.getElem?_take] at hj
    split at hj
    · rw [Nat.zero_add, cell_of_row _ _ j _ _ _ q3, ← Array.getElem?_toList]; exact hj
    · cases hj
theorem owns_rowG {w : World} {base size : Nat} {e : TypeId} {v : Value} {n : Nat} {xs : List Value} (h : w.ownsRow base e size v n xs) : ∃ A c, v = .slice A n c ∧ n ≤ c ∧ Row w A xs := by
  rcases h.2 with ⟨q, h0⟩ | ⟨g, cap, cur, q1, q2, q3, q4, q5, q6, q7⟩
  · have hx : xs = [] := List.eq_nil_of_length_eq_zero (by rw [h.1, h0]; simp)
    subst hx; subst h0
    exact ⟨none, 0, q, Nat.le_refl _, Row.nil _ _⟩
  · refine ⟨_, cap, q1, q4, fun j z hj => ⟨g, 0, rfl, ?_⟩⟩
    rw [← q7, List.getElem?_take] at hj
    split at hj
    · rw [Nat.zero_add, cell_of_row _ _ j _ _ _ q3, ← Array.getElem?_toList]; exact hj
    · cases hj
theorem append_noneA {P : Program} (w : World) (t ty e : TypeId) (i : TypeInfo) (ht : P.underlying t = some (.slice e)) (hi : P.info? e = some i) (A : Option Addr) (n c : Nat) (hle : n ≤ c) (X : Option Addr) (d : Nat) :
    (Builtin.append_ #[t, t] ty #[.slice A n c, .slice X 0 d]).run P w = .ok (.slice A n c) w := by
  cases A <;> cases X <;> simp [Builtin.append_, run_underlying ht, sizeOf, typeInfo, hi, Builtin.lenOf, Builtin.firstCells, loadCells, loadCellsFrom, hle, storeCells]
theorem owns_mono {w : World} {base base' : Nat} {e : TypeId} {size : Nat} {v : Value} {n : Nat} {xs : List Value} (h : w.ownsRow base e size v n xs) (hb : base' ≤ base) : w.ownsRow base' e size v n xs := by
  refine ⟨h.1, ?_⟩
  rcases h.2 with q | ⟨g, cap, cur, h1, h2, h3⟩
  · exact .inl q
  · exact .inr ⟨g, cap, cur, h1, by omega, h3⟩
set_option maxRecDepth 100000 in
theorem wp_append_intsO {w : World} {o : Oper} {a : Act} {K : Act → World → Prop} {Q : Exit → Act → World → Prop} (s x : Operand)
    (ho : o.op = .call { callee := .builtin .append, args := #[s, x], argTypes := #[25, 25] }) (ys : List Int) (hs : a.eval s = .slice none 0 0)
    (X : Option Addr) (c : Nat) (hx : a.eval x = .slice X ys.length c) (hrow : Row w X (intVs ys)) (hn : ys.length ≤ 100000)
    (h : ∀ A' c' w', w'.ownsRow w.heap.size 3 1 (.slice A' ys.length c') ys.length (intVs ys) → Row w' A' (intVs ys) → Below w.heap.size w w' → K (a.put o.dst (.slice A' ys.length c')) w') :
    Oper.wp Tryd.prog o a w K Q := by
  obtain ⟨i0, hi, hz0, hz1, hz2⟩ := info_parts intInfo
  cases ys with
  | nil =>
    unfold Oper.wp execOp
    simp only [ho, resolve, invoke, builtin, Sem.run_bind, Sem.run_pure, Result.andThen_ok, List.map_toArray, List.map_cons, List.map_nil, hs, hx, List.length_nil, append_noneA w _ o.type _ i0 Tryd.underlying25 hi none 0 0 (Nat.le_refl _) X c]
    exact h none 0 w (World.ownsRow_nil _ _ _ _) (Row.nil _ _) (Below.refl _ _)
  | cons y ys =>
    obtain ⟨b, off, rfl, -⟩ := hrow 0 _ rfl
    refine wp_append_lies w s x 25 ho w.heap.size 3 i0 _ 1 8 Tryd.underlying25 hi hz0 hz1 hz2 rfl (by decide) (.slice none 0 0) 0 [] hs (World.ownsRow_nil _ _ _ _) ⟨b, off, none⟩ (y :: ys).length c (intVs (y :: ys)) hx (by simp [intVs]) (fun j u hj => ?_) (fun u hu => ?_) (by simp) (by unfold maxLen; omega) (by omega) (Nat.le_refl _) _ rfl (fun g cap w' g1 g2 _ _ => ?_)
    · obtain ⟨b2, off2, e, hc⟩ := hrow j u hj
      injection e with e
      injection e with e1 e2 _
      subst e1; subst e2
      have hadd : (⟨b, off, none⟩ : Addr).add j = ⟨b, off + j, none⟩ := by unfold Addr.add; split <;> simp_all
      rw [hadd]; exact hc
    · simp only [intVs, List.mem_map] at hu
      obtain ⟨z, _, rfl⟩ := hu
      rfl
    · simp only [List.nil_append, Nat.zero_add] at g1 ⊢
      obtain ⟨A', c', e, -, hr⟩ := owns_rowA g1
      injection e with e1 e2 e3
      subst e1; subst e3
      exact h _ _ w' g1 hr (Below.grown (Below.refl _ _) g2 (Nat.le_refl _) (fun k hk => by cases hk))
theorem step_append_intsO {w : World} {ops : Array Oper} {o : Oper} {a : Act} {K : Act → World → Prop} {Q : Exit → Act → World → Prop} {E : Prop} (hgd : o.guard = none) (s x : Operand)
    (ho : o.op = .call { callee := .builtin .append, args := #[s, x], argTypes := #[25, 25] }) (ys : List Int) (hs : a.eval s = .slice none 0 0)
    (X : Option Addr) (c : Nat) (hx : a.eval x = .slice X ys.length c) (hrow : Row w X (intVs ys)) (hn : ys.length ≤ 100000)
    (h : ∀ A' c' w', w'.ownsRow w.heap.size 3 1 (.slice A' ys.length c') ys.length (intVs ys) → Row w' A' (intVs ys) → Below w.heap.size w w' → K (a.put o.dst (.slice A' ys.length c')) w') :
    if Region.wanted o (yielded ops a.tmps) = true then Oper.wp Tryd.prog o a w K Q else E := by
  rw [if_pos (by simp [Region.wanted, hgd])]
  exact wp_append_intsO s x ho ys hs X c hx hrow hn h
end Go.Proofs.YtdilakpipbkokaaDoor

namespace Go.Proofs.YtdilakpipbkokaaDoor
open Go.RowKit

/-! make([]int, n) -/
def zrO (n : Nat) : Obj := .cells (intVs (List.replicate n 0)).toArray 3
theorem zr_made (n : Nat) : madeCells #[Value.int .i64 0] n = (intVs (List.replicate n 0)).toArray := by
  apply Array.ext
  · simp [intVs, size_madeCells]
  · intro i h1 h2
    simp [intVs, madeCells, Nat.mod_one]
theorem make_zr (n : Nat) (hn : n ≤ 100000) (w : World) : (Instr.makeSlice 25 (.int .i64 n) (.int .i64 n)).run Tryd.prog w = .ok (.slice (some ⟨w.heap.size, 0, none⟩) n n) (w.alloc (zrO n)) := by
  obtain ⟨i0, hi, hz0, hz1, hz2⟩ := info_parts intInfo
  have h := run_makeSlice (P := Tryd.prog) (w := w) 25 3 i0 (.int .i64 0) Tryd.underlying25 hi hz0 .i64 .i64 n n (by omega) (by omega) (by rw [hz1]; simp; omega) (by rw [hz2]; omega) (by omega)
  rw [h, hz1]
  simp only [Int.toNat_natCast, Nat.mul_one]
  unfold zrO
  rw [← zr_made]
  rfl
end Go.Proofs.YtdilakpipbkokaaDoor
