import Derived.Test.YteifmgcbafemeaaGreatDoorCheckVC
namespace Go.Proofs.YteifmgcbafemeaaGreatDoor
open Go.RowKit

/-! the closed fact -/
def ckE : PExpr := ⟨xName, 0, [97], []⟩
def ckS : PStmt := ⟨sReturn, [], ckE, [], []⟩
def ckF : PFun := ⟨[102], [], [ckS]⟩
theorem ckF_prog : progC [ckF] = (6, 0) := by
  have h1 : nmOk [102] = true := by decide
  have h2 : bareB ckE = true := by decide
  have h3 : exprC (tabOf [ckF]) [] ckE = 6 := by
    rw [exprC_eq, h2, if_pos rfl]
    rw [show ckE.kids = [] from rfl, kidsC_nil, if_pos rfl]
    decide
  have h4 : (stmtC (tabOf [ckF]) ckS [] []).1 = 6 := by
    rw [stmtC_eq]
    rw [show ckS.e = ckE from rfl, h3]
    decide
  have h5 : funC (tabOf [ckF]) [] ckF = 6 := by
    unfold funC
    have hn : namesC ckF [] = 0 := by decide
    rw [if_pos hn]
    show (blockC (tabOf [ckF]) [ckS] [] []).1 = 6
    rw [blockC_cons, if_neg (by rw [h4]; decide)]
    exact h4
  unfold progC
  rw [if_neg (by decide), progFrom, if_neg (by rw [h5]; decide), h5]
  rfl
theorem ckF_small : SmF ckF where
  name := by decide
  params := by decide
  texts := by decide
  body := by decide
  stmts := fun s hs => by
    have : s = ckS := by simpa [ckF] using hs
    subst this
    exact ⟨ckS, by decide, by decide, ⟨ckE, by decide, by decide, (fun k hk => by cases hk)⟩, by decide, by decide, (fun k hk => by cases hk), (fun k hk => by cases hk)⟩
def ckO1 : Obj := .cells #[.string ⟨#[114, 101, 116, 117, 114, 110]⟩, .string ⟨#[]⟩, .string ⟨#[110, 97, 109, 101]⟩, .int .i64 0, .string ⟨#[97]⟩, .slice none 0 0, .slice none 0 0, .slice none 0 0] 58
def ckO2 (h : Nat) : Obj := .cells #[.string ⟨#[102]⟩, .slice none 0 0, .slice (some ⟨h, 0, none⟩) 1 1] 39
theorem ck_laid (w : World) : RdG ((w.alloc ckO1).alloc (ckO2 w.heap.size)) (fun _ => True) [ckF] (some ⟨w.heap.size + 1, 0, none⟩) := fun i hi => by
  have hi0 : i = 0 := by simp at hi; omega
  subst hi0
  have hb1 : ((w.alloc ckO1).alloc (ckO2 w.heap.size)).heap[w.heap.size]? = some ckO1 := (old_block _ _ (by simp)).trans (new_block _ _ rfl)
  have hb2 : ((w.alloc ckO1).alloc (ckO2 w.heap.size)).heap[w.heap.size + 1]? = some (ckO2 w.heap.size) := new_block _ _ (by simp)
  refine ⟨w.heap.size + 1, 0, none, 0, some ⟨w.heap.size, 0, none⟩, 1, rfl, trivial, fun j u hj => ?_, fun k hk => by simp [ckF] at hk, ⟨fun _ => rfl, by simp [ckF]⟩, ?_⟩
  · rw [show 0 + 0 * 3 + j = j by omega, cell_of_row _ _ j _ _ _ hb2, ← Array.getElem?_toList]; exact hj
  · refine ⟨[ckS], _, w.heap.size, 0, fun _ => none, fun _ => none, fun _ => none, fun _ => 0, fun _ => 0, fun _ => 0, fun _ => ⟨rfl, trivial⟩, fun k hk j u hj => ?_, fun k hk => ?_, fun k hk => ?_, fun k hk => ?_, fun k hk => ?_⟩
    all_goals
      have hk0 : k = 0 := by simp at hk; omega
      subst hk0
    · rw [show 0 + 0 * 8 + j = j by omega, cell_of_row _ _ j _ _ _ hb1, ← Array.getElem?_toList]; exact hj
    · exact ⟨by show (-9223372036854775808 : Int) ≤ 0; decide, by show (0 : Int) ≤ 9223372036854775807; decide⟩
    · exact RdE.nil _ _ _
    · exact RdS.nil _ _ _
    · exact RdS.nil _ _ _
set_option maxHeartbeats 2000000 in
set_option maxRecDepth 100000 in
theorem checked_any (E : Nat → Addr) (w : World) (hE : Laid E w) : Calls Tryz.prog 5 #[] w (Ret (.bool true) w) := by
  have hb : Below w.heap.size w ((w.alloc ckO1).alloc (ckO2 w.heap.size)) := grow_alloc (grow_alloc (grow_refl _) _) _
  have HB := Lib.hid hb
  have H1 : Hid (∀ w', Below w.heap.size w w' → Calls Tryz.prog 9 #[.slice none 0 0] w' (ProgPost E [] w')) := fun w' hb =>
    Program_any E [] (by simp) (fun _ => True) none 0 (by simp) (by simp) w' (hE.keep hb) (fun i hi => by simp at hi)
  have H2 : Hid (∀ w', Below ((w.alloc ckO1).alloc (ckO2 w.heap.size)).heap.size ((w.alloc ckO1).alloc (ckO2 w.heap.size)) w' → Calls Tryz.prog 9 #[.slice (some ⟨w.heap.size + 1, 0, none⟩) 1 1] w' (ProgPost E [ckF] w')) := fun w' hb' =>
    Program_any E [ckF] (fun f hf => by simp at hf; subst hf; exact ckF_small) (fun _ => True) (some ⟨w.heap.size + 1, 0, none⟩) 1 (by simp) (by simp) w' (hE.keep (grow_trans hb hb')) ((ck_laid w).keep ((Keeps.of_below hb').in _) (fun _ h => h))
  have HC : Hid (∀ w' v, Below w.heap.size w w' → ErrIs E w' v 0 (-1) → Calls Tryz.prog 21 #[v, .int .i64 0] w' (Ret (.bool true) w')) := fun w' v hb' hv => by
    have := coded_any E w' (hE.keep hb') v 0 (-1) 0 hv
    exact this
  have HF : Hid (∀ w' v, Below w.heap.size w w' → ErrIs E w' v 6 0 → Calls Tryz.prog 8 #[v, .agg #[.int .i64 6, .int .i64 0]] w' (Ret (.bool true) w')) := fun w' v hb' hv => by
    have := faulted_any E w' (hE.keep hb') v 6 0 6 0 hv
    exact this
  have HP := Lib.hid ckF_prog
  clear hE hb
  unfold ckO1 ckO2 at *
  go_enter Tryz.func5, Tryz.ntmps5
  go_wp2_with (first
    | (go_at_call 9; (with_reducible refine (H1.out _ HB.out).mono ?_); rintro y w1 ⟨v1, rfl, he1, hb1, hn1⟩; have HE1 := Lib.hid he1; clear he1 hn1)
    | (go_at_call 21; (with_reducible refine (HC.out _ _ (grow_trans HB.out hb1) HE1.out).mono ?_); rintro y w2 ⟨rfl, hb2⟩)
    | (go_at_call 9; (with_reducible refine (H2.out _ (grow_trans hb1 hb2)).mono ?_); rintro y w3 ⟨v3, rfl, he3, hb3, hn3⟩; rw [HP.out] at he3; have HE3 := Lib.hid he3; clear he3 hn3)
    | (go_at_call 8; (with_reducible refine (HF.out _ _ (grow_trans (grow_trans (grow_trans HB.out hb1) hb2) hb3) HE3.out).mono ?_); rintro y w4 ⟨rfl, hb4⟩))
  go_ret
  exact ⟨rfl, grow_trans (grow_trans (grow_trans (grow_trans HB.out hb1) hb2) hb3) hb4⟩
end Go.Proofs.YteifmgcbafemeaaGreatDoor
